/- Gen3Image, part 3: what the row leans on. -/
import Derived.Test.YtnlkghcibpopgaaZGen3Image2
set_option linter.unusedVariables false
set_option linter.unusedSimpArgs false
set_option maxRecDepth 100000
namespace Go.Proofs.Ytnlkghcibpopgaa
open Go.Den
noncomputable def law15_Body.s9 (mKind : Int) (mFrom : Int) (mInc : Int) (mSpanLo : Int) (mSpanHi : Int) (mSeq : Int) (mTarget : Int) (mLife : Int) (mEpoch : Int) (mBase : Int) (mRecs : List (Int × Int × Int × (Int × Int) × Bool × List (Int × List Int))) (base : List (Int × Int × Int × (Int × Int) × Bool × List (Int × List Int))) (x7 : (List (Int × (Int × (Int × ((Int × Int) × (Bool × (List (Int × (List Int)))))))))) (x8 : (List Int)) : St := ⟨[.dead, .d (.sl (.pair (.int .i64) (.pair (.int .i64) (.pair (.int .i64) (.pair (.pair (.int .i64) (.int .i64)) (.pair .bool (.sl (.pair (.int .i64) (.sl (.int .u8)))))))))) x7, .ptr 64 0, .dead, .dead, .row 65, .dead, .dead, .dead, .dead, .dead, .dead, .dead, .dead, .dead, .dead, .dead, .dead, .dead, .dead, .dead, .dead, .dead, .dead, .dead, .dead, .dead, .dead, .dead, .dead, .dead, .dead, .dead, .dead, .dead, .dead, .dead, .dead, .dead, .dead, .dead, .dead, .dead, .dead, .dead, .dead, .dead, .dead, .dead, .dead, .dead, .dead, .dead, .dead, .dead, .dead, .dead, .dead, .dead, .dead, .dead, .dead, .dead, .dead, .dead, .dead, .dead, .dead, .dead, .dead, .dead, .dead, .dead, .dead, .dead, .dead, .dead, .dead, .dead, .dead, .dead, .dead, .dead, .dead, .dead, .dead, .dead, .dead, .dead, .dead, .dead, .dead, .dead, .dead, .dead, .dead, .dead, .dead, .dead, .dead, .dead, .dead, .dead, .dead, .dead, .dead, .dead, .dead, .dead, .dead, .dead, .dead, .dead, .dead, .dead, .dead, .dead, .dead, .dead, .dead], ofL [(64, .box [.d (.int .i64) (mKind), .d (.int .i64) (mFrom), .d (.int .i64) (mInc), .d (.int .i64) (mSpanLo), .d (.int .i64) (mSpanHi), .d (.int .i64) (mSeq), .d (.int .i64) (mTarget), .d (.int .i64) (mLife), .d (.int .i64) (mEpoch), .d (.int .i64) (mBase), .d (.sl (.pair (.int .i64) (.pair (.int .i64) (.pair (.int .i64) (.pair (.pair (.int .i64) (.int .i64)) (.pair .bool (.sl (.pair (.int .i64) (.sl (.int .u8)))))))))) (mRecs)]), (65, .row 5 (.int .u8) x8 false)], 0⟩
noncomputable def law15_Body.b9 (mKind : Int) (mFrom : Int) (mInc : Int) (mSpanLo : Int) (mSpanHi : Int) (mSeq : Int) (mTarget : Int) (mLife : Int) (mEpoch : Int) (mBase : Int) (mRecs : List (Int × Int × Int × (Int × Int) × Bool × List (Int × List Int))) (base : List (Int × Int × Int × (Int × Int) × Bool × List (Int × List Int))) (A9 : (List (Int × (Int × (Int × ((Int × Int) × (Bool × (List (Int × (List Int))))))))) → (List Int) → Option (List Int)) (E11 : (List (Int × (Int × (Int × ((Int × Int) × (Bool × (List (Int × (List Int))))))))) → (List Int) → Option (List Int)) (x7 : (List (Int × (Int × (Int × ((Int × Int) × (Bool × (List (Int × (List Int)))))))))) (x8 : (List Int)) : Option (List Int) :=
  (if (decide (mKind ≥ (7 : Int))) then (match (veil (law15_form.f BIG x8 mLife)) with | none => none | some y9 => (match (veil (law15_form.f BIG y9 mEpoch)) with | none => none | some y10 => E11 x7 y10)) else E11 x7 x8)
noncomputable def law15_Body.l9 (fuel : Nat) (mKind : Int) (mFrom : Int) (mInc : Int) (mSpanLo : Int) (mSpanHi : Int) (mSeq : Int) (mTarget : Int) (mLife : Int) (mEpoch : Int) (mBase : Int) (mRecs : List (Int × Int × Int × (Int × Int) × Bool × List (Int × List Int))) (base : List (Int × Int × Int × (Int × Int) × Bool × List (Int × List Int))) : Nat → (List (Int × (Int × (Int × ((Int × Int) × (Bool × (List (Int × (List Int))))))))) → (List Int) → Option (List Int)
  | 0, _, _ => none
  | k + 1, x7, x8 => law15_Body.b9 mKind mFrom mInc mSpanLo mSpanHi mSeq mTarget mLife mEpoch mBase mRecs base (law15_Body.l9 fuel mKind mFrom mInc mSpanLo mSpanHi mSeq mTarget mLife mEpoch mBase mRecs base k) (law15_Body.l11 fuel mKind mFrom mInc mSpanLo mSpanHi mSeq mTarget mLife mEpoch mBase mRecs base fuel) x7 x8
noncomputable def law15_Body.s7 (mKind : Int) (mFrom : Int) (mInc : Int) (mSpanLo : Int) (mSpanHi : Int) (mSeq : Int) (mTarget : Int) (mLife : Int) (mEpoch : Int) (mBase : Int) (mRecs : List (Int × Int × Int × (Int × Int) × Bool × List (Int × List Int))) (base : List (Int × Int × Int × (Int × Int) × Bool × List (Int × List Int))) (x4 : (List (Int × (Int × (Int × ((Int × Int) × (Bool × (List (Int × (List Int)))))))))) (x5 : (List Int)) : St := ⟨[.dead, .d (.sl (.pair (.int .i64) (.pair (.int .i64) (.pair (.int .i64) (.pair (.pair (.int .i64) (.int .i64)) (.pair .bool (.sl (.pair (.int .i64) (.sl (.int .u8)))))))))) x4, .ptr 64 0, .dead, .dead, .row 65, .dead, .dead, .dead, .dead, .dead, .dead, .dead, .dead, .dead, .dead, .dead, .dead, .dead, .dead, .dead, .dead, .dead, .dead, .dead, .dead, .dead, .dead, .dead, .dead, .dead, .dead, .dead, .dead, .dead, .dead, .dead, .dead, .dead, .dead, .dead, .dead, .dead, .dead, .dead, .dead, .dead, .dead, .dead, .dead, .dead, .dead, .dead, .dead, .dead, .dead, .dead, .dead, .dead, .dead, .dead, .dead, .dead, .dead, .dead, .dead, .dead, .dead, .dead, .dead, .dead, .dead, .dead, .dead, .dead, .dead, .dead, .dead, .dead, .dead, .dead, .dead, .dead, .dead, .dead, .dead, .dead, .dead, .dead, .dead, .dead, .dead, .dead, .dead, .dead, .dead, .dead, .dead, .dead, .dead, .dead, .dead, .dead, .dead, .dead, .dead, .dead, .dead, .dead, .dead, .dead, .dead, .dead, .dead, .dead, .dead, .dead, .dead, .dead, .dead], ofL [(64, .box [.d (.int .i64) (mKind), .d (.int .i64) (mFrom), .d (.int .i64) (mInc), .d (.int .i64) (mSpanLo), .d (.int .i64) (mSpanHi), .d (.int .i64) (mSeq), .d (.int .i64) (mTarget), .d (.int .i64) (mLife), .d (.int .i64) (mEpoch), .d (.int .i64) (mBase), .d (.sl (.pair (.int .i64) (.pair (.int .i64) (.pair (.int .i64) (.pair (.pair (.int .i64) (.int .i64)) (.pair .bool (.sl (.pair (.int .i64) (.sl (.int .u8)))))))))) (mRecs)]), (65, .row 5 (.int .u8) x5 false)], 0⟩
noncomputable def law15_Body.b7 (mKind : Int) (mFrom : Int) (mInc : Int) (mSpanLo : Int) (mSpanHi : Int) (mSeq : Int) (mTarget : Int) (mLife : Int) (mEpoch : Int) (mBase : Int) (mRecs : List (Int × Int × Int × (Int × Int) × Bool × List (Int × List Int))) (base : List (Int × Int × Int × (Int × Int) × Bool × List (Int × List Int))) (A7 : (List (Int × (Int × (Int × ((Int × Int) × (Bool × (List (Int × (List Int))))))))) → (List Int) → Option (List Int)) (E9 : (List (Int × (Int × (Int × ((Int × Int) × (Bool × (List (Int × (List Int))))))))) → (List Int) → Option (List Int)) (x4 : (List (Int × (Int × (Int × ((Int × Int) × (Bool × (List (Int × (List Int)))))))))) (x5 : (List Int)) : Option (List Int) :=
  (if (mKind == (3 : Int)) then (match (veil (law15_form.f BIG x5 mTarget)) with | none => none | some y6 => E9 x4 y6) else (if (mKind == (6 : Int)) then (match (veil (law15_form.f BIG x5 mTarget)) with | none => none | some y26 => E9 x4 y26) else E9 x4 x5))
noncomputable def law15_Body.l7 (fuel : Nat) (mKind : Int) (mFrom : Int) (mInc : Int) (mSpanLo : Int) (mSpanHi : Int) (mSeq : Int) (mTarget : Int) (mLife : Int) (mEpoch : Int) (mBase : Int) (mRecs : List (Int × Int × Int × (Int × Int) × Bool × List (Int × List Int))) (base : List (Int × Int × Int × (Int × Int) × Bool × List (Int × List Int))) : Nat → (List (Int × (Int × (Int × ((Int × Int) × (Bool × (List (Int × (List Int))))))))) → (List Int) → Option (List Int)
  | 0, _, _ => none
  | k + 1, x4, x5 => law15_Body.b7 mKind mFrom mInc mSpanLo mSpanHi mSeq mTarget mLife mEpoch mBase mRecs base (law15_Body.l7 fuel mKind mFrom mInc mSpanLo mSpanHi mSeq mTarget mLife mEpoch mBase mRecs base k) (law15_Body.l9 fuel mKind mFrom mInc mSpanLo mSpanHi mSeq mTarget mLife mEpoch mBase mRecs base fuel) x4 x5
noncomputable def law15_Body.s3 (mKind : Int) (mFrom : Int) (mInc : Int) (mSpanLo : Int) (mSpanHi : Int) (mSeq : Int) (mTarget : Int) (mLife : Int) (mEpoch : Int) (mBase : Int) (mRecs : List (Int × Int × Int × (Int × Int) × Bool × List (Int × List Int))) (base : List (Int × Int × Int × (Int × Int) × Bool × List (Int × List Int))) (x0 : (List (Int × (Int × (Int × ((Int × Int) × (Bool × (List (Int × (List Int)))))))))) : St := ⟨[.dead, .d (.sl (.pair (.int .i64) (.pair (.int .i64) (.pair (.int .i64) (.pair (.pair (.int .i64) (.int .i64)) (.pair .bool (.sl (.pair (.int .i64) (.sl (.int .u8)))))))))) x0, .ptr 64 0, .dead, .dead, .dead, .dead, .dead, .dead, .dead, .dead, .dead, .dead, .dead, .dead, .dead, .dead, .dead, .dead, .dead, .dead, .dead, .dead, .dead, .dead, .dead, .dead, .dead, .dead, .dead, .dead, .dead, .dead, .dead, .dead, .dead, .dead, .dead, .dead, .dead, .dead, .dead, .dead, .dead, .dead, .dead, .dead, .dead, .dead, .dead, .dead, .dead, .dead, .dead, .dead, .dead, .dead, .dead, .dead, .dead, .dead, .dead, .dead, .dead, .dead, .dead, .dead, .dead, .dead, .dead, .dead, .dead, .dead, .dead, .dead, .dead, .dead, .dead, .dead, .dead, .dead, .dead, .dead, .dead, .dead, .dead, .dead, .dead, .dead, .dead, .dead, .dead, .dead, .dead, .dead, .dead, .dead, .dead, .dead, .dead, .dead, .dead, .dead, .dead, .dead, .dead, .dead, .dead, .dead, .dead, .dead, .dead, .dead, .dead, .dead, .dead, .dead, .dead, .dead, .dead], ofL [(64, .box [.d (.int .i64) (mKind), .d (.int .i64) (mFrom), .d (.int .i64) (mInc), .d (.int .i64) (mSpanLo), .d (.int .i64) (mSpanHi), .d (.int .i64) (mSeq), .d (.int .i64) (mTarget), .d (.int .i64) (mLife), .d (.int .i64) (mEpoch), .d (.int .i64) (mBase), .d (.sl (.pair (.int .i64) (.pair (.int .i64) (.pair (.int .i64) (.pair (.pair (.int .i64) (.int .i64)) (.pair .bool (.sl (.pair (.int .i64) (.sl (.int .u8)))))))))) (mRecs)])], 0⟩
noncomputable def law15_Body.b3 (mKind : Int) (mFrom : Int) (mInc : Int) (mSpanLo : Int) (mSpanHi : Int) (mSeq : Int) (mTarget : Int) (mLife : Int) (mEpoch : Int) (mBase : Int) (mRecs : List (Int × Int × Int × (Int × Int) × Bool × List (Int × List Int))) (base : List (Int × Int × Int × (Int × Int) × Bool × List (Int × List Int))) (A3 : (List (Int × (Int × (Int × ((Int × Int) × (Bool × (List (Int × (List Int))))))))) → Option (List Int)) (E7 : (List (Int × (Int × (Int × ((Int × Int) × (Bool × (List (Int × (List Int))))))))) → (List Int) → Option (List Int)) (x0 : (List (Int × (Int × (Int × ((Int × Int) × (Bool × (List (Int × (List Int)))))))))) : Option (List Int) :=
  (match (veil (law15_form.f BIG ((Go.IntKind.wrap .u8 mKind) :: ([] : List Int)) mFrom)) with | none => none | some y1 => (match (veil (law15_form.f BIG y1 mInc)) with | none => none | some y2 => (if ((((List.length y2) + (List.length ((Go.IntKind.wrap .u8 (Go.IntKind.wrap .i64 ((Go.IntKind.wrap .i64 (mSpanLo * (16 : Int))) + mSpanHi))) :: ([] : List Int)))) * (1 : Nat)) ≤ lim) then (if (mKind == (1 : Int)) then (match (veil (law15_form.f BIG (y2 ++ ((Go.IntKind.wrap .u8 (Go.IntKind.wrap .i64 ((Go.IntKind.wrap .i64 (mSpanLo * (16 : Int))) + mSpanHi))) :: ([] : List Int))) mSeq)) with | none => none | some y3 => E7 x0 y3) else (if (mKind == (2 : Int)) then (match (veil (law15_form.f BIG (y2 ++ ((Go.IntKind.wrap .u8 (Go.IntKind.wrap .i64 ((Go.IntKind.wrap .i64 (mSpanLo * (16 : Int))) + mSpanHi))) :: ([] : List Int))) mSeq)) with | none => none | some y27 => E7 x0 y27) else (if (decide (mKind ≥ (4 : Int))) then (if (decide (mKind ≤ (6 : Int))) then (match (veil (law15_form.f BIG (y2 ++ ((Go.IntKind.wrap .u8 (Go.IntKind.wrap .i64 ((Go.IntKind.wrap .i64 (mSpanLo * (16 : Int))) + mSpanHi))) :: ([] : List Int))) mSeq)) with | none => none | some y28 => E7 x0 y28) else E7 x0 (y2 ++ ((Go.IntKind.wrap .u8 (Go.IntKind.wrap .i64 ((Go.IntKind.wrap .i64 (mSpanLo * (16 : Int))) + mSpanHi))) :: ([] : List Int)))) else E7 x0 (y2 ++ ((Go.IntKind.wrap .u8 (Go.IntKind.wrap .i64 ((Go.IntKind.wrap .i64 (mSpanLo * (16 : Int))) + mSpanHi))) :: ([] : List Int)))))) else none)))
noncomputable def law15_Body.l3 (fuel : Nat) (mKind : Int) (mFrom : Int) (mInc : Int) (mSpanLo : Int) (mSpanHi : Int) (mSeq : Int) (mTarget : Int) (mLife : Int) (mEpoch : Int) (mBase : Int) (mRecs : List (Int × Int × Int × (Int × Int) × Bool × List (Int × List Int))) (base : List (Int × Int × Int × (Int × Int) × Bool × List (Int × List Int))) : Nat → (List (Int × (Int × (Int × ((Int × Int) × (Bool × (List (Int × (List Int))))))))) → Option (List Int)
  | 0, _ => none
  | k + 1, x0 => law15_Body.b3 mKind mFrom mInc mSpanLo mSpanHi mSeq mTarget mLife mEpoch mBase mRecs base (law15_Body.l3 fuel mKind mFrom mInc mSpanLo mSpanHi mSeq mTarget mLife mEpoch mBase mRecs base k) (law15_Body.l7 fuel mKind mFrom mInc mSpanLo mSpanHi mSeq mTarget mLife mEpoch mBase mRecs base fuel) x0
noncomputable def law15_Body.b (mKind : Int) (mFrom : Int) (mInc : Int) (mSpanLo : Int) (mSpanHi : Int) (mSeq : Int) (mTarget : Int) (mLife : Int) (mEpoch : Int) (mBase : Int) (mRecs : List (Int × Int × Int × (Int × Int) × Bool × List (Int × List Int))) (base : List (Int × Int × Int × (Int × Int) × Bool × List (Int × List Int))) (E3 : (List (Int × (Int × (Int × ((Int × Int) × (Bool × (List (Int × (List Int))))))))) → Option (List Int)) : Option (List Int) :=
  (if (mBase == (0 : Int)) then E3 ([] : List (Int × (Int × (Int × ((Int × Int) × (Bool × (List (Int × (List Int))))))))) else E3 base)
noncomputable def law15_Body.f (fuel : Nat) (mKind : Int) (mFrom : Int) (mInc : Int) (mSpanLo : Int) (mSpanHi : Int) (mSeq : Int) (mTarget : Int) (mLife : Int) (mEpoch : Int) (mBase : Int) (mRecs : List (Int × Int × Int × (Int × Int) × Bool × List (Int × List Int))) (base : List (Int × Int × Int × (Int × Int) × Bool × List (Int × List Int))) : Option (List Int) := law15_Body.b mKind mFrom mInc mSpanLo mSpanHi mSeq mTarget mLife mEpoch mBase mRecs base (law15_Body.l3 fuel mKind mFrom mInc mSpanLo mSpanHi mSeq mTarget mLife mEpoch mBase mRecs base fuel)
theorem law15_Body.l17_eq (fuel : Nat) (mKind : Int) (mFrom : Int) (mInc : Int) (mSpanLo : Int) (mSpanHi : Int) (mSeq : Int) (mTarget : Int) (mLife : Int) (mEpoch : Int) (mBase : Int) (mRecs : List (Int × Int × Int × (Int × Int) × Bool × List (Int × List Int))) (base : List (Int × Int × Int × (Int × Int) × Bool × List (Int × List Int))) : ∀ (k : Nat) (x19 : (List (Int × (Int × (Int × ((Int × Int) × (Bool × (List (Int × (List Int)))))))))) (x20 : Int) (x21 : Int) (x22 : (List Int)), lp law15_Body_E fuel Try.f23 [.own 5 (.int .u8)] 0 law15_Body.k 17 [] k (law15_Body.s17 mKind mFrom mInc mSpanLo mSpanHi mSeq mTarget mLife mEpoch mBase mRecs base x19 x20 x21 x22) = law15_Body.l17 fuel mKind mFrom mInc mSpanLo mSpanHi mSeq mTarget mLife mEpoch mBase mRecs base k x19 x20 x21 x22 := by
  intro k
  induction k with
  | zero => intro x19 x20 x21 x22; rfl
  | succ k ih =>
    intro x19 x20 x21 x22
    have h : lp law15_Body_E fuel Try.f23 [.own 5 (.int .u8)] 0 law15_Body.k 17 [] (k + 1) (law15_Body.s17 mKind mFrom mInc mSpanLo mSpanHi mSeq mTarget mLife mEpoch mBase mRecs base x19 x20 x21 x22) = law15_Body.b17 mKind mFrom mInc mSpanLo mSpanHi mSeq mTarget mLife mEpoch mBase mRecs base (fun x19 x20 x21 x22 => lp law15_Body_E fuel Try.f23 [.own 5 (.int .u8)] 0 law15_Body.k 17 [] k (law15_Body.s17 mKind mFrom mInc mSpanLo mSpanHi mSeq mTarget mLife mEpoch mBase mRecs base x19 x20 x21 x22)) x19 x20 x21 x22 := by kernel_rfl
    rw [h]
    have e17 : (fun x19 x20 x21 x22 => lp law15_Body_E fuel Try.f23 [.own 5 (.int .u8)] 0 law15_Body.k 17 [] k (law15_Body.s17 mKind mFrom mInc mSpanLo mSpanHi mSeq mTarget mLife mEpoch mBase mRecs base x19 x20 x21 x22)) = law15_Body.l17 fuel mKind mFrom mInc mSpanLo mSpanHi mSeq mTarget mLife mEpoch mBase mRecs base k := (funext fun x19 => (funext fun x20 => (funext fun x21 => (funext fun x22 => ih x19 x20 x21 x22))))
    rw [e17]
    rfl
theorem law15_Body.l15_eq (fuel : Nat) (mKind : Int) (mFrom : Int) (mInc : Int) (mSpanLo : Int) (mSpanHi : Int) (mSeq : Int) (mTarget : Int) (mLife : Int) (mEpoch : Int) (mBase : Int) (mRecs : List (Int × Int × Int × (Int × Int) × Bool × List (Int × List Int))) (base : List (Int × Int × Int × (Int × Int) × Bool × List (Int × List Int))) : ∀ (k : Nat) (x17 : (List (Int × (Int × (Int × ((Int × Int) × (Bool × (List (Int × (List Int)))))))))) (x18 : (List Int)), lp law15_Body_E fuel Try.f23 [.own 5 (.int .u8)] 0 law15_Body.k 15 [] k (law15_Body.s15 mKind mFrom mInc mSpanLo mSpanHi mSeq mTarget mLife mEpoch mBase mRecs base x17 x18) = law15_Body.l15 fuel mKind mFrom mInc mSpanLo mSpanHi mSeq mTarget mLife mEpoch mBase mRecs base k x17 x18 := by
  intro k
  induction k with
  | zero => intro x17 x18; rfl
  | succ k ih =>
    intro x17 x18
    have h : lp law15_Body_E fuel Try.f23 [.own 5 (.int .u8)] 0 law15_Body.k 15 [] (k + 1) (law15_Body.s15 mKind mFrom mInc mSpanLo mSpanHi mSeq mTarget mLife mEpoch mBase mRecs base x17 x18) = law15_Body.b15 mKind mFrom mInc mSpanLo mSpanHi mSeq mTarget mLife mEpoch mBase mRecs base (fun x17 x18 => lp law15_Body_E fuel Try.f23 [.own 5 (.int .u8)] 0 law15_Body.k 15 [] k (law15_Body.s15 mKind mFrom mInc mSpanLo mSpanHi mSeq mTarget mLife mEpoch mBase mRecs base x17 x18)) (fun x19 x20 x21 x22 => lp law15_Body_E fuel Try.f23 [.own 5 (.int .u8)] 0 law15_Body.k 17 [] fuel (law15_Body.s17 mKind mFrom mInc mSpanLo mSpanHi mSeq mTarget mLife mEpoch mBase mRecs base x19 x20 x21 x22)) x17 x18 := by kernel_rfl
    rw [h]
    have e15 : (fun x17 x18 => lp law15_Body_E fuel Try.f23 [.own 5 (.int .u8)] 0 law15_Body.k 15 [] k (law15_Body.s15 mKind mFrom mInc mSpanLo mSpanHi mSeq mTarget mLife mEpoch mBase mRecs base x17 x18)) = law15_Body.l15 fuel mKind mFrom mInc mSpanLo mSpanHi mSeq mTarget mLife mEpoch mBase mRecs base k := (funext fun x17 => (funext fun x18 => ih x17 x18))
    rw [e15]
    have e17 : (fun x19 x20 x21 x22 => lp law15_Body_E fuel Try.f23 [.own 5 (.int .u8)] 0 law15_Body.k 17 [] fuel (law15_Body.s17 mKind mFrom mInc mSpanLo mSpanHi mSeq mTarget mLife mEpoch mBase mRecs base x19 x20 x21 x22)) = law15_Body.l17 fuel mKind mFrom mInc mSpanLo mSpanHi mSeq mTarget mLife mEpoch mBase mRecs base fuel := (funext fun x19 => (funext fun x20 => (funext fun x21 => (funext fun x22 => law15_Body.l17_eq fuel mKind mFrom mInc mSpanLo mSpanHi mSeq mTarget mLife mEpoch mBase mRecs base fuel x19 x20 x21 x22))))
    rw [e17]
    rfl
theorem law15_Body.l13_eq (fuel : Nat) (mKind : Int) (mFrom : Int) (mInc : Int) (mSpanLo : Int) (mSpanHi : Int) (mSeq : Int) (mTarget : Int) (mLife : Int) (mEpoch : Int) (mBase : Int) (mRecs : List (Int × Int × Int × (Int × Int) × Bool × List (Int × List Int))) (base : List (Int × Int × Int × (Int × Int) × Bool × List (Int × List Int))) : ∀ (k : Nat) (x14 : (List (Int × (Int × (Int × ((Int × Int) × (Bool × (List (Int × (List Int)))))))))) (x15 : (List Int)), lp law15_Body_E fuel Try.f23 [.own 5 (.int .u8)] 0 law15_Body.k 13 [] k (law15_Body.s13 mKind mFrom mInc mSpanLo mSpanHi mSeq mTarget mLife mEpoch mBase mRecs base x14 x15) = law15_Body.l13 fuel mKind mFrom mInc mSpanLo mSpanHi mSeq mTarget mLife mEpoch mBase mRecs base k x14 x15 := by
  intro k
  induction k with
  | zero => intro x14 x15; rfl
  | succ k ih =>
    intro x14 x15
    have h : lp law15_Body_E fuel Try.f23 [.own 5 (.int .u8)] 0 law15_Body.k 13 [] (k + 1) (law15_Body.s13 mKind mFrom mInc mSpanLo mSpanHi mSeq mTarget mLife mEpoch mBase mRecs base x14 x15) = law15_Body.b13 mKind mFrom mInc mSpanLo mSpanHi mSeq mTarget mLife mEpoch mBase mRecs base (fun x14 x15 => lp law15_Body_E fuel Try.f23 [.own 5 (.int .u8)] 0 law15_Body.k 13 [] k (law15_Body.s13 mKind mFrom mInc mSpanLo mSpanHi mSeq mTarget mLife mEpoch mBase mRecs base x14 x15)) (fun x17 x18 => lp law15_Body_E fuel Try.f23 [.own 5 (.int .u8)] 0 law15_Body.k 15 [] fuel (law15_Body.s15 mKind mFrom mInc mSpanLo mSpanHi mSeq mTarget mLife mEpoch mBase mRecs base x17 x18)) x14 x15 := by kernel_rfl
    rw [h]
    have e13 : (fun x14 x15 => lp law15_Body_E fuel Try.f23 [.own 5 (.int .u8)] 0 law15_Body.k 13 [] k (law15_Body.s13 mKind mFrom mInc mSpanLo mSpanHi mSeq mTarget mLife mEpoch mBase mRecs base x14 x15)) = law15_Body.l13 fuel mKind mFrom mInc mSpanLo mSpanHi mSeq mTarget mLife mEpoch mBase mRecs base k := (funext fun x14 => (funext fun x15 => ih x14 x15))
    rw [e13]
    have e15 : (fun x17 x18 => lp law15_Body_E fuel Try.f23 [.own 5 (.int .u8)] 0 law15_Body.k 15 [] fuel (law15_Body.s15 mKind mFrom mInc mSpanLo mSpanHi mSeq mTarget mLife mEpoch mBase mRecs base x17 x18)) = law15_Body.l15 fuel mKind mFrom mInc mSpanLo mSpanHi mSeq mTarget mLife mEpoch mBase mRecs base fuel := (funext fun x17 => (funext fun x18 => law15_Body.l15_eq fuel mKind mFrom mInc mSpanLo mSpanHi mSeq mTarget mLife mEpoch mBase mRecs base fuel x17 x18))
    rw [e15]
    rfl
theorem law15_Body.l11_eq (fuel : Nat) (mKind : Int) (mFrom : Int) (mInc : Int) (mSpanLo : Int) (mSpanHi : Int) (mSeq : Int) (mTarget : Int) (mLife : Int) (mEpoch : Int) (mBase : Int) (mRecs : List (Int × Int × Int × (Int × Int) × Bool × List (Int × List Int))) (base : List (Int × Int × Int × (Int × Int) × Bool × List (Int × List Int))) : ∀ (k : Nat) (x11 : (List (Int × (Int × (Int × ((Int × Int) × (Bool × (List (Int × (List Int)))))))))) (x12 : (List Int)), lp law15_Body_E fuel Try.f23 [.own 5 (.int .u8)] 0 law15_Body.k 11 [] k (law15_Body.s11 mKind mFrom mInc mSpanLo mSpanHi mSeq mTarget mLife mEpoch mBase mRecs base x11 x12) = law15_Body.l11 fuel mKind mFrom mInc mSpanLo mSpanHi mSeq mTarget mLife mEpoch mBase mRecs base k x11 x12 := by
  intro k
  induction k with
  | zero => intro x11 x12; rfl
  | succ k ih =>
    intro x11 x12
    have h : lp law15_Body_E fuel Try.f23 [.own 5 (.int .u8)] 0 law15_Body.k 11 [] (k + 1) (law15_Body.s11 mKind mFrom mInc mSpanLo mSpanHi mSeq mTarget mLife mEpoch mBase mRecs base x11 x12) = law15_Body.b11 mKind mFrom mInc mSpanLo mSpanHi mSeq mTarget mLife mEpoch mBase mRecs base (fun x11 x12 => lp law15_Body_E fuel Try.f23 [.own 5 (.int .u8)] 0 law15_Body.k 11 [] k (law15_Body.s11 mKind mFrom mInc mSpanLo mSpanHi mSeq mTarget mLife mEpoch mBase mRecs base x11 x12)) (fun x14 x15 => lp law15_Body_E fuel Try.f23 [.own 5 (.int .u8)] 0 law15_Body.k 13 [] fuel (law15_Body.s13 mKind mFrom mInc mSpanLo mSpanHi mSeq mTarget mLife mEpoch mBase mRecs base x14 x15)) x11 x12 := by kernel_rfl
    rw [h]
    have e11 : (fun x11 x12 => lp law15_Body_E fuel Try.f23 [.own 5 (.int .u8)] 0 law15_Body.k 11 [] k (law15_Body.s11 mKind mFrom mInc mSpanLo mSpanHi mSeq mTarget mLife mEpoch mBase mRecs base x11 x12)) = law15_Body.l11 fuel mKind mFrom mInc mSpanLo mSpanHi mSeq mTarget mLife mEpoch mBase mRecs base k := (funext fun x11 => (funext fun x12 => ih x11 x12))
    rw [e11]
    have e13 : (fun x14 x15 => lp law15_Body_E fuel Try.f23 [.own 5 (.int .u8)] 0 law15_Body.k 13 [] fuel (law15_Body.s13 mKind mFrom mInc mSpanLo mSpanHi mSeq mTarget mLife mEpoch mBase mRecs base x14 x15)) = law15_Body.l13 fuel mKind mFrom mInc mSpanLo mSpanHi mSeq mTarget mLife mEpoch mBase mRecs base fuel := (funext fun x14 => (funext fun x15 => law15_Body.l13_eq fuel mKind mFrom mInc mSpanLo mSpanHi mSeq mTarget mLife mEpoch mBase mRecs base fuel x14 x15))
    rw [e13]
    rfl
theorem law15_Body.l9_eq (fuel : Nat) (mKind : Int) (mFrom : Int) (mInc : Int) (mSpanLo : Int) (mSpanHi : Int) (mSeq : Int) (mTarget : Int) (mLife : Int) (mEpoch : Int) (mBase : Int) (mRecs : List (Int × Int × Int × (Int × Int) × Bool × List (Int × List Int))) (base : List (Int × Int × Int × (Int × Int) × Bool × List (Int × List Int))) : ∀ (k : Nat) (x7 : (List (Int × (Int × (Int × ((Int × Int) × (Bool × (List (Int × (List Int)))))))))) (x8 : (List Int)), lp law15_Body_E fuel Try.f23 [.own 5 (.int .u8)] 0 law15_Body.k 9 [] k (law15_Body.s9 mKind mFrom mInc mSpanLo mSpanHi mSeq mTarget mLife mEpoch mBase mRecs base x7 x8) = law15_Body.l9 fuel mKind mFrom mInc mSpanLo mSpanHi mSeq mTarget mLife mEpoch mBase mRecs base k x7 x8 := by
  intro k
  induction k with
  | zero => intro x7 x8; rfl
  | succ k ih =>
    intro x7 x8
    have h : lp law15_Body_E fuel Try.f23 [.own 5 (.int .u8)] 0 law15_Body.k 9 [] (k + 1) (law15_Body.s9 mKind mFrom mInc mSpanLo mSpanHi mSeq mTarget mLife mEpoch mBase mRecs base x7 x8) = law15_Body.b9 mKind mFrom mInc mSpanLo mSpanHi mSeq mTarget mLife mEpoch mBase mRecs base (fun x7 x8 => lp law15_Body_E fuel Try.f23 [.own 5 (.int .u8)] 0 law15_Body.k 9 [] k (law15_Body.s9 mKind mFrom mInc mSpanLo mSpanHi mSeq mTarget mLife mEpoch mBase mRecs base x7 x8)) (fun x11 x12 => lp law15_Body_E fuel Try.f23 [.own 5 (.int .u8)] 0 law15_Body.k 11 [] fuel (law15_Body.s11 mKind mFrom mInc mSpanLo mSpanHi mSeq mTarget mLife mEpoch mBase mRecs base x11 x12)) x7 x8 := by kernel_rfl
    rw [h]
    have e9 : (fun x7 x8 => lp law15_Body_E fuel Try.f23 [.own 5 (.int .u8)] 0 law15_Body.k 9 [] k (law15_Body.s9 mKind mFrom mInc mSpanLo mSpanHi mSeq mTarget mLife mEpoch mBase mRecs base x7 x8)) = law15_Body.l9 fuel mKind mFrom mInc mSpanLo mSpanHi mSeq mTarget mLife mEpoch mBase mRecs base k := (funext fun x7 => (funext fun x8 => ih x7 x8))
    rw [e9]
    have e11 : (fun x11 x12 => lp law15_Body_E fuel Try.f23 [.own 5 (.int .u8)] 0 law15_Body.k 11 [] fuel (law15_Body.s11 mKind mFrom mInc mSpanLo mSpanHi mSeq mTarget mLife mEpoch mBase mRecs base x11 x12)) = law15_Body.l11 fuel mKind mFrom mInc mSpanLo mSpanHi mSeq mTarget mLife mEpoch mBase mRecs base fuel := (funext fun x11 => (funext fun x12 => law15_Body.l11_eq fuel mKind mFrom mInc mSpanLo mSpanHi mSeq mTarget mLife mEpoch mBase mRecs base fuel x11 x12))
    rw [e11]
    rfl
theorem law15_Body.l7_eq (fuel : Nat) (mKind : Int) (mFrom : Int) (mInc : Int) (mSpanLo : Int) (mSpanHi : Int) (mSeq : Int) (mTarget : Int) (mLife : Int) (mEpoch : Int) (mBase : Int) (mRecs : List (Int × Int × Int × (Int × Int) × Bool × List (Int × List Int))) (base : List (Int × Int × Int × (Int × Int) × Bool × List (Int × List Int))) : ∀ (k : Nat) (x4 : (List (Int × (Int × (Int × ((Int × Int) × (Bool × (List (Int × (List Int)))))))))) (x5 : (List Int)), lp law15_Body_E fuel Try.f23 [.own 5 (.int .u8)] 0 law15_Body.k 7 [] k (law15_Body.s7 mKind mFrom mInc mSpanLo mSpanHi mSeq mTarget mLife mEpoch mBase mRecs base x4 x5) = law15_Body.l7 fuel mKind mFrom mInc mSpanLo mSpanHi mSeq mTarget mLife mEpoch mBase mRecs base k x4 x5 := by
  intro k
  induction k with
  | zero => intro x4 x5; rfl
  | succ k ih =>
    intro x4 x5
    have h : lp law15_Body_E fuel Try.f23 [.own 5 (.int .u8)] 0 law15_Body.k 7 [] (k + 1) (law15_Body.s7 mKind mFrom mInc mSpanLo mSpanHi mSeq mTarget mLife mEpoch mBase mRecs base x4 x5) = law15_Body.b7 mKind mFrom mInc mSpanLo mSpanHi mSeq mTarget mLife mEpoch mBase mRecs base (fun x4 x5 => lp law15_Body_E fuel Try.f23 [.own 5 (.int .u8)] 0 law15_Body.k 7 [] k (law15_Body.s7 mKind mFrom mInc mSpanLo mSpanHi mSeq mTarget mLife mEpoch mBase mRecs base x4 x5)) (fun x7 x8 => lp law15_Body_E fuel Try.f23 [.own 5 (.int .u8)] 0 law15_Body.k 9 [] fuel (law15_Body.s9 mKind mFrom mInc mSpanLo mSpanHi mSeq mTarget mLife mEpoch mBase mRecs base x7 x8)) x4 x5 := by kernel_rfl
    rw [h]
    have e7 : (fun x4 x5 => lp law15_Body_E fuel Try.f23 [.own 5 (.int .u8)] 0 law15_Body.k 7 [] k (law15_Body.s7 mKind mFrom mInc mSpanLo mSpanHi mSeq mTarget mLife mEpoch mBase mRecs base x4 x5)) = law15_Body.l7 fuel mKind mFrom mInc mSpanLo mSpanHi mSeq mTarget mLife mEpoch mBase mRecs base k := (funext fun x4 => (funext fun x5 => ih x4 x5))
    rw [e7]
    have e9 : (fun x7 x8 => lp law15_Body_E fuel Try.f23 [.own 5 (.int .u8)] 0 law15_Body.k 9 [] fuel (law15_Body.s9 mKind mFrom mInc mSpanLo mSpanHi mSeq mTarget mLife mEpoch mBase mRecs base x7 x8)) = law15_Body.l9 fuel mKind mFrom mInc mSpanLo mSpanHi mSeq mTarget mLife mEpoch mBase mRecs base fuel := (funext fun x7 => (funext fun x8 => law15_Body.l9_eq fuel mKind mFrom mInc mSpanLo mSpanHi mSeq mTarget mLife mEpoch mBase mRecs base fuel x7 x8))
    rw [e9]
    rfl
theorem law15_Body.l3_eq (fuel : Nat) (mKind : Int) (mFrom : Int) (mInc : Int) (mSpanLo : Int) (mSpanHi : Int) (mSeq : Int) (mTarget : Int) (mLife : Int) (mEpoch : Int) (mBase : Int) (mRecs : List (Int × Int × Int × (Int × Int) × Bool × List (Int × List Int))) (base : List (Int × Int × Int × (Int × Int) × Bool × List (Int × List Int))) : ∀ (k : Nat) (x0 : (List (Int × (Int × (Int × ((Int × Int) × (Bool × (List (Int × (List Int)))))))))), lp law15_Body_E fuel Try.f23 [.own 5 (.int .u8)] 0 law15_Body.k 3 [] k (law15_Body.s3 mKind mFrom mInc mSpanLo mSpanHi mSeq mTarget mLife mEpoch mBase mRecs base x0) = law15_Body.l3 fuel mKind mFrom mInc mSpanLo mSpanHi mSeq mTarget mLife mEpoch mBase mRecs base k x0 := by
  intro k
  induction k with
  | zero => intro x0; rfl
  | succ k ih =>
    intro x0
    have h : lp law15_Body_E fuel Try.f23 [.own 5 (.int .u8)] 0 law15_Body.k 3 [] (k + 1) (law15_Body.s3 mKind mFrom mInc mSpanLo mSpanHi mSeq mTarget mLife mEpoch mBase mRecs base x0) = law15_Body.b3 mKind mFrom mInc mSpanLo mSpanHi mSeq mTarget mLife mEpoch mBase mRecs base (fun x0 => lp law15_Body_E fuel Try.f23 [.own 5 (.int .u8)] 0 law15_Body.k 3 [] k (law15_Body.s3 mKind mFrom mInc mSpanLo mSpanHi mSeq mTarget mLife mEpoch mBase mRecs base x0)) (fun x4 x5 => lp law15_Body_E fuel Try.f23 [.own 5 (.int .u8)] 0 law15_Body.k 7 [] fuel (law15_Body.s7 mKind mFrom mInc mSpanLo mSpanHi mSeq mTarget mLife mEpoch mBase mRecs base x4 x5)) x0 := by kernel_rfl
    rw [h]
    have e3 : (fun x0 => lp law15_Body_E fuel Try.f23 [.own 5 (.int .u8)] 0 law15_Body.k 3 [] k (law15_Body.s3 mKind mFrom mInc mSpanLo mSpanHi mSeq mTarget mLife mEpoch mBase mRecs base x0)) = law15_Body.l3 fuel mKind mFrom mInc mSpanLo mSpanHi mSeq mTarget mLife mEpoch mBase mRecs base k := (funext fun x0 => ih x0)
    rw [e3]
    have e7 : (fun x4 x5 => lp law15_Body_E fuel Try.f23 [.own 5 (.int .u8)] 0 law15_Body.k 7 [] fuel (law15_Body.s7 mKind mFrom mInc mSpanLo mSpanHi mSeq mTarget mLife mEpoch mBase mRecs base x4 x5)) = law15_Body.l7 fuel mKind mFrom mInc mSpanLo mSpanHi mSeq mTarget mLife mEpoch mBase mRecs base fuel := (funext fun x4 => (funext fun x5 => law15_Body.l7_eq fuel mKind mFrom mInc mSpanLo mSpanHi mSeq mTarget mLife mEpoch mBase mRecs base fuel x4 x5))
    rw [e7]
    rfl
theorem law15_Body.eq (fuel : Nat) (mKind : Int) (mFrom : Int) (mInc : Int) (mSpanLo : Int) (mSpanHi : Int) (mSeq : Int) (mTarget : Int) (mLife : Int) (mEpoch : Int) (mBase : Int) (mRecs : List (Int × Int × Int × (Int × Int) × Bool × List (Int × List Int))) (base : List (Int × Int × Int × (Int × Int) × Bool × List (Int × List Int))) : (denF law15_Body_E loopN fuel Try.f23 [.own 5 (.int .u8)] [.agg [.d (.int .i64) mKind, .d (.int .i64) mFrom, .d (.int .i64) mInc, .d (.int .i64) mSpanLo, .d (.int .i64) mSpanHi, .d (.int .i64) mSeq, .d (.int .i64) mTarget, .d (.int .i64) mLife, .d (.int .i64) mEpoch, .d (.int .i64) mBase, .d (.sl (.pair (.int .i64) (.pair (.int .i64) (.pair (.int .i64) (.pair (.pair (.int .i64) (.int .i64)) (.pair .bool (.sl (.pair (.int .i64) (.sl (.int .u8)))))))))) mRecs], .d (.sl (.pair (.int .i64) (.pair (.int .i64) (.pair (.int .i64) (.pair (.pair (.int .i64) (.int .i64)) (.pair .bool (.sl (.pair (.int .i64) (.sl (.int .u8)))))))))) base] [] law15_Body.k) = law15_Body.f fuel mKind mFrom mInc mSpanLo mSpanHi mSeq mTarget mLife mEpoch mBase mRecs base := by
  have h : (denF law15_Body_E loopN fuel Try.f23 [.own 5 (.int .u8)] [.agg [.d (.int .i64) mKind, .d (.int .i64) mFrom, .d (.int .i64) mInc, .d (.int .i64) mSpanLo, .d (.int .i64) mSpanHi, .d (.int .i64) mSeq, .d (.int .i64) mTarget, .d (.int .i64) mLife, .d (.int .i64) mEpoch, .d (.int .i64) mBase, .d (.sl (.pair (.int .i64) (.pair (.int .i64) (.pair (.int .i64) (.pair (.pair (.int .i64) (.int .i64)) (.pair .bool (.sl (.pair (.int .i64) (.sl (.int .u8)))))))))) mRecs], .d (.sl (.pair (.int .i64) (.pair (.int .i64) (.pair (.int .i64) (.pair (.pair (.int .i64) (.int .i64)) (.pair .bool (.sl (.pair (.int .i64) (.sl (.int .u8)))))))))) base] [] law15_Body.k) = law15_Body.b mKind mFrom mInc mSpanLo mSpanHi mSeq mTarget mLife mEpoch mBase mRecs base (fun x0 => lp law15_Body_E fuel Try.f23 [.own 5 (.int .u8)] 0 law15_Body.k 3 [] fuel (law15_Body.s3 mKind mFrom mInc mSpanLo mSpanHi mSeq mTarget mLife mEpoch mBase mRecs base x0)) := by kernel_rfl
  rw [h]
  have e3 : (fun x0 => lp law15_Body_E fuel Try.f23 [.own 5 (.int .u8)] 0 law15_Body.k 3 [] fuel (law15_Body.s3 mKind mFrom mInc mSpanLo mSpanHi mSeq mTarget mLife mEpoch mBase mRecs base x0)) = law15_Body.l3 fuel mKind mFrom mInc mSpanLo mSpanHi mSeq mTarget mLife mEpoch mBase mRecs base fuel := (funext fun x0 => law15_Body.l3_eq fuel mKind mFrom mInc mSpanLo mSpanHi mSeq mTarget mLife mEpoch mBase mRecs base fuel x0)
  rw [e3]
  rfl
theorem law15_Body.l15_at (fuel n k : Nat) (hn : n = k + 1) (mKind : Int) (mFrom : Int) (mInc : Int) (mSpanLo : Int) (mSpanHi : Int) (mSeq : Int) (mTarget : Int) (mLife : Int) (mEpoch : Int) (mBase : Int) (mRecs : List (Int × Int × Int × (Int × Int) × Bool × List (Int × List Int))) (base : List (Int × Int × Int × (Int × Int) × Bool × List (Int × List Int))) (x17 : (List (Int × (Int × (Int × ((Int × Int) × (Bool × (List (Int × (List Int)))))))))) (x18 : (List Int)) : law15_Body.l15 fuel mKind mFrom mInc mSpanLo mSpanHi mSeq mTarget mLife mEpoch mBase mRecs base n x17 x18 = law15_Body.b15 mKind mFrom mInc mSpanLo mSpanHi mSeq mTarget mLife mEpoch mBase mRecs base (law15_Body.l15 fuel mKind mFrom mInc mSpanLo mSpanHi mSeq mTarget mLife mEpoch mBase mRecs base k) (law15_Body.l17 fuel mKind mFrom mInc mSpanLo mSpanHi mSeq mTarget mLife mEpoch mBase mRecs base fuel) x17 x18 := by
  subst hn
  rfl
theorem law15_Body.l13_at (fuel n k : Nat) (hn : n = k + 1) (mKind : Int) (mFrom : Int) (mInc : Int) (mSpanLo : Int) (mSpanHi : Int) (mSeq : Int) (mTarget : Int) (mLife : Int) (mEpoch : Int) (mBase : Int) (mRecs : List (Int × Int × Int × (Int × Int) × Bool × List (Int × List Int))) (base : List (Int × Int × Int × (Int × Int) × Bool × List (Int × List Int))) (x14 : (List (Int × (Int × (Int × ((Int × Int) × (Bool × (List (Int × (List Int)))))))))) (x15 : (List Int)) : law15_Body.l13 fuel mKind mFrom mInc mSpanLo mSpanHi mSeq mTarget mLife mEpoch mBase mRecs base n x14 x15 = law15_Body.b13 mKind mFrom mInc mSpanLo mSpanHi mSeq mTarget mLife mEpoch mBase mRecs base (law15_Body.l13 fuel mKind mFrom mInc mSpanLo mSpanHi mSeq mTarget mLife mEpoch mBase mRecs base k) (law15_Body.l15 fuel mKind mFrom mInc mSpanLo mSpanHi mSeq mTarget mLife mEpoch mBase mRecs base fuel) x14 x15 := by
  subst hn
  rfl
theorem law15_Body.l11_at (fuel n k : Nat) (hn : n = k + 1) (mKind : Int) (mFrom : Int) (mInc : Int) (mSpanLo : Int) (mSpanHi : Int) (mSeq : Int) (mTarget : Int) (mLife : Int) (mEpoch : Int) (mBase : Int) (mRecs : List (Int × Int × Int × (Int × Int) × Bool × List (Int × List Int))) (base : List (Int × Int × Int × (Int × Int) × Bool × List (Int × List Int))) (x11 : (List (Int × (Int × (Int × ((Int × Int) × (Bool × (List (Int × (List Int)))))))))) (x12 : (List Int)) : law15_Body.l11 fuel mKind mFrom mInc mSpanLo mSpanHi mSeq mTarget mLife mEpoch mBase mRecs base n x11 x12 = law15_Body.b11 mKind mFrom mInc mSpanLo mSpanHi mSeq mTarget mLife mEpoch mBase mRecs base (law15_Body.l11 fuel mKind mFrom mInc mSpanLo mSpanHi mSeq mTarget mLife mEpoch mBase mRecs base k) (law15_Body.l13 fuel mKind mFrom mInc mSpanLo mSpanHi mSeq mTarget mLife mEpoch mBase mRecs base fuel) x11 x12 := by
  subst hn
  rfl
theorem law15_Body.l9_at (fuel n k : Nat) (hn : n = k + 1) (mKind : Int) (mFrom : Int) (mInc : Int) (mSpanLo : Int) (mSpanHi : Int) (mSeq : Int) (mTarget : Int) (mLife : Int) (mEpoch : Int) (mBase : Int) (mRecs : List (Int × Int × Int × (Int × Int) × Bool × List (Int × List Int))) (base : List (Int × Int × Int × (Int × Int) × Bool × List (Int × List Int))) (x7 : (List (Int × (Int × (Int × ((Int × Int) × (Bool × (List (Int × (List Int)))))))))) (x8 : (List Int)) : law15_Body.l9 fuel mKind mFrom mInc mSpanLo mSpanHi mSeq mTarget mLife mEpoch mBase mRecs base n x7 x8 = law15_Body.b9 mKind mFrom mInc mSpanLo mSpanHi mSeq mTarget mLife mEpoch mBase mRecs base (law15_Body.l9 fuel mKind mFrom mInc mSpanLo mSpanHi mSeq mTarget mLife mEpoch mBase mRecs base k) (law15_Body.l11 fuel mKind mFrom mInc mSpanLo mSpanHi mSeq mTarget mLife mEpoch mBase mRecs base fuel) x7 x8 := by
  subst hn
  rfl
theorem law15_Body.l7_at (fuel n k : Nat) (hn : n = k + 1) (mKind : Int) (mFrom : Int) (mInc : Int) (mSpanLo : Int) (mSpanHi : Int) (mSeq : Int) (mTarget : Int) (mLife : Int) (mEpoch : Int) (mBase : Int) (mRecs : List (Int × Int × Int × (Int × Int) × Bool × List (Int × List Int))) (base : List (Int × Int × Int × (Int × Int) × Bool × List (Int × List Int))) (x4 : (List (Int × (Int × (Int × ((Int × Int) × (Bool × (List (Int × (List Int)))))))))) (x5 : (List Int)) : law15_Body.l7 fuel mKind mFrom mInc mSpanLo mSpanHi mSeq mTarget mLife mEpoch mBase mRecs base n x4 x5 = law15_Body.b7 mKind mFrom mInc mSpanLo mSpanHi mSeq mTarget mLife mEpoch mBase mRecs base (law15_Body.l7 fuel mKind mFrom mInc mSpanLo mSpanHi mSeq mTarget mLife mEpoch mBase mRecs base k) (law15_Body.l9 fuel mKind mFrom mInc mSpanLo mSpanHi mSeq mTarget mLife mEpoch mBase mRecs base fuel) x4 x5 := by
  subst hn
  rfl
theorem law15_Body.l3_at (fuel n k : Nat) (hn : n = k + 1) (mKind : Int) (mFrom : Int) (mInc : Int) (mSpanLo : Int) (mSpanHi : Int) (mSeq : Int) (mTarget : Int) (mLife : Int) (mEpoch : Int) (mBase : Int) (mRecs : List (Int × Int × Int × (Int × Int) × Bool × List (Int × List Int))) (base : List (Int × Int × Int × (Int × Int) × Bool × List (Int × List Int))) (x0 : (List (Int × (Int × (Int × ((Int × Int) × (Bool × (List (Int × (List Int)))))))))) : law15_Body.l3 fuel mKind mFrom mInc mSpanLo mSpanHi mSeq mTarget mLife mEpoch mBase mRecs base n x0 = law15_Body.b3 mKind mFrom mInc mSpanLo mSpanHi mSeq mTarget mLife mEpoch mBase mRecs base (law15_Body.l3 fuel mKind mFrom mInc mSpanLo mSpanHi mSeq mTarget mLife mEpoch mBase mRecs base k) (law15_Body.l7 fuel mKind mFrom mInc mSpanLo mSpanHi mSeq mTarget mLife mEpoch mBase mRecs base fuel) x0 := by
  subst hn
  rfl
noncomputable def s_law15_Body : Den.Sum := ⟨[.dat (.pair (.int .i64) (.pair (.int .i64) (.pair (.int .i64) (.pair (.pair (.int .i64) (.int .i64)) (.pair (.int .i64) (.pair (.int .i64) (.pair (.int .i64) (.pair (.int .i64) (.pair (.int .i64) (.sl (.pair (.int .i64) (.pair (.int .i64) (.pair (.int .i64) (.pair (.pair (.int .i64) (.int .i64)) (.pair .bool (.sl (.pair (.int .i64) (.sl (.int .u8))))))))))))))))))) true, .dat (.sl (.pair (.int .i64) (.pair (.int .i64) (.pair (.int .i64) (.pair (.pair (.int .i64) (.int .i64)) (.pair .bool (.sl (.pair (.int .i64) (.sl (.int .u8)))))))))) false], fun args objs κ => match args, objs with
  | [.agg [.d (.int .i64) mKind, .d (.int .i64) mFrom, .d (.int .i64) mInc, .d (.int .i64) mSpanLo, .d (.int .i64) mSpanHi, .d (.int .i64) mSeq, .d (.int .i64) mTarget, .d (.int .i64) mLife, .d (.int .i64) mEpoch, .d (.int .i64) mBase, .d (.sl (.pair (.int .i64) (.pair (.int .i64) (.pair (.int .i64) (.pair (.pair (.int .i64) (.int .i64)) (.pair .bool (.sl (.pair (.int .i64) (.sl (.int .u8)))))))))) mRecs], .d (.sl (.pair (.int .i64) (.pair (.int .i64) (.pair (.int .i64) (.pair (.pair (.int .i64) (.int .i64)) (.pair .bool (.sl (.pair (.int .i64) (.sl (.int .u8)))))))))) base], [] => (match veil (law15_Body.f BIG mKind mFrom mInc mSpanLo mSpanHi mSeq mTarget mLife mEpoch mBase mRecs base) with | none => none | some y => κ [.row 0] [.row 5 (.int .u8) y false])
  | _, _ => none⟩
theorem s_law15_Body_det : SumDet s_law15_Body := fun avs objs R κ => by
  show s_law15_Body.run avs objs (two κ) = (s_law15_Body.run avs objs (two some)).bind κ
  unfold s_law15_Body
  simp only [veil_eq]
  split
  · split <;> rfl
  · rfl
theorem s_law15_Body_ok : SumOk Try.prog 23 s_law15_Body := by
  have hE : EnvOk Try.prog law15_Body_E := env_ok (l := [(64, s_law15_form), (65, s_law15_one)]) th_ok any_ok ⟨⟨s_law15_form_ok, s_law15_form_det⟩, ⟨s_law15_one_ok, s_law15_one_det⟩, trivial⟩ _
  refine sum_ok hE Try.func23 rfl (by kernel_rfl) s_law15_Body [.own 5 (.int .u8)] law15_Body.k ?_
  intro R avs objs κ r h
  unfold s_law15_Body at h
  simp only [veil_eq] at h
  split at h
  · rename_i mKind mFrom mInc mSpanLo mSpanHi mSeq mTarget mLife mEpoch mBase mRecs base
    split at h
    · cases h
    · rename_i y hy
      refine ⟨BIG, _, _, _, (law15_Body.eq BIG mKind mFrom mInc mSpanLo mSpanHi mSeq mTarget mLife mEpoch mBase mRecs base).trans hy, ?_, h⟩
      intro rs ros hk
      unfold law15_Body.k at hk
      split at hk
      · first | (cases hk; exact ⟨rfl, rfl⟩) | (have e := Option.some.inj hk; rw [← e]; exact ⟨rfl, rfl⟩)
      · cases hk
  · cases h
/-- a bag, written -/
noncomputable def fld3 (x : Int × List Int) : List Int := x.1 :: (vi (x.2.length : Int) ++ x.2)
noncomputable def bag3 (b : LF) : List Int := vi (b.length : Int) ++ b.flatMap fld3
noncomputable def sameSpan (o : REC × Bool) (r : REC) : Bool := o.2 && (o.1.2.2.2.1.1 == r.2.2.2.1.1 && o.1.2.2.2.1.2 == r.2.2.2.1.2)
noncomputable def sameBag (o : REC × Bool) (r : REC) : Bool := o.2 && (!r.2.2.2.2.1 && cmpGo o.1.2.2.2.2.2 r.2.2.2.2.2 == 0)
noncomputable def flagV (o : REC × Bool) (r : REC) : Int := r.2.2.1 + (if r.2.2.2.2.1 then 4 else 0) + (if sameSpan o r then 8 else 0) + (if sameBag o r then 16 else 0)
noncomputable def rec3 (o : REC × Bool) (last : Int) (r : REC) : List Int :=
  vi (r.1 - last - 1) ++ (flagV o r :: ((if sameSpan o r then [] else [r.2.2.2.1.1 * 16 + r.2.2.2.1.2]) ++ (vi (zigF (r.2.1 - o.1.2.1)) ++ (if r.2.2.2.2.1 || sameBag o r then [] else bag3 r.2.2.2.2.2))))
theorem flag_tab : (List.range 32).all (fun n => (bits Go.BinOp.and .i64 (n : Int) 8 == if (n : Int) / 8 % 2 = 1 then 8 else 0) && ((bits Go.BinOp.and .i64 (n : Int) 20 == if (n : Int) / 4 % 2 = 1 then (if (n : Int) / 16 = 1 then 20 else 4) else (if (n : Int) / 16 = 1 then 16 else 0)) && ((decide ((n : Int) ≥ 4) || (bits Go.BinOp.or .i64 (n : Int) 4 == (n : Int) + 4)) && ((decide ((n : Int) ≥ 8) || (bits Go.BinOp.or .i64 (n : Int) 8 == (n : Int) + 8)) && (decide ((n : Int) ≥ 16) || (bits Go.BinOp.or .i64 (n : Int) 16 == (n : Int) + 16)))))) = true := by kernel_rfl
theorem flag_at (v : Int) (h0 : 0 ≤ v) (h1 : v < 32) : (bits Go.BinOp.and .i64 v 8 = if v / 8 % 2 = 1 then 8 else 0) ∧ (bits Go.BinOp.and .i64 v 20 = if v / 4 % 2 = 1 then (if v / 16 = 1 then 20 else 4) else (if v / 16 = 1 then 16 else 0)) ∧ (v < 4 → bits Go.BinOp.or .i64 v 4 = v + 4) ∧ (v < 8 → bits Go.BinOp.or .i64 v 8 = v + 8) ∧ (v < 16 → bits Go.BinOp.or .i64 v 16 = v + 16) := by
  have := List.all_eq_true.1 flag_tab v.toNat (by simp; omega)
  rw [show ((v.toNat : Nat) : Int) = v from by omega] at this
  simp only [Bool.and_eq_true, beq_iff_eq, Bool.or_eq_true, decide_eq_true_eq] at this
  obtain ⟨a, b, c, d, e⟩ := this
  exact ⟨a, b, fun h => c.resolve_left (by omega), fun h => d.resolve_left (by omega), fun h => e.resolve_left (by omega)⟩
theorem fitByte (v : Int) (h0 : 0 ≤ v) (h1 : v < 256) : fitsF 1 v = true := (fitsF_iff 1 v).2 ⟨by omega, by omega, h0, by simpa using h1⟩
theorem be_one (v : Int) (h0 : 0 ≤ v) (h1 : v < 256) : be (Int.toNat (1 : Int)) v = [v] := be1 v h0 h1
theorem put_fields (l : List Int) (id inc st lo hi : Int) (cut : Bool) (bag : LF) (last : Int) (base : LR) (hb : ∀ x ∈ bag, 0 ≤ x.1 ∧ x.1 ≤ 255 ∧ x.2.length ≤ 1000000) (hn : bag.length < 1000000) :
    ∀ (k i : Nat) (acc : List Int), i ≤ bag.length → bag.length - i < k → acc.length + 2000000 * (bag.length - i) ≤ 1000000000000 →
    gen3_writer_put.l17 BIG l id inc st lo hi cut bag last base k (bag.length : Int) (i : Int) acc = some (acc ++ (bag.drop i).flatMap fld3) := by
  intro k
  induction k with
  | zero => intro i acc h1 h2; omega
  | succ k ih =>
    intro i acc h1 h2 h3
    rw [gen3_writer_put.l17_at BIG (k + 1) k rfl]
    unfold gen3_writer_put.b17
    simp only [veil_eq]
    by_cases hi' : i < bag.length
    · rw [if_pos (by simp; omega), idx_at, List.getElem?_eq_getElem hi']
      dsimp only
      obtain ⟨t0, t1, t2⟩ := hb bag[i] (List.getElem_mem hi')
      rw [List.drop_eq_getElem_cons hi', List.flatMap_cons]
      generalize bag[i] = x at t0 t1 t2 ⊢
      have hl := vi_len (x.2.length : Int)
      rw [if_pos ⟨fitByte _ t0 (by omega), (roomy_iff _).2 (by omega)⟩, be_one _ t0 (by omega), Form.pure _ _ (by intro v hv; simp at hv; omega) (by simp) (by simp; omega)]
      dsimp only
      simp only [List.flatMap_cons, List.flatMap_nil, List.append_nil]
      rw [Raw.pure _ _ (by simp; omega)]
      dsimp only
      rw [wrap_small _ (by omega) (by omega), show ((i : Int) + 1) = ((i + 1 : Nat) : Int) from by omega, ih (i + 1) _ (by omega) (by omega) (by simp; omega)]
      simp [fld3]
    · rw [if_neg (by simp; omega), List.drop_of_length_le (by omega)]
      simp
/-- the last part: what has changed of the incarnation, and the bag -/
theorem put13 (l : List Int) (id inc st lo hi : Int) (cut : Bool) (bag : LF) (last : Int) (base : LR) (v : Int) (acc : List Int) (a1 old a3 a4 a5 : Int) (a6 : Bool) (a7 : LF)
    (hb : ∀ x ∈ bag, 0 ≤ x.1 ∧ x.1 ≤ 255 ∧ x.2.length ≤ 1000000) (hn : bag.length < 10000) (hi0 : 0 ≤ inc) (hi1 : inc ≤ 281474976710655) (ho0 : 0 ≤ old) (ho1 : old ≤ 281474976710655) (hv0 : 0 ≤ v) (hv1 : v < 32) (hl : acc.length ≤ 100000000000) :
    gen3_writer_put.l13 BIG l id inc st lo hi cut bag last base BIG v acc a1 old a3 a4 a5 a6 a7 = some (acc ++ (vi (zigF (inc - old)) ++ (if v / 4 % 2 = 1 ∨ v / 16 = 1 then [] else bag3 bag))) := by
  rw [gen3_writer_put.l13_at BIG BIG (BIG - 1) big_eq]
  unfold gen3_writer_put.b13
  simp only [veil_eq]
  have hz : 0 ≤ zigF (inc - old) ∧ zigF (inc - old) < 1000000000000000000 := by unfold zigF; split <;> omega
  have hlz := vi_len (zigF (inc - old))
  rw [wrap_small _ (by omega) (by omega), Zig.pure _ (by omega) (by omega)]
  dsimp only
  rw [Of.pure _ hz.1 (by omega)]
  dsimp only
  rw [Raw.pure _ _ (by omega)]
  dsimp only
  rw [(flag_at v hv0 hv1).2.1]
  by_cases h4 : v / 4 % 2 = 1
  · rw [if_pos h4, if_pos (by split <;> decide), if_pos (.inl h4)]
    simp
  · rw [if_neg h4]
    by_cases h16 : v / 16 = 1
    · rw [if_pos h16, if_pos (by decide), if_pos (.inr h16)]
      simp
    · rw [if_neg h16, if_neg (by decide), if_neg (by omega), Form.pure _ _ (by intro x hx; simp at hx; omega) (by simp) (by simp; omega)]
      dsimp only
      simp only [List.flatMap_cons, List.flatMap_nil, List.append_nil]
      have hlb := vi_len (bag.length : Int)
      have := put_fields l id inc st lo hi cut bag last base hb (by omega) BIG 0 (acc ++ vi (zigF (inc - old)) ++ vi (bag.length : Int)) (by omega) (by rw [BIG_eq]; omega) (by simp; omega)
      rw [show ((0 : Nat) : Int) = 0 from rfl, List.drop_zero] at this
      rw [this]
      simp [bag3]
theorem put9 (l : List Int) (id inc st lo hi : Int) (cut : Bool) (bag : LF) (last : Int) (base : LR) (v : Int) (a1 old a3 a4 a5 : Int) (a6 : Bool) (a7 : LF)
    (hb : ∀ x ∈ bag, 0 ≤ x.1 ∧ x.1 ≤ 255 ∧ x.2.length ≤ 1000000) (hn : bag.length < 10000) (hi0 : 0 ≤ inc) (hi1 : inc ≤ 281474976710655) (ho0 : 0 ≤ old) (ho1 : old ≤ 281474976710655) (hv0 : 0 ≤ v) (hv1 : v < 32) (hl : l.length ≤ 10000000000)
    (hs : okS lo hi = true) (hid : id ≤ 4095) (hlast : -1 ≤ last) (hlt : last < id) :
    gen3_writer_put.l9 BIG l id inc st lo hi cut bag last base BIG v a1 old a3 a4 a5 a6 a7 = some (l ++ (vi (id - last - 1) ++ (v :: ((if v / 8 % 2 = 1 then [] else [lo * 16 + hi]) ++ (vi (zigF (inc - old)) ++ (if v / 4 % 2 = 1 ∨ v / 16 = 1 then [] else bag3 bag)))))) := by
  rw [gen3_writer_put.l9_at BIG BIG (BIG - 1) big_eq]
  unfold gen3_writer_put.b9
  simp only [veil_eq]
  have hlv := vi_len (id - last - 1)
  have hs' := (okS_iff _ _).1 hs
  rw [wrap_small (id - last) (by omega) (by omega), wrap_small (id - last - 1) (by omega) (by omega), Form.pure _ _ (by intro x hx; simp at hx; omega) (by simp) (by simp; omega)]
  dsimp only
  simp only [List.flatMap_cons, List.flatMap_nil, List.append_nil]
  rw [if_pos ⟨fitByte _ hv0 (by omega), (roomy_iff _).2 (by simp; omega)⟩, (flag_at v hv0 hv1).1, be_one v hv0 (by omega), code_eq hs]
  by_cases h8 : v / 8 % 2 = 1
  · rw [if_pos h8, if_neg (by decide), put13 _ _ _ _ _ _ _ _ _ _ _ _ _ _ _ _ _ _ _ hb hn hi0 hi1 ho0 ho1 hv0 hv1 (by simp; omega), if_pos h8]
    simp
  · rw [if_neg h8, if_pos (by decide), if_pos ⟨fitByte _ (by omega) (by omega), (roomy_iff _).2 (by simp; omega)⟩, be_one _ (by omega) (by omega), put13 _ _ _ _ _ _ _ _ _ _ _ _ _ _ _ _ _ _ _ hb hn hi0 hi1 ho0 ho1 hv0 hv1 (by simp; omega), if_neg h8]
    simp
theorem oldR_mem {base : LR} {id : Int} : (oldR base id).2 = false ∧ (oldR base id).1 = (0, 0, 0, (0, 0), false, []) ∨ (oldR base id).2 = true ∧ (oldR base id).1 ∈ base ∧ (oldR base id).1.1 = id := by
  unfold oldR
  cases h : base.find? (fun r => r.1 == id) with
  | none => exact .inl ⟨rfl, rfl⟩
  | some r => exact .inr ⟨rfl, List.mem_of_find?_eq_some h, by have := List.find?_some h; simpa using this⟩
theorem fine_of {base : LR} (h : ∀ r ∈ base, recOkT r = true) (hn : base.length < 1000000000) : fineRecs base := by
  refine ⟨hn, fun r hr => ?_⟩
  have hb := (recOk_facts (h r hr)).2.2.2.2.2.2.2.1
  have hl := bagOk_len hb
  exact ⟨by omega, fun x hx => by have := bag_tags hb x hx; omega⟩
theorem put.pure (l : List Int) (r : REC) (last : Int) (base : LR) (hr : recOkT r = true) (hbase : ∀ x ∈ base, recOkT x = true) (hbn : base.length < 1000000000) (hlast : -1 ≤ last) (hlt : last < r.1) (hl : l.length ≤ 10000000000) :
    gen3_writer_put.f BIG l r.1 r.2.1 r.2.2.1 r.2.2.2.1.1 r.2.2.2.1.2 r.2.2.2.2.1 r.2.2.2.2.2 last base = some (l ++ rec3 (oldR base r.1) last r) := by
  obtain ⟨f1, f2, f3, f4, f5, f6, f7, f8, f9⟩ := recOk_facts hr
  have hbl := bagOk_len f8
  have hbt := bag_tags f8
  have hb : ∀ x ∈ r.2.2.2.2.2, 0 ≤ x.1 ∧ x.1 ≤ 255 ∧ x.2.length ≤ 1000000 := fun x hx => by have := hbt x hx; omega
  have hold : 0 ≤ (oldR base r.1).1.2.1 ∧ (oldR base r.1).1.2.1 ≤ 281474976710655 ∧ smallBag (oldR base r.1).1.2.2.2.2.2 = true := by
    rcases oldR_mem (base := base) (id := r.1) with ⟨_, h⟩ | ⟨_, h, _⟩
    · rw [h]; exact ⟨by simp, by simp, rfl⟩
    · have := recOk_facts (hbase _ h)
      have hb2 := bagOk_len this.2.2.2.2.2.2.2.1
      exact ⟨this.2.2.1, this.2.2.2.1, (smallBag_iff _).2 ⟨by omega, fun x hx => by have := bag_tags this.2.2.2.2.2.2.2.1 x hx; omega⟩⟩
  have hsb : smallBag r.2.2.2.2.2 = true := (smallBag_iff _).2 ⟨by omega, fun x hx => by have := hbt x hx; omega⟩
  unfold gen3_writer_put.f gen3_writer_put.b
  simp only [veil_eq]
  rw [Find.pure base r.1 (fine_of hbase hbn)]
  dsimp only
  unfold rec3 flagV sameSpan sameBag
  generalize oldR base r.1 = o at hold ⊢
  obtain ⟨o0, o1, o2⟩ := hold
  -- what comes behind the first flag
  have h9 : ∀ v a1 a3 a4 a5 a6 a7, 0 ≤ v → v < 32 → gen3_writer_put.l9 BIG l r.1 r.2.1 r.2.2.1 r.2.2.2.1.1 r.2.2.2.1.2 r.2.2.2.2.1 r.2.2.2.2.2 last base BIG v a1 o.1.2.1 a3 a4 a5 a6 a7 = _ :=
    fun v a1 a3 a4 a5 a6 a7 hv0 hv1 => put9 l r.1 r.2.1 r.2.2.1 r.2.2.2.1.1 r.2.2.2.1.2 r.2.2.2.2.1 r.2.2.2.2.2 last base v a1 o.1.2.1 a3 a4 a5 a6 a7 hb (by omega) f3 f4 o0 o1 hv0 hv1 hl f7 f2 hlast hlt
  have h7 : ∀ v, 0 ≤ v → v < 16 → gen3_writer_put.l7 BIG l r.1 r.2.1 r.2.2.1 r.2.2.2.1.1 r.2.2.2.1.2 r.2.2.2.2.1 r.2.2.2.2.2 last base BIG o.2 v o.1.1 o.1.2.1 o.1.2.2.1 o.1.2.2.2.1.1 o.1.2.2.2.1.2 o.1.2.2.2.2.1 o.1.2.2.2.2.2 =
      gen3_writer_put.l9 BIG l r.1 r.2.1 r.2.2.1 r.2.2.2.1.1 r.2.2.2.1.2 r.2.2.2.2.1 r.2.2.2.2.2 last base BIG (v + if (o.2 && (!r.2.2.2.2.1 && cmpGo o.1.2.2.2.2.2 r.2.2.2.2.2 == 0)) = true then 16 else 0) o.1.1 o.1.2.1 o.1.2.2.1 o.1.2.2.2.1.1 o.1.2.2.2.1.2 o.1.2.2.2.2.1 o.1.2.2.2.2.2 := by
    intro v hv0 hv1
    rw [gen3_writer_put.l7_at BIG BIG (BIG - 1) big_eq]
    unfold gen3_writer_put.b7
    cases o.2
    · simp
    · cases r.2.2.2.2.1
      · simp only [Bool.not_false, if_true, o2, hsb, Bool.and_self, Bool.true_and]
        by_cases hc : cmpGo o.1.2.2.2.2.2 r.2.2.2.2.2 = 0
        · simp only [hc, beq_self_eq_true, if_true]
          rw [(flag_at v hv0 (by omega)).2.2.2.2 hv1]
        · have : (cmpGo o.1.2.2.2.2.2 r.2.2.2.2.2 == 0) = false := by simpa using hc
          simp [this]
      · simp
  have h5 : ∀ v, 0 ≤ v → v < 8 → gen3_writer_put.l5 BIG l r.1 r.2.1 r.2.2.1 r.2.2.2.1.1 r.2.2.2.1.2 r.2.2.2.2.1 r.2.2.2.2.2 last base BIG o.2 v o.1.1 o.1.2.1 o.1.2.2.1 o.1.2.2.2.1.1 o.1.2.2.2.1.2 o.1.2.2.2.2.1 o.1.2.2.2.2.2 =
      gen3_writer_put.l7 BIG l r.1 r.2.1 r.2.2.1 r.2.2.2.1.1 r.2.2.2.1.2 r.2.2.2.2.1 r.2.2.2.2.2 last base BIG o.2 (v + if (o.2 && (o.1.2.2.2.1.1 == r.2.2.2.1.1 && o.1.2.2.2.1.2 == r.2.2.2.1.2)) = true then 8 else 0) o.1.1 o.1.2.1 o.1.2.2.1 o.1.2.2.2.1.1 o.1.2.2.2.1.2 o.1.2.2.2.2.1 o.1.2.2.2.2.2 := by
    intro v hv0 hv1
    rw [gen3_writer_put.l5_at BIG BIG (BIG - 1) big_eq]
    unfold gen3_writer_put.b5
    cases o.2
    · simp
    · cases h1 : (o.1.2.2.2.1.1 == r.2.2.2.1.1)
      · simp
      · cases h2 : (o.1.2.2.2.1.2 == r.2.2.2.1.2)
        · simp
        · simp only [if_true, Bool.and_self]
          rw [(flag_at v hv0 (by omega)).2.2.2.1 hv1]
  have hst : ∀ A : Int → Option (List Int), (if r.2.2.2.2.1 then A (bits Go.BinOp.or .i64 r.2.2.1 4) else A r.2.2.1) = A (r.2.2.1 + if r.2.2.2.2.1 then 4 else 0) := by
    intro A
    cases r.2.2.2.2.1
    · simp
    · simp only [if_true]
      rw [(flag_at r.2.2.1 f5 (by omega)).2.2.1 (by omega)]
  rw [hst (fun v => gen3_writer_put.l5 BIG l r.1 r.2.1 r.2.2.1 r.2.2.2.1.1 r.2.2.2.1.2 r.2.2.2.2.1 r.2.2.2.2.2 last base BIG o.2 v o.1.1 o.1.2.1 o.1.2.2.1 o.1.2.2.2.1.1 o.1.2.2.2.1.2 o.1.2.2.2.2.1 o.1.2.2.2.2.2)]
  generalize hs1 : (o.2 && (o.1.2.2.2.1.1 == r.2.2.2.1.1 && o.1.2.2.2.1.2 == r.2.2.2.1.2)) = s1 at h5 ⊢
  generalize hs2 : (o.2 && (!r.2.2.2.2.1 && cmpGo o.1.2.2.2.2.2 r.2.2.2.2.2 == 0)) = s2 at h7 ⊢
  have hcut : s2 = true → r.2.2.2.2.1 = false := by
    intro h
    rw [← hs2] at h
    simp at h
    exact h.2.1
  rw [h5 _ (by split <;> omega) (by split <;> omega), h7 _ (by split <;> split <;> omega) (by split <;> split <;> omega), h9 _ _ _ _ _ _ _ (by split <;> split <;> split <;> omega) (by split <;> split <;> split <;> omega)]
  congr 2
  congr 1
  generalize r.2.2.2.2.1 = c at hcut ⊢
  generalize r.2.2.1 = st at f5 f6 ⊢
  have hst4 : st = 0 ∨ st = 1 ∨ st = 2 ∨ st = 3 := by omega
  cases c <;> cases s1 <;> cases s2 <;> rcases hst4 with rfl | rfl | rfl | rfl <;> first | rfl | simp at hcut
theorem viF_le : ∀ (j k : Nat) (v : Int), 0 ≤ v → v < 128 ^ (k + 1) → (viF j v).length ≤ k + 1
  | 0, k, v, _, _ => by simp [viF]
  | j + 1, k, v, h0, h => by
    rw [viF]
    split
    · rename_i hc
      cases k with
      | zero => simp at h; omega
      | succ k =>
        have := viF_le j k (v / 128) (by omega) (by rw [Int.pow_succ] at h; generalize (128 : Int) ^ (k + 1) = M at h ⊢; omega)
        simp; omega
    · simp
theorem vi_le (k : Nat) (v : Int) (h0 : 0 ≤ v) (h : v < 128 ^ (k + 1)) : (vi v).length ≤ k + 1 := viF_le 9 k v h0 h
noncomputable def recs3 (base : LR) : Int → LR → List Int
  | _, [] => []
  | last, r :: rs => rec3 (oldR base r.1) last r ++ recs3 base r.1 rs
noncomputable def head3 (kind from0 inc lo hi seq target life epoch base : Int) (n : Int) : List Int :=
  kind :: (vi from0 ++ (vi inc ++ ((lo * 16 + hi) :: ((if hasF kind 0 then vi seq else []) ++ ((if hasF kind 1 then vi target else []) ++ ((if hasF kind 2 then vi life ++ vi epoch else []) ++ ((if hasF kind 3 then vi base else []) ++ (if hasF kind 4 then vi n else []))))))))
noncomputable def baseF (base : Int) (l : LR) : LR := if base == 0 then [] else l
noncomputable def body3 (kind from0 inc lo hi seq target life epoch base : Int) (recs : LR) (l : LR) : List Int :=
  head3 kind from0 inc lo hi seq target life epoch base (recs.length : Int) ++ recs3 (baseF base l) (-1) recs
theorem fld3_len {x : Int × List Int} (h : x.2.length ≤ 4096) : (fld3 x).length ≤ 3 + x.2.length := by
  have := vi_le 1 (x.2.length : Int) (by omega) (by simp; omega)
  simp [fld3]; omega
theorem flat3_len : ∀ (b : LF), (∀ x ∈ b, x.2.length ≤ 4096) → (((b.flatMap fld3).length : Nat) : Int) ≤ bagLen b
  | [], _ => by simp [bagLen]
  | x :: b, h => by
    have h1 := fld3_len (h x (by simp))
    have h2 := flat3_len b fun y hy => h y (by simp [hy])
    have e : bagLen (x :: b) = 3 + x.2.length + bagLen b := by simp [bagLen]
    rw [List.flatMap_cons, List.length_append, e]
    omega
theorem bag3_len {b : LF} (h : bagOk b = true) : ((bag3 b).length : Int) ≤ 1 + bagLen b := by
  have hl := bagOk_len h
  have ht := bag_tags h
  have h1 := vi_le 0 (b.length : Int) (by omega) (by simp; omega)
  have h2 := flat3_len b fun x hx => (ht x hx).2.2
  unfold bag3
  rw [List.length_append]
  omega
/-- by rising ids -/
def risen : Int → LR → Prop
  | _, [] => True
  | last, r :: rs => last < r.1 ∧ risen r.1 rs
theorem whGo_risen : ∀ (l : LR) (i last : Int), (whGo l i last).1 = i + (l.length : Int) → risen last l
  | [], _, _, _ => trivial
  | x :: l, i, last, h => by
    unfold whGo at h
    split at h
    · simp at h; omega
    · rename_i hc
      simp only [Bool.or_eq_true, not_or, Bool.not_eq_true', Bool.not_eq_false] at hc
      exact ⟨by simpa using hc.2, whGo_risen l (i + 1) x.1 (by simp only [List.length_cons] at h; omega)⟩
theorem sorted_facts {l : LR} (h : sortedF l = true) : (∀ r ∈ l, recOkT r = true) ∧ risen (-1) l := by
  unfold sortedF at h
  have h' : (whGo l 0 (-1)).1 = 0 + (l.length : Int) := by simpa using h
  exact ⟨whGo_all l 0 (-1) h', whGo_risen l 0 (-1) h'⟩
theorem lives_facts {kind life epoch base : Int} (h : livesF kind life epoch base = true) : 0 ≤ life ∧ life ≤ 281474976710655 ∧ 0 ≤ epoch ∧ epoch ≤ 65535 ∧ 0 ≤ base ∧ base ≤ 65535 ∧ (hasF kind 2 = false → life = 0 ∧ epoch = 0) ∧ (hasF kind 3 = false → base = 0) ∧ (base = 0 ∨ base < epoch) ∧ (epoch = 0 → life = 0 ∧ kind ≠ 9) := by
  unfold livesF at h
  split at h
  · cases h
  rename_i c1
  split at h
  · cases h
  rename_i c2
  simp only [Bool.or_eq_true, Bool.not_eq_true', not_or, Bool.not_eq_false] at c1
  have w1 := within_facts c1.1 (by omega)
  have w2 := within_facts c1.2 (by omega)
  simp only [Bool.or_eq_true, Bool.and_eq_true, beq_iff_eq, decide_eq_true_eq, bne_iff_ne, ne_eq] at h c2
  refine ⟨w1.1, w1.2, w2.1, w2.2, by omega, by omega, ?_, ?_, by omega, ?_⟩
  · intro h2
    rw [h2] at c1
    simp [withinF] at c1
    exact ⟨c1.1, c1.2⟩
  · intro h3
    rw [h3] at h
    simpa using h
  · intro he
    refine ⟨?_, ?_⟩
    · exact Classical.byContradiction fun hl => c2 ⟨he, .inl hl⟩
    · exact fun hk => c2 ⟨he, .inr hk⟩
theorem valid_recs {kind from0 inc lo hi seq target life epoch base : Int} {recs : LR} (h : validF kind from0 inc lo hi seq target life epoch base recs = true) :
    (hasF kind 4 = false → recs = []) ∧ risen (-1) recs := by
  unfold validF at h
  have h1 : ((ofF kind).1.toList == (⟨#[]⟩ : ByteArray).toList || (decide (from0 < 0) || (decide (from0 > 4095) || (decide (inc < 0) || (decide (inc > 281474976710655) || !okS lo hi))))) = false := by
    cases hc : ((ofF kind).1.toList == (⟨#[]⟩ : ByteArray).toList || (decide (from0 < 0) || (decide (from0 > 4095) || (decide (inc < 0) || (decide (inc > 281474976710655) || !okS lo hi))))) with
    | false => rfl
    | true => rw [hc] at h; cases h
  rw [h1] at h
  have h2 : (!withinF (hasF kind 0) seq 0 65535 || (!withinF (hasF kind 1) target (if kind == 3 then 1 else 0) (if kind == 3 then 3 else 4095) || !livesF kind life epoch base)) = false := by
    cases hc : (!withinF (hasF kind 0) seq 0 65535 || (!withinF (hasF kind 1) target (if kind == 3 then 1 else 0) (if kind == 3 then 3 else 4095) || !livesF kind life epoch base)) with
    | false => rfl
    | true => rw [hc] at h; cases h
  rw [h2] at h
  simp only [Bool.false_eq_true, if_false] at h
  cases h4 : hasF kind 4
  · rw [h4] at h
    have : recs = [] := List.eq_nil_of_length_eq_zero (by simpa using h)
    subst this
    exact ⟨fun _ => rfl, trivial⟩
  · rw [h4] at h
    simp at h
    exact ⟨by simp, (sorted_facts h.2).2⟩
theorem rec3_any {o : REC × Bool} {r : REC} {last : Int} (hr : recOkT r = true) : (rec3 o last r).length ≤ 5000 := by
  obtain ⟨f1, f2, f3, f4, f5, f6, f7, f8, f9⟩ := recOk_facts hr
  have a1 := vi_len (r.1 - last - 1)
  have a2 := vi_len (zigF (r.2.1 - o.1.2.1))
  have a3 := bag3_len f8
  have a4 := bagOk_len f8
  unfold rec3
  simp only [List.length_append, List.length_cons]
  have e1 : (if sameSpan o r = true then ([] : List Int) else [r.2.2.2.1.1 * 16 + r.2.2.2.1.2]).length ≤ 1 := by split <;> simp
  have e2 : (if (r.2.2.2.2.1 || sameBag o r) = true then ([] : List Int) else bag3 r.2.2.2.2.2).length ≤ 4300 := by
    split
    · simp
    · omega
  omega
theorem lay_recs (kind from0 inc lo hi seq target life epoch base : Int) (recs l base' : LR) (hr : ∀ r ∈ recs, recOkT r = true) (hb : ∀ r ∈ base', recOkT r = true) (hbn : base'.length < 1000000000) (hn : recs.length ≤ 1000) :
    ∀ (k i : Nat) (last : Int) (acc : List Int), i ≤ recs.length → recs.length - i < k → -1 ≤ last → risen last (recs.drop i) → acc.length + 5000 * (recs.length - i) ≤ 1000000000 →
    gen3_lay.l19 BIG kind from0 inc lo hi seq target life epoch base recs l k base' last (recs.length : Int) (i : Int) acc = some (acc ++ recs3 base' last (recs.drop i)) := by
  intro k
  induction k with
  | zero => intro i last acc h1 h2; omega
  | succ k ih =>
    intro i last acc h1 h2 h3 h4 h5
    rw [gen3_lay.l19]
    unfold gen3_lay.b19
    simp only [veil_eq]
    by_cases hi' : i < recs.length
    · rw [if_pos (by simp; omega), idx_at, List.getElem?_eq_getElem hi']
      dsimp only
      have hm := hr recs[i] (List.getElem_mem hi')
      rw [List.drop_eq_getElem_cons hi'] at h4 ⊢
      generalize recs[i] = r at hm h4 ⊢
      obtain ⟨h6, h7⟩ := h4
      have hlen := rec3_any (o := oldR base' r.1) (last := last) hm
      rw [put.pure acc r last base' hm hb hbn h3 h6 (by omega)]
      dsimp only
      have hid := (recOk_facts hm).1
      rw [wrap_small _ (by omega) (by omega), show ((i : Int) + 1) = ((i + 1 : Nat) : Int) from by omega, ih (i + 1) r.1 _ (by omega) (by omega) (by omega) h7 (by simp; omega)]
      simp [recs3]
    · rw [if_neg (by simp; omega), List.drop_of_length_le (by omega), if_pos ((roomy_iff _).2 (by omega))]
      simp [recs3]
theorem kind_byte {kind : Int} (h1 : 1 ≤ kind) (h2 : kind ≤ 9) : fitsF 1 kind = true := fitByte kind (by omega) (by omega)
theorem Form1 (l : List Int) (a : Int) (h0 : 0 ≤ a) (h1 : a < 9223372036854775808) (hl : l.length ≤ 1000000) : gen3_writer_form.f BIG l [a] = some (l ++ vi a) := by
  rw [Form.pure l [a] (by intro v hv; simp at hv; omega) (by simp) (by simp; omega)]
  simp
theorem Form2 (l : List Int) (a b : Int) (h0 : 0 ≤ a) (h1 : a < 9223372036854775808) (h2 : 0 ≤ b) (h3 : b < 9223372036854775808) (hl : l.length ≤ 1000000) : gen3_writer_form.f BIG l [a, b] = some (l ++ (vi a ++ vi b)) := by
  rw [Form.pure l [a, b] (by intro v hv; simp at hv; omega) (by simp) (by simp; omega)]
  simp
set_option maxHeartbeats 4000000 in
theorem lay.pure (kind from0 inc lo hi seq target life epoch base : Int) (recs l : LR) (hv : validF kind from0 inc lo hi seq target life epoch base recs = true) (hl : ∀ r ∈ l, recOkT r = true) (hln : l.length < 1000000000) :
    gen3_lay.f BIG kind from0 inc lo hi seq target life epoch base recs l = some (body3 kind from0 inc lo hi seq target life epoch base recs l) := by
  obtain ⟨v1, v2, v3, v4, v5, v6, v7, v8, v9, v10, v11, v12, v13, v14⟩ := valid_facts hv
  obtain ⟨w1, w2, w3, w4, w5, w6, _⟩ := lives_facts v12
  obtain ⟨_, hris⟩ := valid_recs hv
  have hs := (okS_iff _ _).1 v7
  have n1 := vi_len from0
  have n2 := vi_len inc
  have n3 := vi_len seq
  have n4 := vi_len target
  have n5 := vi_len life
  have n6 := vi_len epoch
  have n7 := vi_len base
  have n8 := vi_len (recs.length : Int)
  have hlp : ∀ (base' : LR) (hb : ∀ r ∈ base', recOkT r = true) (hbn : base'.length < 1000000000) (acc : List Int), acc.length ≤ 1000 → gen3_lay.l19 BIG kind from0 inc lo hi seq target life epoch base recs l BIG base' (-1) (recs.length : Int) 0 acc = some (acc ++ recs3 base' (-1) recs) := by
    intro base' hb hbn acc ha
    have := lay_recs kind from0 inc lo hi seq target life epoch base recs l base' v14 hb hbn (by omega) BIG 0 (-1) acc (by omega) (by rw [BIG_eq]; omega) (by omega) (by simpa using hris) (by omega)
    simpa using this
  have hb0 : ∀ acc : List Int, acc.length ≤ 1000 → gen3_lay.l19 BIG kind from0 inc lo hi seq target life epoch base recs l BIG [] (-1) (recs.length : Int) 0 acc = some (acc ++ recs3 [] (-1) recs) := fun acc ha => hlp [] (by simp) (by simp) acc ha
  have hb1 : ∀ acc : List Int, acc.length ≤ 1000 → gen3_lay.l19 BIG kind from0 inc lo hi seq target life epoch base recs l BIG l (-1) (recs.length : Int) 0 acc = some (acc ++ recs3 l (-1) recs) := fun acc ha => hlp l hl hln acc ha
  clear hlp
  unfold gen3_lay.f gen3_lay.b
  simp only [veil_eq]
  rw [kind_byte v1 v2, be_one kind (by omega) (by omega), code_eq v7, fitByte (lo * 16 + hi) (by omega) (by omega), be_one (lo * 16 + hi) (by omega) (by omega), Form2 [kind] from0 inc (by omega) (by omega) (by omega) (by omega) (by simp)]
  dsimp only
  have hro : roomy ([kind] ++ (vi from0 ++ vi inc)) = true := (roomy_iff _).2 (by simp; omega)
  unfold body3 head3 baseF
  simp only [if_true, hro, and_self]
  cases hb : (base == 0) <;> cases h0 : hasF kind 0 <;> cases h1 : hasF kind 1 <;> cases h2 : hasF kind 2 <;> cases h3 : hasF kind 3 <;> cases h4 : hasF kind 4 <;>
    simp only [Bool.false_eq_true, if_false, if_true] <;>
    repeat (first | (rw [Form1 _ _ (by omega) (by omega) (by simp; omega)]; dsimp only) | (rw [Form2 _ _ _ (by omega) (by omega) (by omega) (by omega) (by simp; omega)]; dsimp only))
  all_goals (first | rw [hb0 _ (by simp; omega)] | rw [hb1 _ (by simp; omega)])
  all_goals simp
noncomputable def enc3 (kind from0 inc lo hi seq target life epoch base : Int) (recs l : LR) : List Int × Int :=
  if validF kind from0 inc lo hi seq target life epoch base recs && sortedF l then (if (body3 kind from0 inc lo hi seq target life epoch base recs l).length > 65499 then ([], 14) else (body3 kind from0 inc lo hi seq target life epoch base recs l, 0)) else ([], 1)
theorem Enc3.pure (kind from0 inc lo hi seq target life epoch base : Int) (recs l : LR) (hr : smallRecs recs = true) (hl : smallRecs l = true) (hln : l.length < 1000000000) :
    gen3_Encode.f BIG kind from0 inc lo hi seq target life epoch base recs l = some ((enc3 kind from0 inc lo hi seq target life epoch base recs l).1, (enc3 kind from0 inc lo hi seq target life epoch base recs l).2) := by
  unfold gen3_Encode.f gen3_Encode.b enc3
  simp only [veil_eq]
  rw [hr, hl]
  cases hv : validF kind from0 inc lo hi seq target life epoch base recs
  · rfl
  · cases hs : sortedF l
    · rfl
    · rw [lay.pure kind from0 inc lo hi seq target life epoch base recs l hv (sorted_facts hs).1 hln]
      simp only [Bool.not_true, Bool.false_eq_true, if_false, if_true, Bool.and_self]
      by_cases hc : (body3 kind from0 inc lo hi seq target life epoch base recs l).length > 65499
      · rw [if_pos (by simp; omega), if_pos hc]
      · rw [if_neg (by simp; omega), if_neg hc]
theorem F15 (b : List Int) (v : Int) (h0 : 0 ≤ v) (h1 : v < 9223372036854775808) (hl : b.length ≤ 1000000000000) : law15_form.f BIG b v = some (b ++ vi v) := by
  have := vi_len v
  unfold law15_form.f law15_form.b
  simp only [veil_eq]
  rw [wrapU64 v h0 (by omega), Of.pure v h0 (by omega)]
  dsimp only
  rw [if_pos (by simp [lim]; omega)]
theorem byteW (v : Int) (h0 : 0 ≤ v) (h1 : v < 256) : Go.IntKind.wrap .u8 v = v := by rw [wrapU8]; omega
theorem one_fields (l : List Int) (id inc st lo hi : Int) (cut : Bool) (bag : LF) (last : Int) (base : LR) (hb : ∀ x ∈ bag, 0 ≤ x.1 ∧ x.1 ≤ 255 ∧ x.2.length ≤ 1000000) (hn : bag.length < 1000000) :
    ∀ (k i : Nat) (acc : List Int), i ≤ bag.length → bag.length - i < k → acc.length + 2000000 * (bag.length - i) ≤ 900000000000 →
    law15_one.l18 BIG l id inc st lo hi cut bag last base k (i : Int) acc = some (acc ++ (bag.drop i).flatMap fld3) := by
  intro k
  induction k with
  | zero => intro i acc h1 h2; omega
  | succ k ih =>
    intro i acc h1 h2 h3
    rw [law15_one.l18]
    unfold law15_one.b18
    simp only [veil_eq]
    by_cases hi' : i < bag.length
    · rw [if_pos (by simp; omega), idx_at, List.getElem?_eq_getElem hi']
      dsimp only
      obtain ⟨t0, t1, t2⟩ := hb bag[i] (List.getElem_mem hi')
      rw [List.drop_eq_getElem_cons hi', List.flatMap_cons]
      generalize bag[i] = x at t0 t1 t2 ⊢
      have hl := vi_len (x.2.length : Int)
      rw [if_pos (by simp [lim]; omega), byteW _ t0 (by omega), F15 _ _ (by omega) (by omega) (by simp; omega)]
      dsimp only
      rw [if_pos (by simp [lim]; omega), wrap_small _ (by omega) (by omega), show ((i : Int) + 1) = ((i + 1 : Nat) : Int) from by omega, ih (i + 1) _ (by omega) (by omega) (by simp; omega)]
      simp [fld3]
    · rw [if_neg (by simp; omega), List.drop_of_length_le (by omega)]
      simp
set_option maxHeartbeats 8000000 in
theorem one.pure (l : List Int) (r : REC) (last : Int) (base : LR) (hr : recOkT r = true) (hbase : ∀ x ∈ base, recOkT x = true) (hbn : base.length < 1000000000) (hlast : -1 ≤ last) (hlt : last < r.1) (hl : l.length ≤ 10000000000) :
    law15_one.f BIG l r.1 r.2.1 r.2.2.1 r.2.2.2.1.1 r.2.2.2.1.2 r.2.2.2.2.1 r.2.2.2.2.2 last base = some (l ++ rec3 (oldR base r.1) last r) := by
  obtain ⟨f1, f2, f3, f4, f5, f6, f7, f8, f9⟩ := recOk_facts hr
  have hbl := bagOk_len f8
  have hbt := bag_tags f8
  have hb : ∀ x ∈ r.2.2.2.2.2, 0 ≤ x.1 ∧ x.1 ≤ 255 ∧ x.2.length ≤ 1000000 := fun x hx => by have := hbt x hx; omega
  have hold : 0 ≤ (oldR base r.1).1.2.1 ∧ (oldR base r.1).1.2.1 ≤ 281474976710655 ∧ smallBag (oldR base r.1).1.2.2.2.2.2 = true := by
    rcases oldR_mem (base := base) (id := r.1) with ⟨_, h⟩ | ⟨_, h, _⟩
    · rw [h]; exact ⟨by simp, by simp, rfl⟩
    · have := recOk_facts (hbase _ h)
      have hb2 := bagOk_len this.2.2.2.2.2.2.2.1
      exact ⟨this.2.2.1, this.2.2.2.1, (smallBag_iff _).2 ⟨by omega, fun x hx => by have := bag_tags this.2.2.2.2.2.2.2.1 x hx; omega⟩⟩
  have hsb : smallBag r.2.2.2.2.2 = true := (smallBag_iff _).2 ⟨by omega, fun x hx => by have := hbt x hx; omega⟩
  have hfs := (okS_iff _ _).1 f7
  have hend : ∀ acc : List Int, acc.length ≤ 100000000000 → law15_one.l18 BIG l r.1 r.2.1 r.2.2.1 r.2.2.2.1.1 r.2.2.2.1.2 r.2.2.2.2.1 r.2.2.2.2.2 last base BIG 0 acc = some (acc ++ r.2.2.2.2.2.flatMap fld3) := by
    intro acc ha
    have := one_fields l r.1 r.2.1 r.2.2.1 r.2.2.2.1.1 r.2.2.2.1.2 r.2.2.2.2.1 r.2.2.2.2.2 last base hb (by omega) BIG 0 acc (by omega) (by rw [BIG_eq]; omega) (by omega)
    simpa using this
  unfold law15_one.f law15_one.b
  simp only [veil_eq]
  rw [Find.pure base r.1 (fine_of hbase hbn)]
  dsimp only
  unfold rec3 flagV sameSpan sameBag
  generalize oldR base r.1 = o at hold ⊢
  obtain ⟨o0, o1, o2⟩ := hold
  obtain ⟨id, inc, st, ⟨lo, hi⟩, cut, bag⟩ := r
  obtain ⟨⟨oid, oinc, ost, ⟨olo, ohi⟩, ocut, obag⟩, ok⟩ := o
  dsimp only at *
  have n1 := vi_len (id - last - 1)
  have hz : 0 ≤ zigF (inc - oinc) ∧ zigF (inc - oinc) < 1000000000000000000 := by unfold zigF; split <;> omega
  have n2 := vi_len (zigF (inc - oinc))
  have n3 := vi_len (bag.length : Int)
  have a1 : Go.IntKind.wrap .i64 (id - last) = id - last := wrap_small _ (by omega) (by omega)
  have a2 : Go.IntKind.wrap .i64 (id - last - 1) = id - last - 1 := wrap_small _ (by omega) (by omega)
  have a3 : Go.IntKind.wrap .i64 (lo * 16) = lo * 16 := wrap_small _ (by omega) (by omega)
  have a4 : Go.IntKind.wrap .i64 (lo * 16 + hi) = lo * 16 + hi := wrap_small _ (by omega) (by omega)
  have a5 : Go.IntKind.wrap .u8 (lo * 16 + hi) = lo * 16 + hi := byteW _ (by omega) (by omega)
  have a6 : Go.IntKind.wrap .i64 (st + 4) = st + 4 := wrap_small _ (by omega) (by omega)
  have a7 : Go.IntKind.wrap .i64 (st + 8) = st + 8 := wrap_small _ (by omega) (by omega)
  have a8 : Go.IntKind.wrap .i64 (st + 4 + 8) = st + 4 + 8 := wrap_small _ (by omega) (by omega)
  have a9 : Go.IntKind.wrap .i64 (st + 16) = st + 16 := wrap_small _ (by omega) (by omega)
  have a10 : Go.IntKind.wrap .i64 (st + 8 + 16) = st + 8 + 16 := wrap_small _ (by omega) (by omega)
  have b1 : Go.IntKind.wrap .u8 st = st := byteW _ (by omega) (by omega)
  have b2 : Go.IntKind.wrap .u8 (st + 4) = st + 4 := byteW _ (by omega) (by omega)
  have b3 : Go.IntKind.wrap .u8 (st + 8) = st + 8 := byteW _ (by omega) (by omega)
  have b4 : Go.IntKind.wrap .u8 (st + 4 + 8) = st + 4 + 8 := byteW _ (by omega) (by omega)
  have b5 : Go.IntKind.wrap .u8 (st + 16) = st + 16 := byteW _ (by omega) (by omega)
  have b6 : Go.IntKind.wrap .u8 (st + 8 + 16) = st + 8 + 16 := byteW _ (by omega) (by omega)
  have z1 : Go.IntKind.wrap .i64 (inc - oinc) = inc - oinc := wrap_small _ (by omega) (by omega)
  have z2 : varint_Zig.f BIG (inc - oinc) = some (zigF (inc - oinc)) := Zig.pure _ (by omega) (by omega)
  have z3 : varint_Of.f BIG (zigF (inc - oinc)) = some (vi (zigF (inc - oinc))) := Of.pure _ hz.1 (by omega)
  have c1 : (olo != lo) = !(olo == lo) := rfl
  have c2 : (ohi != hi) = !(ohi == hi) := rfl
  rw [F15 l _ (by rw [a1, a2]; omega) (by rw [a1, a2]; omega) (by omega)]
  simp only [c1, c2, a1, a2, a3, a4, a5, a6, a7, a8, a9, a10, b1, b2, b3, b4, b5, b6, z1, z2, z3, o2, hsb, Bool.and_self, if_true]
  generalize cmpGo obag bag = cb
  generalize hcl : (olo == lo) = cl
  generalize hch : (ohi == hi) = ch
  cases cut <;> cases ok <;> cases cl <;> cases ch <;> cases (cb == 0) <;>
    simp only [Bool.not_true, Bool.not_false, Bool.false_eq_true, if_false, if_true, Bool.and_self, Bool.and_true, Bool.and_false, Bool.true_and, Bool.false_and, a6, a7, a8, a9, a10, b1, b2, b3, b4, b5, b6] <;>
    (repeat (first | (rw [if_pos (show _ ≤ lim from by simp [lim]; omega)]) | (rw [F15 _ _ (by omega) (by omega) (by simp; omega)]; dsimp only)))
  all_goals (first | (rw [hend _ (by simp; omega)]; simp [bag3]; done) | (simp [bag3]; done) | (simp [bag3]; omega))
theorem pv_stop : ∀ (p : List Int) (k : Nat) (top : Bool) (c : Int) (s : List Int), (∀ x ∈ p, 128 ≤ x) → p.length ≤ k → c < 128 →
    (pv top k (p ++ [c]) = none ∧ pv top k (p ++ c :: s) = none) ∨ ∃ v, pv top k (p ++ [c]) = some (v, []) ∧ pv top k (p ++ c :: s) = some (v, s) := by
  intro p
  induction p with
  | nil =>
    intro k top c s hp hk hc
    cases k with
    | zero =>
      simp only [List.nil_append, pv]
      by_cases h1 : c > 1
      · rw [if_pos h1, if_pos h1]; exact Or.inl ⟨rfl, rfl⟩
      · rw [if_neg h1, if_neg h1]
        by_cases h2 : c = 0
        · rw [if_pos h2, if_pos h2]; exact Or.inl ⟨rfl, rfl⟩
        · rw [if_neg h2, if_neg h2]; exact Or.inr ⟨c, rfl, rfl⟩
    | succ k =>
      simp only [List.nil_append, pv]
      rw [if_pos hc, if_pos hc]
      by_cases h2 : c = 0 ∧ top = false
      · rw [if_pos h2, if_pos h2]; exact Or.inl ⟨rfl, rfl⟩
      · rw [if_neg h2, if_neg h2]; exact Or.inr ⟨c, rfl, rfl⟩
  | cons x p ih =>
    intro k top c s hp hk hc
    cases k with
    | zero => simp at hk
    | succ k =>
      have hx : 128 ≤ x := hp x (List.mem_cons_self ..)
      simp only [List.cons_append, pv]
      rw [if_neg (by omega), if_neg (by omega)]
      rcases ih k false c s (fun y h => hp y (List.mem_cons_of_mem _ h)) (by simpa using hk) hc with ⟨a, b⟩ | ⟨v, a, b⟩
      · rw [a, b]; exact Or.inl ⟨rfl, rfl⟩
      · rw [a, b]; exact Or.inr ⟨_, rfl, rfl⟩
theorem pv_long : ∀ (p : List Int) (k : Nat) (top : Bool) (s : List Int), (∀ x ∈ p, 128 ≤ x) → p.length = k + 1 → pv top k (p ++ s) = none := by
  intro p
  induction p with
  | nil => intro k top s hp hk; simp at hk
  | cons x p ih =>
    intro k top s hp hk
    have hx : 128 ≤ x := hp x (List.mem_cons_self ..)
    cases k with
    | zero =>
      simp only [List.cons_append, pv]
      rw [if_pos (by omega)]
    | succ k =>
      simp only [List.cons_append, pv]
      rw [if_neg (by omega), ih k false s (fun y h => hp y (List.mem_cons_of_mem _ h)) (by simpa using hk)]
theorem pv_short : ∀ (p : List Int) (k : Nat) (top : Bool), (∀ x ∈ p, 128 ≤ x) → p.length ≤ k → pv top k p = none := by
  intro p
  induction p with
  | nil => intro k top hp hk; cases k <;> rfl
  | cons x p ih =>
    intro k top hp hk
    have hx : 128 ≤ x := hp x (List.mem_cons_self ..)
    cases k with
    | zero => simp at hk
    | succ k =>
      rw [pv, if_neg (by omega), ih k false (fun y h => hp y (List.mem_cons_of_mem _ h)) (by simpa using hk)]
theorem readF_one (l : List Int) (a : Nat) (h : a < l.length) : readF l 1 (a : Int) false = (l[a], ((a + 1 : Nat) : Int), false) := by
  unfold readF
  have hn : (if (decide ((1 : Int) < 1) || decide ((1 : Int) > 7)) = true then (-1 : Int) else 1) = 1 := by decide
  simp only [hn]
  have hs : stepF l 1 (a : Int) false = (seg l a 1, true, (a : Int) + 1, false) := by
    unfold stepF
    rw [if_neg (by decide), if_neg (by simp; omega)]
  rw [hs]
  dsimp only
  rw [if_pos rfl]
  have e : seg l (a : Int) 1 = [l[a]] := by
    unfold seg
    rw [show ((a : Int) + 1).toNat = a + 1 from by omega, Int.toNat_natCast, List.take_succ_eq_append_getElem h, List.drop_append_of_le_length (by simp; omega), List.drop_of_length_le (by simp; omega)]
    rfl
  rw [e]
  simp [numB]
theorem readF_end (l : List Int) (a : Nat) (h : l.length ≤ a) : readF l 1 (a : Int) false = (0, (a : Int), true) := by
  unfold readF
  have hn : (if (decide ((1 : Int) < 1) || decide ((1 : Int) > 7)) = true then (-1 : Int) else 1) = 1 := by decide
  simp only [hn]
  have hs : stepF l 1 (a : Int) false = ([], false, (a : Int), true) := by
    unfold stepF
    rw [if_neg (by decide), if_pos (by simp; omega)]
  rw [hs]
  rfl
theorem readF_bad (l : List Int) (a : Int) : readF l 1 a true = (0, a, true) := by
  unfold readF stepF
  simp
/-- what a number's reader has done -/
def Got (bs : List Int) (a0 : Nat) (most : Int) (o : Option (Int × Bool × List Int × Int × Bool)) : Prop :=
  ∃ (v : Int) (ok : Bool) (a : Nat) (bad : Bool), o = some (v, ok, bs, (a : Int), bad) ∧ a ≤ bs.length ∧
    match pV (bs.drop a0) with
    | some (w, r) => if w ≤ most then v = w ∧ ok = true ∧ bad = false ∧ bs.drop a = r else ok = false ∧ v = 0
    | none => ok = false ∧ v = 0
theorem From.loop (fuel : Nat) (bs : List Int) (a0 : Nat) (bad0 : Bool) (most : Int) (hb : inB bs = true) (m0 : 0 ≤ most) (m1 : most < 9223372036854775808) : ∀ (j k : Nat) (a : Nat) (p : List Int), p.length + j = 10 → j < k → (∀ x ∈ p, 128 ≤ x ∧ x ≤ 255) → bs.drop a0 = p ++ bs.drop a → a ≤ bs.length →
    Got bs a0 most (varint_From.l2 fuel bs (a0 : Int) bad0 most k (a : Int) false p) := by
  obtain ⟨hl, hc⟩ := (inB_iff bs).1 hb
  have gp : ∀ q : List Int, (∀ x ∈ q, 0 ≤ x ∧ x ≤ 255) → q.length ≤ 10 → _ := fun q h1 h2 => Get.pure q h1 (by omega)
  intro j
  induction j with
  | zero =>
    intro k a p hj hk hp hd ha
    obtain ⟨k, rfl⟩ : ∃ k', k = k' + 1 := ⟨k - 1, by omega⟩
    rw [varint_From.l2]
    unfold varint_From.b2
    simp only [veil_eq]
    rw [if_neg (by simp; omega)]
    have hn : pV (bs.drop a0) = none := by rw [hd]; exact pv_long p 9 true _ (fun x h => (hp x h).1) (by omega)
    have hq := gp p (fun x h => ⟨by have := hp x h; omega, (hp x h).2⟩) (by omega)
    have hn2 : pV p = none := by have := pv_long p 9 true [] (fun x h => (hp x h).1) (by omega); simpa [pV] using this
    rw [hn2] at hq
    obtain ⟨e, he, hq⟩ := hq
    rw [hq]
    dsimp only
    rw [if_pos (by rcases he with rfl | rfl <;> rfl)]
    refine ⟨0, false, a, false, rfl, ha, ?_⟩
    rw [hn]
    exact ⟨rfl, rfl⟩
  | succ j ih =>
    intro k a p hj hk hp hd ha
    obtain ⟨k, rfl⟩ : ∃ k', k = k' + 1 := ⟨k - 1, by omega⟩
    rw [varint_From.l2]
    unfold varint_From.b2
    simp only [veil_eq]
    rw [if_pos (by simp; omega), if_pos ((atOk_iff _ _).2 ⟨hb, by omega, by omega⟩)]
    by_cases hlt : a < bs.length
    · rw [readF_one bs a hlt]
      dsimp only
      rw [if_neg (by simp), if_pos (by simp [lim]; omega)]
      obtain ⟨c0, c1⟩ := hc _ (List.getElem_mem hlt)
      have hda : bs.drop a = bs[a] :: bs.drop (a + 1) := (List.getElem_cons_drop hlt).symm
      generalize bs[a] = c at c0 c1 hda ⊢
      rw [byteW c c0 (by omega)]
      by_cases h128 : c < 128
      · rw [if_pos (by simpa using h128)]
        have hq := gp (p ++ [c]) (fun x h => by
          rcases List.mem_append.1 h with h | h
          · have := hp x h; omega
          · rw [List.mem_singleton.1 h]; omega) (by simp; omega)
        rcases pv_stop p 9 true c (bs.drop (a + 1)) (fun x h => (hp x h).1) (by omega) h128 with ⟨e1, e2⟩ | ⟨v, e1, e2⟩
        · have e1 : pV (p ++ [c]) = none := e1
          rw [e1] at hq
          obtain ⟨e, he, hq⟩ := hq
          rw [hq]
          dsimp only
          rw [if_pos (by rcases he with rfl | rfl <;> rfl)]
          refine ⟨0, false, a + 1, false, rfl, by omega, ?_⟩
          rw [hd, hda, show pV (p ++ c :: bs.drop (a + 1)) = none from e2]
          exact ⟨rfl, rfl⟩
        · have e1 : pV (p ++ [c]) = some (v, []) := e1
          rw [e1] at hq
          dsimp only at hq
          rw [hq]
          dsimp only
          have hv := pV_sound (l := p ++ [c]) (fun x h => by
            rcases List.mem_append.1 h with h | h
            · have := hp x h; omega
            · rw [List.mem_singleton.1 h]; omega) e1
          rw [if_neg (by decide), if_neg (by simpa using m0), wrapU64 _ m0 (by omega)]
          by_cases hm : v > most
          · rw [if_pos (by simpa using hm)]
            refine ⟨0, false, a + 1, false, rfl, by omega, ?_⟩
            rw [hd, hda, show pV (p ++ c :: bs.drop (a + 1)) = some (v, bs.drop (a + 1)) from e2]
            dsimp only
            rw [if_neg (by omega)]
            exact ⟨rfl, rfl⟩
          · rw [if_neg (by simpa using hm), wrap_small v (by omega) (by omega)]
            refine ⟨v, true, a + 1, false, rfl, by omega, ?_⟩
            rw [hd, hda, show pV (p ++ c :: bs.drop (a + 1)) = some (v, bs.drop (a + 1)) from e2]
            dsimp only
            rw [if_pos (by omega)]
            exact ⟨rfl, rfl, rfl, rfl⟩
      · rw [if_neg (by simpa using h128)]
        exact ih k (a + 1) (p ++ [c]) (by simp; omega) (by omega) (fun x h => by
          rcases List.mem_append.1 h with h | h
          · exact hp x h
          · rw [List.mem_singleton.1 h]; omega) (by rw [hd, hda]; simp) (by omega)
    · rw [readF_end bs a (by omega)]
      dsimp only
      rw [if_pos rfl]
      refine ⟨0, false, a, true, rfl, ha, ?_⟩
      rw [hd, List.drop_of_length_le (by omega), List.append_nil, show pV p = none from pv_short p 9 true (fun x h => (hp x h).1) (by omega)]
      exact ⟨rfl, rfl⟩
theorem From.pure (bs : List Int) (a0 : Nat) (most : Int) (hb : inB bs = true) (m0 : 0 ≤ most) (m1 : most < 9223372036854775808) (ha : a0 ≤ bs.length) :
    Got bs a0 most (varint_From.f BIG bs (a0 : Int) false most) := by
  unfold varint_From.f varint_From.b
  exact From.loop BIG bs a0 false most hb m0 m1 10 BIG a0 [] rfl (by rw [BIG_eq]; omega) (by simp) rfl ha
theorem From.bad (bs : List Int) (a0 : Nat) (most : Int) (hb : inB bs = true) (ha : a0 ≤ bs.length) :
    varint_From.f BIG bs (a0 : Int) true most = some (0, false, bs, (a0 : Int), true) := by
  unfold varint_From.f varint_From.b
  rw [big_eq, varint_From.l2]
  unfold varint_From.b2
  simp only [veil_eq]
  rw [if_pos (by simp), if_pos ((atOk_iff _ _).2 ⟨hb, by omega, by omega⟩), readF_bad]
  rfl
noncomputable def gen3_reader_form_E : Env := ⟨th, gam [(105, s_varint_From)], fun i => ⟨[], [], []⟩⟩
noncomputable def gen3_reader_form.k (rs : List AV) (os : List Den.Obj) : Option (Int × Bool × (List Int) × Int × Bool) :=
  match rs, os with
  | [.d (.int .i64) r0], [.box [.ptr 1 0, .d .bool r1], .box [.d (.sl (.int .u8)) r2, .d (.int .i64) r3, .d .bool r4]] => some (r0, r1, r2, r3, r4)
  | _, _ => none
noncomputable def gen3_reader_form.b (bs : List Int) (at0 : Int) (bad : Bool) (wrong : Bool) (limit : Int) : Option (Int × Bool × (List Int) × Int × Bool) :=
  (if wrong then some ((0 : Int), wrong, bs, at0, bad) else (match (veil (varint_From.f BIG bs at0 bad limit)) with | none => none | some y0 => some (y0.1, (!y0.2.1), y0.2.2.1, y0.2.2.2.1, y0.2.2.2.2)))
noncomputable def gen3_reader_form.f (fuel : Nat) (bs : List Int) (at0 : Int) (bad : Bool) (wrong : Bool) (limit : Int) : Option (Int × Bool × (List Int) × Int × Bool) := gen3_reader_form.b bs at0 bad wrong limit
theorem gen3_reader_form.eq (fuel : Nat) (bs : List Int) (at0 : Int) (bad : Bool) (wrong : Bool) (limit : Int) : (denF gen3_reader_form_E loopN fuel Try.f74 [.raw] [.ptr 0 0, .d (.int .i64) limit] [.box [.ptr 1 0, .d .bool wrong], .box [.d (.sl (.int .u8)) bs, .d (.int .i64) at0, .d .bool bad]] gen3_reader_form.k) = gen3_reader_form.f fuel bs at0 bad wrong limit := by
  kernel_rfl
noncomputable def s_gen3_reader_form : Den.Sum := ⟨[.pb [.frz none [0] 0 (.int .u8)], .raw], fun args objs κ => match args, objs with
  | [.ptr 0 0, .d (.int .i64) limit], [.box [.ptr 1 0, .d .bool wrong], .box [.d (.sl (.int .u8)) bs, .d (.int .i64) at0, .d .bool bad]] => (match veil (gen3_reader_form.f BIG bs at0 bad wrong limit) with | none => none | some y => κ [.d (.int .i64) y.1] [.box [.ptr 1 0, .d .bool y.2.1], .box [.d (.sl (.int .u8)) y.2.2.1, .d (.int .i64) y.2.2.2.1, .d .bool y.2.2.2.2]])
  | _, _ => none⟩
theorem s_gen3_reader_form_det : SumDet s_gen3_reader_form := fun avs objs R κ => by
  show s_gen3_reader_form.run avs objs (two κ) = (s_gen3_reader_form.run avs objs (two some)).bind κ
  unfold s_gen3_reader_form
  simp only [veil_eq]
  split
  · split <;> rfl
  · rfl
theorem s_gen3_reader_form_ok : SumOk Try.prog 74 s_gen3_reader_form := by
  have hE : EnvOk Try.prog gen3_reader_form_E := env_ok (l := [(105, s_varint_From)]) th_ok any_ok ⟨⟨s_varint_From_ok, s_varint_From_det⟩, trivial⟩ _
  refine sum_ok hE Try.func74 rfl (by kernel_rfl) s_gen3_reader_form [.raw] gen3_reader_form.k ?_
  intro R avs objs κ r h
  unfold s_gen3_reader_form at h
  simp only [veil_eq] at h
  split at h
  · rename_i limit wrong bs at0 bad
    split at h
    · cases h
    · rename_i y hy
      refine ⟨BIG, _, _, _, (gen3_reader_form.eq BIG bs at0 bad wrong limit).trans hy, ?_, h⟩
      intro rs ros hk
      unfold gen3_reader_form.k at hk
      split at hk
      · first | (cases hk; exact ⟨rfl, rfl⟩) | (have e := Option.some.inj hk; rw [← e]; exact ⟨rfl, rfl⟩)
      · cases hk
  · cases h
noncomputable def gen3_reader_head_E : Env := ⟨th, gam [(20, s_valid), (50, s_has), (74, s_gen3_reader_form), (101, s_rnumb), (102, s_gen3_reader_span), (103, s_bad)], fun i => ⟨[], [], []⟩⟩
noncomputable def gen3_reader_head.k (rs : List AV) (os : List Den.Obj) : Option (Int × Int × Int × Int × Int × Int × Int × Int × Int × Int × (List (Int × (Int × (Int × ((Int × Int) × (Bool × (List (Int × (List Int))))))))) × Bool × (List Int) × Int × Bool) :=
  match rs, os with
  | [.agg [.d (.int .i64) r0, .d (.int .i64) r1, .d (.int .i64) r2, .d (.int .i64) r3, .d (.int .i64) r4, .d (.int .i64) r5, .d (.int .i64) r6, .d (.int .i64) r7, .d (.int .i64) r8, .d (.int .i64) r9, .d (.sl (.pair (.int .i64) (.pair (.int .i64) (.pair (.int .i64) (.pair (.pair (.int .i64) (.int .i64)) (.pair .bool (.sl (.pair (.int .i64) (.sl (.int .u8)))))))))) r10]], [.box [.ptr 1 0, .d .bool r11], .box [.d (.sl (.int .u8)) r12, .d (.int .i64) r13, .d .bool r14]] => some (r0, r1, r2, r3, r4, r5, r6, r7, r8, r9, r10, r11, r12, r13, r14)
  | _, _ => none
noncomputable def gen3_reader_head.b (bs : List Int) (at0 : Int) (bad : Bool) (wrong : Bool) : Option (Int × Int × Int × Int × Int × Int × Int × Int × Int × Int × (List (Int × (Int × (Int × ((Int × Int) × (Bool × (List (Int × (List Int))))))))) × Bool × (List Int) × Int × Bool) :=
  (if (atOk bs at0) then (match (veil (Option.some (readF bs (1 : Int) at0 bad))) with | none => none | some y0 => (match (veil (gen3_reader_form.f BIG bs y0.2.1 y0.2.2 wrong (4095 : Int))) with | none => none | some y1 => (match (veil (gen3_reader_form.f BIG y1.2.2.1 y1.2.2.2.1 y1.2.2.2.2 y1.2.1 (veil (281474976710655 : Int)))) with | none => none | some y2 => (match (veil (gen3_reader_span.f BIG y2.2.2.1 y2.2.2.2.1 y2.2.2.2.2 y2.2.1)) with | none => none | some y3 => (if (hasF y0.1 (0 : Int)) then (match (veil (gen3_reader_form.f BIG y3.2.2.2.1 y3.2.2.2.2.1 y3.2.2.2.2.2 y3.2.2.1 (65535 : Int))) with | none => none | some y4 => (if (hasF y0.1 (1 : Int)) then (match (veil (gen3_reader_form.f BIG y4.2.2.1 y4.2.2.2.1 y4.2.2.2.2 y4.2.1 (4095 : Int))) with | none => none | some y5 => (if (hasF y0.1 (2 : Int)) then (match (veil (gen3_reader_form.f BIG y5.2.2.1 y5.2.2.2.1 y5.2.2.2.2 y5.2.1 (veil (281474976710655 : Int)))) with | none => none | some y6 => (match (veil (gen3_reader_form.f BIG y6.2.2.1 y6.2.2.2.1 y6.2.2.2.2 y6.2.1 (65535 : Int))) with | none => none | some y7 => (if (hasF y0.1 (3 : Int)) then (match (veil (gen3_reader_form.f BIG y7.2.2.1 y7.2.2.2.1 y7.2.2.2.2 y7.2.1 (65535 : Int))) with | none => none | some y8 => (if y8.2.2.2.2 then some (y0.1, y1.1, y2.1, y3.1, y3.2.1, y4.1, y5.1, y6.1, y7.1, y8.1, ([] : List (Int × (Int × (Int × ((Int × Int) × (Bool × (List (Int × (List Int))))))))), true, y8.2.2.1, y8.2.2.2.1, y8.2.2.2.2) else (if (!(validF y0.1 y1.1 y2.1 y3.1 y3.2.1 y4.1 y5.1 y6.1 y7.1 y8.1 ([] : List (Int × (Int × (Int × ((Int × Int) × (Bool × (List (Int × (List Int))))))))))) then some (y0.1, y1.1, y2.1, y3.1, y3.2.1, y4.1, y5.1, y6.1, y7.1, y8.1, ([] : List (Int × (Int × (Int × ((Int × Int) × (Bool × (List (Int × (List Int))))))))), true, y8.2.2.1, y8.2.2.2.1, y8.2.2.2.2) else some (y0.1, y1.1, y2.1, y3.1, y3.2.1, y4.1, y5.1, y6.1, y7.1, y8.1, ([] : List (Int × (Int × (Int × ((Int × Int) × (Bool × (List (Int × (List Int))))))))), y8.2.1, y8.2.2.1, y8.2.2.2.1, y8.2.2.2.2)))) else (if y7.2.2.2.2 then some (y0.1, y1.1, y2.1, y3.1, y3.2.1, y4.1, y5.1, y6.1, y7.1, 0, ([] : List (Int × (Int × (Int × ((Int × Int) × (Bool × (List (Int × (List Int))))))))), true, y7.2.2.1, y7.2.2.2.1, y7.2.2.2.2) else (if (!(validF y0.1 y1.1 y2.1 y3.1 y3.2.1 y4.1 y5.1 y6.1 y7.1 0 ([] : List (Int × (Int × (Int × ((Int × Int) × (Bool × (List (Int × (List Int))))))))))) then some (y0.1, y1.1, y2.1, y3.1, y3.2.1, y4.1, y5.1, y6.1, y7.1, 0, ([] : List (Int × (Int × (Int × ((Int × Int) × (Bool × (List (Int × (List Int))))))))), true, y7.2.2.1, y7.2.2.2.1, y7.2.2.2.2) else some (y0.1, y1.1, y2.1, y3.1, y3.2.1, y4.1, y5.1, y6.1, y7.1, 0, ([] : List (Int × (Int × (Int × ((Int × Int) × (Bool × (List (Int × (List Int))))))))), y7.2.1, y7.2.2.1, y7.2.2.2.1, y7.2.2.2.2)))))) else (if (hasF y0.1 (3 : Int)) then (match (veil (gen3_reader_form.f BIG y5.2.2.1 y5.2.2.2.1 y5.2.2.2.2 y5.2.1 (65535 : Int))) with | none => none | some y9 => (if y9.2.2.2.2 then some (y0.1, y1.1, y2.1, y3.1, y3.2.1, y4.1, y5.1, 0, 0, y9.1, ([] : List (Int × (Int × (Int × ((Int × Int) × (Bool × (List (Int × (List Int))))))))), true, y9.2.2.1, y9.2.2.2.1, y9.2.2.2.2) else (if (!(validF y0.1 y1.1 y2.1 y3.1 y3.2.1 y4.1 y5.1 0 0 y9.1 ([] : List (Int × (Int × (Int × ((Int × Int) × (Bool × (List (Int × (List Int))))))))))) then some (y0.1, y1.1, y2.1, y3.1, y3.2.1, y4.1, y5.1, 0, 0, y9.1, ([] : List (Int × (Int × (Int × ((Int × Int) × (Bool × (List (Int × (List Int))))))))), true, y9.2.2.1, y9.2.2.2.1, y9.2.2.2.2) else some (y0.1, y1.1, y2.1, y3.1, y3.2.1, y4.1, y5.1, 0, 0, y9.1, ([] : List (Int × (Int × (Int × ((Int × Int) × (Bool × (List (Int × (List Int))))))))), y9.2.1, y9.2.2.1, y9.2.2.2.1, y9.2.2.2.2)))) else (if y5.2.2.2.2 then some (y0.1, y1.1, y2.1, y3.1, y3.2.1, y4.1, y5.1, 0, 0, 0, ([] : List (Int × (Int × (Int × ((Int × Int) × (Bool × (List (Int × (List Int))))))))), true, y5.2.2.1, y5.2.2.2.1, y5.2.2.2.2) else (if (!(validF y0.1 y1.1 y2.1 y3.1 y3.2.1 y4.1 y5.1 0 0 0 ([] : List (Int × (Int × (Int × ((Int × Int) × (Bool × (List (Int × (List Int))))))))))) then some (y0.1, y1.1, y2.1, y3.1, y3.2.1, y4.1, y5.1, 0, 0, 0, ([] : List (Int × (Int × (Int × ((Int × Int) × (Bool × (List (Int × (List Int))))))))), true, y5.2.2.1, y5.2.2.2.1, y5.2.2.2.2) else some (y0.1, y1.1, y2.1, y3.1, y3.2.1, y4.1, y5.1, 0, 0, 0, ([] : List (Int × (Int × (Int × ((Int × Int) × (Bool × (List (Int × (List Int))))))))), y5.2.1, y5.2.2.1, y5.2.2.2.1, y5.2.2.2.2)))))) else (if (hasF y0.1 (2 : Int)) then (match (veil (gen3_reader_form.f BIG y4.2.2.1 y4.2.2.2.1 y4.2.2.2.2 y4.2.1 (veil (281474976710655 : Int)))) with | none => none | some y10 => (match (veil (gen3_reader_form.f BIG y10.2.2.1 y10.2.2.2.1 y10.2.2.2.2 y10.2.1 (65535 : Int))) with | none => none | some y11 => (if (hasF y0.1 (3 : Int)) then (match (veil (gen3_reader_form.f BIG y11.2.2.1 y11.2.2.2.1 y11.2.2.2.2 y11.2.1 (65535 : Int))) with | none => none | some y12 => (if y12.2.2.2.2 then some (y0.1, y1.1, y2.1, y3.1, y3.2.1, y4.1, 0, y10.1, y11.1, y12.1, ([] : List (Int × (Int × (Int × ((Int × Int) × (Bool × (List (Int × (List Int))))))))), true, y12.2.2.1, y12.2.2.2.1, y12.2.2.2.2) else (if (!(validF y0.1 y1.1 y2.1 y3.1 y3.2.1 y4.1 0 y10.1 y11.1 y12.1 ([] : List (Int × (Int × (Int × ((Int × Int) × (Bool × (List (Int × (List Int))))))))))) then some (y0.1, y1.1, y2.1, y3.1, y3.2.1, y4.1, 0, y10.1, y11.1, y12.1, ([] : List (Int × (Int × (Int × ((Int × Int) × (Bool × (List (Int × (List Int))))))))), true, y12.2.2.1, y12.2.2.2.1, y12.2.2.2.2) else some (y0.1, y1.1, y2.1, y3.1, y3.2.1, y4.1, 0, y10.1, y11.1, y12.1, ([] : List (Int × (Int × (Int × ((Int × Int) × (Bool × (List (Int × (List Int))))))))), y12.2.1, y12.2.2.1, y12.2.2.2.1, y12.2.2.2.2)))) else (if y11.2.2.2.2 then some (y0.1, y1.1, y2.1, y3.1, y3.2.1, y4.1, 0, y10.1, y11.1, 0, ([] : List (Int × (Int × (Int × ((Int × Int) × (Bool × (List (Int × (List Int))))))))), true, y11.2.2.1, y11.2.2.2.1, y11.2.2.2.2) else (if (!(validF y0.1 y1.1 y2.1 y3.1 y3.2.1 y4.1 0 y10.1 y11.1 0 ([] : List (Int × (Int × (Int × ((Int × Int) × (Bool × (List (Int × (List Int))))))))))) then some (y0.1, y1.1, y2.1, y3.1, y3.2.1, y4.1, 0, y10.1, y11.1, 0, ([] : List (Int × (Int × (Int × ((Int × Int) × (Bool × (List (Int × (List Int))))))))), true, y11.2.2.1, y11.2.2.2.1, y11.2.2.2.2) else some (y0.1, y1.1, y2.1, y3.1, y3.2.1, y4.1, 0, y10.1, y11.1, 0, ([] : List (Int × (Int × (Int × ((Int × Int) × (Bool × (List (Int × (List Int))))))))), y11.2.1, y11.2.2.1, y11.2.2.2.1, y11.2.2.2.2)))))) else (if (hasF y0.1 (3 : Int)) then (match (veil (gen3_reader_form.f BIG y4.2.2.1 y4.2.2.2.1 y4.2.2.2.2 y4.2.1 (65535 : Int))) with | none => none | some y13 => (if y13.2.2.2.2 then some (y0.1, y1.1, y2.1, y3.1, y3.2.1, y4.1, 0, 0, 0, y13.1, ([] : List (Int × (Int × (Int × ((Int × Int) × (Bool × (List (Int × (List Int))))))))), true, y13.2.2.1, y13.2.2.2.1, y13.2.2.2.2) else (if (!(validF y0.1 y1.1 y2.1 y3.1 y3.2.1 y4.1 0 0 0 y13.1 ([] : List (Int × (Int × (Int × ((Int × Int) × (Bool × (List (Int × (List Int))))))))))) then some (y0.1, y1.1, y2.1, y3.1, y3.2.1, y4.1, 0, 0, 0, y13.1, ([] : List (Int × (Int × (Int × ((Int × Int) × (Bool × (List (Int × (List Int))))))))), true, y13.2.2.1, y13.2.2.2.1, y13.2.2.2.2) else some (y0.1, y1.1, y2.1, y3.1, y3.2.1, y4.1, 0, 0, 0, y13.1, ([] : List (Int × (Int × (Int × ((Int × Int) × (Bool × (List (Int × (List Int))))))))), y13.2.1, y13.2.2.1, y13.2.2.2.1, y13.2.2.2.2)))) else (if y4.2.2.2.2 then some (y0.1, y1.1, y2.1, y3.1, y3.2.1, y4.1, 0, 0, 0, 0, ([] : List (Int × (Int × (Int × ((Int × Int) × (Bool × (List (Int × (List Int))))))))), true, y4.2.2.1, y4.2.2.2.1, y4.2.2.2.2) else (if (!(validF y0.1 y1.1 y2.1 y3.1 y3.2.1 y4.1 0 0 0 0 ([] : List (Int × (Int × (Int × ((Int × Int) × (Bool × (List (Int × (List Int))))))))))) then some (y0.1, y1.1, y2.1, y3.1, y3.2.1, y4.1, 0, 0, 0, 0, ([] : List (Int × (Int × (Int × ((Int × Int) × (Bool × (List (Int × (List Int))))))))), true, y4.2.2.1, y4.2.2.2.1, y4.2.2.2.2) else some (y0.1, y1.1, y2.1, y3.1, y3.2.1, y4.1, 0, 0, 0, 0, ([] : List (Int × (Int × (Int × ((Int × Int) × (Bool × (List (Int × (List Int))))))))), y4.2.1, y4.2.2.1, y4.2.2.2.1, y4.2.2.2.2))))))) else (if (hasF y0.1 (1 : Int)) then (match (veil (gen3_reader_form.f BIG y3.2.2.2.1 y3.2.2.2.2.1 y3.2.2.2.2.2 y3.2.2.1 (4095 : Int))) with | none => none | some y14 => (if (hasF y0.1 (2 : Int)) then (match (veil (gen3_reader_form.f BIG y14.2.2.1 y14.2.2.2.1 y14.2.2.2.2 y14.2.1 (veil (281474976710655 : Int)))) with | none => none | some y15 => (match (veil (gen3_reader_form.f BIG y15.2.2.1 y15.2.2.2.1 y15.2.2.2.2 y15.2.1 (65535 : Int))) with | none => none | some y16 => (if (hasF y0.1 (3 : Int)) then (match (veil (gen3_reader_form.f BIG y16.2.2.1 y16.2.2.2.1 y16.2.2.2.2 y16.2.1 (65535 : Int))) with | none => none | some y17 => (if y17.2.2.2.2 then some (y0.1, y1.1, y2.1, y3.1, y3.2.1, 0, y14.1, y15.1, y16.1, y17.1, ([] : List (Int × (Int × (Int × ((Int × Int) × (Bool × (List (Int × (List Int))))))))), true, y17.2.2.1, y17.2.2.2.1, y17.2.2.2.2) else (if (!(validF y0.1 y1.1 y2.1 y3.1 y3.2.1 0 y14.1 y15.1 y16.1 y17.1 ([] : List (Int × (Int × (Int × ((Int × Int) × (Bool × (List (Int × (List Int))))))))))) then some (y0.1, y1.1, y2.1, y3.1, y3.2.1, 0, y14.1, y15.1, y16.1, y17.1, ([] : List (Int × (Int × (Int × ((Int × Int) × (Bool × (List (Int × (List Int))))))))), true, y17.2.2.1, y17.2.2.2.1, y17.2.2.2.2) else some (y0.1, y1.1, y2.1, y3.1, y3.2.1, 0, y14.1, y15.1, y16.1, y17.1, ([] : List (Int × (Int × (Int × ((Int × Int) × (Bool × (List (Int × (List Int))))))))), y17.2.1, y17.2.2.1, y17.2.2.2.1, y17.2.2.2.2)))) else (if y16.2.2.2.2 then some (y0.1, y1.1, y2.1, y3.1, y3.2.1, 0, y14.1, y15.1, y16.1, 0, ([] : List (Int × (Int × (Int × ((Int × Int) × (Bool × (List (Int × (List Int))))))))), true, y16.2.2.1, y16.2.2.2.1, y16.2.2.2.2) else (if (!(validF y0.1 y1.1 y2.1 y3.1 y3.2.1 0 y14.1 y15.1 y16.1 0 ([] : List (Int × (Int × (Int × ((Int × Int) × (Bool × (List (Int × (List Int))))))))))) then some (y0.1, y1.1, y2.1, y3.1, y3.2.1, 0, y14.1, y15.1, y16.1, 0, ([] : List (Int × (Int × (Int × ((Int × Int) × (Bool × (List (Int × (List Int))))))))), true, y16.2.2.1, y16.2.2.2.1, y16.2.2.2.2) else some (y0.1, y1.1, y2.1, y3.1, y3.2.1, 0, y14.1, y15.1, y16.1, 0, ([] : List (Int × (Int × (Int × ((Int × Int) × (Bool × (List (Int × (List Int))))))))), y16.2.1, y16.2.2.1, y16.2.2.2.1, y16.2.2.2.2)))))) else (if (hasF y0.1 (3 : Int)) then (match (veil (gen3_reader_form.f BIG y14.2.2.1 y14.2.2.2.1 y14.2.2.2.2 y14.2.1 (65535 : Int))) with | none => none | some y18 => (if y18.2.2.2.2 then some (y0.1, y1.1, y2.1, y3.1, y3.2.1, 0, y14.1, 0, 0, y18.1, ([] : List (Int × (Int × (Int × ((Int × Int) × (Bool × (List (Int × (List Int))))))))), true, y18.2.2.1, y18.2.2.2.1, y18.2.2.2.2) else (if (!(validF y0.1 y1.1 y2.1 y3.1 y3.2.1 0 y14.1 0 0 y18.1 ([] : List (Int × (Int × (Int × ((Int × Int) × (Bool × (List (Int × (List Int))))))))))) then some (y0.1, y1.1, y2.1, y3.1, y3.2.1, 0, y14.1, 0, 0, y18.1, ([] : List (Int × (Int × (Int × ((Int × Int) × (Bool × (List (Int × (List Int))))))))), true, y18.2.2.1, y18.2.2.2.1, y18.2.2.2.2) else some (y0.1, y1.1, y2.1, y3.1, y3.2.1, 0, y14.1, 0, 0, y18.1, ([] : List (Int × (Int × (Int × ((Int × Int) × (Bool × (List (Int × (List Int))))))))), y18.2.1, y18.2.2.1, y18.2.2.2.1, y18.2.2.2.2)))) else (if y14.2.2.2.2 then some (y0.1, y1.1, y2.1, y3.1, y3.2.1, 0, y14.1, 0, 0, 0, ([] : List (Int × (Int × (Int × ((Int × Int) × (Bool × (List (Int × (List Int))))))))), true, y14.2.2.1, y14.2.2.2.1, y14.2.2.2.2) else (if (!(validF y0.1 y1.1 y2.1 y3.1 y3.2.1 0 y14.1 0 0 0 ([] : List (Int × (Int × (Int × ((Int × Int) × (Bool × (List (Int × (List Int))))))))))) then some (y0.1, y1.1, y2.1, y3.1, y3.2.1, 0, y14.1, 0, 0, 0, ([] : List (Int × (Int × (Int × ((Int × Int) × (Bool × (List (Int × (List Int))))))))), true, y14.2.2.1, y14.2.2.2.1, y14.2.2.2.2) else some (y0.1, y1.1, y2.1, y3.1, y3.2.1, 0, y14.1, 0, 0, 0, ([] : List (Int × (Int × (Int × ((Int × Int) × (Bool × (List (Int × (List Int))))))))), y14.2.1, y14.2.2.1, y14.2.2.2.1, y14.2.2.2.2)))))) else (if (hasF y0.1 (2 : Int)) then (match (veil (gen3_reader_form.f BIG y3.2.2.2.1 y3.2.2.2.2.1 y3.2.2.2.2.2 y3.2.2.1 (veil (281474976710655 : Int)))) with | none => none | some y19 => (match (veil (gen3_reader_form.f BIG y19.2.2.1 y19.2.2.2.1 y19.2.2.2.2 y19.2.1 (65535 : Int))) with | none => none | some y20 => (if (hasF y0.1 (3 : Int)) then (match (veil (gen3_reader_form.f BIG y20.2.2.1 y20.2.2.2.1 y20.2.2.2.2 y20.2.1 (65535 : Int))) with | none => none | some y21 => (if y21.2.2.2.2 then some (y0.1, y1.1, y2.1, y3.1, y3.2.1, 0, 0, y19.1, y20.1, y21.1, ([] : List (Int × (Int × (Int × ((Int × Int) × (Bool × (List (Int × (List Int))))))))), true, y21.2.2.1, y21.2.2.2.1, y21.2.2.2.2) else (if (!(validF y0.1 y1.1 y2.1 y3.1 y3.2.1 0 0 y19.1 y20.1 y21.1 ([] : List (Int × (Int × (Int × ((Int × Int) × (Bool × (List (Int × (List Int))))))))))) then some (y0.1, y1.1, y2.1, y3.1, y3.2.1, 0, 0, y19.1, y20.1, y21.1, ([] : List (Int × (Int × (Int × ((Int × Int) × (Bool × (List (Int × (List Int))))))))), true, y21.2.2.1, y21.2.2.2.1, y21.2.2.2.2) else some (y0.1, y1.1, y2.1, y3.1, y3.2.1, 0, 0, y19.1, y20.1, y21.1, ([] : List (Int × (Int × (Int × ((Int × Int) × (Bool × (List (Int × (List Int))))))))), y21.2.1, y21.2.2.1, y21.2.2.2.1, y21.2.2.2.2)))) else (if y20.2.2.2.2 then some (y0.1, y1.1, y2.1, y3.1, y3.2.1, 0, 0, y19.1, y20.1, 0, ([] : List (Int × (Int × (Int × ((Int × Int) × (Bool × (List (Int × (List Int))))))))), true, y20.2.2.1, y20.2.2.2.1, y20.2.2.2.2) else (if (!(validF y0.1 y1.1 y2.1 y3.1 y3.2.1 0 0 y19.1 y20.1 0 ([] : List (Int × (Int × (Int × ((Int × Int) × (Bool × (List (Int × (List Int))))))))))) then some (y0.1, y1.1, y2.1, y3.1, y3.2.1, 0, 0, y19.1, y20.1, 0, ([] : List (Int × (Int × (Int × ((Int × Int) × (Bool × (List (Int × (List Int))))))))), true, y20.2.2.1, y20.2.2.2.1, y20.2.2.2.2) else some (y0.1, y1.1, y2.1, y3.1, y3.2.1, 0, 0, y19.1, y20.1, 0, ([] : List (Int × (Int × (Int × ((Int × Int) × (Bool × (List (Int × (List Int))))))))), y20.2.1, y20.2.2.1, y20.2.2.2.1, y20.2.2.2.2)))))) else (if (hasF y0.1 (3 : Int)) then (match (veil (gen3_reader_form.f BIG y3.2.2.2.1 y3.2.2.2.2.1 y3.2.2.2.2.2 y3.2.2.1 (65535 : Int))) with | none => none | some y22 => (if y22.2.2.2.2 then some (y0.1, y1.1, y2.1, y3.1, y3.2.1, 0, 0, 0, 0, y22.1, ([] : List (Int × (Int × (Int × ((Int × Int) × (Bool × (List (Int × (List Int))))))))), true, y22.2.2.1, y22.2.2.2.1, y22.2.2.2.2) else (if (!(validF y0.1 y1.1 y2.1 y3.1 y3.2.1 0 0 0 0 y22.1 ([] : List (Int × (Int × (Int × ((Int × Int) × (Bool × (List (Int × (List Int))))))))))) then some (y0.1, y1.1, y2.1, y3.1, y3.2.1, 0, 0, 0, 0, y22.1, ([] : List (Int × (Int × (Int × ((Int × Int) × (Bool × (List (Int × (List Int))))))))), true, y22.2.2.1, y22.2.2.2.1, y22.2.2.2.2) else some (y0.1, y1.1, y2.1, y3.1, y3.2.1, 0, 0, 0, 0, y22.1, ([] : List (Int × (Int × (Int × ((Int × Int) × (Bool × (List (Int × (List Int))))))))), y22.2.1, y22.2.2.1, y22.2.2.2.1, y22.2.2.2.2)))) else (if y3.2.2.2.2.2 then some (y0.1, y1.1, y2.1, y3.1, y3.2.1, 0, 0, 0, 0, 0, ([] : List (Int × (Int × (Int × ((Int × Int) × (Bool × (List (Int × (List Int))))))))), true, y3.2.2.2.1, y3.2.2.2.2.1, y3.2.2.2.2.2) else (if (!(validF y0.1 y1.1 y2.1 y3.1 y3.2.1 0 0 0 0 0 ([] : List (Int × (Int × (Int × ((Int × Int) × (Bool × (List (Int × (List Int))))))))))) then some (y0.1, y1.1, y2.1, y3.1, y3.2.1, 0, 0, 0, 0, 0, ([] : List (Int × (Int × (Int × ((Int × Int) × (Bool × (List (Int × (List Int))))))))), true, y3.2.2.2.1, y3.2.2.2.2.1, y3.2.2.2.2.2) else some (y0.1, y1.1, y2.1, y3.1, y3.2.1, 0, 0, 0, 0, 0, ([] : List (Int × (Int × (Int × ((Int × Int) × (Bool × (List (Int × (List Int))))))))), y3.2.2.1, y3.2.2.2.1, y3.2.2.2.2.1, y3.2.2.2.2.2))))))))))) else none)
noncomputable def gen3_reader_head.f (fuel : Nat) (bs : List Int) (at0 : Int) (bad : Bool) (wrong : Bool) : Option (Int × Int × Int × Int × Int × Int × Int × Int × Int × Int × (List (Int × (Int × (Int × ((Int × Int) × (Bool × (List (Int × (List Int))))))))) × Bool × (List Int) × Int × Bool) := gen3_reader_head.b bs at0 bad wrong
theorem gen3_reader_head.eq (fuel : Nat) (bs : List Int) (at0 : Int) (bad : Bool) (wrong : Bool) : (denF gen3_reader_head_E loopN fuel Try.f72 [.dat (.pair (.int .i64) (.pair (.int .i64) (.pair (.int .i64) (.pair (.pair (.int .i64) (.int .i64)) (.pair (.int .i64) (.pair (.int .i64) (.pair (.int .i64) (.pair (.int .i64) (.pair (.int .i64) (.sl (.pair (.int .i64) (.pair (.int .i64) (.pair (.int .i64) (.pair (.pair (.int .i64) (.int .i64)) (.pair .bool (.sl (.pair (.int .i64) (.sl (.int .u8))))))))))))))))))) true] [.ptr 0 0] [.box [.ptr 1 0, .d .bool wrong], .box [.d (.sl (.int .u8)) bs, .d (.int .i64) at0, .d .bool bad]] gen3_reader_head.k) = gen3_reader_head.f fuel bs at0 bad wrong := by
  kernel_rfl
noncomputable def s_gen3_reader_head : Den.Sum := ⟨[.pb [.frz none [0] 0 (.int .u8)]], fun args objs κ => match args, objs with
  | [.ptr 0 0], [.box [.ptr 1 0, .d .bool wrong], .box [.d (.sl (.int .u8)) bs, .d (.int .i64) at0, .d .bool bad]] => (match veil (gen3_reader_head.f BIG bs at0 bad wrong) with | none => none | some y => κ [.agg [.d (.int .i64) y.1, .d (.int .i64) y.2.1, .d (.int .i64) y.2.2.1, .d (.int .i64) y.2.2.2.1, .d (.int .i64) y.2.2.2.2.1, .d (.int .i64) y.2.2.2.2.2.1, .d (.int .i64) y.2.2.2.2.2.2.1, .d (.int .i64) y.2.2.2.2.2.2.2.1, .d (.int .i64) y.2.2.2.2.2.2.2.2.1, .d (.int .i64) y.2.2.2.2.2.2.2.2.2.1, .d (.sl (.pair (.int .i64) (.pair (.int .i64) (.pair (.int .i64) (.pair (.pair (.int .i64) (.int .i64)) (.pair .bool (.sl (.pair (.int .i64) (.sl (.int .u8)))))))))) y.2.2.2.2.2.2.2.2.2.2.1]] [.box [.ptr 1 0, .d .bool y.2.2.2.2.2.2.2.2.2.2.2.1], .box [.d (.sl (.int .u8)) y.2.2.2.2.2.2.2.2.2.2.2.2.1, .d (.int .i64) y.2.2.2.2.2.2.2.2.2.2.2.2.2.1, .d .bool y.2.2.2.2.2.2.2.2.2.2.2.2.2.2]])
  | _, _ => none⟩
theorem s_gen3_reader_head_det : SumDet s_gen3_reader_head := fun avs objs R κ => by
  show s_gen3_reader_head.run avs objs (two κ) = (s_gen3_reader_head.run avs objs (two some)).bind κ
  unfold s_gen3_reader_head
  simp only [veil_eq]
  split
  · split <;> rfl
  · rfl
theorem s_gen3_reader_head_ok : SumOk Try.prog 72 s_gen3_reader_head := by
  have hE : EnvOk Try.prog gen3_reader_head_E := env_ok (l := [(20, s_valid), (50, s_has), (74, s_gen3_reader_form), (101, s_rnumb), (102, s_gen3_reader_span), (103, s_bad)]) th_ok any_ok ⟨⟨s_valid_ok, s_valid_det⟩, ⟨s_has_ok, s_has_det⟩, ⟨s_gen3_reader_form_ok, s_gen3_reader_form_det⟩, ⟨s_rnumb_ok, s_rnumb_det⟩, ⟨s_gen3_reader_span_ok, s_gen3_reader_span_det⟩, ⟨s_bad_ok, s_bad_det⟩, trivial⟩ _
  refine sum_ok hE Try.func72 rfl (by kernel_rfl) s_gen3_reader_head [.dat (.pair (.int .i64) (.pair (.int .i64) (.pair (.int .i64) (.pair (.pair (.int .i64) (.int .i64)) (.pair (.int .i64) (.pair (.int .i64) (.pair (.int .i64) (.pair (.int .i64) (.pair (.int .i64) (.sl (.pair (.int .i64) (.pair (.int .i64) (.pair (.int .i64) (.pair (.pair (.int .i64) (.int .i64)) (.pair .bool (.sl (.pair (.int .i64) (.sl (.int .u8))))))))))))))))))) true] gen3_reader_head.k ?_
  intro R avs objs κ r h
  unfold s_gen3_reader_head at h
  simp only [veil_eq] at h
  split at h
  · rename_i wrong bs at0 bad
    split at h
    · cases h
    · rename_i y hy
      refine ⟨BIG, _, _, _, (gen3_reader_head.eq BIG bs at0 bad wrong).trans hy, ?_, h⟩
      intro rs ros hk
      unfold gen3_reader_head.k at hk
      split at hk
      · first | (cases hk; exact ⟨rfl, rfl⟩) | (have e := Option.some.inj hk; rw [← e]; exact ⟨rfl, rfl⟩)
      · cases hk
  · cases h
/-- the number that stands at a place, and the place behind it -/
noncomputable def tk (bs : List Int) (a : Nat) (most : Int) : Option (Int × Nat) :=
  match pV (bs.drop a) with
  | some (w, r) => if w ≤ most then some (w, bs.length - r.length) else none
  | none => none
theorem tk_facts {bs : List Int} {a : Nat} {most w : Int} {a2 : Nat} (hb : ∀ c ∈ bs, 0 ≤ c ∧ c ≤ 255) (h : tk bs a most = some (w, a2)) : bs.drop a = vi w ++ bs.drop a2 ∧ 0 ≤ w ∧ w ≤ most ∧ w < 18446744073709551616 ∧ a < a2 ∧ a2 ≤ bs.length := by
  unfold tk at h
  split at h
  · rename_i v r hv
    split at h
    · rename_i hm
      obtain ⟨rfl, rfl⟩ : v = w ∧ bs.length - r.length = a2 := by cases h; exact ⟨rfl, rfl⟩
      obtain ⟨e, v0, v1⟩ := pV_sound (fun c hc => hb c (List.mem_of_mem_drop hc)) hv
      have hl := congrArg List.length e
      have h1 := (vi_len v).1
      simp only [List.length_drop, List.length_append] at hl
      refine ⟨?_, v0, hm, v1, by omega, by omega⟩
      have e2 : bs = (bs.take a ++ vi v) ++ r := by rw [List.append_assoc, ← e, List.take_append_drop]
      have e3 : bs.length - r.length = (bs.take a ++ vi v).length := by simp; omega
      rw [e, e3]
      congr 1
      generalize bs.take a ++ vi v = q at e2
      rw [e2, List.drop_left]
    · cases h
  · cases h
theorem Got.tk {bs : List Int} {a0 : Nat} {most : Int} {o : Option (Int × Bool × List Int × Int × Bool)} (h : Got bs a0 most o) :
    match tk bs a0 most with
    | some (w, a2) => o = some (w, true, bs, (a2 : Int), false)
    | none => ∃ (a : Nat) (bad : Bool), o = some (0, false, bs, (a : Int), bad) ∧ a ≤ bs.length := by
  obtain ⟨v, ok, a, bad, rfl, ha, h⟩ := h
  unfold Proofs.Ytnlkghcibpopgaa.tk
  revert h
  cases hw : pV (bs.drop a0) with
  | none =>
    intro h
    obtain ⟨rfl, rfl⟩ := h
    exact ⟨a, bad, rfl, ha⟩
  | some x =>
    obtain ⟨w, r⟩ := x
    intro h
    dsimp only at h ⊢
    by_cases hm : w ≤ most
    · rw [if_pos hm] at h ⊢
      obtain ⟨rfl, rfl, rfl, rfl⟩ := h
      dsimp only
      rw [show bs.length - (bs.drop a).length = a from by simp; omega]
    · rw [if_neg hm] at h ⊢
      obtain ⟨rfl, rfl⟩ := h
      exact ⟨a, bad, rfl, ha⟩
theorem form_wrong (bs : List Int) (a : Int) (bad : Bool) (most : Int) : gen3_reader_form.f BIG bs a bad true most = some (0, true, bs, a, bad) := rfl
theorem form_bad (bs : List Int) (a : Nat) (most : Int) (hb : inB bs = true) (ha : a ≤ bs.length) : gen3_reader_form.f BIG bs (a : Int) true false most = some (0, true, bs, (a : Int), true) := by
  unfold gen3_reader_form.f gen3_reader_form.b
  simp only [veil_eq]
  rw [if_neg (by simp), From.bad bs a most hb ha]
  rfl
theorem form_good (bs : List Int) (a : Nat) (most : Int) (hb : inB bs = true) (m0 : 0 ≤ most) (m1 : most < 9223372036854775808) (ha : a ≤ bs.length) :
    match tk bs a most with
    | some (w, a2) => gen3_reader_form.f BIG bs (a : Int) false false most = some (w, false, bs, (a2 : Int), false)
    | none => ∃ (a' : Nat) (bad : Bool), gen3_reader_form.f BIG bs (a : Int) false false most = some (0, true, bs, (a' : Int), bad) ∧ a' ≤ bs.length := by
  have h := Got.tk (From.pure bs a most hb m0 m1 ha)
  unfold gen3_reader_form.f gen3_reader_form.b
  simp only [veil_eq]
  rw [if_neg (by simp)]
  split at h
  · rw [h]; rfl
  · obtain ⟨a', bad, h, h2⟩ := h
    exact ⟨a', bad, by rw [h]; rfl, h2⟩
abbrev HD := Int × Int × Int × Int × Int × Int × Int × Int × Int × Int × List (Int × (Int × (Int × ((Int × Int) × (Bool × (List (Int × (List Int)))))))) × Bool × List Int × Int × Bool
noncomputable def optC {R : Type} (c : Bool) (most : Int) (wr : Bool) (bs : List Int) (a : Int) (bad : Bool) (k : Int → Bool → List Int → Int → Bool → Option R) : Option R :=
  if c then (match gen3_reader_form.f BIG bs a bad wr most with
    | none => none
    | some y => k y.1 y.2.1 y.2.2.1 y.2.2.2.1 y.2.2.2.2)
  else k 0 wr bs a bad
noncomputable def finC (k f i lo hi s t l e b : Int) (wr : Bool) (bs : List Int) (a : Int) (bad : Bool) : Option HD :=
  if bad then some (k, f, i, lo, hi, s, t, l, e, b, [], true, bs, a, bad)
  else if (!(validF k f i lo hi s t l e b [])) then some (k, f, i, lo, hi, s, t, l, e, b, [], true, bs, a, bad)
  else some (k, f, i, lo, hi, s, t, l, e, b, [], wr, bs, a, bad)
noncomputable def headC (bs : List Int) (at0 : Int) (bad wrong : Bool) : Option HD :=
  if atOk bs at0 then
    optC true 4095 wrong bs (readF bs 1 at0 bad).2.1 (readF bs 1 at0 bad).2.2 fun f w b1 a1 d1 =>
    optC true 281474976710655 w b1 a1 d1 fun i w b2 a2 d2 =>
    match gen3_reader_span.f BIG b2 a2 d2 w with
    | none => none
    | some y =>
      optC (hasF (readF bs 1 at0 bad).1 0) 65535 y.2.2.1 y.2.2.2.1 y.2.2.2.2.1 y.2.2.2.2.2 fun s w b3 a3 d3 =>
      optC (hasF (readF bs 1 at0 bad).1 1) 4095 w b3 a3 d3 fun t w b4 a4 d4 =>
      optC (hasF (readF bs 1 at0 bad).1 2) 281474976710655 w b4 a4 d4 fun l w b5 a5 d5 =>
      optC (hasF (readF bs 1 at0 bad).1 2) 65535 w b5 a5 d5 fun e w b6 a6 d6 =>
      optC (hasF (readF bs 1 at0 bad).1 3) 65535 w b6 a6 d6 fun b w b7 a7 d7 =>
      finC (readF bs 1 at0 bad).1 f i y.1 y.2.1 s t l e b w b7 a7 d7
  else none
theorem head_eq (bs : List Int) (at0 : Int) (bad wrong : Bool) : gen3_reader_head.f BIG bs at0 bad wrong = headC bs at0 bad wrong := by
  unfold gen3_reader_head.f gen3_reader_head.b headC optC finC
  simp only [veil_eq]
  generalize hasF (readF bs 1 at0 bad).1 0 = h0
  generalize hasF (readF bs 1 at0 bad).1 1 = h1
  generalize hasF (readF bs 1 at0 bad).1 2 = h2
  generalize hasF (readF bs 1 at0 bad).1 3 = h3
  cases h0 <;> cases h1 <;> cases h2 <;> cases h3 <;> rfl
/-- how a reader stands: at a place, or wrong -/
def Rel (bs : List Int) (st : Option Nat) (wr : Bool) (a : Int) (bad : Bool) : Prop :=
  (∃ n : Nat, a = (n : Int) ∧ n ≤ bs.length) ∧ match st with
    | some n => wr = false ∧ bad = false ∧ a = (n : Int)
    | none => wr = true ∨ bad = true
noncomputable def optS (bs : List Int) (c : Bool) (st : Option Nat) (most : Int) : Int × Option Nat :=
  if c then (match st with
    | none => (0, none)
    | some a => match tk bs a most with
      | some (w, a2) => (w, some a2)
      | none => (0, none))
  else (0, st)
theorem optC_rel {R : Type} {bs : List Int} {st : Option Nat} {wr : Bool} {a : Int} {bad : Bool} (hb : inB bs = true) (h : Rel bs st wr a bad) (c : Bool) (most : Int) (m0 : 0 ≤ most) (m1 : most < 9223372036854775808) (k : Int → Bool → List Int → Int → Bool → Option R) :
    ∃ wr' a' bad', optC c most wr bs a bad k = k (optS bs c st most).1 wr' bs a' bad' ∧ Rel bs (optS bs c st most).2 wr' a' bad' := by
  obtain ⟨hl, hc⟩ := (inB_iff bs).1 hb
  obtain ⟨⟨n, rfl, hn⟩, h⟩ := h
  cases c with
  | false => exact ⟨wr, n, bad, rfl, ⟨n, rfl, hn⟩, h⟩
  | true =>
    cases st with
    | none =>
      cases wr with
      | true => exact ⟨true, n, bad, rfl, ⟨n, rfl, hn⟩, Or.inl rfl⟩
      | false =>
        obtain rfl : bad = true := by rcases h with h | h; cases h; exact h
        refine ⟨true, n, true, ?_, ⟨n, rfl, hn⟩, Or.inl rfl⟩
        unfold optC
        rw [if_pos rfl, form_bad bs n most hb hn]
        rfl
    | some m =>
      obtain ⟨rfl, rfl, e⟩ := h
      obtain rfl : n = m := by omega
      have hg := form_good bs n most hb m0 m1 hn
      unfold optC optS
      rw [if_pos rfl, if_pos rfl]
      dsimp only
      split at hg
      · rename_i w a2 ht
        obtain ⟨_, _, _, _, _, h2⟩ := tk_facts hc ht
        rw [hg]
        try simp only [ht]
        exact ⟨false, a2, false, rfl, ⟨a2, rfl, h2⟩, rfl, rfl, rfl⟩
      · rename_i ht
        obtain ⟨a', bad', hg, h2⟩ := hg
        rw [hg]
        try simp only [ht]
        exact ⟨true, a', bad', rfl, ⟨a', rfl, h2⟩, Or.inl rfl⟩
noncomputable def spS (bs : List Int) (st : Option Nat) : Int × Int × Option Nat :=
  match st with
  | some n => (match bs[n]? with
    | some c => if okS (c / 16) (c % 16) then (c / 16, c % 16, some (n + 1)) else (0, 0, none)
    | none => (0, 0, none))
  | none => (0, 0, none)
theorem ofGo_tab : (List.range 256).all (fun n => (ofGo allF (n : Int)).2.2 == okS ((n : Int) / 16) ((n : Int) % 16)) = true := by kernel_rfl
theorem ofGo_ok3 (c : Int) (h0 : 0 ≤ c) (h1 : c ≤ 255) : (ofGo allF c).2.2 = okS (c / 16) (c % 16) := by
  have := List.all_eq_true.1 ofGo_tab c.toNat (by simp; omega)
  rw [show ((c.toNat : Nat) : Int) = c from by omega] at this
  simpa using this
theorem span_rel {bs : List Int} {st : Option Nat} {wr : Bool} {a : Int} {bad : Bool} (hb : inB bs = true) (h : Rel bs st wr a bad) :
    ∃ lo hi wr' a' bad', gen3_reader_span.f BIG bs a bad wr = some (lo, hi, wr', bs, a', bad') ∧ Rel bs (spS bs st).2.2 wr' a' bad' ∧ ((spS bs st).2.2 ≠ none → lo = (spS bs st).1 ∧ hi = (spS bs st).2.1) := by
  obtain ⟨hl, hc⟩ := (inB_iff bs).1 hb
  obtain ⟨⟨n, rfl, hn⟩, h⟩ := h
  have hat : atOk bs (n : Int) = true := (atOk_iff _ _).2 ⟨hb, by omega, by omega⟩
  have ha' := (atOk_iff _ _).1 (readF_at bs 1 (n : Int) bad hat)
  have hex : ∃ m : Nat, (readF bs 1 (n : Int) bad).2.1 = (m : Int) ∧ m ≤ bs.length := ⟨(readF bs 1 (n : Int) bad).2.1.toNat, by omega, by omega⟩
  unfold gen3_reader_span.f gen3_reader_span.b
  simp only [veil_eq]
  rw [if_pos hat]
  cases wr with
  | true =>
    refine ⟨_, _, true, _, _, rfl, ⟨hex, ?_⟩, ?_⟩
    · cases st with
      | none => exact Or.inl rfl
      | some m => exact absurd h.1 (by simp)
    · cases st with
      | none => intro h; exact absurd rfl h
      | some m => exact absurd h.1 (by simp)
  | false =>
    cases st with
    | none =>
      obtain rfl : bad = true := by rcases h with h | h; cases h; exact h
      refine ⟨_, _, _, _, _, rfl, ⟨hex, ?_⟩, fun h => absurd rfl h⟩
      refine Or.inr ?_
      rw [readF_bad]
    | some m =>
      obtain ⟨_, rfl, e⟩ := h
      obtain rfl : n = m := by omega
      by_cases hlt : n < bs.length
      · have hs : spS bs (some n) = if okS (bs[n] / 16) (bs[n] % 16) then (bs[n] / 16, bs[n] % 16, some (n + 1)) else (0, 0, none) := by
          unfold spS; dsimp only
          rw [List.getElem?_eq_getElem hlt]
        rw [hs]
        obtain ⟨c0, c1⟩ := hc _ (List.getElem_mem hlt)
        rw [readF_one bs n hlt]
        dsimp only
        rw [if_neg (by simp)]
        have ht := ofGo_ok3 _ c0 c1
        have hd := ofGo_div _ c0 c1
        generalize bs[n] = c at c0 c1 ht hd ⊢
        refine ⟨_, _, _, _, _, rfl, ?_, ?_⟩
        · refine ⟨⟨n + 1, rfl, hlt⟩, ?_⟩
          rw [ht]
          cases ho : okS (c / 16) (c % 16) with
          | true => exact ⟨rfl, rfl, rfl⟩
          | false => exact Or.inl rfl
        · cases ho : okS (c / 16) (c % 16) with
          | true => intro _; rw [hd.1 ho]; exact ⟨rfl, rfl⟩
          | false => intro h; exact absurd rfl h
      · have hs : spS bs (some n) = (0, 0, none) := by
          unfold spS; dsimp only
          rw [List.getElem?_eq_none (by omega)]
        rw [hs, readF_end bs n (by omega)]
        exact ⟨_, _, _, _, _, rfl, ⟨⟨n, rfl, hn⟩, Or.inr rfl⟩, fun h => absurd rfl h⟩
noncomputable def hdSt (bs : List Int) : Option Nat := if 0 < bs.length then some 1 else none
noncomputable def hdK (bs : List Int) : Int := bs.getD 0 0
/-- the head that stands in front, and the place behind it -/
noncomputable def hdS (bs : List Int) : Option (Int × Int × Int × Int × Int × Int × Int × Int × Int × Int × Nat) :=
  let k := hdK bs
  let f := optS bs true (hdSt bs) 4095
  let i := optS bs true f.2 281474976710655
  let p := spS bs i.2
  let s := optS bs (hasF k 0) p.2.2 65535
  let t := optS bs (hasF k 1) s.2 4095
  let l := optS bs (hasF k 2) t.2 281474976710655
  let e := optS bs (hasF k 2) l.2 65535
  let b := optS bs (hasF k 3) e.2 65535
  match b.2 with
  | none => none
  | some a => if validF k f.1 i.1 p.1 p.2.1 s.1 t.1 l.1 e.1 b.1 [] then some (k, f.1, i.1, p.1, p.2.1, s.1, t.1, l.1, e.1, b.1, a) else none
theorem optS_none {bs : List Int} {c : Bool} {st : Option Nat} {most : Int} (h : (optS bs c st most).2 ≠ none) : st ≠ none := by
  intro e
  subst e
  cases c <;> exact h rfl
theorem head.pure (bs : List Int) (hb : inB bs = true) :
    match hdS bs with
    | some (k, f, i, lo, hi, s, t, l, e, b, a) => gen3_reader_head.f BIG bs 0 false false = some (k, f, i, lo, hi, s, t, l, e, b, [], false, bs, (a : Int), false) ∧ a ≤ bs.length ∧ validF k f i lo hi s t l e b [] = true
    | none => ∃ k f i lo hi s t l e b a bad, gen3_reader_head.f BIG bs 0 false false = some (k, f, i, lo, hi, s, t, l, e, b, [], true, bs, a, bad) := by
  rw [head_eq]
  unfold headC
  rw [if_pos ((atOk_iff _ _).2 ⟨hb, by omega, by omega⟩)]
  have h0 : (readF bs 1 0 false).1 = hdK bs ∧ Rel bs (hdSt bs) false (readF bs 1 0 false).2.1 (readF bs 1 0 false).2.2 := by
    unfold hdK hdSt
    by_cases h : 0 < bs.length
    · rw [if_pos h, show (0 : Int) = ((0 : Nat) : Int) from rfl, readF_one bs 0 h]
      refine ⟨?_, ⟨1, rfl, h⟩, rfl, rfl, rfl⟩
      simp [List.getD, List.getElem?_eq_getElem h]
    · rw [if_neg h, show (0 : Int) = ((0 : Nat) : Int) from rfl, readF_end bs 0 (by omega)]
      refine ⟨?_, ⟨0, rfl, by omega⟩, Or.inr rfl⟩
      simp [List.getD, List.getElem?_eq_none (show bs.length ≤ 0 by omega)]
  obtain ⟨e0, r0⟩ := h0
  rw [e0]
  obtain ⟨w1, a1, d1, e1, r1⟩ := optC_rel hb r0 true 4095 (by decide) (by decide) _
  rw [e1]
  obtain ⟨w2, a2, d2, e2, r2⟩ := optC_rel hb r1 true 281474976710655 (by decide) (by decide) _
  rw [e2]
  obtain ⟨lo, hi, w3, a3, d3, e3, r3, q3⟩ := span_rel hb r2
  rw [e3]
  dsimp only
  obtain ⟨w4, a4, d4, e4, r4⟩ := optC_rel hb r3 (hasF (hdK bs) 0) 65535 (by decide) (by decide) _
  rw [e4]
  obtain ⟨w5, a5, d5, e5, r5⟩ := optC_rel hb r4 (hasF (hdK bs) 1) 4095 (by decide) (by decide) _
  rw [e5]
  obtain ⟨w6, a6, d6, e6, r6⟩ := optC_rel hb r5 (hasF (hdK bs) 2) 281474976710655 (by decide) (by decide) _
  rw [e6]
  obtain ⟨w7, a7, d7, e7, r7⟩ := optC_rel hb r6 (hasF (hdK bs) 2) 65535 (by decide) (by decide) _
  rw [e7]
  obtain ⟨w8, a8, d8, e8, r8⟩ := optC_rel hb r7 (hasF (hdK bs) 3) 65535 (by decide) (by decide) _
  rw [e8]
  have hs : (optS bs (hasF (hdK bs) 3) (optS bs (hasF (hdK bs) 2) (optS bs (hasF (hdK bs) 2) (optS bs (hasF (hdK bs) 1) (optS bs (hasF (hdK bs) 0) (spS bs (optS bs true (optS bs true (hdSt bs) 4095).2 281474976710655).2).2.2 65535).2 4095).2 281474976710655).2 65535).2 65535).2 ≠ none → lo = (spS bs (optS bs true (optS bs true (hdSt bs) 4095).2 281474976710655).2).1 ∧ hi = (spS bs (optS bs true (optS bs true (hdSt bs) 4095).2 281474976710655).2).2.1 :=
    fun h => q3 (optS_none (optS_none (optS_none (optS_none (optS_none h)))))
  unfold hdS finC
  dsimp only
  generalize optS bs (hasF (hdK bs) 3) _ 65535 = B at r8 hs ⊢
  obtain ⟨b, st⟩ := B
  dsimp only at r8 hs ⊢
  obtain ⟨⟨n, rfl, hn⟩, r8⟩ := r8
  cases st with
  | none =>
    dsimp only at r8 ⊢
    cases d8 with
    | true => exact ⟨_, _, _, _, _, _, _, _, _, _, _, _, rfl⟩
    | false =>
      obtain rfl : w8 = true := by rcases r8 with h | h; exact h; cases h
      rw [if_neg (by simp)]
      split <;> exact ⟨_, _, _, _, _, _, _, _, _, _, _, _, rfl⟩
  | some m =>
    obtain ⟨rfl, rfl, e⟩ := r8
    obtain ⟨rfl, rfl⟩ := hs (by simp)
    obtain rfl : n = m := by omega
    dsimp only
    rw [if_neg (c := false = true) (by simp)]
    by_cases hv : validF (hdK bs) (optS bs true (hdSt bs) 4095).1 (optS bs true (optS bs true (hdSt bs) 4095).2 281474976710655).1 (spS bs (optS bs true (optS bs true (hdSt bs) 4095).2 281474976710655).2).1 (spS bs (optS bs true (optS bs true (hdSt bs) 4095).2 281474976710655).2).2.1 (optS bs (hasF (hdK bs) 0) (spS bs (optS bs true (optS bs true (hdSt bs) 4095).2 281474976710655).2).2.2 65535).1 (optS bs (hasF (hdK bs) 1) (optS bs (hasF (hdK bs) 0) (spS bs (optS bs true (optS bs true (hdSt bs) 4095).2 281474976710655).2).2.2 65535).2 4095).1 (optS bs (hasF (hdK bs) 2) (optS bs (hasF (hdK bs) 1) (optS bs (hasF (hdK bs) 0) (spS bs (optS bs true (optS bs true (hdSt bs) 4095).2 281474976710655).2).2.2 65535).2 4095).2 281474976710655).1 (optS bs (hasF (hdK bs) 2) (optS bs (hasF (hdK bs) 2) (optS bs (hasF (hdK bs) 1) (optS bs (hasF (hdK bs) 0) (spS bs (optS bs true (optS bs true (hdSt bs) 4095).2 281474976710655).2).2.2 65535).2 4095).2 281474976710655).2 65535).1 b [] = true
    · rw [if_pos hv, if_neg (by rw [Bool.not_eq_true, Bool.not_eq_false']; exact hv)]
      exact ⟨rfl, hn, hv⟩
    · rw [if_neg hv, if_pos (by simpa using hv)]
      exact ⟨_, _, _, _, _, _, _, _, _, _, _, _, rfl⟩
theorem has_tab (kind : Int) (h1 : 1 ≤ kind) (h9 : kind ≤ 9) : hasF kind 0 = (kind == 1 || (kind == 2 || (decide (kind ≥ 4) && decide (kind ≤ 6)))) ∧ hasF kind 1 = (kind == 3 || kind == 6) ∧ hasF kind 2 = decide (kind ≥ 7) ∧ hasF kind 3 = (kind == 7) ∧ hasF kind 4 = (decide (kind ≥ 4) && decide (kind ≤ 8)) := by
  have : kind = 1 ∨ kind = 2 ∨ kind = 3 ∨ kind = 4 ∨ kind = 5 ∨ kind = 6 ∨ kind = 7 ∨ kind = 8 ∨ kind = 9 := by omega
  rcases this with rfl | rfl | rfl | rfl | rfl | rfl | rfl | rfl | rfl <;> decide +kernel
theorem body_recs (kind from0 inc lo hi seq target life epoch base : Int) (recs l : LR) (hr : ∀ r ∈ recs, recOkT r = true) (base' : LR) (hb : ∀ r ∈ base', recOkT r = true) (hbn : base'.length < 1000000000) (hn : recs.length ≤ 1000) :
    ∀ (k i : Nat) (last : Int) (acc : List Int), i ≤ recs.length → recs.length - i < k → -1 ≤ last → risen last (recs.drop i) → acc.length + 5000 * (recs.length - i) ≤ 1000000000 →
    law15_Body.l17 BIG kind from0 inc lo hi seq target life epoch base recs l k base' last (i : Int) acc = some (acc ++ recs3 base' last (recs.drop i)) := by
  intro k
  induction k with
  | zero => intro i last acc h1 h2; omega
  | succ k ih =>
    intro i last acc h1 h2 h3 h4 h5
    rw [law15_Body.l17]
    unfold law15_Body.b17
    simp only [veil_eq]
    by_cases hI : i < recs.length
    · rw [if_pos (by simp; omega), idx_at, List.getElem?_eq_getElem hI]
      dsimp only
      have hm := hr recs[i] (List.getElem_mem hI)
      rw [List.drop_eq_getElem_cons hI] at h4 ⊢
      generalize recs[i] = r at hm h4 ⊢
      obtain ⟨h6, h7⟩ := h4
      have hlen := rec3_any (o := oldR base' r.1) (last := last) hm
      rw [one.pure acc r last base' hm hb hbn h3 h6 (by omega)]
      dsimp only
      have hid := (recOk_facts hm).1
      rw [wrap_small _ (by omega) (by omega), show ((i : Int) + 1) = ((i + 1 : Nat) : Int) from by omega, ih (i + 1) r.1 _ (by omega) (by omega) (by omega) h7 (by simp; omega)]
      simp [recs3]
    · rw [if_neg (by simp; omega), List.drop_of_length_le (by omega)]
      simp [recs3]
set_option maxHeartbeats 4000000 in
theorem Body15.pure (kind from0 inc lo hi seq target life epoch base : Int) (recs l : LR) (hv : validF kind from0 inc lo hi seq target life epoch base recs = true) (hl : ∀ r ∈ l, recOkT r = true) (hln : l.length < 1000000000) :
    law15_Body.f BIG kind from0 inc lo hi seq target life epoch base recs l = some (body3 kind from0 inc lo hi seq target life epoch base recs l) := by
  obtain ⟨v1, v2, v3, v4, v5, v6, v7, v8, v9, v10, v11, v12, v13, v14⟩ := valid_facts hv
  obtain ⟨w1, w2, w3, w4, w5, w6, _⟩ := lives_facts v12
  obtain ⟨_, hris⟩ := valid_recs hv
  obtain ⟨H0, H1, H2, H3, H4⟩ := has_tab kind v1 v2
  have hs := (okS_iff _ _).1 v7
  have n1 := vi_len from0
  have n2 := vi_len inc
  have n3 := vi_len seq
  have n4 := vi_len target
  have n5 := vi_len life
  have n6 := vi_len epoch
  have n7 := vi_len base
  have n8 := vi_len (recs.length : Int)
  have h15 : ∀ (b' : LR), (∀ r ∈ b', recOkT r = true) → b'.length < 1000000000 → ∀ (acc : List Int), acc.length ≤ 1000 → law15_Body.l15 BIG kind from0 inc lo hi seq target life epoch base recs l BIG b' acc = some (acc ++ recs3 b' (-1) recs) := by
    intro b' hb hbn acc ha
    rw [law15_Body.l15_at BIG BIG (BIG - 1) big_eq]
    unfold law15_Body.b15
    have := body_recs kind from0 inc lo hi seq target life epoch base recs l v14 b' hb hbn (by omega) BIG 0 (-1) acc (by omega) (by rw [BIG_eq]; omega) (by omega) (by simpa using hris) (by omega)
    simpa using this
  have h13 : ∀ (b' : LR), (∀ r ∈ b', recOkT r = true) → b'.length < 1000000000 → ∀ (acc : List Int), acc.length ≤ 900 → law15_Body.l13 BIG kind from0 inc lo hi seq target life epoch base recs l BIG b' acc = some (acc ++ ((if hasF kind 4 then vi (recs.length : Int) else []) ++ recs3 b' (-1) recs)) := by
    intro b' hb hbn acc ha
    rw [law15_Body.l13_at BIG BIG (BIG - 1) big_eq]
    unfold law15_Body.b13
    simp only [veil_eq]
    rw [H4, F15 acc _ (by omega) (by omega) (by omega)]
    cases decide (kind ≥ 4) <;> cases decide (kind ≤ 8) <;> simp only [Bool.false_eq_true, if_false, if_true, Bool.and_self, Bool.and_true, Bool.and_false] <;> rw [h15 b' hb hbn _ (by first | omega | (simp; omega) | simp)] <;> simp
  have h11 : ∀ (b' : LR), (∀ r ∈ b', recOkT r = true) → b'.length < 1000000000 → ∀ (acc : List Int), acc.length ≤ 800 → law15_Body.l11 BIG kind from0 inc lo hi seq target life epoch base recs l BIG b' acc = some (acc ++ ((if hasF kind 3 then vi base else []) ++ ((if hasF kind 4 then vi (recs.length : Int) else []) ++ recs3 b' (-1) recs))) := by
    intro b' hb hbn acc ha
    rw [law15_Body.l11_at BIG BIG (BIG - 1) big_eq]
    unfold law15_Body.b11
    simp only [veil_eq]
    rw [H3, F15 acc _ (by omega) (by omega) (by omega)]
    cases (kind == 7) <;> simp only [Bool.false_eq_true, if_false, if_true] <;> rw [h13 b' hb hbn _ (by first | omega | (simp; omega) | simp)] <;> simp
  have h9 : ∀ (b' : LR), (∀ r ∈ b', recOkT r = true) → b'.length < 1000000000 → ∀ (acc : List Int), acc.length ≤ 700 → law15_Body.l9 BIG kind from0 inc lo hi seq target life epoch base recs l BIG b' acc = some (acc ++ ((if hasF kind 2 then vi life ++ vi epoch else []) ++ ((if hasF kind 3 then vi base else []) ++ ((if hasF kind 4 then vi (recs.length : Int) else []) ++ recs3 b' (-1) recs)))) := by
    intro b' hb hbn acc ha
    rw [law15_Body.l9_at BIG BIG (BIG - 1) big_eq]
    unfold law15_Body.b9
    simp only [veil_eq]
    rw [H2, F15 acc _ (by omega) (by omega) (by omega)]
    dsimp only
    rw [F15 _ epoch (by omega) (by omega) (by simp; omega)]
    cases decide (kind ≥ 7) <;> simp only [Bool.false_eq_true, if_false, if_true] <;> rw [h11 b' hb hbn _ (by first | omega | (simp; omega) | simp)] <;> simp
  have h7 : ∀ (b' : LR), (∀ r ∈ b', recOkT r = true) → b'.length < 1000000000 → ∀ (acc : List Int), acc.length ≤ 600 → law15_Body.l7 BIG kind from0 inc lo hi seq target life epoch base recs l BIG b' acc = some (acc ++ ((if hasF kind 1 then vi target else []) ++ ((if hasF kind 2 then vi life ++ vi epoch else []) ++ ((if hasF kind 3 then vi base else []) ++ ((if hasF kind 4 then vi (recs.length : Int) else []) ++ recs3 b' (-1) recs))))) := by
    intro b' hb hbn acc ha
    rw [law15_Body.l7_at BIG BIG (BIG - 1) big_eq]
    unfold law15_Body.b7
    simp only [veil_eq]
    rw [H1, F15 acc _ (by omega) (by omega) (by omega)]
    cases (kind == 3) <;> cases (kind == 6) <;> simp only [Bool.false_eq_true, if_false, if_true, Bool.or_self, Bool.or_true, Bool.or_false] <;> rw [h9 b' hb hbn _ (by first | omega | (simp; omega) | simp)] <;> simp
  have a3 : Go.IntKind.wrap .i64 (lo * 16) = lo * 16 := wrap_small _ (by omega) (by omega)
  have a4 : Go.IntKind.wrap .i64 (lo * 16 + hi) = lo * 16 + hi := wrap_small _ (by omega) (by omega)
  have a5 : Go.IntKind.wrap .u8 (lo * 16 + hi) = lo * 16 + hi := byteW _ (by omega) (by omega)
  have a6 : Go.IntKind.wrap .u8 kind = kind := byteW _ (by omega) (by omega)
  have h3 : ∀ (b' : LR), (∀ r ∈ b', recOkT r = true) → b'.length < 1000000000 → law15_Body.l3 BIG kind from0 inc lo hi seq target life epoch base recs l BIG b' = some (head3 kind from0 inc lo hi seq target life epoch base (recs.length : Int) ++ recs3 b' (-1) recs) := by
    intro b' hb hbn
    rw [law15_Body.l3_at BIG BIG (BIG - 1) big_eq]
    unfold law15_Body.b3
    simp only [veil_eq]
    rw [a6, F15 [kind] from0 (by omega) (by omega) (by simp)]
    dsimp only
    rw [F15 _ inc (by omega) (by omega) (by simp; omega)]
    dsimp only
    rw [if_pos (by simp [lim]; omega), a3, a4, a5, F15 _ seq (by omega) (by omega) (by simp; omega)]
    unfold head3
    rw [H0]
    cases (kind == 1) <;> cases (kind == 2) <;> cases decide (kind ≥ 4) <;> cases decide (kind ≤ 6) <;> simp only [Bool.false_eq_true, if_false, if_true, Bool.or_self, Bool.or_true, Bool.or_false, Bool.and_self, Bool.and_true, Bool.and_false, Bool.true_or, Bool.false_or, Bool.true_and, Bool.false_and] <;> rw [h7 b' hb hbn _ (by first | omega | (simp; omega) | simp)] <;> simp
  unfold law15_Body.f law15_Body.b body3 baseF
  cases hq : (base == 0)
  · simp only [Bool.false_eq_true, if_false]
    exact h3 l hl hln
  · simp only [if_true]
    exact h3 [] (by simp) (by simp)
theorem Awake15.pure : law15_awake.f BIG () = some true := by
  unfold law15_awake.f law15_awake.b
  simp only [veil_eq]
  rw [Enc3.pure _ _ _ _ _ _ _ _ _ _ _ [] rfl rfl (by simp), Enc3.pure _ _ _ _ _ _ _ _ _ _ _ [(2, (0, (0, ((1, 3), (false, [])))))] rfl rfl (by simp)]
  rw [show enc3 4 5 300 1 3 7 0 0 0 0 [] [] = ([4, 5, 172, 2, 19, 7, 0], 0) from by kernel_rfl, show enc3 7 0 0 1 3 0 0 0 2 1 [(2, (1, (0, ((1, 3), (false, [])))))] [(2, (0, (0, ((1, 3), (false, [])))))] = ([7, 0, 0, 19, 0, 2, 1, 1, 2, 24, 2], 0) from by kernel_rfl]
  simp
theorem few_len {l : LR} (h : few8 l = true) : l.length < 1000000000 := by
  unfold few8 at h
  split at h
  · cases h
  · rename_i c; simp at c; omega
theorem get_drop {bs : List Int} {a : Nat} {c : Int} (h : bs[a]? = some c) : bs.drop a = c :: bs.drop (a + 1) ∧ a < bs.length := by
  obtain ⟨hlt, he⟩ := List.getElem?_eq_some_iff.1 h
  rw [List.drop_eq_getElem_cons hlt, he]
  exact ⟨rfl, hlt⟩
/-- the field that stands at a place, and the place behind it -/
noncomputable def fldS (bs : List Int) (a : Nat) : Option ((Int × List Int) × Nat) :=
  match bs[a]? with
  | none => none
  | some t => match tk bs (a + 1) 4096 with
    | none => none
    | some (n, a2) => if a2 + n.toNat ≤ bs.length then some ((t, (bs.drop a2).take n.toNat), a2 + n.toNat) else none
theorem fldS_sound {bs : List Int} {a : Nat} {x : Int × List Int} {a2 : Nat} (hb : ∀ c ∈ bs, 0 ≤ c ∧ c ≤ 255) (h : fldS bs a = some (x, a2)) : bs.drop a = fld3 x ++ bs.drop a2 ∧ a2 ≤ bs.length ∧ x.2.length ≤ 4096 := by
  unfold fldS at h
  cases hc : bs[a]? with
  | none => rw [hc] at h; cases h
  | some c =>
    rw [hc] at h
    dsimp only at h
    cases ht : tk bs (a + 1) 4096 with
    | none => rw [ht] at h; cases h
    | some p =>
      obtain ⟨n, a3⟩ := p
      rw [ht] at h
      dsimp only at h
      by_cases hle : a3 + n.toNat ≤ bs.length
      · rw [if_pos hle] at h
        obtain ⟨e1, n0, n1, _, _, _⟩ := tk_facts hb ht
        obtain ⟨e0, _⟩ := get_drop hc
        have hlen : ((bs.drop a3).take n.toNat).length = n.toNat := by rw [List.length_take, List.length_drop]; omega
        obtain ⟨rfl, rfl⟩ : (c, (bs.drop a3).take n.toNat) = x ∧ a3 + n.toNat = a2 := by cases h; exact ⟨rfl, rfl⟩
        refine ⟨?_, hle, by dsimp only; omega⟩
        unfold fld3
        dsimp only
        rw [hlen, e0, e1, show ((n.toNat : Nat) : Int) = n from by omega, ← List.drop_drop, List.cons_append, List.append_assoc, List.take_append_drop]
      · rw [if_neg hle] at h; cases h
noncomputable def fldsS (bs : List Int) : Nat → Nat → Option (LF × Nat)
  | 0, a => some ([], a)
  | k + 1, a => match fldS bs a with
    | none => none
    | some (x, a2) => match fldsS bs k a2 with
      | none => none
      | some (l, a3) => some (x :: l, a3)
theorem fldsS_sound {bs : List Int} (hb : ∀ c ∈ bs, 0 ≤ c ∧ c ≤ 255) : ∀ (k a : Nat) (l : LF) (a2 : Nat), a ≤ bs.length → fldsS bs k a = some (l, a2) → bs.drop a = l.flatMap fld3 ++ bs.drop a2 ∧ a2 ≤ bs.length ∧ l.length = k ∧ ∀ x ∈ l, x.2.length ≤ 4096 := by
  intro k
  induction k with
  | zero =>
    intro a l a2 ha h
    rw [fldsS] at h
    cases h
    exact ⟨rfl, ha, rfl, by simp⟩
  | succ k ih =>
    intro a l a2 ha h
    rw [fldsS] at h
    cases h1 : fldS bs a with
    | none => rw [h1] at h; cases h
    | some p =>
      obtain ⟨x, a3⟩ := p
      rw [h1] at h
      dsimp only at h
      obtain ⟨e1, l1, s1⟩ := fldS_sound hb h1
      cases h2 : fldsS bs k a3 with
      | none => rw [h2] at h; cases h
      | some q =>
        obtain ⟨m, a4⟩ := q
        rw [h2] at h
        dsimp only at h
        obtain ⟨e2, l2, n2, s2⟩ := ih a3 m a4 l1 h2
        cases h
        refine ⟨by rw [e1, e2]; simp, l2, by simp [n2], ?_⟩
        intro y hy
        rcases List.mem_cons.1 hy with rfl | hy
        · exact s1
        · exact s2 y hy
noncomputable def bagS (bs : List Int) (a : Nat) : Option (LF × Nat) :=
  match tk bs a 32 with
  | none => none
  | some (n, a1) => fldsS bs n.toNat a1
theorem bagS_sound {bs : List Int} (hb : ∀ c ∈ bs, 0 ≤ c ∧ c ≤ 255) {a : Nat} {l : LF} {a2 : Nat} (h : bagS bs a = some (l, a2)) : bs.drop a = bag3 l ++ bs.drop a2 ∧ a2 ≤ bs.length ∧ l.length ≤ 32 ∧ ∀ x ∈ l, x.2.length ≤ 4096 := by
  unfold bagS at h
  cases ht : tk bs a 32 with
  | none => rw [ht] at h; cases h
  | some p =>
    obtain ⟨n, a1⟩ := p
    rw [ht] at h
    dsimp only at h
    obtain ⟨e1, n0, n1, _, _, l1⟩ := tk_facts hb ht
    obtain ⟨e2, l2, n2, s2⟩ := fldsS_sound hb _ _ _ _ l1 h
    refine ⟨?_, l2, by omega, s2⟩
    rw [e1, e2]
    unfold bag3
    rw [n2, show ((n.toNat : Nat) : Int) = n from by omega, List.append_assoc]
theorem lexB_eq : ∀ (l m : List Int), lexB l m = 0 → l = m
  | [], [], _ => rfl
  | [], _ :: _, h => by simp [lexB] at h
  | _ :: _, [], h => by simp [lexB] at h
  | x :: l, y :: m, h => by
    rw [lexB] at h
    by_cases h1 : x < y
    · rw [if_pos (by simpa using h1)] at h; omega
    · rw [if_neg (by simpa using h1)] at h
      by_cases h2 : x > y
      · rw [if_pos (by simpa using h2)] at h; omega
      · rw [if_neg (by simpa using h2)] at h
        rw [lexB_eq l m h, show x = y from by omega]
theorem cmpGo_eq : ∀ (l m : LF), cmpGo l m = 0 → l = m
  | [], [], _ => rfl
  | [], _ :: _, h => by simp [cmpGo] at h
  | _ :: _, [], h => by simp [cmpGo] at h
  | (t, d) :: l, (u, e) :: m, h => by
    rw [cmpGo] at h
    dsimp only at h
    by_cases h1 : signF t d u e = 0
    · rw [if_neg (by simp [h1])] at h
      rw [cmpGo_eq l m h]
      unfold signF at h1
      by_cases h2 : t = u
      · subst h2
        rw [if_neg (by simp)] at h1
        rw [lexB_eq d e h1]
      · rw [if_pos (by simpa using h2)] at h1
        split at h1 <;> omega
    · rw [if_pos (by simpa using h1)] at h
      exact absurd h h1
theorem cmpGo_iff (l m : LF) : (cmpGo l m == 0) = decide (l = m) := by
  by_cases h : l = m
  · subst h; rw [cmpGo_self]; simp
  · rw [decide_eq_false h]
    cases hc : cmpGo l m == 0 with
    | false => rfl
    | true => exact absurd (cmpGo_eq l m (by simpa using hc)) h
noncomputable def zagF (z : Int) : Int := if z % 2 = 0 then z / 2 else -((z + 1) / 2)
theorem zig_zag (z : Int) (h : 0 ≤ z) : zigF (zagF z) = z := by unfold zigF zagF; split <;> split <;> omega
/-- the span of a record with such flags -/
noncomputable def spanS (bs : List Int) (o : REC × Bool) (v : Int) (a : Nat) : Option ((Int × Int) × Nat) :=
  if v / 8 % 2 = 1 then some (o.1.2.2.2.1, a) else
  match bs[a]? with
  | none => none
  | some c => if okS (c / 16) (c % 16) = true ∧ (o.2 && (c / 16 == o.1.2.2.2.1.1 && c % 16 == o.1.2.2.2.1.2)) = false then some ((c / 16, c % 16), a + 1) else none
noncomputable def bagsS (bs : List Int) (o : REC × Bool) (v : Int) (a : Nat) : Option (LF × Nat) :=
  if v / 4 % 2 = 1 then some ([], a) else if 16 ≤ v then some (o.1.2.2.2.2.2, a) else
  match bagS bs a with
  | none => none
  | some (b, a2) => if (o.2 && cmpGo b o.1.2.2.2.2.2 == 0) = true then none else some (b, a2)
noncomputable def flagBad (o : REC × Bool) (v : Int) : Bool := decide (32 ≤ v) || ((!o.2 && decide (8 ≤ v)) || (decide (v / 4 % 2 = 1) && decide (16 ≤ v)))
/-- the record that stands at a place behind an id, and the place behind it -/
noncomputable def recS (bs : List Int) (base : LR) (last : Int) (a : Nat) : Option (REC × Nat) :=
  match tk bs a 4095 with
  | none => none
  | some (d, a1) => match bs[a1]? with
    | none => none
    | some v => if flagBad (oldR base (last + 1 + d)) v then none else
      match spanS bs (oldR base (last + 1 + d)) v (a1 + 1) with
      | none => none
      | some (sp, a2) => match tk bs a2 562949953421310 with
        | none => none
        | some (z, a3) => match bagsS bs (oldR base (last + 1 + d)) v a3 with
          | none => none
          | some (b, a4) => some ((last + 1 + d, (oldR base (last + 1 + d)).1.2.1 + zagF z, v % 4, sp, v / 4 % 2 == 1, b), a4)
theorem spanS_sound {bs : List Int} (hb : ∀ c ∈ bs, 0 ≤ c ∧ c ≤ 255) {o : REC × Bool} {v : Int} {a : Nat} {sp : Int × Int} {a2 : Nat} (ha : a ≤ bs.length) (v0 : 0 ≤ v) (ho : o.2 = false → v < 8) (h : spanS bs o v a = some (sp, a2)) :
    bs.drop a = (if v / 8 % 2 = 1 then [] else [sp.1 * 16 + sp.2]) ++ bs.drop a2 ∧ a2 ≤ bs.length ∧ (o.2 && (o.1.2.2.2.1.1 == sp.1 && o.1.2.2.2.1.2 == sp.2)) = decide (v / 8 % 2 = 1) ∧ (v / 8 % 2 = 1 ∨ okS sp.1 sp.2 = true) := by
  unfold spanS at h
  by_cases hv : v / 8 % 2 = 1
  · rw [if_pos hv] at h
    cases h
    rw [if_pos hv]
    refine ⟨rfl, ha, ?_, Or.inl hv⟩
    have : o.2 = true := by
      cases h2 : o.2 with
      | true => rfl
      | false => have := ho h2; omega
    rw [this, decide_eq_true hv]
    simp
  · rw [if_neg hv] at h ⊢
    cases hc : bs[a]? with
    | none => rw [hc] at h; cases h
    | some c =>
      rw [hc] at h
      dsimp only at h
      obtain ⟨e0, hlt⟩ := get_drop hc
      obtain ⟨c0, c1⟩ := hb c (List.mem_of_getElem? hc)
      by_cases hk : okS (c / 16) (c % 16) = true ∧ (o.2 && (c / 16 == o.1.2.2.2.1.1 && c % 16 == o.1.2.2.2.1.2)) = false
      · rw [if_pos hk] at h
        cases h
        refine ⟨by rw [e0, show c / 16 * 16 + c % 16 = c from by omega]; rfl, hlt, ?_, Or.inr hk.1⟩
        rw [decide_eq_false hv, ← hk.2, Bool.beq_comm (a := o.1.2.2.2.1.1), Bool.beq_comm (a := o.1.2.2.2.1.2)]
      · rw [if_neg hk] at h; cases h
theorem decide_comm (l m : LF) : decide (l = m) = decide (m = l) := by
  by_cases h : l = m
  · rw [decide_eq_true h, decide_eq_true h.symm]
  · rw [decide_eq_false h, decide_eq_false (fun e => h e.symm)]
theorem flagBad_no {o : REC × Bool} {v : Int} (h : flagBad o v = false) : v < 32 ∧ (o.2 = false → v < 8) ∧ (v / 4 % 2 = 1 → v < 16) := by
  unfold flagBad at h
  simp only [Bool.or_eq_false_iff, Bool.and_eq_false_iff, decide_eq_false_iff_not, Bool.not_eq_false'] at h
  obtain ⟨h1, h2, h3⟩ := h
  refine ⟨by omega, fun ho => ?_, fun hc => ?_⟩
  · rcases h2 with h2 | h2
    · rw [ho] at h2; cases h2
    · omega
  · rcases h3 with h3 | h3
    · exact absurd hc h3
    · omega
theorem bagsS_sound {bs : List Int} (hb : ∀ c ∈ bs, 0 ≤ c ∧ c ≤ 255) {o : REC × Bool} {v : Int} {a : Nat} {b : LF} {a2 : Nat} (ha : a ≤ bs.length) (ho : o.2 = false → v < 8) (hc : v / 4 % 2 = 1 → v < 16) (h : bagsS bs o v a = some (b, a2)) :
    bs.drop a = (if (v / 4 % 2 == 1 || decide (16 ≤ v)) = true then [] else bag3 b) ++ bs.drop a2 ∧ a2 ≤ bs.length ∧ (o.2 && (!(v / 4 % 2 == 1) && cmpGo o.1.2.2.2.2.2 b == 0)) = decide (16 ≤ v) := by
  unfold bagsS at h
  by_cases h1 : v / 4 % 2 = 1
  · rw [if_pos h1] at h
    cases h
    have := hc h1
    have e1 : (v / 4 % 2 == 1) = true := by simpa using h1
    rw [e1, decide_eq_false (by omega : ¬ 16 ≤ v)]
    exact ⟨rfl, ha, by simp⟩
  · rw [if_neg h1] at h
    have e1 : (v / 4 % 2 == 1) = false := by simpa using h1
    rw [e1]
    by_cases h2 : 16 ≤ v
    · rw [if_pos h2] at h
      cases h
      rw [decide_eq_true h2, cmpGo_self]
      have : o.2 = true := by
        cases h2 : o.2 with
        | true => rfl
        | false => have := ho h2; omega
      exact ⟨rfl, ha, by rw [this]; rfl⟩
    · rw [if_neg h2] at h
      rw [decide_eq_false h2]
      cases hg : bagS bs a with
      | none => rw [hg] at h; cases h
      | some p =>
        obtain ⟨b', a3⟩ := p
        rw [hg] at h
        dsimp only at h
        obtain ⟨e2, l2, _, _⟩ := bagS_sound hb hg
        by_cases h3 : (o.2 && cmpGo b' o.1.2.2.2.2.2 == 0) = true
        · rw [if_pos h3] at h; cases h
        · rw [if_neg h3] at h
          cases h
          refine ⟨by rw [e2]; rfl, l2, ?_⟩
          rw [cmpGo_iff] at h3
          rw [cmpGo_iff, ← decide_comm b]
          simpa using h3
theorem recS_sound {bs : List Int} (hb : ∀ c ∈ bs, 0 ≤ c ∧ c ≤ 255) {base : LR} {last : Int} {a : Nat} {r : REC} {a2 : Nat} (h : recS bs base last a = some (r, a2)) :
    bs.drop a = rec3 (oldR base r.1) last r ++ bs.drop a2 ∧ a2 ≤ bs.length ∧ last < r.1 ∧ r.1 ≤ last + 4096 := by
  unfold recS at h
  cases ht : tk bs a 4095 with
  | none => rw [ht] at h; cases h
  | some p =>
    obtain ⟨d, a1⟩ := p
    rw [ht] at h
    dsimp only at h
    obtain ⟨e1, d0, d1, _, _, l1⟩ := tk_facts hb ht
    cases hc : bs[a1]? with
    | none => rw [hc] at h; cases h
    | some v =>
      rw [hc] at h
      dsimp only at h
      obtain ⟨e2, l2⟩ := get_drop hc
      obtain ⟨v0, v1⟩ := hb v (List.mem_of_getElem? hc)
      cases hf : flagBad (oldR base (last + 1 + d)) v with
      | true => rw [hf] at h; cases h
      | false =>
        obtain ⟨f1, f2, f3⟩ := flagBad_no hf
        rw [hf, if_neg (by simp)] at h
        cases hs : spanS bs (oldR base (last + 1 + d)) v (a1 + 1) with
        | none => rw [hs] at h; cases h
        | some q =>
          obtain ⟨sp, a3⟩ := q
          rw [hs] at h
          dsimp only at h
          obtain ⟨e3, l3, s3, _⟩ := spanS_sound hb (by omega) v0 f2 hs
          cases hz : tk bs a3 562949953421310 with
          | none => rw [hz] at h; cases h
          | some w =>
            obtain ⟨z, a4⟩ := w
            rw [hz] at h
            dsimp only at h
            obtain ⟨e4, z0, z1, _, _, l4⟩ := tk_facts hb hz
            cases hg : bagsS bs (oldR base (last + 1 + d)) v a4 with
            | none => rw [hg] at h; cases h
            | some u =>
              obtain ⟨b, a5⟩ := u
              rw [hg] at h
              dsimp only at h
              obtain ⟨e5, l5, s5⟩ := bagsS_sound hb l4 f2 f3 hg
              cases h
              refine ⟨?_, l5, by dsimp only; omega, by dsimp only; omega⟩
              rw [e1, e2, e3, e4, e5]
              dsimp only
              unfold rec3 flagV sameSpan sameBag
              dsimp only
              rw [s3, s5]
              generalize oldR base (last + 1 + d) = o
              rw [show last + 1 + d - last - 1 = d from by omega, show o.1.2.1 + zagF z - o.1.2.1 = zagF z from by omega, zig_zag z z0]
              have ev : v % 4 + (if (v / 4 % 2 == 1) = true then 4 else 0) + (if decide (v / 8 % 2 = 1) = true then 8 else 0) + (if decide (16 ≤ v) = true then 16 else 0) = v := by
                simp only [beq_iff_eq, decide_eq_true_eq]
                split <;> split <;> split <;> omega
              rw [ev]
              simp only [decide_eq_true_eq, List.append_assoc, List.cons_append]
theorem old_inc {base : LR} (hbase : ∀ x ∈ base, recOkT x = true) (id : Int) : 0 ≤ (oldR base id).1.2.1 ∧ (oldR base id).1.2.1 ≤ 281474976710655 := by
  rcases oldR_mem (base := base) (id := id) with ⟨_, h⟩ | ⟨_, h, _⟩
  · rw [h]; exact ⟨by simp, by simp⟩
  · have := recOk_facts (hbase _ h)
    exact ⟨this.2.2.1, this.2.2.2.1⟩
noncomputable def recsS (bs : List Int) (base : LR) : Nat → Int → Nat → Option (LR × Nat)
  | 0, _, a => some ([], a)
  | k + 1, last, a => match recS bs base last a with
    | none => none
    | some (r, a2) => match recsS bs base k r.1 a2 with
      | none => none
      | some (l, a3) => some (r :: l, a3)
theorem recsS_sound {bs : List Int} (hb : ∀ c ∈ bs, 0 ≤ c ∧ c ≤ 255) {base : LR} : ∀ (k : Nat) (last : Int) (a : Nat) (l : LR) (a2 : Nat), a ≤ bs.length → recsS bs base k last a = some (l, a2) → bs.drop a = recs3 base last l ++ bs.drop a2 ∧ a2 ≤ bs.length ∧ l.length = k := by
  intro k
  induction k with
  | zero =>
    intro last a l a2 ha h
    rw [recsS] at h
    cases h
    exact ⟨rfl, ha, rfl⟩
  | succ k ih =>
    intro last a l a2 ha h
    rw [recsS] at h
    cases h1 : recS bs base last a with
    | none => rw [h1] at h; cases h
    | some p =>
      obtain ⟨x, a3⟩ := p
      rw [h1] at h
      dsimp only at h
      obtain ⟨e1, l1, _⟩ := recS_sound hb h1
      cases h2 : recsS bs base k x.1 a3 with
      | none => rw [h2] at h; cases h
      | some q =>
        obtain ⟨m, a4⟩ := q
        rw [h2] at h
        dsimp only at h
        obtain ⟨e2, l2, n2⟩ := ih x.1 a3 m a4 l1 h2
        cases h
        exact ⟨by rw [e1, e2, recs3, List.append_assoc], l2, by simp [n2]⟩
theorem optS_sound {bs : List Int} (hb : ∀ c ∈ bs, 0 ≤ c ∧ c ≤ 255) {c : Bool} {st : Option Nat} {most : Int} {a' : Nat} (h : (optS bs c st most).2 = some a') :
    ∃ a0, st = some a0 ∧ bs.drop a0 = (if c = true then vi (optS bs c st most).1 else []) ++ bs.drop a' ∧ (a0 ≤ bs.length → a' ≤ bs.length) := by
  cases c with
  | false => exact ⟨a', h, rfl, id⟩
  | true =>
    cases st with
    | none => exact absurd h (by unfold optS; simp)
    | some a0 =>
      unfold optS at h ⊢
      simp only [if_true] at h ⊢
      cases ht : tk bs a0 most with
      | none => rw [ht] at h; cases h
      | some p =>
        obtain ⟨w, a2⟩ := p
        rw [ht] at h
        cases h
        obtain ⟨e, _, _, _, _, l⟩ := tk_facts hb ht
        exact ⟨a0, rfl, e, fun _ => l⟩
theorem spS_sound {bs : List Int} (hb : ∀ c ∈ bs, 0 ≤ c ∧ c ≤ 255) {st : Option Nat} {a' : Nat} (h : (spS bs st).2.2 = some a') :
    ∃ a0, st = some a0 ∧ bs.drop a0 = ((spS bs st).1 * 16 + (spS bs st).2.1) :: bs.drop a' ∧ a' ≤ bs.length := by
  cases st with
  | none => cases h
  | some a0 =>
    unfold spS at h ⊢
    dsimp only at h ⊢
    cases hc : bs[a0]? with
    | none => rw [hc] at h; cases h
    | some c =>
      rw [hc] at h
      dsimp only at h ⊢
      obtain ⟨c0, c1⟩ := hb c (List.mem_of_getElem? hc)
      obtain ⟨e, hlt⟩ := get_drop hc
      by_cases ho : okS (c / 16) (c % 16) = true
      · rw [if_pos ho] at h ⊢
        cases h
        exact ⟨a0, rfl, by rw [e]; congr 1; dsimp only; omega, hlt⟩
      · rw [if_neg ho] at h; cases h
/-- a head, and what stands behind it -/
noncomputable def hd3 (k f i lo hi s t l e b : Int) (r : List Int) : List Int :=
  k :: (vi f ++ (vi i ++ ((lo * 16 + hi) :: ((if hasF k 0 = true then vi s else []) ++ ((if hasF k 1 = true then vi t else []) ++ ((if hasF k 2 = true then vi l else []) ++ ((if hasF k 2 = true then vi e else []) ++ ((if hasF k 3 = true then vi b else []) ++ r))))))))
theorem hd3_body (k f i lo hi s t l e b : Int) (recs base : LR) : body3 k f i lo hi s t l e b recs base = hd3 k f i lo hi s t l e b ((if hasF k 4 = true then vi (recs.length : Int) else []) ++ recs3 (baseF b base) (-1) recs) := by
  unfold body3 head3 hd3
  cases hasF k 2 <;> simp
theorem hdS_sound {bs : List Int} (hb : ∀ c ∈ bs, 0 ≤ c ∧ c ≤ 255) {k f i lo hi s t l e b : Int} {a : Nat} (h : hdS bs = some (k, f, i, lo, hi, s, t, l, e, b, a)) :
    bs = hd3 k f i lo hi s t l e b (bs.drop a) ∧ a ≤ bs.length ∧ validF k f i lo hi s t l e b [] = true := by
  unfold hdS at h
  dsimp only at h
  generalize hF : optS bs true (hdSt bs) 4095 = F at h
  generalize hI : optS bs true F.2 281474976710655 = I at h
  generalize hP : spS bs I.2 = P at h
  generalize hS : optS bs (hasF (hdK bs) 0) P.2.2 65535 = S at h
  generalize hT : optS bs (hasF (hdK bs) 1) S.2 4095 = T at h
  generalize hL : optS bs (hasF (hdK bs) 2) T.2 281474976710655 = L at h
  generalize hE : optS bs (hasF (hdK bs) 2) L.2 65535 = E at h
  generalize hB : optS bs (hasF (hdK bs) 3) E.2 65535 = B at h
  cases hB2 : B.2 with
  | none => rw [hB2] at h; cases h
  | some a' =>
    rw [hB2] at h
    dsimp only at h
    by_cases hv : validF (hdK bs) F.1 I.1 P.1 P.2.1 S.1 T.1 L.1 E.1 B.1 [] = true
    · rw [if_pos hv] at h
      cases h
      obtain ⟨a8, q8, e8, l8⟩ := optS_sound hb (h := by rw [hB]; exact hB2)
      obtain ⟨a7, q7, e7, l7⟩ := optS_sound hb (h := by rw [hE]; exact q8)
      obtain ⟨a6, q6, e6, l6⟩ := optS_sound hb (h := by rw [hL]; exact q7)
      obtain ⟨a5, q5, e5, l5⟩ := optS_sound hb (h := by rw [hT]; exact q6)
      obtain ⟨a4, q4, e4, l4⟩ := optS_sound hb (h := by rw [hS]; exact q5)
      obtain ⟨a3, q3, e3, l3⟩ := spS_sound hb (h := by rw [hP]; exact q4)
      obtain ⟨a2, q2, e2, l2⟩ := optS_sound hb (h := by rw [hI]; exact q3)
      obtain ⟨a1, q1, e1, l1⟩ := optS_sound hb (h := by rw [hF]; exact q2)
      rw [hF] at e1
      rw [hI] at e2
      rw [hP] at e3
      rw [hS] at e4
      rw [hT] at e5
      rw [hL] at e6
      rw [hE] at e7
      rw [hB] at e8
      have h1 : 0 < bs.length ∧ a1 = 1 := by
        unfold hdSt at q1
        by_cases h0 : 0 < bs.length
        · rw [if_pos h0] at q1; cases q1; exact ⟨h0, rfl⟩
        · rw [if_neg h0] at q1; cases q1
      obtain ⟨h0, rfl⟩ := h1
      have hk : bs = hdK bs :: bs.drop 1 := by
        cases bs with
        | nil => simp at h0
        | cons x m => rfl
      refine ⟨?_, l8 (l7 (l6 (l5 (l4 l3)))), hv⟩
      unfold hd3
      rw [← e8, ← e7, ← e6, ← e5, ← e4, ← e3]
      rw [if_pos rfl] at e1 e2
      rw [← e2, ← e1]
      exact hk
    · rw [if_neg hv] at h; cases h
abbrev MSG3 := Int × Int × Int × Int × Int × Int × Int × Int × Int × Int × LR
/-- the records of a message with such a head -/
noncomputable def restS (bs : List Int) (base : LR) (k : Int) (a : Nat) : Option (LR × Nat) :=
  if hasF k 4 = true then (match tk bs a 255 with
    | none => none
    | some (n, a1) => recsS bs base n.toNat (-1) a1) else some ([], a)
/-- the message of a body that was written with a base -/
noncomputable def decS (bs : List Int) (base : LR) : Option MSG3 :=
  match hdS bs with
  | none => none
  | some (k, f, i, lo, hi, s, t, l, e, b, a) =>
    match restS bs (baseF b base) k a with
    | none => none
    | some (rs, a2) => if a2 = bs.length ∧ bs.length ≤ 65499 ∧ validF k f i lo hi s t l e b rs = true then some (k, f, i, lo, hi, s, t, l, e, b, rs) else none
theorem restS_sound {bs : List Int} (hb : ∀ c ∈ bs, 0 ≤ c ∧ c ≤ 255) {base : LR} {k : Int} {a : Nat} {rs : LR} {a2 : Nat} (ha : a ≤ bs.length) (h : restS bs base k a = some (rs, a2)) :
    bs.drop a = (if hasF k 4 = true then vi (rs.length : Int) else []) ++ recs3 base (-1) rs ++ bs.drop a2 ∧ a2 ≤ bs.length := by
  unfold restS at h
  cases h4 : hasF k 4 with
  | false =>
    rw [h4, if_neg (by simp)] at h
    cases h
    exact ⟨rfl, ha⟩
  | true =>
    rw [h4, if_pos rfl] at h
    rw [if_pos rfl]
    cases ht : tk bs a 255 with
    | none => rw [ht] at h; cases h
    | some p =>
      obtain ⟨n, a1⟩ := p
      rw [ht] at h
      dsimp only at h
      obtain ⟨e1, n0, n1, _, _, l1⟩ := tk_facts hb ht
      obtain ⟨e2, l2, n2⟩ := recsS_sound hb _ _ _ _ _ l1 h
      refine ⟨?_, l2⟩
      rw [e1, e2, n2, show ((n.toNat : Nat) : Int) = n from by omega, List.append_assoc]
theorem decS_sound {bs : List Int} (hb : ∀ c ∈ bs, 0 ≤ c ∧ c ≤ 255) {base : LR} {k f i lo hi s t l e b : Int} {rs : LR} (h : decS bs base = some (k, f, i, lo, hi, s, t, l, e, b, rs)) :
    body3 k f i lo hi s t l e b rs base = bs ∧ validF k f i lo hi s t l e b rs = true ∧ bs.length ≤ 65499 ∧ ∃ a, hdS bs = some (k, f, i, lo, hi, s, t, l, e, b, a) := by
  unfold decS at h
  cases hh : hdS bs with
  | none => rw [hh] at h; cases h
  | some p =>
    obtain ⟨k', f', i', lo', hi', s', t', l', e', b', a⟩ := p
    rw [hh] at h
    dsimp only at h
    obtain ⟨e1, l1, _⟩ := hdS_sound hb hh
    cases hr : restS bs (baseF b' base) k' a with
    | none => rw [hr] at h; cases h
    | some q =>
      obtain ⟨rs', a2⟩ := q
      rw [hr] at h
      dsimp only at h
      obtain ⟨e2, l2⟩ := restS_sound hb l1 hr
      by_cases hc : a2 = bs.length ∧ bs.length ≤ 65499 ∧ validF k' f' i' lo' hi' s' t' l' e' b' rs' = true
      · rw [if_pos hc] at h
        obtain ⟨c1, c2, c3⟩ := hc
        cases h
        refine ⟨?_, c3, c2, a, rfl⟩
        rw [hd3_body]
        have e3 : bs.drop a = (if hasF k 4 = true then vi (rs.length : Int) else []) ++ recs3 (baseF b base) (-1) rs := by
          rw [e2, c1, List.drop_length, List.append_nil]
        rw [← e3]
        exact e1.symm
      · rw [if_neg hc] at h; cases h
theorem baseF_all {base : LR} (h : ∀ x ∈ base, recOkT x = true) (b : Int) : ∀ x ∈ baseF b base, recOkT x = true := by
  unfold baseF
  split
  · simp
  · exact h
noncomputable def msg_Head_E : Env := ⟨th, gam [], fun i => ⟨[], [], []⟩⟩
noncomputable def msg_Head.k (rs : List AV) (os : List Den.Obj) : Option (Int × Int × Int × Int × Int × Int × Int × Int × Int × Int × (List (Int × (Int × (Int × ((Int × Int) × (Bool × (List (Int × (List Int)))))))))) :=
  match rs, os with
  | [.agg [.d (.int .i64) r0, .d (.int .i64) r1, .d (.int .i64) r2, .d (.int .i64) r3, .d (.int .i64) r4, .d (.int .i64) r5, .d (.int .i64) r6, .d (.int .i64) r7, .d (.int .i64) r8, .d (.int .i64) r9, .d (.sl (.pair (.int .i64) (.pair (.int .i64) (.pair (.int .i64) (.pair (.pair (.int .i64) (.int .i64)) (.pair .bool (.sl (.pair (.int .i64) (.sl (.int .u8)))))))))) r10]], [] => some (r0, r1, r2, r3, r4, r5, r6, r7, r8, r9, r10)
  | _, _ => none
noncomputable def msg_Head.b (mKind : Int) (mFrom : Int) (mInc : Int) (mSpanLo : Int) (mSpanHi : Int) (mSeq : Int) (mTarget : Int) (mLife : Int) (mEpoch : Int) (mBase : Int) (mRecs : List (Int × Int × Int × (Int × Int) × Bool × List (Int × List Int))) : Option (Int × Int × Int × Int × Int × Int × Int × Int × Int × Int × (List (Int × (Int × (Int × ((Int × Int) × (Bool × (List (Int × (List Int)))))))))) :=
  some (mKind, mFrom, mInc, mSpanLo, mSpanHi, mSeq, mTarget, mLife, mEpoch, mBase, ([] : List (Int × (Int × (Int × ((Int × Int) × (Bool × (List (Int × (List Int))))))))))
noncomputable def msg_Head.f (fuel : Nat) (mKind : Int) (mFrom : Int) (mInc : Int) (mSpanLo : Int) (mSpanHi : Int) (mSeq : Int) (mTarget : Int) (mLife : Int) (mEpoch : Int) (mBase : Int) (mRecs : List (Int × Int × Int × (Int × Int) × Bool × List (Int × List Int))) : Option (Int × Int × Int × Int × Int × Int × Int × Int × Int × Int × (List (Int × (Int × (Int × ((Int × Int) × (Bool × (List (Int × (List Int)))))))))) := msg_Head.b mKind mFrom mInc mSpanLo mSpanHi mSeq mTarget mLife mEpoch mBase mRecs
theorem msg_Head.eq (fuel : Nat) (mKind : Int) (mFrom : Int) (mInc : Int) (mSpanLo : Int) (mSpanHi : Int) (mSeq : Int) (mTarget : Int) (mLife : Int) (mEpoch : Int) (mBase : Int) (mRecs : List (Int × Int × Int × (Int × Int) × Bool × List (Int × List Int))) : (denF msg_Head_E loopN fuel Try.f30 [.dat (.pair (.int .i64) (.pair (.int .i64) (.pair (.int .i64) (.pair (.pair (.int .i64) (.int .i64)) (.pair (.int .i64) (.pair (.int .i64) (.pair (.int .i64) (.pair (.int .i64) (.pair (.int .i64) (.sl (.pair (.int .i64) (.pair (.int .i64) (.pair (.int .i64) (.pair (.pair (.int .i64) (.int .i64)) (.pair .bool (.sl (.pair (.int .i64) (.sl (.int .u8))))))))))))))))))) true] [.agg [.d (.int .i64) mKind, .d (.int .i64) mFrom, .d (.int .i64) mInc, .d (.int .i64) mSpanLo, .d (.int .i64) mSpanHi, .d (.int .i64) mSeq, .d (.int .i64) mTarget, .d (.int .i64) mLife, .d (.int .i64) mEpoch, .d (.int .i64) mBase, .d (.sl (.pair (.int .i64) (.pair (.int .i64) (.pair (.int .i64) (.pair (.pair (.int .i64) (.int .i64)) (.pair .bool (.sl (.pair (.int .i64) (.sl (.int .u8)))))))))) mRecs]] [] msg_Head.k) = msg_Head.f fuel mKind mFrom mInc mSpanLo mSpanHi mSeq mTarget mLife mEpoch mBase mRecs := by
  kernel_rfl
noncomputable def s_msg_Head : Den.Sum := ⟨[.dat (.pair (.int .i64) (.pair (.int .i64) (.pair (.int .i64) (.pair (.pair (.int .i64) (.int .i64)) (.pair (.int .i64) (.pair (.int .i64) (.pair (.int .i64) (.pair (.int .i64) (.pair (.int .i64) (.sl (.pair (.int .i64) (.pair (.int .i64) (.pair (.int .i64) (.pair (.pair (.int .i64) (.int .i64)) (.pair .bool (.sl (.pair (.int .i64) (.sl (.int .u8))))))))))))))))))) true], fun args objs κ => match args, objs with
  | [.agg [.d (.int .i64) mKind, .d (.int .i64) mFrom, .d (.int .i64) mInc, .d (.int .i64) mSpanLo, .d (.int .i64) mSpanHi, .d (.int .i64) mSeq, .d (.int .i64) mTarget, .d (.int .i64) mLife, .d (.int .i64) mEpoch, .d (.int .i64) mBase, .d (.sl (.pair (.int .i64) (.pair (.int .i64) (.pair (.int .i64) (.pair (.pair (.int .i64) (.int .i64)) (.pair .bool (.sl (.pair (.int .i64) (.sl (.int .u8)))))))))) mRecs]], [] => (match veil (msg_Head.f BIG mKind mFrom mInc mSpanLo mSpanHi mSeq mTarget mLife mEpoch mBase mRecs) with | none => none | some y => κ [.agg [.d (.int .i64) y.1, .d (.int .i64) y.2.1, .d (.int .i64) y.2.2.1, .d (.int .i64) y.2.2.2.1, .d (.int .i64) y.2.2.2.2.1, .d (.int .i64) y.2.2.2.2.2.1, .d (.int .i64) y.2.2.2.2.2.2.1, .d (.int .i64) y.2.2.2.2.2.2.2.1, .d (.int .i64) y.2.2.2.2.2.2.2.2.1, .d (.int .i64) y.2.2.2.2.2.2.2.2.2.1, .d (.sl (.pair (.int .i64) (.pair (.int .i64) (.pair (.int .i64) (.pair (.pair (.int .i64) (.int .i64)) (.pair .bool (.sl (.pair (.int .i64) (.sl (.int .u8)))))))))) y.2.2.2.2.2.2.2.2.2.2]] [])
  | _, _ => none⟩
theorem s_msg_Head_det : SumDet s_msg_Head := fun avs objs R κ => by
  show s_msg_Head.run avs objs (two κ) = (s_msg_Head.run avs objs (two some)).bind κ
  unfold s_msg_Head
  simp only [veil_eq]
  split
  · split <;> rfl
  · rfl
theorem s_msg_Head_ok : SumOk Try.prog 30 s_msg_Head := by
  have hE : EnvOk Try.prog msg_Head_E := env_ok (l := []) th_ok any_ok trivial _
  refine sum_ok hE Try.func30 rfl (by kernel_rfl) s_msg_Head [.dat (.pair (.int .i64) (.pair (.int .i64) (.pair (.int .i64) (.pair (.pair (.int .i64) (.int .i64)) (.pair (.int .i64) (.pair (.int .i64) (.pair (.int .i64) (.pair (.int .i64) (.pair (.int .i64) (.sl (.pair (.int .i64) (.pair (.int .i64) (.pair (.int .i64) (.pair (.pair (.int .i64) (.int .i64)) (.pair .bool (.sl (.pair (.int .i64) (.sl (.int .u8))))))))))))))))))) true] msg_Head.k ?_
  intro R avs objs κ r h
  unfold s_msg_Head at h
  simp only [veil_eq] at h
  split at h
  · rename_i mKind mFrom mInc mSpanLo mSpanHi mSeq mTarget mLife mEpoch mBase mRecs
    split at h
    · cases h
    · rename_i y hy
      refine ⟨BIG, _, _, _, (msg_Head.eq BIG mKind mFrom mInc mSpanLo mSpanHi mSeq mTarget mLife mEpoch mBase mRecs).trans hy, ?_, h⟩
      intro rs ros hk
      unfold msg_Head.k at hk
      split at hk
      · first | (cases hk; exact ⟨rfl, rfl⟩) | (have e := Option.some.inj hk; rw [← e]; exact ⟨rfl, rfl⟩)
      · cases hk
  · cases h
noncomputable def varint_Zag_E : Env := ⟨th, gam [], fun i => ⟨[], [], []⟩⟩
noncomputable def varint_Zag.k (rs : List AV) (os : List Den.Obj) : Option Int :=
  match rs, os with
  | [.d (.int .i64) r0], [] => some r0
  | _, _ => none
noncomputable def varint_Zag.b (v : Int) : Option Int :=
  some ((bits Go.BinOp.xor .i64 (Go.IntKind.wrap .i64 (Int.fdiv v ((2 : Int) ^ (Min.min (Int.toNat (1 : Int)) (Go.IntKind.bits .u64))))) (Go.IntKind.wrap .i64 ((0 : Int) - (Go.IntKind.wrap .i64 (bits Go.BinOp.and .u64 v (1 : Int)))))))
noncomputable def varint_Zag.f (fuel : Nat) (v : Int) : Option Int := varint_Zag.b v
theorem varint_Zag.eq (fuel : Nat) (v : Int) : (denF varint_Zag_E loopN fuel Try.f106 [.raw] [.d (.int .u64) v] [] varint_Zag.k) = varint_Zag.f fuel v := by
  kernel_rfl
noncomputable def s_varint_Zag : Den.Sum := ⟨[.raw], fun args objs κ => match args, objs with
  | [.d (.int .u64) v], [] => (match veil (varint_Zag.f BIG v) with | none => none | some y => κ [.d (.int .i64) y] [])
  | _, _ => none⟩
theorem s_varint_Zag_det : SumDet s_varint_Zag := fun avs objs R κ => by
  show s_varint_Zag.run avs objs (two κ) = (s_varint_Zag.run avs objs (two some)).bind κ
  unfold s_varint_Zag
  simp only [veil_eq]
  split
  · split <;> rfl
  · rfl
theorem s_varint_Zag_ok : SumOk Try.prog 106 s_varint_Zag := by
  have hE : EnvOk Try.prog varint_Zag_E := env_ok (l := []) th_ok any_ok trivial _
  refine sum_ok hE Try.func106 rfl (by kernel_rfl) s_varint_Zag [.raw] varint_Zag.k ?_
  intro R avs objs κ r h
  unfold s_varint_Zag at h
  simp only [veil_eq] at h
  split at h
  · rename_i v
    split at h
    · cases h
    · rename_i y hy
      refine ⟨BIG, _, _, _, (varint_Zag.eq BIG v).trans hy, ?_, h⟩
      intro rs ros hk
      unfold varint_Zag.k at hk
      split at hk
      · first | (cases hk; exact ⟨rfl, rfl⟩) | (have e := Option.some.inj hk; rw [← e]; exact ⟨rfl, rfl⟩)
      · cases hk
  · cases h
noncomputable def gen3_Head_E : Env := ⟨th, gam [(71, s_read), (72, s_gen3_reader_head)], fun i => ⟨[], [], []⟩⟩
noncomputable def gen3_Head.k (rs : List AV) (os : List Den.Obj) : Option (Int × Int × Int × Int × Int × Int × Int × Int × Int × Int × (List (Int × (Int × (Int × ((Int × Int) × (Bool × (List (Int × (List Int))))))))) × Int) :=
  match rs, os with
  | [.agg [.d (.int .i64) r0, .d (.int .i64) r1, .d (.int .i64) r2, .d (.int .i64) r3, .d (.int .i64) r4, .d (.int .i64) r5, .d (.int .i64) r6, .d (.int .i64) r7, .d (.int .i64) r8, .d (.int .i64) r9, .d (.sl (.pair (.int .i64) (.pair (.int .i64) (.pair (.int .i64) (.pair (.pair (.int .i64) (.int .i64)) (.pair .bool (.sl (.pair (.int .i64) (.sl (.int .u8)))))))))) r10], .d (.int .i64) r11], [] => some (r0, r1, r2, r3, r4, r5, r6, r7, r8, r9, r10, r11)
  | _, _ => none
noncomputable def gen3_Head.b (b : List Int) : Option (Int × Int × Int × Int × Int × Int × Int × Int × Int × Int × (List (Int × (Int × (Int × ((Int × Int) × (Bool × (List (Int × (List Int))))))))) × Int) :=
  (if (inB b) then (match (veil (gen3_reader_head.f BIG b 0 false false)) with | none => none | some y0 => (if y0.2.2.2.2.2.2.2.2.2.2.2.1 then some (0, 0, 0, 0, 0, 0, 0, 0, 0, 0, ([] : List (Int × (Int × (Int × ((Int × Int) × (Bool × (List (Int × (List Int))))))))), (4 : Int)) else some (y0.1, y0.2.1, y0.2.2.1, y0.2.2.2.1, y0.2.2.2.2.1, y0.2.2.2.2.2.1, y0.2.2.2.2.2.2.1, y0.2.2.2.2.2.2.2.1, y0.2.2.2.2.2.2.2.2.1, y0.2.2.2.2.2.2.2.2.2.1, y0.2.2.2.2.2.2.2.2.2.2.1, (0 : Int)))) else none)
noncomputable def gen3_Head.f (fuel : Nat) (b : List Int) : Option (Int × Int × Int × Int × Int × Int × Int × Int × Int × Int × (List (Int × (Int × (Int × ((Int × Int) × (Bool × (List (Int × (List Int))))))))) × Int) := gen3_Head.b b
theorem gen3_Head.eq (fuel : Nat) (b : List Int) : (denF gen3_Head_E loopN fuel Try.f26 [.dat (.pair (.int .i64) (.pair (.int .i64) (.pair (.int .i64) (.pair (.pair (.int .i64) (.int .i64)) (.pair (.int .i64) (.pair (.int .i64) (.pair (.int .i64) (.pair (.int .i64) (.pair (.int .i64) (.sl (.pair (.int .i64) (.pair (.int .i64) (.pair (.int .i64) (.pair (.pair (.int .i64) (.int .i64)) (.pair .bool (.sl (.pair (.int .i64) (.sl (.int .u8))))))))))))))))))) true, .raw] [.d (.sl (.int .u8)) b] [] gen3_Head.k) = gen3_Head.f fuel b := by
  kernel_rfl
noncomputable def s_gen3_Head : Den.Sum := ⟨[.dat (.sl (.int .u8)) false], fun args objs κ => match args, objs with
  | [.d (.sl (.int .u8)) b], [] => (match veil (gen3_Head.f BIG b) with | none => none | some y => κ [.agg [.d (.int .i64) y.1, .d (.int .i64) y.2.1, .d (.int .i64) y.2.2.1, .d (.int .i64) y.2.2.2.1, .d (.int .i64) y.2.2.2.2.1, .d (.int .i64) y.2.2.2.2.2.1, .d (.int .i64) y.2.2.2.2.2.2.1, .d (.int .i64) y.2.2.2.2.2.2.2.1, .d (.int .i64) y.2.2.2.2.2.2.2.2.1, .d (.int .i64) y.2.2.2.2.2.2.2.2.2.1, .d (.sl (.pair (.int .i64) (.pair (.int .i64) (.pair (.int .i64) (.pair (.pair (.int .i64) (.int .i64)) (.pair .bool (.sl (.pair (.int .i64) (.sl (.int .u8)))))))))) y.2.2.2.2.2.2.2.2.2.2.1], .d (.int .i64) y.2.2.2.2.2.2.2.2.2.2.2] [])
  | _, _ => none⟩
theorem s_gen3_Head_det : SumDet s_gen3_Head := fun avs objs R κ => by
  show s_gen3_Head.run avs objs (two κ) = (s_gen3_Head.run avs objs (two some)).bind κ
  unfold s_gen3_Head
  simp only [veil_eq]
  split
  · split <;> rfl
  · rfl
theorem s_gen3_Head_ok : SumOk Try.prog 26 s_gen3_Head := by
  have hE : EnvOk Try.prog gen3_Head_E := env_ok (l := [(71, s_read), (72, s_gen3_reader_head)]) th_ok any_ok ⟨⟨s_read_ok, s_read_det⟩, ⟨s_gen3_reader_head_ok, s_gen3_reader_head_det⟩, trivial⟩ _
  refine sum_ok hE Try.func26 rfl (by kernel_rfl) s_gen3_Head [.dat (.pair (.int .i64) (.pair (.int .i64) (.pair (.int .i64) (.pair (.pair (.int .i64) (.int .i64)) (.pair (.int .i64) (.pair (.int .i64) (.pair (.int .i64) (.pair (.int .i64) (.pair (.int .i64) (.sl (.pair (.int .i64) (.pair (.int .i64) (.pair (.int .i64) (.pair (.pair (.int .i64) (.int .i64)) (.pair .bool (.sl (.pair (.int .i64) (.sl (.int .u8))))))))))))))))))) true, .raw] gen3_Head.k ?_
  intro R avs objs κ r h
  unfold s_gen3_Head at h
  simp only [veil_eq] at h
  split at h
  · rename_i b
    split at h
    · cases h
    · rename_i y hy
      refine ⟨BIG, _, _, _, (gen3_Head.eq BIG b).trans hy, ?_, h⟩
      intro rs ros hk
      unfold gen3_Head.k at hk
      split at hk
      · first | (cases hk; exact ⟨rfl, rfl⟩) | (have e := Option.some.inj hk; rw [← e]; exact ⟨rfl, rfl⟩)
      · cases hk
  · cases h
noncomputable def gen3_reader_headR_E : Env := ⟨th, gam [(20, s_valid), (50, s_has), (74, s_gen3_reader_form), (101, s_rnumb), (102, s_gen3_reader_span), (103, s_bad)], fun i => ⟨[], [], []⟩⟩
noncomputable def gen3_reader_headR.k (rs : List AV) (os : List Den.Obj) : Option (Int × Int × Int × Int × Int × Int × Int × Int × Int × Int × Bool × (List Int) × Int × Bool) :=
  match rs, os with
  | [.agg [.d (.int .i64) r0, .d (.int .i64) r1, .d (.int .i64) r2, .d (.int .i64) r3, .d (.int .i64) r4, .d (.int .i64) r5, .d (.int .i64) r6, .d (.int .i64) r7, .d (.int .i64) r8, .d (.int .i64) r9, .nilsl]], [.box [.ptr 1 0, .d .bool r10], .box [.d (.sl (.int .u8)) r11, .d (.int .i64) r12, .d .bool r13]] => some (r0, r1, r2, r3, r4, r5, r6, r7, r8, r9, r10, r11, r12, r13)
  | _, _ => none
noncomputable def gen3_reader_headR.b (bs : List Int) (at0 : Int) (bad : Bool) (wrong : Bool) : Option (Int × Int × Int × Int × Int × Int × Int × Int × Int × Int × Bool × (List Int) × Int × Bool) :=
  (if (atOk bs at0) then (match (veil (Option.some (readF bs (1 : Int) at0 bad))) with | none => none | some y0 => (match (veil (gen3_reader_form.f BIG bs y0.2.1 y0.2.2 wrong (4095 : Int))) with | none => none | some y1 => (match (veil (gen3_reader_form.f BIG y1.2.2.1 y1.2.2.2.1 y1.2.2.2.2 y1.2.1 (veil (281474976710655 : Int)))) with | none => none | some y2 => (match (veil (gen3_reader_span.f BIG y2.2.2.1 y2.2.2.2.1 y2.2.2.2.2 y2.2.1)) with | none => none | some y3 => (if (hasF y0.1 (0 : Int)) then (match (veil (gen3_reader_form.f BIG y3.2.2.2.1 y3.2.2.2.2.1 y3.2.2.2.2.2 y3.2.2.1 (65535 : Int))) with | none => none | some y4 => (if (hasF y0.1 (1 : Int)) then (match (veil (gen3_reader_form.f BIG y4.2.2.1 y4.2.2.2.1 y4.2.2.2.2 y4.2.1 (4095 : Int))) with | none => none | some y5 => (if (hasF y0.1 (2 : Int)) then (match (veil (gen3_reader_form.f BIG y5.2.2.1 y5.2.2.2.1 y5.2.2.2.2 y5.2.1 (veil (281474976710655 : Int)))) with | none => none | some y6 => (match (veil (gen3_reader_form.f BIG y6.2.2.1 y6.2.2.2.1 y6.2.2.2.2 y6.2.1 (65535 : Int))) with | none => none | some y7 => (if (hasF y0.1 (3 : Int)) then (match (veil (gen3_reader_form.f BIG y7.2.2.1 y7.2.2.2.1 y7.2.2.2.2 y7.2.1 (65535 : Int))) with | none => none | some y8 => (if y8.2.2.2.2 then some (y0.1, y1.1, y2.1, y3.1, y3.2.1, y4.1, y5.1, y6.1, y7.1, y8.1, true, y8.2.2.1, y8.2.2.2.1, y8.2.2.2.2) else (if (!(validF y0.1 y1.1 y2.1 y3.1 y3.2.1 y4.1 y5.1 y6.1 y7.1 y8.1 ([] : List (Int × (Int × (Int × ((Int × Int) × (Bool × (List (Int × (List Int))))))))))) then some (y0.1, y1.1, y2.1, y3.1, y3.2.1, y4.1, y5.1, y6.1, y7.1, y8.1, true, y8.2.2.1, y8.2.2.2.1, y8.2.2.2.2) else some (y0.1, y1.1, y2.1, y3.1, y3.2.1, y4.1, y5.1, y6.1, y7.1, y8.1, y8.2.1, y8.2.2.1, y8.2.2.2.1, y8.2.2.2.2)))) else (if y7.2.2.2.2 then some (y0.1, y1.1, y2.1, y3.1, y3.2.1, y4.1, y5.1, y6.1, y7.1, 0, true, y7.2.2.1, y7.2.2.2.1, y7.2.2.2.2) else (if (!(validF y0.1 y1.1 y2.1 y3.1 y3.2.1 y4.1 y5.1 y6.1 y7.1 0 ([] : List (Int × (Int × (Int × ((Int × Int) × (Bool × (List (Int × (List Int))))))))))) then some (y0.1, y1.1, y2.1, y3.1, y3.2.1, y4.1, y5.1, y6.1, y7.1, 0, true, y7.2.2.1, y7.2.2.2.1, y7.2.2.2.2) else some (y0.1, y1.1, y2.1, y3.1, y3.2.1, y4.1, y5.1, y6.1, y7.1, 0, y7.2.1, y7.2.2.1, y7.2.2.2.1, y7.2.2.2.2)))))) else (if (hasF y0.1 (3 : Int)) then (match (veil (gen3_reader_form.f BIG y5.2.2.1 y5.2.2.2.1 y5.2.2.2.2 y5.2.1 (65535 : Int))) with | none => none | some y9 => (if y9.2.2.2.2 then some (y0.1, y1.1, y2.1, y3.1, y3.2.1, y4.1, y5.1, 0, 0, y9.1, true, y9.2.2.1, y9.2.2.2.1, y9.2.2.2.2) else (if (!(validF y0.1 y1.1 y2.1 y3.1 y3.2.1 y4.1 y5.1 0 0 y9.1 ([] : List (Int × (Int × (Int × ((Int × Int) × (Bool × (List (Int × (List Int))))))))))) then some (y0.1, y1.1, y2.1, y3.1, y3.2.1, y4.1, y5.1, 0, 0, y9.1, true, y9.2.2.1, y9.2.2.2.1, y9.2.2.2.2) else some (y0.1, y1.1, y2.1, y3.1, y3.2.1, y4.1, y5.1, 0, 0, y9.1, y9.2.1, y9.2.2.1, y9.2.2.2.1, y9.2.2.2.2)))) else (if y5.2.2.2.2 then some (y0.1, y1.1, y2.1, y3.1, y3.2.1, y4.1, y5.1, 0, 0, 0, true, y5.2.2.1, y5.2.2.2.1, y5.2.2.2.2) else (if (!(validF y0.1 y1.1 y2.1 y3.1 y3.2.1 y4.1 y5.1 0 0 0 ([] : List (Int × (Int × (Int × ((Int × Int) × (Bool × (List (Int × (List Int))))))))))) then some (y0.1, y1.1, y2.1, y3.1, y3.2.1, y4.1, y5.1, 0, 0, 0, true, y5.2.2.1, y5.2.2.2.1, y5.2.2.2.2) else some (y0.1, y1.1, y2.1, y3.1, y3.2.1, y4.1, y5.1, 0, 0, 0, y5.2.1, y5.2.2.1, y5.2.2.2.1, y5.2.2.2.2)))))) else (if (hasF y0.1 (2 : Int)) then (match (veil (gen3_reader_form.f BIG y4.2.2.1 y4.2.2.2.1 y4.2.2.2.2 y4.2.1 (veil (281474976710655 : Int)))) with | none => none | some y10 => (match (veil (gen3_reader_form.f BIG y10.2.2.1 y10.2.2.2.1 y10.2.2.2.2 y10.2.1 (65535 : Int))) with | none => none | some y11 => (if (hasF y0.1 (3 : Int)) then (match (veil (gen3_reader_form.f BIG y11.2.2.1 y11.2.2.2.1 y11.2.2.2.2 y11.2.1 (65535 : Int))) with | none => none | some y12 => (if y12.2.2.2.2 then some (y0.1, y1.1, y2.1, y3.1, y3.2.1, y4.1, 0, y10.1, y11.1, y12.1, true, y12.2.2.1, y12.2.2.2.1, y12.2.2.2.2) else (if (!(validF y0.1 y1.1 y2.1 y3.1 y3.2.1 y4.1 0 y10.1 y11.1 y12.1 ([] : List (Int × (Int × (Int × ((Int × Int) × (Bool × (List (Int × (List Int))))))))))) then some (y0.1, y1.1, y2.1, y3.1, y3.2.1, y4.1, 0, y10.1, y11.1, y12.1, true, y12.2.2.1, y12.2.2.2.1, y12.2.2.2.2) else some (y0.1, y1.1, y2.1, y3.1, y3.2.1, y4.1, 0, y10.1, y11.1, y12.1, y12.2.1, y12.2.2.1, y12.2.2.2.1, y12.2.2.2.2)))) else (if y11.2.2.2.2 then some (y0.1, y1.1, y2.1, y3.1, y3.2.1, y4.1, 0, y10.1, y11.1, 0, true, y11.2.2.1, y11.2.2.2.1, y11.2.2.2.2) else (if (!(validF y0.1 y1.1 y2.1 y3.1 y3.2.1 y4.1 0 y10.1 y11.1 0 ([] : List (Int × (Int × (Int × ((Int × Int) × (Bool × (List (Int × (List Int))))))))))) then some (y0.1, y1.1, y2.1, y3.1, y3.2.1, y4.1, 0, y10.1, y11.1, 0, true, y11.2.2.1, y11.2.2.2.1, y11.2.2.2.2) else some (y0.1, y1.1, y2.1, y3.1, y3.2.1, y4.1, 0, y10.1, y11.1, 0, y11.2.1, y11.2.2.1, y11.2.2.2.1, y11.2.2.2.2)))))) else (if (hasF y0.1 (3 : Int)) then (match (veil (gen3_reader_form.f BIG y4.2.2.1 y4.2.2.2.1 y4.2.2.2.2 y4.2.1 (65535 : Int))) with | none => none | some y13 => (if y13.2.2.2.2 then some (y0.1, y1.1, y2.1, y3.1, y3.2.1, y4.1, 0, 0, 0, y13.1, true, y13.2.2.1, y13.2.2.2.1, y13.2.2.2.2) else (if (!(validF y0.1 y1.1 y2.1 y3.1 y3.2.1 y4.1 0 0 0 y13.1 ([] : List (Int × (Int × (Int × ((Int × Int) × (Bool × (List (Int × (List Int))))))))))) then some (y0.1, y1.1, y2.1, y3.1, y3.2.1, y4.1, 0, 0, 0, y13.1, true, y13.2.2.1, y13.2.2.2.1, y13.2.2.2.2) else some (y0.1, y1.1, y2.1, y3.1, y3.2.1, y4.1, 0, 0, 0, y13.1, y13.2.1, y13.2.2.1, y13.2.2.2.1, y13.2.2.2.2)))) else (if y4.2.2.2.2 then some (y0.1, y1.1, y2.1, y3.1, y3.2.1, y4.1, 0, 0, 0, 0, true, y4.2.2.1, y4.2.2.2.1, y4.2.2.2.2) else (if (!(validF y0.1 y1.1 y2.1 y3.1 y3.2.1 y4.1 0 0 0 0 ([] : List (Int × (Int × (Int × ((Int × Int) × (Bool × (List (Int × (List Int))))))))))) then some (y0.1, y1.1, y2.1, y3.1, y3.2.1, y4.1, 0, 0, 0, 0, true, y4.2.2.1, y4.2.2.2.1, y4.2.2.2.2) else some (y0.1, y1.1, y2.1, y3.1, y3.2.1, y4.1, 0, 0, 0, 0, y4.2.1, y4.2.2.1, y4.2.2.2.1, y4.2.2.2.2))))))) else (if (hasF y0.1 (1 : Int)) then (match (veil (gen3_reader_form.f BIG y3.2.2.2.1 y3.2.2.2.2.1 y3.2.2.2.2.2 y3.2.2.1 (4095 : Int))) with | none => none | some y14 => (if (hasF y0.1 (2 : Int)) then (match (veil (gen3_reader_form.f BIG y14.2.2.1 y14.2.2.2.1 y14.2.2.2.2 y14.2.1 (veil (281474976710655 : Int)))) with | none => none | some y15 => (match (veil (gen3_reader_form.f BIG y15.2.2.1 y15.2.2.2.1 y15.2.2.2.2 y15.2.1 (65535 : Int))) with | none => none | some y16 => (if (hasF y0.1 (3 : Int)) then (match (veil (gen3_reader_form.f BIG y16.2.2.1 y16.2.2.2.1 y16.2.2.2.2 y16.2.1 (65535 : Int))) with | none => none | some y17 => (if y17.2.2.2.2 then some (y0.1, y1.1, y2.1, y3.1, y3.2.1, 0, y14.1, y15.1, y16.1, y17.1, true, y17.2.2.1, y17.2.2.2.1, y17.2.2.2.2) else (if (!(validF y0.1 y1.1 y2.1 y3.1 y3.2.1 0 y14.1 y15.1 y16.1 y17.1 ([] : List (Int × (Int × (Int × ((Int × Int) × (Bool × (List (Int × (List Int))))))))))) then some (y0.1, y1.1, y2.1, y3.1, y3.2.1, 0, y14.1, y15.1, y16.1, y17.1, true, y17.2.2.1, y17.2.2.2.1, y17.2.2.2.2) else some (y0.1, y1.1, y2.1, y3.1, y3.2.1, 0, y14.1, y15.1, y16.1, y17.1, y17.2.1, y17.2.2.1, y17.2.2.2.1, y17.2.2.2.2)))) else (if y16.2.2.2.2 then some (y0.1, y1.1, y2.1, y3.1, y3.2.1, 0, y14.1, y15.1, y16.1, 0, true, y16.2.2.1, y16.2.2.2.1, y16.2.2.2.2) else (if (!(validF y0.1 y1.1 y2.1 y3.1 y3.2.1 0 y14.1 y15.1 y16.1 0 ([] : List (Int × (Int × (Int × ((Int × Int) × (Bool × (List (Int × (List Int))))))))))) then some (y0.1, y1.1, y2.1, y3.1, y3.2.1, 0, y14.1, y15.1, y16.1, 0, true, y16.2.2.1, y16.2.2.2.1, y16.2.2.2.2) else some (y0.1, y1.1, y2.1, y3.1, y3.2.1, 0, y14.1, y15.1, y16.1, 0, y16.2.1, y16.2.2.1, y16.2.2.2.1, y16.2.2.2.2)))))) else (if (hasF y0.1 (3 : Int)) then (match (veil (gen3_reader_form.f BIG y14.2.2.1 y14.2.2.2.1 y14.2.2.2.2 y14.2.1 (65535 : Int))) with | none => none | some y18 => (if y18.2.2.2.2 then some (y0.1, y1.1, y2.1, y3.1, y3.2.1, 0, y14.1, 0, 0, y18.1, true, y18.2.2.1, y18.2.2.2.1, y18.2.2.2.2) else (if (!(validF y0.1 y1.1 y2.1 y3.1 y3.2.1 0 y14.1 0 0 y18.1 ([] : List (Int × (Int × (Int × ((Int × Int) × (Bool × (List (Int × (List Int))))))))))) then some (y0.1, y1.1, y2.1, y3.1, y3.2.1, 0, y14.1, 0, 0, y18.1, true, y18.2.2.1, y18.2.2.2.1, y18.2.2.2.2) else some (y0.1, y1.1, y2.1, y3.1, y3.2.1, 0, y14.1, 0, 0, y18.1, y18.2.1, y18.2.2.1, y18.2.2.2.1, y18.2.2.2.2)))) else (if y14.2.2.2.2 then some (y0.1, y1.1, y2.1, y3.1, y3.2.1, 0, y14.1, 0, 0, 0, true, y14.2.2.1, y14.2.2.2.1, y14.2.2.2.2) else (if (!(validF y0.1 y1.1 y2.1 y3.1 y3.2.1 0 y14.1 0 0 0 ([] : List (Int × (Int × (Int × ((Int × Int) × (Bool × (List (Int × (List Int))))))))))) then some (y0.1, y1.1, y2.1, y3.1, y3.2.1, 0, y14.1, 0, 0, 0, true, y14.2.2.1, y14.2.2.2.1, y14.2.2.2.2) else some (y0.1, y1.1, y2.1, y3.1, y3.2.1, 0, y14.1, 0, 0, 0, y14.2.1, y14.2.2.1, y14.2.2.2.1, y14.2.2.2.2)))))) else (if (hasF y0.1 (2 : Int)) then (match (veil (gen3_reader_form.f BIG y3.2.2.2.1 y3.2.2.2.2.1 y3.2.2.2.2.2 y3.2.2.1 (veil (281474976710655 : Int)))) with | none => none | some y19 => (match (veil (gen3_reader_form.f BIG y19.2.2.1 y19.2.2.2.1 y19.2.2.2.2 y19.2.1 (65535 : Int))) with | none => none | some y20 => (if (hasF y0.1 (3 : Int)) then (match (veil (gen3_reader_form.f BIG y20.2.2.1 y20.2.2.2.1 y20.2.2.2.2 y20.2.1 (65535 : Int))) with | none => none | some y21 => (if y21.2.2.2.2 then some (y0.1, y1.1, y2.1, y3.1, y3.2.1, 0, 0, y19.1, y20.1, y21.1, true, y21.2.2.1, y21.2.2.2.1, y21.2.2.2.2) else (if (!(validF y0.1 y1.1 y2.1 y3.1 y3.2.1 0 0 y19.1 y20.1 y21.1 ([] : List (Int × (Int × (Int × ((Int × Int) × (Bool × (List (Int × (List Int))))))))))) then some (y0.1, y1.1, y2.1, y3.1, y3.2.1, 0, 0, y19.1, y20.1, y21.1, true, y21.2.2.1, y21.2.2.2.1, y21.2.2.2.2) else some (y0.1, y1.1, y2.1, y3.1, y3.2.1, 0, 0, y19.1, y20.1, y21.1, y21.2.1, y21.2.2.1, y21.2.2.2.1, y21.2.2.2.2)))) else (if y20.2.2.2.2 then some (y0.1, y1.1, y2.1, y3.1, y3.2.1, 0, 0, y19.1, y20.1, 0, true, y20.2.2.1, y20.2.2.2.1, y20.2.2.2.2) else (if (!(validF y0.1 y1.1 y2.1 y3.1 y3.2.1 0 0 y19.1 y20.1 0 ([] : List (Int × (Int × (Int × ((Int × Int) × (Bool × (List (Int × (List Int))))))))))) then some (y0.1, y1.1, y2.1, y3.1, y3.2.1, 0, 0, y19.1, y20.1, 0, true, y20.2.2.1, y20.2.2.2.1, y20.2.2.2.2) else some (y0.1, y1.1, y2.1, y3.1, y3.2.1, 0, 0, y19.1, y20.1, 0, y20.2.1, y20.2.2.1, y20.2.2.2.1, y20.2.2.2.2)))))) else (if (hasF y0.1 (3 : Int)) then (match (veil (gen3_reader_form.f BIG y3.2.2.2.1 y3.2.2.2.2.1 y3.2.2.2.2.2 y3.2.2.1 (65535 : Int))) with | none => none | some y22 => (if y22.2.2.2.2 then some (y0.1, y1.1, y2.1, y3.1, y3.2.1, 0, 0, 0, 0, y22.1, true, y22.2.2.1, y22.2.2.2.1, y22.2.2.2.2) else (if (!(validF y0.1 y1.1 y2.1 y3.1 y3.2.1 0 0 0 0 y22.1 ([] : List (Int × (Int × (Int × ((Int × Int) × (Bool × (List (Int × (List Int))))))))))) then some (y0.1, y1.1, y2.1, y3.1, y3.2.1, 0, 0, 0, 0, y22.1, true, y22.2.2.1, y22.2.2.2.1, y22.2.2.2.2) else some (y0.1, y1.1, y2.1, y3.1, y3.2.1, 0, 0, 0, 0, y22.1, y22.2.1, y22.2.2.1, y22.2.2.2.1, y22.2.2.2.2)))) else (if y3.2.2.2.2.2 then some (y0.1, y1.1, y2.1, y3.1, y3.2.1, 0, 0, 0, 0, 0, true, y3.2.2.2.1, y3.2.2.2.2.1, y3.2.2.2.2.2) else (if (!(validF y0.1 y1.1 y2.1 y3.1 y3.2.1 0 0 0 0 0 ([] : List (Int × (Int × (Int × ((Int × Int) × (Bool × (List (Int × (List Int))))))))))) then some (y0.1, y1.1, y2.1, y3.1, y3.2.1, 0, 0, 0, 0, 0, true, y3.2.2.2.1, y3.2.2.2.2.1, y3.2.2.2.2.2) else some (y0.1, y1.1, y2.1, y3.1, y3.2.1, 0, 0, 0, 0, 0, y3.2.2.1, y3.2.2.2.1, y3.2.2.2.2.1, y3.2.2.2.2.2))))))))))) else none)
noncomputable def gen3_reader_headR.f (fuel : Nat) (bs : List Int) (at0 : Int) (bad : Bool) (wrong : Bool) : Option (Int × Int × Int × Int × Int × Int × Int × Int × Int × Int × Bool × (List Int) × Int × Bool) := gen3_reader_headR.b bs at0 bad wrong
theorem gen3_reader_headR.eq (fuel : Nat) (bs : List Int) (at0 : Int) (bad : Bool) (wrong : Bool) : (denF gen3_reader_headR_E loopN fuel Try.f72 [.raw] [.ptr 0 0] [.box [.ptr 1 0, .d .bool wrong], .box [.d (.sl (.int .u8)) bs, .d (.int .i64) at0, .d .bool bad]] gen3_reader_headR.k) = gen3_reader_headR.f fuel bs at0 bad wrong := by
  kernel_rfl
noncomputable def s_gen3_reader_headR : Den.Sum := ⟨[.pb [.frz none [0] 0 (.int .u8)]], fun args objs κ => match args, objs with
  | [.ptr 0 0], [.box [.ptr 1 0, .d .bool wrong], .box [.d (.sl (.int .u8)) bs, .d (.int .i64) at0, .d .bool bad]] => (match veil (gen3_reader_headR.f BIG bs at0 bad wrong) with | none => none | some y => κ [.agg [.d (.int .i64) y.1, .d (.int .i64) y.2.1, .d (.int .i64) y.2.2.1, .d (.int .i64) y.2.2.2.1, .d (.int .i64) y.2.2.2.2.1, .d (.int .i64) y.2.2.2.2.2.1, .d (.int .i64) y.2.2.2.2.2.2.1, .d (.int .i64) y.2.2.2.2.2.2.2.1, .d (.int .i64) y.2.2.2.2.2.2.2.2.1, .d (.int .i64) y.2.2.2.2.2.2.2.2.2.1, .nilsl]] [.box [.ptr 1 0, .d .bool y.2.2.2.2.2.2.2.2.2.2.1], .box [.d (.sl (.int .u8)) y.2.2.2.2.2.2.2.2.2.2.2.1, .d (.int .i64) y.2.2.2.2.2.2.2.2.2.2.2.2.1, .d .bool y.2.2.2.2.2.2.2.2.2.2.2.2.2]])
  | _, _ => none⟩
theorem s_gen3_reader_headR_det : SumDet s_gen3_reader_headR := fun avs objs R κ => by
  show s_gen3_reader_headR.run avs objs (two κ) = (s_gen3_reader_headR.run avs objs (two some)).bind κ
  unfold s_gen3_reader_headR
  simp only [veil_eq]
  split
  · split <;> rfl
  · rfl
theorem s_gen3_reader_headR_ok : SumOk Try.prog 72 s_gen3_reader_headR := by
  have hE : EnvOk Try.prog gen3_reader_headR_E := env_ok (l := [(20, s_valid), (50, s_has), (74, s_gen3_reader_form), (101, s_rnumb), (102, s_gen3_reader_span), (103, s_bad)]) th_ok any_ok ⟨⟨s_valid_ok, s_valid_det⟩, ⟨s_has_ok, s_has_det⟩, ⟨s_gen3_reader_form_ok, s_gen3_reader_form_det⟩, ⟨s_rnumb_ok, s_rnumb_det⟩, ⟨s_gen3_reader_span_ok, s_gen3_reader_span_det⟩, ⟨s_bad_ok, s_bad_det⟩, trivial⟩ _
  refine sum_ok hE Try.func72 rfl (by kernel_rfl) s_gen3_reader_headR [.raw] gen3_reader_headR.k ?_
  intro R avs objs κ r h
  unfold s_gen3_reader_headR at h
  simp only [veil_eq] at h
  split at h
  · rename_i wrong bs at0 bad
    split at h
    · cases h
    · rename_i y hy
      refine ⟨BIG, _, _, _, (gen3_reader_headR.eq BIG bs at0 bad wrong).trans hy, ?_, h⟩
      intro rs ros hk
      unfold gen3_reader_headR.k at hk
      split at hk
      · first | (cases hk; exact ⟨rfl, rfl⟩) | (have e := Option.some.inj hk; rw [← e]; exact ⟨rfl, rfl⟩)
      · cases hk
  · cases h
noncomputable def gen3_reader_fields_E : Env := ⟨th, gam [(74, s_gen3_reader_form), (101, s_rnumb), (103, s_bad), (136, s_takeb)], fun i => if i = 4 then ⟨[0, 3, 4, 5], [(3, 66, (.pair (.int .i64) (.sl (.int .u8))))], []⟩ else ⟨[], [], []⟩⟩
noncomputable def gen3_reader_fields.k (rs : List AV) (os : List Den.Obj) : Option (Bool × (List Int) × Int × Bool × (List (Int × (List Int)))) :=
  match rs, os with
  | [.row 2], [.box [.ptr 1 0, .d .bool r0], .box [.d (.sl (.int .u8)) r1, .d (.int .i64) r2, .d .bool r3], .row 66 (.pair (.int .i64) (.sl (.int .u8))) r4 false] => some (r0, r1, r2, r3, r4)
  | _, _ => none
noncomputable def gen3_reader_fields.s4 (bs : List Int) (at0 : Int) (bad : Bool) (wrong : Bool) (x1 : Int) (x2 : Int) (x3 : Bool) (x4 : (List Int)) (x5 : Int) (x6 : Bool) (x7 : (List (Int × (List Int)))) : St := ⟨[.ptr 0 0, .dead, .dead, .row 64, .d (.int .i64) x1, .d (.int .i64) x2, .dead, .dead, .dead, .dead, .dead, .dead, .dead, .dead, .dead, .dead, .dead, .dead, .dead, .dead, .dead, .dead, .dead, .dead, .dead, .dead, .dead, .dead, .dead, .dead, .dead, .dead, .dead, .dead, .dead, .dead, .dead, .dead, .dead, .dead, .dead, .dead, .dead, .dead, .dead, .dead, .dead, .dead], ofL [(0, .box [.ptr 1 0, .d .bool x3]), (1, .box [.d (.sl (.int .u8)) x4, .d (.int .i64) x5, .d .bool x6]), (64, .row 66 (.pair (.int .i64) (.sl (.int .u8))) x7 false)], 2⟩
noncomputable def gen3_reader_fields.b4 (bs : List Int) (at0 : Int) (bad : Bool) (wrong : Bool) (A4 : Int → Int → Bool → (List Int) → Int → Bool → (List (Int × (List Int))) → Option (Bool × (List Int) × Int × Bool × (List (Int × (List Int))))) (x1 : Int) (x2 : Int) (x3 : Bool) (x4 : (List Int)) (x5 : Int) (x6 : Bool) (x7 : (List (Int × (List Int)))) : Option (Bool × (List Int) × Int × Bool × (List (Int × (List Int)))) :=
  (if (decide (x2 < x1)) then (if (!x3) then (if (atOk x4 x5) then (match (veil (Option.some (readF x4 (1 : Int) x5 x6))) with | none => none | some y8 => (match (veil (gen3_reader_form.f BIG x4 y8.2.1 y8.2.2 x3 (4096 : Int))) with | none => none | some y9 => (if (atOk y9.2.2.1 y9.2.2.2.1) then (match (veil (Option.some (stepF y9.2.2.1 y9.1 y9.2.2.2.1 y9.2.2.2.2))) with | none => none | some y10 => (if y10.2.2.2 then (if ((((List.length x7) + (List.length ((y8.1, y10.1) :: ([] : List (Int × (List Int)))))) * (32 : Nat)) ≤ lim) then A4 x1 (Go.IntKind.wrap .i64 (x2 + (1 : Int))) true y9.2.2.1 y10.2.2.1 y10.2.2.2 (x7 ++ ((y8.1, y10.1) :: ([] : List (Int × (List Int))))) else none) else (if ((((List.length x7) + (List.length ((y8.1, y10.1) :: ([] : List (Int × (List Int)))))) * (32 : Nat)) ≤ lim) then A4 x1 (Go.IntKind.wrap .i64 (x2 + (1 : Int))) y9.2.1 y9.2.2.1 y10.2.2.1 y10.2.2.2 (x7 ++ ((y8.1, y10.1) :: ([] : List (Int × (List Int))))) else none))) else none))) else none) else some (x3, x4, x5, x6, x7)) else some (x3, x4, x5, x6, x7))
noncomputable def gen3_reader_fields.l4 (fuel : Nat) (bs : List Int) (at0 : Int) (bad : Bool) (wrong : Bool) : Nat → Int → Int → Bool → (List Int) → Int → Bool → (List (Int × (List Int))) → Option (Bool × (List Int) × Int × Bool × (List (Int × (List Int))))
  | 0, _, _, _, _, _, _, _ => none
  | k + 1, x1, x2, x3, x4, x5, x6, x7 => gen3_reader_fields.b4 bs at0 bad wrong (gen3_reader_fields.l4 fuel bs at0 bad wrong k) x1 x2 x3 x4 x5 x6 x7
noncomputable def gen3_reader_fields.b (bs : List Int) (at0 : Int) (bad : Bool) (wrong : Bool) (E4 : Int → Int → Bool → (List Int) → Int → Bool → (List (Int × (List Int))) → Option (Bool × (List Int) × Int × Bool × (List (Int × (List Int))))) : Option (Bool × (List Int) × Int × Bool × (List (Int × (List Int)))) :=
  (match (veil (gen3_reader_form.f BIG bs at0 bad wrong (32 : Int))) with | none => none | some y0 => E4 y0.1 (0 : Int) y0.2.1 y0.2.2.1 y0.2.2.2.1 y0.2.2.2.2 ([] : List (Int × (List Int))))
noncomputable def gen3_reader_fields.f (fuel : Nat) (bs : List Int) (at0 : Int) (bad : Bool) (wrong : Bool) : Option (Bool × (List Int) × Int × Bool × (List (Int × (List Int)))) := gen3_reader_fields.b bs at0 bad wrong (gen3_reader_fields.l4 fuel bs at0 bad wrong fuel)
theorem gen3_reader_fields.l4_eq (fuel : Nat) (bs : List Int) (at0 : Int) (bad : Bool) (wrong : Bool) : ∀ (k : Nat) (x1 : Int) (x2 : Int) (x3 : Bool) (x4 : (List Int)) (x5 : Int) (x6 : Bool) (x7 : (List (Int × (List Int)))), lp gen3_reader_fields_E fuel Try.f107 [.own 66 (.pair (.int .i64) (.sl (.int .u8)))] 2 gen3_reader_fields.k 4 [] k (gen3_reader_fields.s4 bs at0 bad wrong x1 x2 x3 x4 x5 x6 x7) = gen3_reader_fields.l4 fuel bs at0 bad wrong k x1 x2 x3 x4 x5 x6 x7 := by
  intro k
  induction k with
  | zero => intro x1 x2 x3 x4 x5 x6 x7; rfl
  | succ k ih =>
    intro x1 x2 x3 x4 x5 x6 x7
    have h : lp gen3_reader_fields_E fuel Try.f107 [.own 66 (.pair (.int .i64) (.sl (.int .u8)))] 2 gen3_reader_fields.k 4 [] (k + 1) (gen3_reader_fields.s4 bs at0 bad wrong x1 x2 x3 x4 x5 x6 x7) = gen3_reader_fields.b4 bs at0 bad wrong (fun x1 x2 x3 x4 x5 x6 x7 => lp gen3_reader_fields_E fuel Try.f107 [.own 66 (.pair (.int .i64) (.sl (.int .u8)))] 2 gen3_reader_fields.k 4 [] k (gen3_reader_fields.s4 bs at0 bad wrong x1 x2 x3 x4 x5 x6 x7)) x1 x2 x3 x4 x5 x6 x7 := by kernel_rfl
    rw [h]
    have e4 : (fun x1 x2 x3 x4 x5 x6 x7 => lp gen3_reader_fields_E fuel Try.f107 [.own 66 (.pair (.int .i64) (.sl (.int .u8)))] 2 gen3_reader_fields.k 4 [] k (gen3_reader_fields.s4 bs at0 bad wrong x1 x2 x3 x4 x5 x6 x7)) = gen3_reader_fields.l4 fuel bs at0 bad wrong k := (funext fun x1 => (funext fun x2 => (funext fun x3 => (funext fun x4 => (funext fun x5 => (funext fun x6 => (funext fun x7 => ih x1 x2 x3 x4 x5 x6 x7)))))))
    rw [e4]
    rfl
theorem gen3_reader_fields.eq (fuel : Nat) (bs : List Int) (at0 : Int) (bad : Bool) (wrong : Bool) : (denF gen3_reader_fields_E loopN fuel Try.f107 [.own 66 (.pair (.int .i64) (.sl (.int .u8)))] [.ptr 0 0] [.box [.ptr 1 0, .d .bool wrong], .box [.d (.sl (.int .u8)) bs, .d (.int .i64) at0, .d .bool bad]] gen3_reader_fields.k) = gen3_reader_fields.f fuel bs at0 bad wrong := by
  have h : (denF gen3_reader_fields_E loopN fuel Try.f107 [.own 66 (.pair (.int .i64) (.sl (.int .u8)))] [.ptr 0 0] [.box [.ptr 1 0, .d .bool wrong], .box [.d (.sl (.int .u8)) bs, .d (.int .i64) at0, .d .bool bad]] gen3_reader_fields.k) = gen3_reader_fields.b bs at0 bad wrong (fun x1 x2 x3 x4 x5 x6 x7 => lp gen3_reader_fields_E fuel Try.f107 [.own 66 (.pair (.int .i64) (.sl (.int .u8)))] 2 gen3_reader_fields.k 4 [] fuel (gen3_reader_fields.s4 bs at0 bad wrong x1 x2 x3 x4 x5 x6 x7)) := by kernel_rfl
  rw [h]
  have e4 : (fun x1 x2 x3 x4 x5 x6 x7 => lp gen3_reader_fields_E fuel Try.f107 [.own 66 (.pair (.int .i64) (.sl (.int .u8)))] 2 gen3_reader_fields.k 4 [] fuel (gen3_reader_fields.s4 bs at0 bad wrong x1 x2 x3 x4 x5 x6 x7)) = gen3_reader_fields.l4 fuel bs at0 bad wrong fuel := (funext fun x1 => (funext fun x2 => (funext fun x3 => (funext fun x4 => (funext fun x5 => (funext fun x6 => (funext fun x7 => gen3_reader_fields.l4_eq fuel bs at0 bad wrong fuel x1 x2 x3 x4 x5 x6 x7)))))))
  rw [e4]
  rfl
noncomputable def s_gen3_reader_fields : Den.Sum := ⟨[.pb [.frz none [0] 0 (.int .u8)]], fun args objs κ => match args, objs with
  | [.ptr 0 0], [.box [.ptr 1 0, .d .bool wrong], .box [.d (.sl (.int .u8)) bs, .d (.int .i64) at0, .d .bool bad]] => (match veil (gen3_reader_fields.f BIG bs at0 bad wrong) with | none => none | some y => κ [.row 2] [.box [.ptr 1 0, .d .bool y.1], .box [.d (.sl (.int .u8)) y.2.1, .d (.int .i64) y.2.2.1, .d .bool y.2.2.2.1], .row 66 (.pair (.int .i64) (.sl (.int .u8))) y.2.2.2.2 false])
  | _, _ => none⟩
theorem s_gen3_reader_fields_det : SumDet s_gen3_reader_fields := fun avs objs R κ => by
  show s_gen3_reader_fields.run avs objs (two κ) = (s_gen3_reader_fields.run avs objs (two some)).bind κ
  unfold s_gen3_reader_fields
  simp only [veil_eq]
  split
  · split <;> rfl
  · rfl
theorem s_gen3_reader_fields_ok : SumOk Try.prog 107 s_gen3_reader_fields := by
  have hE : EnvOk Try.prog gen3_reader_fields_E := env_ok (l := [(74, s_gen3_reader_form), (101, s_rnumb), (103, s_bad), (136, s_takeb)]) th_ok any_ok ⟨⟨s_gen3_reader_form_ok, s_gen3_reader_form_det⟩, ⟨s_rnumb_ok, s_rnumb_det⟩, ⟨s_bad_ok, s_bad_det⟩, ⟨s_takeb_ok, s_takeb_det⟩, trivial⟩ _
  refine sum_ok hE Try.func107 rfl (by kernel_rfl) s_gen3_reader_fields [.own 66 (.pair (.int .i64) (.sl (.int .u8)))] gen3_reader_fields.k ?_
  intro R avs objs κ r h
  unfold s_gen3_reader_fields at h
  simp only [veil_eq] at h
  split at h
  · rename_i wrong bs at0 bad
    split at h
    · cases h
    · rename_i y hy
      refine ⟨BIG, _, _, _, (gen3_reader_fields.eq BIG bs at0 bad wrong).trans hy, ?_, h⟩
      intro rs ros hk
      unfold gen3_reader_fields.k at hk
      split at hk
      · first | (cases hk; exact ⟨rfl, rfl⟩) | (have e := Option.some.inj hk; rw [← e]; exact ⟨rfl, rfl⟩)
      · cases hk
  · cases h
theorem fields_end (fuel : Nat) (bs : List Int) (a0 : Int) (bad0 wr0 : Bool) (k : Nat) (n i : Int) (wr : Bool) (a : Int) (bad : Bool) (out : LF) (h : wr = true ∨ n ≤ i) :
    gen3_reader_fields.l4 fuel bs a0 bad0 wr0 (k + 1) n i wr bs a bad out = some (wr, bs, a, bad, out) := by
  rw [gen3_reader_fields.l4]
  unfold gen3_reader_fields.b4
  by_cases hi : i < n
  · rw [if_pos (by simpa using hi)]
    rcases h with rfl | h
    · rfl
    · omega
  · rw [if_neg (by simpa using hi)]
theorem stepF_bad (l : List Int) (n a : Int) : stepF l n a true = ([], false, a, true) := rfl
theorem stepF_zero (l : List Int) (a : Nat) (h : a ≤ l.length) : stepF l 0 (a : Int) false = ([], true, (a : Int), false) := by
  unfold stepF
  rw [if_neg (by simp), if_neg (by simp; omega)]
  unfold seg
  simp
theorem stepF_in (l : List Int) (n : Int) (a : Nat) (h0 : 0 ≤ n) (h : a + n.toNat ≤ l.length) : stepF l n (a : Int) false = ((l.drop a).take n.toNat, true, ((a + n.toNat : Nat) : Int), false) := by
  unfold stepF
  rw [if_neg (by simp), if_neg (by simp; omega)]
  unfold seg
  rw [show ((a : Int) + n).toNat = a + n.toNat from by omega, Int.toNat_natCast, show ((a : Int) + n) = ((a + n.toNat : Nat) : Int) from by omega]
  congr 1
  rw [List.drop_take]
  congr 1
  omega
theorem stepF_out (l : List Int) (n : Int) (a : Nat) (h0 : 0 ≤ n) (h : l.length < a + n.toNat) : stepF l n (a : Int) false = ([], false, (a : Int), true) := by
  unfold stepF
  rw [if_neg (by simp), if_pos (by simp; omega)]
theorem fields_loop (fuel : Nat) (bs : List Int) (hb : inB bs = true) (a0 : Int) (bad0 wr0 : Bool) (n : Nat) (hn : n ≤ 32) : ∀ (m k : Nat) (i a : Nat) (out : LF), i + m = n → m < k → a ≤ bs.length → out.length ≤ i →
    match fldsS bs m a with
    | some (l, a2) => gen3_reader_fields.l4 fuel bs a0 bad0 wr0 k (n : Int) (i : Int) false bs (a : Int) false out = some (false, bs, (a2 : Int), false, out ++ l)
    | none => ∃ (a' : Nat) (bad' : Bool) (l : LF), gen3_reader_fields.l4 fuel bs a0 bad0 wr0 k (n : Int) (i : Int) false bs (a : Int) false out = some (true, bs, (a' : Int), bad', l) ∧ a' ≤ bs.length := by
  obtain ⟨hl, hc⟩ := (inB_iff bs).1 hb
  intro m
  induction m with
  | zero =>
    intro k i a out hi hk ha ho
    obtain ⟨k, rfl⟩ : ∃ k', k = k' + 1 := ⟨k - 1, by omega⟩
    rw [fldsS]
    dsimp only
    rw [fields_end fuel bs a0 bad0 wr0 k (n : Int) (i : Int) false (a : Int) false out (Or.inr (by omega)), List.append_nil]
  | succ m ih =>
    intro k i a out hi hk ha ho
    obtain ⟨k, rfl⟩ : ∃ k', k = k' + 2 := ⟨k - 2, by omega⟩
    have hend : ∀ (a' : Nat) (bad' : Bool) (l : LF), a' ≤ bs.length → ∃ (a'' : Nat) (bad'' : Bool) (l' : LF), gen3_reader_fields.l4 fuel bs a0 bad0 wr0 (k + 1) (n : Int) (Go.IntKind.wrap .i64 ((i : Int) + 1)) true bs (a' : Int) bad' l = some (true, bs, (a'' : Int), bad'', l') ∧ a'' ≤ bs.length :=
      fun a' bad' l h => ⟨a', bad', l, fields_end fuel bs a0 bad0 wr0 k _ _ true _ _ _ (Or.inl rfl), h⟩
    have hw : Go.IntKind.wrap .i64 ((i : Int) + 1) = ((i + 1 : Nat) : Int) := by rw [wrap_small _ (by omega) (by omega)]; omega
    rw [show k + 2 = (k + 1) + 1 from rfl, gen3_reader_fields.l4, fldsS]
    unfold gen3_reader_fields.b4
    simp only [veil_eq]
    rw [if_pos (c := decide ((i : Int) < (n : Int)) = true) (by simp; omega), if_pos (c := (!false) = true) rfl, if_pos (c := atOk bs (a : Int) = true) ((atOk_iff _ _).2 ⟨hb, by omega, by omega⟩)]
    have hlim : ∀ x : Int × List Int, (out.length + ([x] : LF).length) * 32 ≤ lim := fun x => by simp [lim]; omega
    by_cases hlt : a < bs.length
    · rw [readF_one bs a hlt]
      have hf : fldS bs a = match tk bs (a + 1) 4096 with
          | none => none
          | some (n, a2) => if a2 + n.toNat ≤ bs.length then some ((bs[a], (bs.drop a2).take n.toNat), a2 + n.toNat) else none := by
        unfold fldS
        rw [List.getElem?_eq_getElem hlt]
        all_goals rfl
      rw [hf]
      dsimp only
      generalize bs[a] = t at hf ⊢
      have hg := form_good bs (a + 1) 4096 hb (by decide) (by decide) hlt
      cases ht : tk bs (a + 1) 4096 with
      | none =>
        rw [ht] at hg
        obtain ⟨a', bad, hg, h2⟩ := hg
        rw [hg]
        dsimp only
        rw [if_pos (c := atOk bs (a' : Int) = true) ((atOk_iff _ _).2 ⟨hb, by omega, by omega⟩)]
        cases bad with
        | true =>
          rw [stepF_bad]
          dsimp only
          rw [if_pos rfl, if_pos (hlim _)]
          exact hend a' true _ h2
        | false =>
          rw [stepF_zero bs a' h2]
          dsimp only
          rw [if_neg (c := false = true) (by simp), if_pos (hlim _)]
          exact hend a' false _ h2
      | some p =>
        obtain ⟨w, a2⟩ := p
        rw [ht] at hg
        dsimp only at hg ⊢
        obtain ⟨e1, w0, w1, _, _, l1⟩ := tk_facts hc ht
        rw [hg]
        dsimp only
        rw [if_pos (c := atOk bs (a2 : Int) = true) ((atOk_iff _ _).2 ⟨hb, by omega, by omega⟩)]
        by_cases hin : a2 + w.toNat ≤ bs.length
        · rw [stepF_in bs w a2 w0 hin, if_pos hin]
          dsimp only
          rw [if_neg (c := false = true) (by simp), if_pos (hlim _), hw]
          have := ih (k + 1) (i + 1) (a2 + w.toNat) (out ++ [(t, (bs.drop a2).take w.toNat)]) (by omega) (by omega) hin (by simp; omega)
          cases hr : fldsS bs m (a2 + w.toNat) with
          | none =>
            rw [hr] at this
            exact this
          | some q =>
            obtain ⟨l, a3⟩ := q
            rw [hr] at this
            dsimp only at this ⊢
            rw [this]
            simp
        · rw [stepF_out bs w a2 w0 (by omega), if_neg hin]
          dsimp only
          rw [if_pos rfl, if_pos (hlim _)]
          exact hend a2 true _ l1
    · have hf : fldS bs a = none := by
        unfold fldS
        rw [List.getElem?_eq_none (by omega)]
      rw [hf, readF_end bs a (by omega)]
      dsimp only
      rw [form_bad bs a 4096 hb ha]
      dsimp only
      rw [if_pos (c := atOk bs (a : Int) = true) ((atOk_iff _ _).2 ⟨hb, by omega, by omega⟩), stepF_bad]
      dsimp only
      rw [if_pos rfl, if_pos (hlim _)]
      exact hend a true _ ha
theorem fields_wrong (bs : List Int) (a : Int) (bad : Bool) : gen3_reader_fields.f BIG bs a bad true = some (true, bs, a, bad, []) := by
  unfold gen3_reader_fields.f gen3_reader_fields.b
  simp only [veil_eq]
  rw [form_wrong]
  dsimp only
  rw [big_eq]
  exact fields_end _ bs a bad true _ _ _ true a bad [] (Or.inl rfl)
theorem fields_good (bs : List Int) (a : Nat) (hb : inB bs = true) (ha : a ≤ bs.length) :
    match bagS bs a with
    | some (l, a2) => gen3_reader_fields.f BIG bs (a : Int) false false = some (false, bs, (a2 : Int), false, l)
    | none => ∃ (a' : Nat) (bad' : Bool) (l : LF), gen3_reader_fields.f BIG bs (a : Int) false false = some (true, bs, (a' : Int), bad', l) ∧ a' ≤ bs.length := by
  obtain ⟨hl, hc⟩ := (inB_iff bs).1 hb
  have hg := form_good bs a 32 hb (by decide) (by decide) ha
  unfold gen3_reader_fields.f gen3_reader_fields.b bagS
  simp only [veil_eq]
  cases ht : tk bs a 32 with
  | none =>
    rw [ht] at hg
    obtain ⟨a', bad, hg, h2⟩ := hg
    rw [hg]
    dsimp only
    refine ⟨a', bad, [], ?_, h2⟩
    rw [big_eq]
    exact fields_end _ bs a false false _ _ _ true a' bad [] (Or.inl rfl)
  | some p =>
    obtain ⟨w, a2⟩ := p
    rw [ht] at hg
    dsimp only at hg ⊢
    obtain ⟨e1, w0, w1, _, _, l1⟩ := tk_facts hc ht
    rw [hg]
    dsimp only
    have := fields_loop BIG bs hb a false false w.toNat (by omega) w.toNat BIG 0 a2 [] (by omega) (by rw [BIG_eq]; omega) l1 (by simp)
    rw [show ((w.toNat : Nat) : Int) = w from by omega] at this
    simpa using this
noncomputable def gen3_reader_one_E : Env := ⟨th, gam [(74, s_gen3_reader_form), (97, s_rec_Find), (98, s_bsame), (101, s_rnumb), (102, s_gen3_reader_span), (106, s_varint_Zag), (107, s_gen3_reader_fields)], fun i => if i = 8 then ⟨[0, 6, 7, 8, 9, 10], [], [777777]⟩ else if i = 12 then ⟨[0, 6, 7, 8, 9, 10], [], [777777]⟩ else ⟨[], [], []⟩⟩
noncomputable def gen3_reader_one.k (rs : List AV) (os : List Den.Obj) : Option (Int × Int × Int × Int × Int × Bool × (List (Int × (List Int))) × Bool × (List Int) × Int × Bool) :=
  match rs, os with
  | [.agg [.d (.int .i64) r0, .d (.int .i64) r1, .d (.int .i64) r2, .d (.int .i64) r3, .d (.int .i64) r4, .d .bool r5, .d (.sl (.pair (.int .i64) (.sl (.int .u8)))) r6]], [.box [.ptr 1 0, .d .bool r7], .box [.d (.sl (.int .u8)) r8, .d (.int .i64) r9, .d .bool r10]] => some (r0, r1, r2, r3, r4, r5, r6, r7, r8, r9, r10)
  | _, _ => none
noncomputable def gen3_reader_one.s12 (bs : List Int) (at0 : Int) (bad : Bool) (wrong : Bool) (last : Int) (base : List (Int × Int × Int × (Int × Int) × Bool × List (Int × List Int))) (x19 : Int) (x20 : Bool) (x21 : Bool) (x22 : (List Int)) (x23 : Int) (x24 : Bool) (x25 : Int) (x26 : Int) (x27 : Int) (x28 : Int) (x29 : Bool) (x30 : Int) (x31 : Int) (x32 : Int) (x33 : Int) (x34 : Int) (x35 : Bool) (x36 : (List (Int × (List Int)))) : St := ⟨[.ptr 0 0, .dead, .dead, .dead, .dead, .dead, .ptr 64 0, .ptr 65 0, .d (.int .i64) x19, .ptr 66 0, .d .bool x20, .dead, .dead, .dead, .dead, .dead, .dead, .dead, .dead, .dead, .dead, .dead, .dead, .dead, .dead, .dead, .dead, .dead, .dead, .dead, .dead, .dead, .dead, .dead, .dead, .dead, .dead, .dead, .dead, .dead, .dead, .dead, .dead, .dead, .dead, .dead, .dead, .dead, .dead, .dead, .dead, .dead, .dead, .dead, .dead, .dead, .dead, .dead, .dead, .dead, .dead, .dead, .dead, .dead, .dead, .dead, .dead, .dead, .dead, .dead, .dead, .dead, .dead, .dead, .dead, .dead, .dead, .dead, .dead, .dead, .dead, .dead, .dead, .dead, .dead, .dead, .dead, .dead, .dead, .dead, .dead, .dead, .dead, .dead, .dead, .dead, .dead, .dead, .dead, .dead, .dead, .dead, .dead, .dead, .dead, .dead, .dead, .dead, .dead, .dead, .dead, .dead, .dead, .dead, .dead, .dead, .dead, .dead, .dead, .dead, .dead, .dead, .dead], ofL [(0, .box [.ptr 1 0, .d .bool x21]), (1, .box [.d (.sl (.int .u8)) x22, .d (.int .i64) x23, .d .bool x24]), (64, .box [.d (.int .i64) (0), .d (.int .i64) (0), .d (.int .i64) (0), .d (.int .i64) (0), .d (.int .i64) (0), .d .bool (false), .nilsl]), (65, .box [.d (.int .i64) x25, .d (.int .i64) (0), .d (.int .i64) x26, .d (.int .i64) x27, .d (.int .i64) x28, .d .bool x29, .nilsl]), (66, .box [.d (.int .i64) x30, .d (.int .i64) x31, .d (.int .i64) x32, .d (.int .i64) x33, .d (.int .i64) x34, .d .bool x35, .d (.sl (.pair (.int .i64) (.sl (.int .u8)))) x36])], 2⟩
noncomputable def gen3_reader_one.b12 (bs : List Int) (at0 : Int) (bad : Bool) (wrong : Bool) (last : Int) (base : List (Int × Int × Int × (Int × Int) × Bool × List (Int × List Int))) (A12 : Int → Bool → Bool → (List Int) → Int → Bool → Int → Int → Int → Int → Bool → Int → Int → Int → Int → Int → Bool → (List (Int × (List Int))) → Option (Int × Int × Int × Int × Int × Bool × (List (Int × (List Int))) × Bool × (List Int) × Int × Bool)) (x19 : Int) (x20 : Bool) (x21 : Bool) (x22 : (List Int)) (x23 : Int) (x24 : Bool) (x25 : Int) (x26 : Int) (x27 : Int) (x28 : Int) (x29 : Bool) (x30 : Int) (x31 : Int) (x32 : Int) (x33 : Int) (x34 : Int) (x35 : Bool) (x36 : (List (Int × (List Int)))) : Option (Int × Int × Int × Int × Int × Bool × (List (Int × (List Int))) × Bool × (List Int) × Int × Bool) :=
  (match (veil (gen3_reader_form.f BIG x22 x23 x24 x21 (veil (562949953421310 : Int)))) with | none => none | some y37 => (match (veil (varint_Zag.f BIG (Go.IntKind.wrap .u64 y37.1))) with | none => none | some y38 => (if x29 then some (x25, (Go.IntKind.wrap .i64 (x31 + y38)), x26, x27, x28, x29, ([] : List (Int × (List Int))), y37.2.1, y37.2.2.1, y37.2.2.2.1, y37.2.2.2.2) else (if ((bits Go.BinOp.and .i64 x19 (16 : Int)) != (0 : Int)) then some (x25, (Go.IntKind.wrap .i64 (x31 + y38)), x26, x27, x28, x29, x36, y37.2.1, y37.2.2.1, y37.2.2.2.1, y37.2.2.2.2) else (match (veil (gen3_reader_fields.f BIG y37.2.2.1 y37.2.2.2.1 y37.2.2.2.2 y37.2.1)) with | none => none | some y39 => (if y39.1 then some (x25, (Go.IntKind.wrap .i64 (x31 + y38)), x26, x27, x28, x29, y39.2.2.2.2, true, y39.2.1, y39.2.2.1, y39.2.2.2.1) else (if x20 then (if ((smallBag y39.2.2.2.2) && (smallBag x36)) then some (x25, (Go.IntKind.wrap .i64 (x31 + y38)), x26, x27, x28, x29, y39.2.2.2.2, ((cmpGo y39.2.2.2.2 x36) == (0 : Int)), y39.2.1, y39.2.2.1, y39.2.2.2.1) else none) else some (x25, (Go.IntKind.wrap .i64 (x31 + y38)), x26, x27, x28, x29, y39.2.2.2.2, false, y39.2.1, y39.2.2.1, y39.2.2.2.1))))))))
noncomputable def gen3_reader_one.l12 (fuel : Nat) (bs : List Int) (at0 : Int) (bad : Bool) (wrong : Bool) (last : Int) (base : List (Int × Int × Int × (Int × Int) × Bool × List (Int × List Int))) : Nat → Int → Bool → Bool → (List Int) → Int → Bool → Int → Int → Int → Int → Bool → Int → Int → Int → Int → Int → Bool → (List (Int × (List Int))) → Option (Int × Int × Int × Int × Int × Bool × (List (Int × (List Int))) × Bool × (List Int) × Int × Bool)
  | 0, _, _, _, _, _, _, _, _, _, _, _, _, _, _, _, _, _, _ => none
  | k + 1, x19, x20, x21, x22, x23, x24, x25, x26, x27, x28, x29, x30, x31, x32, x33, x34, x35, x36 => gen3_reader_one.b12 bs at0 bad wrong last base (gen3_reader_one.l12 fuel bs at0 bad wrong last base k) x19 x20 x21 x22 x23 x24 x25 x26 x27 x28 x29 x30 x31 x32 x33 x34 x35 x36
noncomputable def gen3_reader_one.s8 (bs : List Int) (at0 : Int) (bad : Bool) (wrong : Bool) (last : Int) (base : List (Int × Int × Int × (Int × Int) × Bool × List (Int × List Int))) (x3 : Int) (x4 : Bool) (x5 : Bool) (x6 : (List Int)) (x7 : Int) (x8 : Bool) (x9 : Int) (x10 : Int) (x11 : Bool) (x12 : Int) (x13 : Int) (x14 : Int) (x15 : Int) (x16 : Int) (x17 : Bool) (x18 : (List (Int × (List Int)))) : St := ⟨[.ptr 0 0, .dead, .dead, .dead, .dead, .dead, .ptr 64 0, .ptr 65 0, .d (.int .i64) x3, .ptr 66 0, .d .bool x4, .dead, .dead, .dead, .dead, .dead, .dead, .dead, .dead, .dead, .dead, .dead, .dead, .dead, .dead, .dead, .dead, .dead, .dead, .dead, .dead, .dead, .dead, .dead, .dead, .dead, .dead, .dead, .dead, .dead, .dead, .dead, .dead, .dead, .dead, .dead, .dead, .dead, .dead, .dead, .dead, .dead, .dead, .dead, .dead, .dead, .dead, .dead, .dead, .dead, .dead, .dead, .dead, .dead, .dead, .dead, .dead, .dead, .dead, .dead, .dead, .dead, .dead, .dead, .dead, .dead, .dead, .dead, .dead, .dead, .dead, .dead, .dead, .dead, .dead, .dead, .dead, .dead, .dead, .dead, .dead, .dead, .dead, .dead, .dead, .dead, .dead, .dead, .dead, .dead, .dead, .dead, .dead, .dead, .dead, .dead, .dead, .dead, .dead, .dead, .dead, .dead, .dead, .dead, .dead, .dead, .dead, .dead, .dead, .dead, .dead, .dead, .dead], ofL [(0, .box [.ptr 1 0, .d .bool x5]), (1, .box [.d (.sl (.int .u8)) x6, .d (.int .i64) x7, .d .bool x8]), (64, .box [.d (.int .i64) (0), .d (.int .i64) (0), .d (.int .i64) (0), .d (.int .i64) (0), .d (.int .i64) (0), .d .bool (false), .nilsl]), (65, .box [.d (.int .i64) x9, .d (.int .i64) (0), .d (.int .i64) x10, .d (.int .i64) (0), .d (.int .i64) (0), .d .bool x11, .nilsl]), (66, .box [.d (.int .i64) x12, .d (.int .i64) x13, .d (.int .i64) x14, .d (.int .i64) x15, .d (.int .i64) x16, .d .bool x17, .d (.sl (.pair (.int .i64) (.sl (.int .u8)))) x18])], 2⟩
noncomputable def gen3_reader_one.b8 (bs : List Int) (at0 : Int) (bad : Bool) (wrong : Bool) (last : Int) (base : List (Int × Int × Int × (Int × Int) × Bool × List (Int × List Int))) (A8 : Int → Bool → Bool → (List Int) → Int → Bool → Int → Int → Bool → Int → Int → Int → Int → Int → Bool → (List (Int × (List Int))) → Option (Int × Int × Int × Int × Int × Bool × (List (Int × (List Int))) × Bool × (List Int) × Int × Bool)) (E12 : Int → Bool → Bool → (List Int) → Int → Bool → Int → Int → Int → Int → Bool → Int → Int → Int → Int → Int → Bool → (List (Int × (List Int))) → Option (Int × Int × Int × Int × Int × Bool × (List (Int × (List Int))) × Bool × (List Int) × Int × Bool)) (x3 : Int) (x4 : Bool) (x5 : Bool) (x6 : (List Int)) (x7 : Int) (x8 : Bool) (x9 : Int) (x10 : Int) (x11 : Bool) (x12 : Int) (x13 : Int) (x14 : Int) (x15 : Int) (x16 : Int) (x17 : Bool) (x18 : (List (Int × (List Int)))) : Option (Int × Int × Int × Int × Int × Bool × (List (Int × (List Int))) × Bool × (List Int) × Int × Bool) :=
  (if ((bits Go.BinOp.and .i64 x3 (8 : Int)) != (0 : Int)) then E12 x3 x4 x5 x6 x7 x8 x9 x10 x15 x16 x11 x12 x13 x14 x15 x16 x17 x18 else (match (veil (gen3_reader_span.f BIG x6 x7 x8 x5)) with | none => none | some y40 => (if y40.2.2.1 then E12 x3 x4 true y40.2.2.2.1 y40.2.2.2.2.1 y40.2.2.2.2.2 x9 x10 y40.1 y40.2.1 x11 x12 x13 x14 x15 x16 x17 x18 else (if x4 then E12 x3 x4 (if (y40.1 == x15) then (if (y40.2.1 == x16) then true else false) else false) y40.2.2.2.1 y40.2.2.2.2.1 y40.2.2.2.2.2 x9 x10 y40.1 y40.2.1 x11 x12 x13 x14 x15 x16 x17 x18 else E12 x3 x4 false y40.2.2.2.1 y40.2.2.2.2.1 y40.2.2.2.2.2 x9 x10 y40.1 y40.2.1 x11 x12 x13 x14 x15 x16 x17 x18))))
noncomputable def gen3_reader_one.l8 (fuel : Nat) (bs : List Int) (at0 : Int) (bad : Bool) (wrong : Bool) (last : Int) (base : List (Int × Int × Int × (Int × Int) × Bool × List (Int × List Int))) : Nat → Int → Bool → Bool → (List Int) → Int → Bool → Int → Int → Bool → Int → Int → Int → Int → Int → Bool → (List (Int × (List Int))) → Option (Int × Int × Int × Int × Int × Bool × (List (Int × (List Int))) × Bool × (List Int) × Int × Bool)
  | 0, _, _, _, _, _, _, _, _, _, _, _, _, _, _, _, _ => none
  | k + 1, x3, x4, x5, x6, x7, x8, x9, x10, x11, x12, x13, x14, x15, x16, x17, x18 => gen3_reader_one.b8 bs at0 bad wrong last base (gen3_reader_one.l8 fuel bs at0 bad wrong last base k) (gen3_reader_one.l12 fuel bs at0 bad wrong last base fuel) x3 x4 x5 x6 x7 x8 x9 x10 x11 x12 x13 x14 x15 x16 x17 x18
noncomputable def gen3_reader_one.b (bs : List Int) (at0 : Int) (bad : Bool) (wrong : Bool) (last : Int) (base : List (Int × Int × Int × (Int × Int) × Bool × List (Int × List Int))) (E8 : Int → Bool → Bool → (List Int) → Int → Bool → Int → Int → Bool → Int → Int → Int → Int → Int → Bool → (List (Int × (List Int))) → Option (Int × Int × Int × Int × Int × Bool × (List (Int × (List Int))) × Bool × (List Int) × Int × Bool)) : Option (Int × Int × Int × Int × Int × Bool × (List (Int × (List Int))) × Bool × (List Int) × Int × Bool) :=
  (match (veil (gen3_reader_form.f BIG bs at0 bad wrong (4095 : Int))) with | none => none | some y0 => (if (atOk y0.2.2.1 y0.2.2.2.1) then (match (veil (Option.some (readF y0.2.2.1 (1 : Int) y0.2.2.2.1 y0.2.2.2.2))) with | none => none | some y1 => (match (veil (rec_Find.f BIG base (Go.IntKind.wrap .i64 ((Go.IntKind.wrap .i64 (last + (1 : Int))) + y0.1)))) with | none => none | some y2 => (if (decide (y1.1 ≥ (32 : Int))) then some ((Go.IntKind.wrap .i64 ((Go.IntKind.wrap .i64 (last + (1 : Int))) + y0.1)), 0, (bits Go.BinOp.and .i64 y1.1 (3 : Int)), 0, 0, ((bits Go.BinOp.and .i64 y1.1 (4 : Int)) != (0 : Int)), ([] : List (Int × (List Int))), true, y0.2.2.1, y1.2.1, y1.2.2) else (if (!y2.2.2.2.2.2.2.2) then (if (decide (y1.1 ≥ (8 : Int))) then some ((Go.IntKind.wrap .i64 ((Go.IntKind.wrap .i64 (last + (1 : Int))) + y0.1)), 0, (bits Go.BinOp.and .i64 y1.1 (3 : Int)), 0, 0, ((bits Go.BinOp.and .i64 y1.1 (4 : Int)) != (0 : Int)), ([] : List (Int × (List Int))), true, y0.2.2.1, y1.2.1, y1.2.2) else (if ((bits Go.BinOp.and .i64 y1.1 (4 : Int)) != (0 : Int)) then (if (decide (y1.1 ≥ (16 : Int))) then some ((Go.IntKind.wrap .i64 ((Go.IntKind.wrap .i64 (last + (1 : Int))) + y0.1)), 0, (bits Go.BinOp.and .i64 y1.1 (3 : Int)), 0, 0, ((bits Go.BinOp.and .i64 y1.1 (4 : Int)) != (0 : Int)), ([] : List (Int × (List Int))), true, y0.2.2.1, y1.2.1, y1.2.2) else E8 y1.1 y2.2.2.2.2.2.2.2 y0.2.1 y0.2.2.1 y1.2.1 y1.2.2 (Go.IntKind.wrap .i64 ((Go.IntKind.wrap .i64 (last + (1 : Int))) + y0.1)) (bits Go.BinOp.and .i64 y1.1 (3 : Int)) ((bits Go.BinOp.and .i64 y1.1 (4 : Int)) != (0 : Int)) y2.1 y2.2.1 y2.2.2.1 y2.2.2.2.1 y2.2.2.2.2.1 y2.2.2.2.2.2.1 y2.2.2.2.2.2.2.1) else E8 y1.1 y2.2.2.2.2.2.2.2 y0.2.1 y0.2.2.1 y1.2.1 y1.2.2 (Go.IntKind.wrap .i64 ((Go.IntKind.wrap .i64 (last + (1 : Int))) + y0.1)) (bits Go.BinOp.and .i64 y1.1 (3 : Int)) ((bits Go.BinOp.and .i64 y1.1 (4 : Int)) != (0 : Int)) y2.1 y2.2.1 y2.2.2.1 y2.2.2.2.1 y2.2.2.2.2.1 y2.2.2.2.2.2.1 y2.2.2.2.2.2.2.1)) else (if ((bits Go.BinOp.and .i64 y1.1 (4 : Int)) != (0 : Int)) then (if (decide (y1.1 ≥ (16 : Int))) then some ((Go.IntKind.wrap .i64 ((Go.IntKind.wrap .i64 (last + (1 : Int))) + y0.1)), 0, (bits Go.BinOp.and .i64 y1.1 (3 : Int)), 0, 0, ((bits Go.BinOp.and .i64 y1.1 (4 : Int)) != (0 : Int)), ([] : List (Int × (List Int))), true, y0.2.2.1, y1.2.1, y1.2.2) else E8 y1.1 y2.2.2.2.2.2.2.2 y0.2.1 y0.2.2.1 y1.2.1 y1.2.2 (Go.IntKind.wrap .i64 ((Go.IntKind.wrap .i64 (last + (1 : Int))) + y0.1)) (bits Go.BinOp.and .i64 y1.1 (3 : Int)) ((bits Go.BinOp.and .i64 y1.1 (4 : Int)) != (0 : Int)) y2.1 y2.2.1 y2.2.2.1 y2.2.2.2.1 y2.2.2.2.2.1 y2.2.2.2.2.2.1 y2.2.2.2.2.2.2.1) else E8 y1.1 y2.2.2.2.2.2.2.2 y0.2.1 y0.2.2.1 y1.2.1 y1.2.2 (Go.IntKind.wrap .i64 ((Go.IntKind.wrap .i64 (last + (1 : Int))) + y0.1)) (bits Go.BinOp.and .i64 y1.1 (3 : Int)) ((bits Go.BinOp.and .i64 y1.1 (4 : Int)) != (0 : Int)) y2.1 y2.2.1 y2.2.2.1 y2.2.2.2.1 y2.2.2.2.2.1 y2.2.2.2.2.2.1 y2.2.2.2.2.2.2.1))))) else none))
noncomputable def gen3_reader_one.f (fuel : Nat) (bs : List Int) (at0 : Int) (bad : Bool) (wrong : Bool) (last : Int) (base : List (Int × Int × Int × (Int × Int) × Bool × List (Int × List Int))) : Option (Int × Int × Int × Int × Int × Bool × (List (Int × (List Int))) × Bool × (List Int) × Int × Bool) := gen3_reader_one.b bs at0 bad wrong last base (gen3_reader_one.l8 fuel bs at0 bad wrong last base fuel)
theorem gen3_reader_one.l12_eq (fuel : Nat) (bs : List Int) (at0 : Int) (bad : Bool) (wrong : Bool) (last : Int) (base : List (Int × Int × Int × (Int × Int) × Bool × List (Int × List Int))) : ∀ (k : Nat) (x19 : Int) (x20 : Bool) (x21 : Bool) (x22 : (List Int)) (x23 : Int) (x24 : Bool) (x25 : Int) (x26 : Int) (x27 : Int) (x28 : Int) (x29 : Bool) (x30 : Int) (x31 : Int) (x32 : Int) (x33 : Int) (x34 : Int) (x35 : Bool) (x36 : (List (Int × (List Int)))), lp gen3_reader_one_E fuel Try.f75 [.dat (.pair (.int .i64) (.pair (.int .i64) (.pair (.int .i64) (.pair (.pair (.int .i64) (.int .i64)) (.pair .bool (.sl (.pair (.int .i64) (.sl (.int .u8))))))))) true] 2 gen3_reader_one.k 12 [] k (gen3_reader_one.s12 bs at0 bad wrong last base x19 x20 x21 x22 x23 x24 x25 x26 x27 x28 x29 x30 x31 x32 x33 x34 x35 x36) = gen3_reader_one.l12 fuel bs at0 bad wrong last base k x19 x20 x21 x22 x23 x24 x25 x26 x27 x28 x29 x30 x31 x32 x33 x34 x35 x36 := by
  intro k
  induction k with
  | zero => intro x19 x20 x21 x22 x23 x24 x25 x26 x27 x28 x29 x30 x31 x32 x33 x34 x35 x36; rfl
  | succ k ih =>
    intro x19 x20 x21 x22 x23 x24 x25 x26 x27 x28 x29 x30 x31 x32 x33 x34 x35 x36
    have h : lp gen3_reader_one_E fuel Try.f75 [.dat (.pair (.int .i64) (.pair (.int .i64) (.pair (.int .i64) (.pair (.pair (.int .i64) (.int .i64)) (.pair .bool (.sl (.pair (.int .i64) (.sl (.int .u8))))))))) true] 2 gen3_reader_one.k 12 [] (k + 1) (gen3_reader_one.s12 bs at0 bad wrong last base x19 x20 x21 x22 x23 x24 x25 x26 x27 x28 x29 x30 x31 x32 x33 x34 x35 x36) = gen3_reader_one.b12 bs at0 bad wrong last base (fun x19 x20 x21 x22 x23 x24 x25 x26 x27 x28 x29 x30 x31 x32 x33 x34 x35 x36 => lp gen3_reader_one_E fuel Try.f75 [.dat (.pair (.int .i64) (.pair (.int .i64) (.pair (.int .i64) (.pair (.pair (.int .i64) (.int .i64)) (.pair .bool (.sl (.pair (.int .i64) (.sl (.int .u8))))))))) true] 2 gen3_reader_one.k 12 [] k (gen3_reader_one.s12 bs at0 bad wrong last base x19 x20 x21 x22 x23 x24 x25 x26 x27 x28 x29 x30 x31 x32 x33 x34 x35 x36)) x19 x20 x21 x22 x23 x24 x25 x26 x27 x28 x29 x30 x31 x32 x33 x34 x35 x36 := by kernel_rfl
    rw [h]
    have e12 : (fun x19 x20 x21 x22 x23 x24 x25 x26 x27 x28 x29 x30 x31 x32 x33 x34 x35 x36 => lp gen3_reader_one_E fuel Try.f75 [.dat (.pair (.int .i64) (.pair (.int .i64) (.pair (.int .i64) (.pair (.pair (.int .i64) (.int .i64)) (.pair .bool (.sl (.pair (.int .i64) (.sl (.int .u8))))))))) true] 2 gen3_reader_one.k 12 [] k (gen3_reader_one.s12 bs at0 bad wrong last base x19 x20 x21 x22 x23 x24 x25 x26 x27 x28 x29 x30 x31 x32 x33 x34 x35 x36)) = gen3_reader_one.l12 fuel bs at0 bad wrong last base k := (funext fun x19 => (funext fun x20 => (funext fun x21 => (funext fun x22 => (funext fun x23 => (funext fun x24 => (funext fun x25 => (funext fun x26 => (funext fun x27 => (funext fun x28 => (funext fun x29 => (funext fun x30 => (funext fun x31 => (funext fun x32 => (funext fun x33 => (funext fun x34 => (funext fun x35 => (funext fun x36 => ih x19 x20 x21 x22 x23 x24 x25 x26 x27 x28 x29 x30 x31 x32 x33 x34 x35 x36))))))))))))))))))
    rw [e12]
    rfl
theorem gen3_reader_one.l8_eq (fuel : Nat) (bs : List Int) (at0 : Int) (bad : Bool) (wrong : Bool) (last : Int) (base : List (Int × Int × Int × (Int × Int) × Bool × List (Int × List Int))) : ∀ (k : Nat) (x3 : Int) (x4 : Bool) (x5 : Bool) (x6 : (List Int)) (x7 : Int) (x8 : Bool) (x9 : Int) (x10 : Int) (x11 : Bool) (x12 : Int) (x13 : Int) (x14 : Int) (x15 : Int) (x16 : Int) (x17 : Bool) (x18 : (List (Int × (List Int)))), lp gen3_reader_one_E fuel Try.f75 [.dat (.pair (.int .i64) (.pair (.int .i64) (.pair (.int .i64) (.pair (.pair (.int .i64) (.int .i64)) (.pair .bool (.sl (.pair (.int .i64) (.sl (.int .u8))))))))) true] 2 gen3_reader_one.k 8 [] k (gen3_reader_one.s8 bs at0 bad wrong last base x3 x4 x5 x6 x7 x8 x9 x10 x11 x12 x13 x14 x15 x16 x17 x18) = gen3_reader_one.l8 fuel bs at0 bad wrong last base k x3 x4 x5 x6 x7 x8 x9 x10 x11 x12 x13 x14 x15 x16 x17 x18 := by
  intro k
  induction k with
  | zero => intro x3 x4 x5 x6 x7 x8 x9 x10 x11 x12 x13 x14 x15 x16 x17 x18; rfl
  | succ k ih =>
    intro x3 x4 x5 x6 x7 x8 x9 x10 x11 x12 x13 x14 x15 x16 x17 x18
    have h : lp gen3_reader_one_E fuel Try.f75 [.dat (.pair (.int .i64) (.pair (.int .i64) (.pair (.int .i64) (.pair (.pair (.int .i64) (.int .i64)) (.pair .bool (.sl (.pair (.int .i64) (.sl (.int .u8))))))))) true] 2 gen3_reader_one.k 8 [] (k + 1) (gen3_reader_one.s8 bs at0 bad wrong last base x3 x4 x5 x6 x7 x8 x9 x10 x11 x12 x13 x14 x15 x16 x17 x18) = gen3_reader_one.b8 bs at0 bad wrong last base (fun x3 x4 x5 x6 x7 x8 x9 x10 x11 x12 x13 x14 x15 x16 x17 x18 => lp gen3_reader_one_E fuel Try.f75 [.dat (.pair (.int .i64) (.pair (.int .i64) (.pair (.int .i64) (.pair (.pair (.int .i64) (.int .i64)) (.pair .bool (.sl (.pair (.int .i64) (.sl (.int .u8))))))))) true] 2 gen3_reader_one.k 8 [] k (gen3_reader_one.s8 bs at0 bad wrong last base x3 x4 x5 x6 x7 x8 x9 x10 x11 x12 x13 x14 x15 x16 x17 x18)) (fun x19 x20 x21 x22 x23 x24 x25 x26 x27 x28 x29 x30 x31 x32 x33 x34 x35 x36 => lp gen3_reader_one_E fuel Try.f75 [.dat (.pair (.int .i64) (.pair (.int .i64) (.pair (.int .i64) (.pair (.pair (.int .i64) (.int .i64)) (.pair .bool (.sl (.pair (.int .i64) (.sl (.int .u8))))))))) true] 2 gen3_reader_one.k 12 [] fuel (gen3_reader_one.s12 bs at0 bad wrong last base x19 x20 x21 x22 x23 x24 x25 x26 x27 x28 x29 x30 x31 x32 x33 x34 x35 x36)) x3 x4 x5 x6 x7 x8 x9 x10 x11 x12 x13 x14 x15 x16 x17 x18 := by kernel_rfl
    rw [h]
    have e8 : (fun x3 x4 x5 x6 x7 x8 x9 x10 x11 x12 x13 x14 x15 x16 x17 x18 => lp gen3_reader_one_E fuel Try.f75 [.dat (.pair (.int .i64) (.pair (.int .i64) (.pair (.int .i64) (.pair (.pair (.int .i64) (.int .i64)) (.pair .bool (.sl (.pair (.int .i64) (.sl (.int .u8))))))))) true] 2 gen3_reader_one.k 8 [] k (gen3_reader_one.s8 bs at0 bad wrong last base x3 x4 x5 x6 x7 x8 x9 x10 x11 x12 x13 x14 x15 x16 x17 x18)) = gen3_reader_one.l8 fuel bs at0 bad wrong last base k := (funext fun x3 => (funext fun x4 => (funext fun x5 => (funext fun x6 => (funext fun x7 => (funext fun x8 => (funext fun x9 => (funext fun x10 => (funext fun x11 => (funext fun x12 => (funext fun x13 => (funext fun x14 => (funext fun x15 => (funext fun x16 => (funext fun x17 => (funext fun x18 => ih x3 x4 x5 x6 x7 x8 x9 x10 x11 x12 x13 x14 x15 x16 x17 x18))))))))))))))))
    rw [e8]
    have e12 : (fun x19 x20 x21 x22 x23 x24 x25 x26 x27 x28 x29 x30 x31 x32 x33 x34 x35 x36 => lp gen3_reader_one_E fuel Try.f75 [.dat (.pair (.int .i64) (.pair (.int .i64) (.pair (.int .i64) (.pair (.pair (.int .i64) (.int .i64)) (.pair .bool (.sl (.pair (.int .i64) (.sl (.int .u8))))))))) true] 2 gen3_reader_one.k 12 [] fuel (gen3_reader_one.s12 bs at0 bad wrong last base x19 x20 x21 x22 x23 x24 x25 x26 x27 x28 x29 x30 x31 x32 x33 x34 x35 x36)) = gen3_reader_one.l12 fuel bs at0 bad wrong last base fuel := (funext fun x19 => (funext fun x20 => (funext fun x21 => (funext fun x22 => (funext fun x23 => (funext fun x24 => (funext fun x25 => (funext fun x26 => (funext fun x27 => (funext fun x28 => (funext fun x29 => (funext fun x30 => (funext fun x31 => (funext fun x32 => (funext fun x33 => (funext fun x34 => (funext fun x35 => (funext fun x36 => gen3_reader_one.l12_eq fuel bs at0 bad wrong last base fuel x19 x20 x21 x22 x23 x24 x25 x26 x27 x28 x29 x30 x31 x32 x33 x34 x35 x36))))))))))))))))))
    rw [e12]
    rfl
theorem gen3_reader_one.eq (fuel : Nat) (bs : List Int) (at0 : Int) (bad : Bool) (wrong : Bool) (last : Int) (base : List (Int × Int × Int × (Int × Int) × Bool × List (Int × List Int))) : (denF gen3_reader_one_E loopN fuel Try.f75 [.dat (.pair (.int .i64) (.pair (.int .i64) (.pair (.int .i64) (.pair (.pair (.int .i64) (.int .i64)) (.pair .bool (.sl (.pair (.int .i64) (.sl (.int .u8))))))))) true] [.ptr 0 0, .d (.int .i64) last, .d (.sl (.pair (.int .i64) (.pair (.int .i64) (.pair (.int .i64) (.pair (.pair (.int .i64) (.int .i64)) (.pair .bool (.sl (.pair (.int .i64) (.sl (.int .u8)))))))))) base] [.box [.ptr 1 0, .d .bool wrong], .box [.d (.sl (.int .u8)) bs, .d (.int .i64) at0, .d .bool bad]] gen3_reader_one.k) = gen3_reader_one.f fuel bs at0 bad wrong last base := by
  have h : (denF gen3_reader_one_E loopN fuel Try.f75 [.dat (.pair (.int .i64) (.pair (.int .i64) (.pair (.int .i64) (.pair (.pair (.int .i64) (.int .i64)) (.pair .bool (.sl (.pair (.int .i64) (.sl (.int .u8))))))))) true] [.ptr 0 0, .d (.int .i64) last, .d (.sl (.pair (.int .i64) (.pair (.int .i64) (.pair (.int .i64) (.pair (.pair (.int .i64) (.int .i64)) (.pair .bool (.sl (.pair (.int .i64) (.sl (.int .u8)))))))))) base] [.box [.ptr 1 0, .d .bool wrong], .box [.d (.sl (.int .u8)) bs, .d (.int .i64) at0, .d .bool bad]] gen3_reader_one.k) = gen3_reader_one.b bs at0 bad wrong last base (fun x3 x4 x5 x6 x7 x8 x9 x10 x11 x12 x13 x14 x15 x16 x17 x18 => lp gen3_reader_one_E fuel Try.f75 [.dat (.pair (.int .i64) (.pair (.int .i64) (.pair (.int .i64) (.pair (.pair (.int .i64) (.int .i64)) (.pair .bool (.sl (.pair (.int .i64) (.sl (.int .u8))))))))) true] 2 gen3_reader_one.k 8 [] fuel (gen3_reader_one.s8 bs at0 bad wrong last base x3 x4 x5 x6 x7 x8 x9 x10 x11 x12 x13 x14 x15 x16 x17 x18)) := by kernel_rfl
  rw [h]
  have e8 : (fun x3 x4 x5 x6 x7 x8 x9 x10 x11 x12 x13 x14 x15 x16 x17 x18 => lp gen3_reader_one_E fuel Try.f75 [.dat (.pair (.int .i64) (.pair (.int .i64) (.pair (.int .i64) (.pair (.pair (.int .i64) (.int .i64)) (.pair .bool (.sl (.pair (.int .i64) (.sl (.int .u8))))))))) true] 2 gen3_reader_one.k 8 [] fuel (gen3_reader_one.s8 bs at0 bad wrong last base x3 x4 x5 x6 x7 x8 x9 x10 x11 x12 x13 x14 x15 x16 x17 x18)) = gen3_reader_one.l8 fuel bs at0 bad wrong last base fuel := (funext fun x3 => (funext fun x4 => (funext fun x5 => (funext fun x6 => (funext fun x7 => (funext fun x8 => (funext fun x9 => (funext fun x10 => (funext fun x11 => (funext fun x12 => (funext fun x13 => (funext fun x14 => (funext fun x15 => (funext fun x16 => (funext fun x17 => (funext fun x18 => gen3_reader_one.l8_eq fuel bs at0 bad wrong last base fuel x3 x4 x5 x6 x7 x8 x9 x10 x11 x12 x13 x14 x15 x16 x17 x18))))))))))))))))
  rw [e8]
  rfl
theorem gen3_reader_one.l12_at (fuel nN kK : Nat) (hN : nN = kK + 1) (bs : List Int) (at0 : Int) (bad : Bool) (wrong : Bool) (last : Int) (base : List (Int × Int × Int × (Int × Int) × Bool × List (Int × List Int))) (x19 : Int) (x20 : Bool) (x21 : Bool) (x22 : (List Int)) (x23 : Int) (x24 : Bool) (x25 : Int) (x26 : Int) (x27 : Int) (x28 : Int) (x29 : Bool) (x30 : Int) (x31 : Int) (x32 : Int) (x33 : Int) (x34 : Int) (x35 : Bool) (x36 : (List (Int × (List Int)))) : gen3_reader_one.l12 fuel bs at0 bad wrong last base nN x19 x20 x21 x22 x23 x24 x25 x26 x27 x28 x29 x30 x31 x32 x33 x34 x35 x36 = gen3_reader_one.b12 bs at0 bad wrong last base (gen3_reader_one.l12 fuel bs at0 bad wrong last base kK) x19 x20 x21 x22 x23 x24 x25 x26 x27 x28 x29 x30 x31 x32 x33 x34 x35 x36 := by
  subst hN
  rfl
theorem gen3_reader_one.l8_at (fuel nN kK : Nat) (hN : nN = kK + 1) (bs : List Int) (at0 : Int) (bad : Bool) (wrong : Bool) (last : Int) (base : List (Int × Int × Int × (Int × Int) × Bool × List (Int × List Int))) (x3 : Int) (x4 : Bool) (x5 : Bool) (x6 : (List Int)) (x7 : Int) (x8 : Bool) (x9 : Int) (x10 : Int) (x11 : Bool) (x12 : Int) (x13 : Int) (x14 : Int) (x15 : Int) (x16 : Int) (x17 : Bool) (x18 : (List (Int × (List Int)))) : gen3_reader_one.l8 fuel bs at0 bad wrong last base nN x3 x4 x5 x6 x7 x8 x9 x10 x11 x12 x13 x14 x15 x16 x17 x18 = gen3_reader_one.b8 bs at0 bad wrong last base (gen3_reader_one.l8 fuel bs at0 bad wrong last base kK) (gen3_reader_one.l12 fuel bs at0 bad wrong last base fuel) x3 x4 x5 x6 x7 x8 x9 x10 x11 x12 x13 x14 x15 x16 x17 x18 := by
  subst hN
  rfl
noncomputable def s_gen3_reader_one : Den.Sum := ⟨[.pb [.frz none [0] 0 (.int .u8)], .raw, .dat (.sl (.pair (.int .i64) (.pair (.int .i64) (.pair (.int .i64) (.pair (.pair (.int .i64) (.int .i64)) (.pair .bool (.sl (.pair (.int .i64) (.sl (.int .u8)))))))))) false], fun args objs κ => match args, objs with
  | [.ptr 0 0, .d (.int .i64) last, .d (.sl (.pair (.int .i64) (.pair (.int .i64) (.pair (.int .i64) (.pair (.pair (.int .i64) (.int .i64)) (.pair .bool (.sl (.pair (.int .i64) (.sl (.int .u8)))))))))) base], [.box [.ptr 1 0, .d .bool wrong], .box [.d (.sl (.int .u8)) bs, .d (.int .i64) at0, .d .bool bad]] => (match veil (gen3_reader_one.f BIG bs at0 bad wrong last base) with | none => none | some y => κ [.agg [.d (.int .i64) y.1, .d (.int .i64) y.2.1, .d (.int .i64) y.2.2.1, .d (.int .i64) y.2.2.2.1, .d (.int .i64) y.2.2.2.2.1, .d .bool y.2.2.2.2.2.1, .d (.sl (.pair (.int .i64) (.sl (.int .u8)))) y.2.2.2.2.2.2.1]] [.box [.ptr 1 0, .d .bool y.2.2.2.2.2.2.2.1], .box [.d (.sl (.int .u8)) y.2.2.2.2.2.2.2.2.1, .d (.int .i64) y.2.2.2.2.2.2.2.2.2.1, .d .bool y.2.2.2.2.2.2.2.2.2.2]])
  | _, _ => none⟩
theorem s_gen3_reader_one_det : SumDet s_gen3_reader_one := fun avs objs R κ => by
  show s_gen3_reader_one.run avs objs (two κ) = (s_gen3_reader_one.run avs objs (two some)).bind κ
  unfold s_gen3_reader_one
  simp only [veil_eq]
  split
  · split <;> rfl
  · rfl
theorem s_gen3_reader_one_ok : SumOk Try.prog 75 s_gen3_reader_one := by
  have hE : EnvOk Try.prog gen3_reader_one_E := env_ok (l := [(74, s_gen3_reader_form), (97, s_rec_Find), (98, s_bsame), (101, s_rnumb), (102, s_gen3_reader_span), (106, s_varint_Zag), (107, s_gen3_reader_fields)]) th_ok any_ok ⟨⟨s_gen3_reader_form_ok, s_gen3_reader_form_det⟩, ⟨s_rec_Find_ok, s_rec_Find_det⟩, ⟨s_bsame_ok, s_bsame_det⟩, ⟨s_rnumb_ok, s_rnumb_det⟩, ⟨s_gen3_reader_span_ok, s_gen3_reader_span_det⟩, ⟨s_varint_Zag_ok, s_varint_Zag_det⟩, ⟨s_gen3_reader_fields_ok, s_gen3_reader_fields_det⟩, trivial⟩ _
  refine sum_ok hE Try.func75 rfl (by kernel_rfl) s_gen3_reader_one [.dat (.pair (.int .i64) (.pair (.int .i64) (.pair (.int .i64) (.pair (.pair (.int .i64) (.int .i64)) (.pair .bool (.sl (.pair (.int .i64) (.sl (.int .u8))))))))) true] gen3_reader_one.k ?_
  intro R avs objs κ r h
  unfold s_gen3_reader_one at h
  simp only [veil_eq] at h
  split at h
  · rename_i last base wrong bs at0 bad
    split at h
    · cases h
    · rename_i y hy
      refine ⟨BIG, _, _, _, (gen3_reader_one.eq BIG bs at0 bad wrong last base).trans hy, ?_, h⟩
      intro rs ros hk
      unfold gen3_reader_one.k at hk
      split at hk
      · first | (cases hk; exact ⟨rfl, rfl⟩) | (have e := Option.some.inj hk; rw [← e]; exact ⟨rfl, rfl⟩)
      · cases hk
  · cases h
theorem flags_tab : (List.range 256).all (fun n => (bits Go.BinOp.and .i64 (n : Int) 3 == (n : Int) % 4) && (((bits Go.BinOp.and .i64 (n : Int) 4 != 0) == ((n : Int) / 4 % 2 == 1)) && (((bits Go.BinOp.and .i64 (n : Int) 8 != 0) == ((n : Int) / 8 % 2 == 1)) && ((bits Go.BinOp.and .i64 (n : Int) 16 != 0) == ((n : Int) / 16 % 2 == 1))))) = true := by kernel_rfl
theorem flags_at (v : Int) (h0 : 0 ≤ v) (h1 : v ≤ 255) : bits Go.BinOp.and .i64 v 3 = v % 4 ∧ (bits Go.BinOp.and .i64 v 4 != 0) = (v / 4 % 2 == 1) ∧ (bits Go.BinOp.and .i64 v 8 != 0) = (v / 8 % 2 == 1) ∧ (bits Go.BinOp.and .i64 v 16 != 0) = (v / 16 % 2 == 1) := by
  have := List.all_eq_true.1 flags_tab v.toNat (by simp; omega)
  rw [show ((v.toNat : Nat) : Int) = v from by omega] at this
  simp only [Bool.and_eq_true] at this
  obtain ⟨a, b, c, d⟩ := this
  exact ⟨by simpa using a, eq_of_beq b, eq_of_beq c, eq_of_beq d⟩
theorem xor64_zero (a : Int) (h0 : 0 ≤ a) (h1 : a < 9223372036854775808) : bits Go.BinOp.xor .i64 a 0 = a := by
  have e : bits Go.BinOp.xor .i64 a 0 = Go.IntKind.wrap .i64 ((BitVec.ofInt 64 a ^^^ 0#64).toNat : Int) := rfl
  rw [e, BitVec.xor_zero, BitVec.toNat_ofInt, wrap_small]
  · omega
  · omega
  · omega
theorem xor64_ones (a : Int) (h0 : 0 ≤ a) (h1 : a < 9223372036854775808) : bits Go.BinOp.xor .i64 a (-1) = -a - 1 := by
  have e : bits Go.BinOp.xor .i64 a (-1) = Go.IntKind.wrap .i64 ((BitVec.ofInt 64 a ^^^ BitVec.ofInt 64 (-1)).toNat : Int) := rfl
  rw [e, show BitVec.ofInt 64 (-1) = BitVec.allOnes 64 from by decide +kernel, BitVec.xor_allOnes, BitVec.toNat_not, BitVec.toNat_ofInt, Go.IntKind.wrap_i64]
  omega
theorem and64_one (z : Int) (h0 : 0 ≤ z) (h1 : z < 18446744073709551616) : bits Go.BinOp.and .u64 z 1 = z % 2 := by
  obtain ⟨a, rfl⟩ := Int.eq_ofNat_of_zero_le h0
  have e : bits Go.BinOp.and .u64 (a : Int) 1 = Go.IntKind.wrap .u64 ((BitVec.ofInt 64 (a : Int) &&& 1#64).toNat : Int) := rfl
  rw [e, BitVec.toNat_and, BitVec.ofInt_natCast, BitVec.toNat_ofNat, Nat.mod_eq_of_lt (by omega), show (1#64 : BitVec 64).toNat = 1 from rfl, Nat.and_one_is_mod, wrapU64 _ (by omega) (by omega)]
  omega
theorem Zag.pure (z : Int) (h0 : 0 ≤ z) (h1 : z < 4611686018427387904) : varint_Zag.f BIG z = some (zagF z) := by
  unfold varint_Zag.f varint_Zag.b zagF
  rw [show ((2 : Int) ^ (Min.min (Int.toNat (1 : Int)) (Go.IntKind.bits .u64))) = 2 from rfl, Int.fdiv_eq_ediv_of_nonneg _ (by omega), and64_one z h0 (by omega), wrap_small (z / 2) (by omega) (by omega), wrap_small (z % 2) (by omega) (by omega)]
  by_cases h : z % 2 = 0
  · rw [if_pos h, h, show Go.IntKind.wrap .i64 (0 - 0) = 0 from by decide, xor64_zero _ (by omega) (by omega)]
  · rw [if_neg h, show z % 2 = 1 from by omega, show Go.IntKind.wrap .i64 (0 - 1) = -1 from by decide, xor64_ones _ (by omega) (by omega)]
    congr 1
    omega
theorem one12_wrong (bs : List Int) (a0 : Int) (bad0 wr0 : Bool) (last : Int) (base : LR) (v : Int) (ok : Bool) (a : Int) (bad : Bool) (id st lo hi : Int) (cut : Bool) (oid oinc ost olo ohi : Int) (ocut : Bool) (obag : LF) :
    ∃ inc bag, gen3_reader_one.l12 BIG bs a0 bad0 wr0 last base BIG v ok true bs a bad id st lo hi cut oid oinc ost olo ohi ocut obag = some (id, inc, st, lo, hi, cut, bag, true, bs, a, bad) := by
  rw [gen3_reader_one.l12_at BIG BIG (BIG - 1) big_eq]
  unfold gen3_reader_one.b12
  simp only [veil_eq]
  rw [form_wrong]
  dsimp only
  obtain ⟨y, hy⟩ : ∃ y, varint_Zag.f BIG (Go.IntKind.wrap .u64 0) = some y := ⟨_, rfl⟩
  rw [hy]
  dsimp only
  cases cut with
  | true => exact ⟨_, _, rfl⟩
  | false =>
    rw [if_neg (c := false = true) (by simp)]
    split
    · exact ⟨_, _, rfl⟩
    · rw [fields_wrong]
      exact ⟨_, _, rfl⟩
def OneBad (bs : List Int) (o : Option (Int × Int × Int × Int × Int × Bool × LF × Bool × List Int × Int × Bool)) : Prop :=
  ∃ id inc st lo hi cut bag, ∃ (a' : Nat) (bad' : Bool), o = some (id, inc, st, lo, hi, cut, bag, true, bs, (a' : Int), bad') ∧ a' ≤ bs.length
theorem one12_bad (bs : List Int) (a0 : Int) (bad0 wr0 : Bool) (last : Int) (base : LR) (v : Int) (ok : Bool) (a : Nat) (bad : Bool) (id st lo hi : Int) (cut : Bool) (oid oinc ost olo ohi : Int) (ocut : Bool) (obag : LF) (ha : a ≤ bs.length) :
    OneBad bs (gen3_reader_one.l12 BIG bs a0 bad0 wr0 last base BIG v ok true bs (a : Int) bad id st lo hi cut oid oinc ost olo ohi ocut obag) := by
  obtain ⟨inc, bag, h⟩ := one12_wrong bs a0 bad0 wr0 last base v ok a bad id st lo hi cut oid oinc ost olo ohi ocut obag
  exact ⟨id, inc, st, lo, hi, cut, bag, a, bad, h, ha⟩
theorem bag_small {b : LF} (h1 : b.length ≤ 32) (h2 : ∀ x ∈ b, x.2.length ≤ 4096) : smallBag b = true := (smallBag_iff _).2 ⟨by omega, fun x hx => by have := h2 x hx; omega⟩
theorem old_small {base : LR} (hbase : ∀ x ∈ base, recOkT x = true) (id : Int) : smallBag (oldR base id).1.2.2.2.2.2 = true := by
  rcases oldR_mem (base := base) (id := id) with ⟨_, h⟩ | ⟨_, h, _⟩
  · rw [h]; all_goals rfl
  · have := recOk_facts (hbase _ h)
    have hb2 := bagOk_len this.2.2.2.2.2.2.2.1
    exact bag_small hb2.1 (fun x hx => (bag_tags this.2.2.2.2.2.2.2.1 x hx).2.2)
end Go.Proofs.Ytnlkghcibpopgaa
