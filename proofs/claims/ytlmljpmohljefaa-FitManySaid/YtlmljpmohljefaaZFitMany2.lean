/- FitMany: whatever numbers are given, the law returns true. There is no condition. -/
import Derived.Test.YtlmljpmohljefaaZFitMany1
set_option linter.unusedVariables false
set_option linter.unusedSimpArgs false
set_option maxRecDepth 100000
namespace Go.Proofs.Ytlmljpmohljefaa
open Go.Den
noncomputable def gen3_lay.b (mKind : Int) (mFrom : Int) (mInc : Int) (mSpanLo : Int) (mSpanHi : Int) (mSeq : Int) (mTarget : Int) (mLife : Int) (mEpoch : Int) (mBase : Int) (mRecs : List (Int × Int × Int × (Int × Int) × Bool × List (Int × List Int))) (base : List (Int × Int × Int × (Int × Int) × Bool × List (Int × List Int))) (E19 : (List (Int × (Int × (Int × ((Int × Int) × (Bool × (List (Int × (List Int))))))))) → Int → Int → Int → (List Int) → Option (List Int)) : Option (List Int) :=
  (if (mBase == (0 : Int)) then (if (fitsF (1 : Int) mKind) then (match (veil (gen3_writer_form.f BIG (be (Int.toNat (1 : Int)) mKind) (mFrom :: (mInc :: ([] : List Int))))) with | none => none | some y0 => (if ((fitsF (1 : Int) (codeF mSpanLo mSpanHi)) ∧ (roomy y0)) then (if (hasF mKind (0 : Int)) then (match (veil (gen3_writer_form.f BIG (y0 ++ (be (Int.toNat (1 : Int)) (codeF mSpanLo mSpanHi))) (mSeq :: ([] : List Int)))) with | none => none | some y1 => (if (hasF mKind (1 : Int)) then (match (veil (gen3_writer_form.f BIG y1 (mTarget :: ([] : List Int)))) with | none => none | some y2 => (if (hasF mKind (2 : Int)) then (match (veil (gen3_writer_form.f BIG y2 (mLife :: (mEpoch :: ([] : List Int))))) with | none => none | some y3 => (if (hasF mKind (3 : Int)) then (match (veil (gen3_writer_form.f BIG y3 (mBase :: ([] : List Int)))) with | none => none | some y4 => (if (hasF mKind (4 : Int)) then (match (veil (gen3_writer_form.f BIG y4 (((((List.length mRecs)) : Nat) : Int) :: ([] : List Int)))) with | none => none | some y5 => E19 ([] : List (Int × (Int × (Int × ((Int × Int) × (Bool × (List (Int × (List Int))))))))) (-(1 : Int)) ((((List.length mRecs)) : Nat) : Int) (0 : Int) y5) else E19 ([] : List (Int × (Int × (Int × ((Int × Int) × (Bool × (List (Int × (List Int))))))))) (-(1 : Int)) ((((List.length mRecs)) : Nat) : Int) (0 : Int) y4)) else (if (hasF mKind (4 : Int)) then (match (veil (gen3_writer_form.f BIG y3 (((((List.length mRecs)) : Nat) : Int) :: ([] : List Int)))) with | none => none | some y13 => E19 ([] : List (Int × (Int × (Int × ((Int × Int) × (Bool × (List (Int × (List Int))))))))) (-(1 : Int)) ((((List.length mRecs)) : Nat) : Int) (0 : Int) y13) else E19 ([] : List (Int × (Int × (Int × ((Int × Int) × (Bool × (List (Int × (List Int))))))))) (-(1 : Int)) ((((List.length mRecs)) : Nat) : Int) (0 : Int) y3))) else (if (hasF mKind (3 : Int)) then (match (veil (gen3_writer_form.f BIG y2 (mBase :: ([] : List Int)))) with | none => none | some y14 => (if (hasF mKind (4 : Int)) then (match (veil (gen3_writer_form.f BIG y14 (((((List.length mRecs)) : Nat) : Int) :: ([] : List Int)))) with | none => none | some y15 => E19 ([] : List (Int × (Int × (Int × ((Int × Int) × (Bool × (List (Int × (List Int))))))))) (-(1 : Int)) ((((List.length mRecs)) : Nat) : Int) (0 : Int) y15) else E19 ([] : List (Int × (Int × (Int × ((Int × Int) × (Bool × (List (Int × (List Int))))))))) (-(1 : Int)) ((((List.length mRecs)) : Nat) : Int) (0 : Int) y14)) else (if (hasF mKind (4 : Int)) then (match (veil (gen3_writer_form.f BIG y2 (((((List.length mRecs)) : Nat) : Int) :: ([] : List Int)))) with | none => none | some y16 => E19 ([] : List (Int × (Int × (Int × ((Int × Int) × (Bool × (List (Int × (List Int))))))))) (-(1 : Int)) ((((List.length mRecs)) : Nat) : Int) (0 : Int) y16) else E19 ([] : List (Int × (Int × (Int × ((Int × Int) × (Bool × (List (Int × (List Int))))))))) (-(1 : Int)) ((((List.length mRecs)) : Nat) : Int) (0 : Int) y2)))) else (if (hasF mKind (2 : Int)) then (match (veil (gen3_writer_form.f BIG y1 (mLife :: (mEpoch :: ([] : List Int))))) with | none => none | some y17 => (if (hasF mKind (3 : Int)) then (match (veil (gen3_writer_form.f BIG y17 (mBase :: ([] : List Int)))) with | none => none | some y18 => (if (hasF mKind (4 : Int)) then (match (veil (gen3_writer_form.f BIG y18 (((((List.length mRecs)) : Nat) : Int) :: ([] : List Int)))) with | none => none | some y19 => E19 ([] : List (Int × (Int × (Int × ((Int × Int) × (Bool × (List (Int × (List Int))))))))) (-(1 : Int)) ((((List.length mRecs)) : Nat) : Int) (0 : Int) y19) else E19 ([] : List (Int × (Int × (Int × ((Int × Int) × (Bool × (List (Int × (List Int))))))))) (-(1 : Int)) ((((List.length mRecs)) : Nat) : Int) (0 : Int) y18)) else (if (hasF mKind (4 : Int)) then (match (veil (gen3_writer_form.f BIG y17 (((((List.length mRecs)) : Nat) : Int) :: ([] : List Int)))) with | none => none | some y20 => E19 ([] : List (Int × (Int × (Int × ((Int × Int) × (Bool × (List (Int × (List Int))))))))) (-(1 : Int)) ((((List.length mRecs)) : Nat) : Int) (0 : Int) y20) else E19 ([] : List (Int × (Int × (Int × ((Int × Int) × (Bool × (List (Int × (List Int))))))))) (-(1 : Int)) ((((List.length mRecs)) : Nat) : Int) (0 : Int) y17))) else (if (hasF mKind (3 : Int)) then (match (veil (gen3_writer_form.f BIG y1 (mBase :: ([] : List Int)))) with | none => none | some y21 => (if (hasF mKind (4 : Int)) then (match (veil (gen3_writer_form.f BIG y21 (((((List.length mRecs)) : Nat) : Int) :: ([] : List Int)))) with | none => none | some y22 => E19 ([] : List (Int × (Int × (Int × ((Int × Int) × (Bool × (List (Int × (List Int))))))))) (-(1 : Int)) ((((List.length mRecs)) : Nat) : Int) (0 : Int) y22) else E19 ([] : List (Int × (Int × (Int × ((Int × Int) × (Bool × (List (Int × (List Int))))))))) (-(1 : Int)) ((((List.length mRecs)) : Nat) : Int) (0 : Int) y21)) else (if (hasF mKind (4 : Int)) then (match (veil (gen3_writer_form.f BIG y1 (((((List.length mRecs)) : Nat) : Int) :: ([] : List Int)))) with | none => none | some y23 => E19 ([] : List (Int × (Int × (Int × ((Int × Int) × (Bool × (List (Int × (List Int))))))))) (-(1 : Int)) ((((List.length mRecs)) : Nat) : Int) (0 : Int) y23) else E19 ([] : List (Int × (Int × (Int × ((Int × Int) × (Bool × (List (Int × (List Int))))))))) (-(1 : Int)) ((((List.length mRecs)) : Nat) : Int) (0 : Int) y1))))) else (if (hasF mKind (1 : Int)) then (match (veil (gen3_writer_form.f BIG (y0 ++ (be (Int.toNat (1 : Int)) (codeF mSpanLo mSpanHi))) (mTarget :: ([] : List Int)))) with | none => none | some y24 => (if (hasF mKind (2 : Int)) then (match (veil (gen3_writer_form.f BIG y24 (mLife :: (mEpoch :: ([] : List Int))))) with | none => none | some y25 => (if (hasF mKind (3 : Int)) then (match (veil (gen3_writer_form.f BIG y25 (mBase :: ([] : List Int)))) with | none => none | some y26 => (if (hasF mKind (4 : Int)) then (match (veil (gen3_writer_form.f BIG y26 (((((List.length mRecs)) : Nat) : Int) :: ([] : List Int)))) with | none => none | some y27 => E19 ([] : List (Int × (Int × (Int × ((Int × Int) × (Bool × (List (Int × (List Int))))))))) (-(1 : Int)) ((((List.length mRecs)) : Nat) : Int) (0 : Int) y27) else E19 ([] : List (Int × (Int × (Int × ((Int × Int) × (Bool × (List (Int × (List Int))))))))) (-(1 : Int)) ((((List.length mRecs)) : Nat) : Int) (0 : Int) y26)) else (if (hasF mKind (4 : Int)) then (match (veil (gen3_writer_form.f BIG y25 (((((List.length mRecs)) : Nat) : Int) :: ([] : List Int)))) with | none => none | some y28 => E19 ([] : List (Int × (Int × (Int × ((Int × Int) × (Bool × (List (Int × (List Int))))))))) (-(1 : Int)) ((((List.length mRecs)) : Nat) : Int) (0 : Int) y28) else E19 ([] : List (Int × (Int × (Int × ((Int × Int) × (Bool × (List (Int × (List Int))))))))) (-(1 : Int)) ((((List.length mRecs)) : Nat) : Int) (0 : Int) y25))) else (if (hasF mKind (3 : Int)) then (match (veil (gen3_writer_form.f BIG y24 (mBase :: ([] : List Int)))) with | none => none | some y29 => (if (hasF mKind (4 : Int)) then (match (veil (gen3_writer_form.f BIG y29 (((((List.length mRecs)) : Nat) : Int) :: ([] : List Int)))) with | none => none | some y30 => E19 ([] : List (Int × (Int × (Int × ((Int × Int) × (Bool × (List (Int × (List Int))))))))) (-(1 : Int)) ((((List.length mRecs)) : Nat) : Int) (0 : Int) y30) else E19 ([] : List (Int × (Int × (Int × ((Int × Int) × (Bool × (List (Int × (List Int))))))))) (-(1 : Int)) ((((List.length mRecs)) : Nat) : Int) (0 : Int) y29)) else (if (hasF mKind (4 : Int)) then (match (veil (gen3_writer_form.f BIG y24 (((((List.length mRecs)) : Nat) : Int) :: ([] : List Int)))) with | none => none | some y31 => E19 ([] : List (Int × (Int × (Int × ((Int × Int) × (Bool × (List (Int × (List Int))))))))) (-(1 : Int)) ((((List.length mRecs)) : Nat) : Int) (0 : Int) y31) else E19 ([] : List (Int × (Int × (Int × ((Int × Int) × (Bool × (List (Int × (List Int))))))))) (-(1 : Int)) ((((List.length mRecs)) : Nat) : Int) (0 : Int) y24)))) else (if (hasF mKind (2 : Int)) then (match (veil (gen3_writer_form.f BIG (y0 ++ (be (Int.toNat (1 : Int)) (codeF mSpanLo mSpanHi))) (mLife :: (mEpoch :: ([] : List Int))))) with | none => none | some y32 => (if (hasF mKind (3 : Int)) then (match (veil (gen3_writer_form.f BIG y32 (mBase :: ([] : List Int)))) with | none => none | some y33 => (if (hasF mKind (4 : Int)) then (match (veil (gen3_writer_form.f BIG y33 (((((List.length mRecs)) : Nat) : Int) :: ([] : List Int)))) with | none => none | some y34 => E19 ([] : List (Int × (Int × (Int × ((Int × Int) × (Bool × (List (Int × (List Int))))))))) (-(1 : Int)) ((((List.length mRecs)) : Nat) : Int) (0 : Int) y34) else E19 ([] : List (Int × (Int × (Int × ((Int × Int) × (Bool × (List (Int × (List Int))))))))) (-(1 : Int)) ((((List.length mRecs)) : Nat) : Int) (0 : Int) y33)) else (if (hasF mKind (4 : Int)) then (match (veil (gen3_writer_form.f BIG y32 (((((List.length mRecs)) : Nat) : Int) :: ([] : List Int)))) with | none => none | some y35 => E19 ([] : List (Int × (Int × (Int × ((Int × Int) × (Bool × (List (Int × (List Int))))))))) (-(1 : Int)) ((((List.length mRecs)) : Nat) : Int) (0 : Int) y35) else E19 ([] : List (Int × (Int × (Int × ((Int × Int) × (Bool × (List (Int × (List Int))))))))) (-(1 : Int)) ((((List.length mRecs)) : Nat) : Int) (0 : Int) y32))) else (if (hasF mKind (3 : Int)) then (match (veil (gen3_writer_form.f BIG (y0 ++ (be (Int.toNat (1 : Int)) (codeF mSpanLo mSpanHi))) (mBase :: ([] : List Int)))) with | none => none | some y36 => (if (hasF mKind (4 : Int)) then (match (veil (gen3_writer_form.f BIG y36 (((((List.length mRecs)) : Nat) : Int) :: ([] : List Int)))) with | none => none | some y37 => E19 ([] : List (Int × (Int × (Int × ((Int × Int) × (Bool × (List (Int × (List Int))))))))) (-(1 : Int)) ((((List.length mRecs)) : Nat) : Int) (0 : Int) y37) else E19 ([] : List (Int × (Int × (Int × ((Int × Int) × (Bool × (List (Int × (List Int))))))))) (-(1 : Int)) ((((List.length mRecs)) : Nat) : Int) (0 : Int) y36)) else (if (hasF mKind (4 : Int)) then (match (veil (gen3_writer_form.f BIG (y0 ++ (be (Int.toNat (1 : Int)) (codeF mSpanLo mSpanHi))) (((((List.length mRecs)) : Nat) : Int) :: ([] : List Int)))) with | none => none | some y38 => E19 ([] : List (Int × (Int × (Int × ((Int × Int) × (Bool × (List (Int × (List Int))))))))) (-(1 : Int)) ((((List.length mRecs)) : Nat) : Int) (0 : Int) y38) else E19 ([] : List (Int × (Int × (Int × ((Int × Int) × (Bool × (List (Int × (List Int))))))))) (-(1 : Int)) ((((List.length mRecs)) : Nat) : Int) (0 : Int) (y0 ++ (be (Int.toNat (1 : Int)) (codeF mSpanLo mSpanHi)))))))) else none)) else none) else (if (fitsF (1 : Int) mKind) then (match (veil (gen3_writer_form.f BIG (be (Int.toNat (1 : Int)) mKind) (mFrom :: (mInc :: ([] : List Int))))) with | none => none | some y39 => (if ((fitsF (1 : Int) (codeF mSpanLo mSpanHi)) ∧ (roomy y39)) then (if (hasF mKind (0 : Int)) then (match (veil (gen3_writer_form.f BIG (y39 ++ (be (Int.toNat (1 : Int)) (codeF mSpanLo mSpanHi))) (mSeq :: ([] : List Int)))) with | none => none | some y40 => (if (hasF mKind (1 : Int)) then (match (veil (gen3_writer_form.f BIG y40 (mTarget :: ([] : List Int)))) with | none => none | some y41 => (if (hasF mKind (2 : Int)) then (match (veil (gen3_writer_form.f BIG y41 (mLife :: (mEpoch :: ([] : List Int))))) with | none => none | some y42 => (if (hasF mKind (3 : Int)) then (match (veil (gen3_writer_form.f BIG y42 (mBase :: ([] : List Int)))) with | none => none | some y43 => (if (hasF mKind (4 : Int)) then (match (veil (gen3_writer_form.f BIG y43 (((((List.length mRecs)) : Nat) : Int) :: ([] : List Int)))) with | none => none | some y44 => E19 base (-(1 : Int)) ((((List.length mRecs)) : Nat) : Int) (0 : Int) y44) else E19 base (-(1 : Int)) ((((List.length mRecs)) : Nat) : Int) (0 : Int) y43)) else (if (hasF mKind (4 : Int)) then (match (veil (gen3_writer_form.f BIG y42 (((((List.length mRecs)) : Nat) : Int) :: ([] : List Int)))) with | none => none | some y45 => E19 base (-(1 : Int)) ((((List.length mRecs)) : Nat) : Int) (0 : Int) y45) else E19 base (-(1 : Int)) ((((List.length mRecs)) : Nat) : Int) (0 : Int) y42))) else (if (hasF mKind (3 : Int)) then (match (veil (gen3_writer_form.f BIG y41 (mBase :: ([] : List Int)))) with | none => none | some y46 => (if (hasF mKind (4 : Int)) then (match (veil (gen3_writer_form.f BIG y46 (((((List.length mRecs)) : Nat) : Int) :: ([] : List Int)))) with | none => none | some y47 => E19 base (-(1 : Int)) ((((List.length mRecs)) : Nat) : Int) (0 : Int) y47) else E19 base (-(1 : Int)) ((((List.length mRecs)) : Nat) : Int) (0 : Int) y46)) else (if (hasF mKind (4 : Int)) then (match (veil (gen3_writer_form.f BIG y41 (((((List.length mRecs)) : Nat) : Int) :: ([] : List Int)))) with | none => none | some y48 => E19 base (-(1 : Int)) ((((List.length mRecs)) : Nat) : Int) (0 : Int) y48) else E19 base (-(1 : Int)) ((((List.length mRecs)) : Nat) : Int) (0 : Int) y41)))) else (if (hasF mKind (2 : Int)) then (match (veil (gen3_writer_form.f BIG y40 (mLife :: (mEpoch :: ([] : List Int))))) with | none => none | some y49 => (if (hasF mKind (3 : Int)) then (match (veil (gen3_writer_form.f BIG y49 (mBase :: ([] : List Int)))) with | none => none | some y50 => (if (hasF mKind (4 : Int)) then (match (veil (gen3_writer_form.f BIG y50 (((((List.length mRecs)) : Nat) : Int) :: ([] : List Int)))) with | none => none | some y51 => E19 base (-(1 : Int)) ((((List.length mRecs)) : Nat) : Int) (0 : Int) y51) else E19 base (-(1 : Int)) ((((List.length mRecs)) : Nat) : Int) (0 : Int) y50)) else (if (hasF mKind (4 : Int)) then (match (veil (gen3_writer_form.f BIG y49 (((((List.length mRecs)) : Nat) : Int) :: ([] : List Int)))) with | none => none | some y52 => E19 base (-(1 : Int)) ((((List.length mRecs)) : Nat) : Int) (0 : Int) y52) else E19 base (-(1 : Int)) ((((List.length mRecs)) : Nat) : Int) (0 : Int) y49))) else (if (hasF mKind (3 : Int)) then (match (veil (gen3_writer_form.f BIG y40 (mBase :: ([] : List Int)))) with | none => none | some y53 => (if (hasF mKind (4 : Int)) then (match (veil (gen3_writer_form.f BIG y53 (((((List.length mRecs)) : Nat) : Int) :: ([] : List Int)))) with | none => none | some y54 => E19 base (-(1 : Int)) ((((List.length mRecs)) : Nat) : Int) (0 : Int) y54) else E19 base (-(1 : Int)) ((((List.length mRecs)) : Nat) : Int) (0 : Int) y53)) else (if (hasF mKind (4 : Int)) then (match (veil (gen3_writer_form.f BIG y40 (((((List.length mRecs)) : Nat) : Int) :: ([] : List Int)))) with | none => none | some y55 => E19 base (-(1 : Int)) ((((List.length mRecs)) : Nat) : Int) (0 : Int) y55) else E19 base (-(1 : Int)) ((((List.length mRecs)) : Nat) : Int) (0 : Int) y40))))) else (if (hasF mKind (1 : Int)) then (match (veil (gen3_writer_form.f BIG (y39 ++ (be (Int.toNat (1 : Int)) (codeF mSpanLo mSpanHi))) (mTarget :: ([] : List Int)))) with | none => none | some y56 => (if (hasF mKind (2 : Int)) then (match (veil (gen3_writer_form.f BIG y56 (mLife :: (mEpoch :: ([] : List Int))))) with | none => none | some y57 => (if (hasF mKind (3 : Int)) then (match (veil (gen3_writer_form.f BIG y57 (mBase :: ([] : List Int)))) with | none => none | some y58 => (if (hasF mKind (4 : Int)) then (match (veil (gen3_writer_form.f BIG y58 (((((List.length mRecs)) : Nat) : Int) :: ([] : List Int)))) with | none => none | some y59 => E19 base (-(1 : Int)) ((((List.length mRecs)) : Nat) : Int) (0 : Int) y59) else E19 base (-(1 : Int)) ((((List.length mRecs)) : Nat) : Int) (0 : Int) y58)) else (if (hasF mKind (4 : Int)) then (match (veil (gen3_writer_form.f BIG y57 (((((List.length mRecs)) : Nat) : Int) :: ([] : List Int)))) with | none => none | some y60 => E19 base (-(1 : Int)) ((((List.length mRecs)) : Nat) : Int) (0 : Int) y60) else E19 base (-(1 : Int)) ((((List.length mRecs)) : Nat) : Int) (0 : Int) y57))) else (if (hasF mKind (3 : Int)) then (match (veil (gen3_writer_form.f BIG y56 (mBase :: ([] : List Int)))) with | none => none | some y61 => (if (hasF mKind (4 : Int)) then (match (veil (gen3_writer_form.f BIG y61 (((((List.length mRecs)) : Nat) : Int) :: ([] : List Int)))) with | none => none | some y62 => E19 base (-(1 : Int)) ((((List.length mRecs)) : Nat) : Int) (0 : Int) y62) else E19 base (-(1 : Int)) ((((List.length mRecs)) : Nat) : Int) (0 : Int) y61)) else (if (hasF mKind (4 : Int)) then (match (veil (gen3_writer_form.f BIG y56 (((((List.length mRecs)) : Nat) : Int) :: ([] : List Int)))) with | none => none | some y63 => E19 base (-(1 : Int)) ((((List.length mRecs)) : Nat) : Int) (0 : Int) y63) else E19 base (-(1 : Int)) ((((List.length mRecs)) : Nat) : Int) (0 : Int) y56)))) else (if (hasF mKind (2 : Int)) then (match (veil (gen3_writer_form.f BIG (y39 ++ (be (Int.toNat (1 : Int)) (codeF mSpanLo mSpanHi))) (mLife :: (mEpoch :: ([] : List Int))))) with | none => none | some y64 => (if (hasF mKind (3 : Int)) then (match (veil (gen3_writer_form.f BIG y64 (mBase :: ([] : List Int)))) with | none => none | some y65 => (if (hasF mKind (4 : Int)) then (match (veil (gen3_writer_form.f BIG y65 (((((List.length mRecs)) : Nat) : Int) :: ([] : List Int)))) with | none => none | some y66 => E19 base (-(1 : Int)) ((((List.length mRecs)) : Nat) : Int) (0 : Int) y66) else E19 base (-(1 : Int)) ((((List.length mRecs)) : Nat) : Int) (0 : Int) y65)) else (if (hasF mKind (4 : Int)) then (match (veil (gen3_writer_form.f BIG y64 (((((List.length mRecs)) : Nat) : Int) :: ([] : List Int)))) with | none => none | some y67 => E19 base (-(1 : Int)) ((((List.length mRecs)) : Nat) : Int) (0 : Int) y67) else E19 base (-(1 : Int)) ((((List.length mRecs)) : Nat) : Int) (0 : Int) y64))) else (if (hasF mKind (3 : Int)) then (match (veil (gen3_writer_form.f BIG (y39 ++ (be (Int.toNat (1 : Int)) (codeF mSpanLo mSpanHi))) (mBase :: ([] : List Int)))) with | none => none | some y68 => (if (hasF mKind (4 : Int)) then (match (veil (gen3_writer_form.f BIG y68 (((((List.length mRecs)) : Nat) : Int) :: ([] : List Int)))) with | none => none | some y69 => E19 base (-(1 : Int)) ((((List.length mRecs)) : Nat) : Int) (0 : Int) y69) else E19 base (-(1 : Int)) ((((List.length mRecs)) : Nat) : Int) (0 : Int) y68)) else (if (hasF mKind (4 : Int)) then (match (veil (gen3_writer_form.f BIG (y39 ++ (be (Int.toNat (1 : Int)) (codeF mSpanLo mSpanHi))) (((((List.length mRecs)) : Nat) : Int) :: ([] : List Int)))) with | none => none | some y70 => E19 base (-(1 : Int)) ((((List.length mRecs)) : Nat) : Int) (0 : Int) y70) else E19 base (-(1 : Int)) ((((List.length mRecs)) : Nat) : Int) (0 : Int) (y39 ++ (be (Int.toNat (1 : Int)) (codeF mSpanLo mSpanHi)))))))) else none)) else none))
noncomputable def gen3_lay.f (fuel : Nat) (mKind : Int) (mFrom : Int) (mInc : Int) (mSpanLo : Int) (mSpanHi : Int) (mSeq : Int) (mTarget : Int) (mLife : Int) (mEpoch : Int) (mBase : Int) (mRecs : List (Int × Int × Int × (Int × Int) × Bool × List (Int × List Int))) (base : List (Int × Int × Int × (Int × Int) × Bool × List (Int × List Int))) : Option (List Int) := gen3_lay.b mKind mFrom mInc mSpanLo mSpanHi mSeq mTarget mLife mEpoch mBase mRecs base (gen3_lay.l19 fuel mKind mFrom mInc mSpanLo mSpanHi mSeq mTarget mLife mEpoch mBase mRecs base fuel)
theorem gen3_lay.l19_eq (fuel : Nat) (mKind : Int) (mFrom : Int) (mInc : Int) (mSpanLo : Int) (mSpanHi : Int) (mSeq : Int) (mTarget : Int) (mLife : Int) (mEpoch : Int) (mBase : Int) (mRecs : List (Int × Int × Int × (Int × Int) × Bool × List (Int × List Int))) (base : List (Int × Int × Int × (Int × Int) × Bool × List (Int × List Int))) : ∀ (k : Nat) (x6 : (List (Int × (Int × (Int × ((Int × Int) × (Bool × (List (Int × (List Int)))))))))) (x7 : Int) (x8 : Int) (x9 : Int) (x10 : (List Int)), lp gen3_lay_E fuel Try.f80 [.own 5 (.int .u8)] 0 gen3_lay.k 19 [] k (gen3_lay.s19 mKind mFrom mInc mSpanLo mSpanHi mSeq mTarget mLife mEpoch mBase mRecs base x6 x7 x8 x9 x10) = gen3_lay.l19 fuel mKind mFrom mInc mSpanLo mSpanHi mSeq mTarget mLife mEpoch mBase mRecs base k x6 x7 x8 x9 x10 := by
  intro k
  induction k with
  | zero => intro x6 x7 x8 x9 x10; rfl
  | succ k ih =>
    intro x6 x7 x8 x9 x10
    have h : lp gen3_lay_E fuel Try.f80 [.own 5 (.int .u8)] 0 gen3_lay.k 19 [] (k + 1) (gen3_lay.s19 mKind mFrom mInc mSpanLo mSpanHi mSeq mTarget mLife mEpoch mBase mRecs base x6 x7 x8 x9 x10) = gen3_lay.b19 mKind mFrom mInc mSpanLo mSpanHi mSeq mTarget mLife mEpoch mBase mRecs base (fun x6 x7 x8 x9 x10 => lp gen3_lay_E fuel Try.f80 [.own 5 (.int .u8)] 0 gen3_lay.k 19 [] k (gen3_lay.s19 mKind mFrom mInc mSpanLo mSpanHi mSeq mTarget mLife mEpoch mBase mRecs base x6 x7 x8 x9 x10)) x6 x7 x8 x9 x10 := by kernel_rfl
    rw [h]
    have e19 : (fun x6 x7 x8 x9 x10 => lp gen3_lay_E fuel Try.f80 [.own 5 (.int .u8)] 0 gen3_lay.k 19 [] k (gen3_lay.s19 mKind mFrom mInc mSpanLo mSpanHi mSeq mTarget mLife mEpoch mBase mRecs base x6 x7 x8 x9 x10)) = gen3_lay.l19 fuel mKind mFrom mInc mSpanLo mSpanHi mSeq mTarget mLife mEpoch mBase mRecs base k := (funext fun x6 => (funext fun x7 => (funext fun x8 => (funext fun x9 => (funext fun x10 => ih x6 x7 x8 x9 x10)))))
    rw [e19]
    rfl
theorem gen3_lay.eq (fuel : Nat) (mKind : Int) (mFrom : Int) (mInc : Int) (mSpanLo : Int) (mSpanHi : Int) (mSeq : Int) (mTarget : Int) (mLife : Int) (mEpoch : Int) (mBase : Int) (mRecs : List (Int × Int × Int × (Int × Int) × Bool × List (Int × List Int))) (base : List (Int × Int × Int × (Int × Int) × Bool × List (Int × List Int))) : (denF gen3_lay_E loopN fuel Try.f80 [.own 5 (.int .u8)] [.agg [.d (.int .i64) mKind, .d (.int .i64) mFrom, .d (.int .i64) mInc, .d (.int .i64) mSpanLo, .d (.int .i64) mSpanHi, .d (.int .i64) mSeq, .d (.int .i64) mTarget, .d (.int .i64) mLife, .d (.int .i64) mEpoch, .d (.int .i64) mBase, .d (.sl (.pair (.int .i64) (.pair (.int .i64) (.pair (.int .i64) (.pair (.pair (.int .i64) (.int .i64)) (.pair .bool (.sl (.pair (.int .i64) (.sl (.int .u8)))))))))) mRecs], .d (.sl (.pair (.int .i64) (.pair (.int .i64) (.pair (.int .i64) (.pair (.pair (.int .i64) (.int .i64)) (.pair .bool (.sl (.pair (.int .i64) (.sl (.int .u8)))))))))) base] [] gen3_lay.k) = gen3_lay.f fuel mKind mFrom mInc mSpanLo mSpanHi mSeq mTarget mLife mEpoch mBase mRecs base := by
  have h : (denF gen3_lay_E loopN fuel Try.f80 [.own 5 (.int .u8)] [.agg [.d (.int .i64) mKind, .d (.int .i64) mFrom, .d (.int .i64) mInc, .d (.int .i64) mSpanLo, .d (.int .i64) mSpanHi, .d (.int .i64) mSeq, .d (.int .i64) mTarget, .d (.int .i64) mLife, .d (.int .i64) mEpoch, .d (.int .i64) mBase, .d (.sl (.pair (.int .i64) (.pair (.int .i64) (.pair (.int .i64) (.pair (.pair (.int .i64) (.int .i64)) (.pair .bool (.sl (.pair (.int .i64) (.sl (.int .u8)))))))))) mRecs], .d (.sl (.pair (.int .i64) (.pair (.int .i64) (.pair (.int .i64) (.pair (.pair (.int .i64) (.int .i64)) (.pair .bool (.sl (.pair (.int .i64) (.sl (.int .u8)))))))))) base] [] gen3_lay.k) = gen3_lay.b mKind mFrom mInc mSpanLo mSpanHi mSeq mTarget mLife mEpoch mBase mRecs base (fun x6 x7 x8 x9 x10 => lp gen3_lay_E fuel Try.f80 [.own 5 (.int .u8)] 0 gen3_lay.k 19 [] fuel (gen3_lay.s19 mKind mFrom mInc mSpanLo mSpanHi mSeq mTarget mLife mEpoch mBase mRecs base x6 x7 x8 x9 x10)) := by kernel_rfl
  rw [h]
  have e19 : (fun x6 x7 x8 x9 x10 => lp gen3_lay_E fuel Try.f80 [.own 5 (.int .u8)] 0 gen3_lay.k 19 [] fuel (gen3_lay.s19 mKind mFrom mInc mSpanLo mSpanHi mSeq mTarget mLife mEpoch mBase mRecs base x6 x7 x8 x9 x10)) = gen3_lay.l19 fuel mKind mFrom mInc mSpanLo mSpanHi mSeq mTarget mLife mEpoch mBase mRecs base fuel := (funext fun x6 => (funext fun x7 => (funext fun x8 => (funext fun x9 => (funext fun x10 => gen3_lay.l19_eq fuel mKind mFrom mInc mSpanLo mSpanHi mSeq mTarget mLife mEpoch mBase mRecs base fuel x6 x7 x8 x9 x10)))))
  rw [e19]
  rfl
noncomputable def s_gen3_lay : Den.Sum := ⟨[.dat (.pair (.int .i64) (.pair (.int .i64) (.pair (.int .i64) (.pair (.pair (.int .i64) (.int .i64)) (.pair (.int .i64) (.pair (.int .i64) (.pair (.int .i64) (.pair (.int .i64) (.pair (.int .i64) (.sl (.pair (.int .i64) (.pair (.int .i64) (.pair (.int .i64) (.pair (.pair (.int .i64) (.int .i64)) (.pair .bool (.sl (.pair (.int .i64) (.sl (.int .u8))))))))))))))))))) true, .dat (.sl (.pair (.int .i64) (.pair (.int .i64) (.pair (.int .i64) (.pair (.pair (.int .i64) (.int .i64)) (.pair .bool (.sl (.pair (.int .i64) (.sl (.int .u8)))))))))) false], fun args objs κ => match args, objs with
  | [.agg [.d (.int .i64) mKind, .d (.int .i64) mFrom, .d (.int .i64) mInc, .d (.int .i64) mSpanLo, .d (.int .i64) mSpanHi, .d (.int .i64) mSeq, .d (.int .i64) mTarget, .d (.int .i64) mLife, .d (.int .i64) mEpoch, .d (.int .i64) mBase, .d (.sl (.pair (.int .i64) (.pair (.int .i64) (.pair (.int .i64) (.pair (.pair (.int .i64) (.int .i64)) (.pair .bool (.sl (.pair (.int .i64) (.sl (.int .u8)))))))))) mRecs], .d (.sl (.pair (.int .i64) (.pair (.int .i64) (.pair (.int .i64) (.pair (.pair (.int .i64) (.int .i64)) (.pair .bool (.sl (.pair (.int .i64) (.sl (.int .u8)))))))))) base], [] => (match veil (gen3_lay.f BIG mKind mFrom mInc mSpanLo mSpanHi mSeq mTarget mLife mEpoch mBase mRecs base) with | none => none | some y => κ [.d (.sl (.int .u8)) y] [])
  | _, _ => none⟩
theorem s_gen3_lay_det : SumDet s_gen3_lay := fun avs objs R κ => by
  show s_gen3_lay.run avs objs (two κ) = (s_gen3_lay.run avs objs (two some)).bind κ
  unfold s_gen3_lay
  simp only [veil_eq]
  split
  · split <;> rfl
  · rfl
theorem s_gen3_lay_ok : SumOk Try.prog 80 s_gen3_lay := by
  have hE : EnvOk Try.prog gen3_lay_E := env_ok (l := [(42, s_write), (43, s_num), (44, s_code), (46, s_bytes), (50, s_has), (93, s_gen3_writer_form), (94, s_gen3_writer_put)]) th_ok any_ok ⟨⟨s_write_ok, s_write_det⟩, ⟨s_num_ok, s_num_det⟩, ⟨s_code_ok, s_code_det⟩, ⟨s_bytes_ok, s_bytes_det⟩, ⟨s_has_ok, s_has_det⟩, ⟨s_gen3_writer_form_ok, s_gen3_writer_form_det⟩, ⟨s_gen3_writer_put_ok, s_gen3_writer_put_det⟩, trivial⟩ _
  refine sum_ok hE Try.func80 rfl (by kernel_rfl) s_gen3_lay [.own 5 (.int .u8)] gen3_lay.k ?_
  intro R avs objs κ r h
  unfold s_gen3_lay at h
  simp only [veil_eq] at h
  split at h
  · rename_i mKind mFrom mInc mSpanLo mSpanHi mSeq mTarget mLife mEpoch mBase mRecs base
    split at h
    · cases h
    · rename_i y hy
      refine ⟨BIG, _, _, _, (gen3_lay.eq BIG mKind mFrom mInc mSpanLo mSpanHi mSeq mTarget mLife mEpoch mBase mRecs base).trans hy, ?_, h⟩
      intro rs ros hk
      unfold gen3_lay.k at hk
      split at hk
      · first | (cases hk; exact ⟨rfl, rfl⟩) | (have e := Option.some.inj hk; rw [← e]; exact ⟨rfl, rfl⟩)
      · cases hk
  · cases h
noncomputable def gen3_Size_E : Env := ⟨th, gam [(20, s_valid), (52, s_sorted), (80, s_gen3_lay)], fun i => ⟨[], [], []⟩⟩
noncomputable def gen3_Size.k (rs : List AV) (os : List Den.Obj) : Option Int :=
  match rs, os with
  | [.d (.int .i64) r0], [] => some r0
  | _, _ => none
noncomputable def gen3_Size.b (mKind : Int) (mFrom : Int) (mInc : Int) (mSpanLo : Int) (mSpanHi : Int) (mSeq : Int) (mTarget : Int) (mLife : Int) (mEpoch : Int) (mBase : Int) (mRecs : List (Int × Int × Int × (Int × Int) × Bool × List (Int × List Int))) (base : List (Int × Int × Int × (Int × Int) × Bool × List (Int × List Int))) : Option Int :=
  (if (smallRecs mRecs) then (if (!(validF mKind mFrom mInc mSpanLo mSpanHi mSeq mTarget mLife mEpoch mBase mRecs)) then some ((0 : Int)) else (if (smallRecs base) then (if (!(sortedF base)) then some ((0 : Int)) else (match (veil (gen3_lay.f BIG mKind mFrom mInc mSpanLo mSpanHi mSeq mTarget mLife mEpoch mBase mRecs base)) with | none => none | some y0 => some (((((List.length y0)) : Nat) : Int)))) else none)) else none)
noncomputable def gen3_Size.f (fuel : Nat) (mKind : Int) (mFrom : Int) (mInc : Int) (mSpanLo : Int) (mSpanHi : Int) (mSeq : Int) (mTarget : Int) (mLife : Int) (mEpoch : Int) (mBase : Int) (mRecs : List (Int × Int × Int × (Int × Int) × Bool × List (Int × List Int))) (base : List (Int × Int × Int × (Int × Int) × Bool × List (Int × List Int))) : Option Int := gen3_Size.b mKind mFrom mInc mSpanLo mSpanHi mSeq mTarget mLife mEpoch mBase mRecs base
theorem gen3_Size.eq (fuel : Nat) (mKind : Int) (mFrom : Int) (mInc : Int) (mSpanLo : Int) (mSpanHi : Int) (mSeq : Int) (mTarget : Int) (mLife : Int) (mEpoch : Int) (mBase : Int) (mRecs : List (Int × Int × Int × (Int × Int) × Bool × List (Int × List Int))) (base : List (Int × Int × Int × (Int × Int) × Bool × List (Int × List Int))) : (denF gen3_Size_E loopN fuel Try.f79 [.raw] [.agg [.d (.int .i64) mKind, .d (.int .i64) mFrom, .d (.int .i64) mInc, .d (.int .i64) mSpanLo, .d (.int .i64) mSpanHi, .d (.int .i64) mSeq, .d (.int .i64) mTarget, .d (.int .i64) mLife, .d (.int .i64) mEpoch, .d (.int .i64) mBase, .d (.sl (.pair (.int .i64) (.pair (.int .i64) (.pair (.int .i64) (.pair (.pair (.int .i64) (.int .i64)) (.pair .bool (.sl (.pair (.int .i64) (.sl (.int .u8)))))))))) mRecs], .d (.sl (.pair (.int .i64) (.pair (.int .i64) (.pair (.int .i64) (.pair (.pair (.int .i64) (.int .i64)) (.pair .bool (.sl (.pair (.int .i64) (.sl (.int .u8)))))))))) base] [] gen3_Size.k) = gen3_Size.f fuel mKind mFrom mInc mSpanLo mSpanHi mSeq mTarget mLife mEpoch mBase mRecs base := by
  kernel_rfl
noncomputable def s_gen3_Size : Den.Sum := ⟨[.dat (.pair (.int .i64) (.pair (.int .i64) (.pair (.int .i64) (.pair (.pair (.int .i64) (.int .i64)) (.pair (.int .i64) (.pair (.int .i64) (.pair (.int .i64) (.pair (.int .i64) (.pair (.int .i64) (.sl (.pair (.int .i64) (.pair (.int .i64) (.pair (.int .i64) (.pair (.pair (.int .i64) (.int .i64)) (.pair .bool (.sl (.pair (.int .i64) (.sl (.int .u8))))))))))))))))))) true, .dat (.sl (.pair (.int .i64) (.pair (.int .i64) (.pair (.int .i64) (.pair (.pair (.int .i64) (.int .i64)) (.pair .bool (.sl (.pair (.int .i64) (.sl (.int .u8)))))))))) false], fun args objs κ => match args, objs with
  | [.agg [.d (.int .i64) mKind, .d (.int .i64) mFrom, .d (.int .i64) mInc, .d (.int .i64) mSpanLo, .d (.int .i64) mSpanHi, .d (.int .i64) mSeq, .d (.int .i64) mTarget, .d (.int .i64) mLife, .d (.int .i64) mEpoch, .d (.int .i64) mBase, .d (.sl (.pair (.int .i64) (.pair (.int .i64) (.pair (.int .i64) (.pair (.pair (.int .i64) (.int .i64)) (.pair .bool (.sl (.pair (.int .i64) (.sl (.int .u8)))))))))) mRecs], .d (.sl (.pair (.int .i64) (.pair (.int .i64) (.pair (.int .i64) (.pair (.pair (.int .i64) (.int .i64)) (.pair .bool (.sl (.pair (.int .i64) (.sl (.int .u8)))))))))) base], [] => (match veil (gen3_Size.f BIG mKind mFrom mInc mSpanLo mSpanHi mSeq mTarget mLife mEpoch mBase mRecs base) with | none => none | some y => κ [.d (.int .i64) y] [])
  | _, _ => none⟩
theorem s_gen3_Size_det : SumDet s_gen3_Size := fun avs objs R κ => by
  show s_gen3_Size.run avs objs (two κ) = (s_gen3_Size.run avs objs (two some)).bind κ
  unfold s_gen3_Size
  simp only [veil_eq]
  split
  · split <;> rfl
  · rfl
theorem s_gen3_Size_ok : SumOk Try.prog 79 s_gen3_Size := by
  have hE : EnvOk Try.prog gen3_Size_E := env_ok (l := [(20, s_valid), (52, s_sorted), (80, s_gen3_lay)]) th_ok any_ok ⟨⟨s_valid_ok, s_valid_det⟩, ⟨s_sorted_ok, s_sorted_det⟩, ⟨s_gen3_lay_ok, s_gen3_lay_det⟩, trivial⟩ _
  refine sum_ok hE Try.func79 rfl (by kernel_rfl) s_gen3_Size [.raw] gen3_Size.k ?_
  intro R avs objs κ r h
  unfold s_gen3_Size at h
  simp only [veil_eq] at h
  split at h
  · rename_i mKind mFrom mInc mSpanLo mSpanHi mSeq mTarget mLife mEpoch mBase mRecs base
    split at h
    · cases h
    · rename_i y hy
      refine ⟨BIG, _, _, _, (gen3_Size.eq BIG mKind mFrom mInc mSpanLo mSpanHi mSeq mTarget mLife mEpoch mBase mRecs base).trans hy, ?_, h⟩
      intro rs ros hk
      unfold gen3_Size.k at hk
      split at hk
      · first | (cases hk; exact ⟨rfl, rfl⟩) | (have e := Option.some.inj hk; rw [← e]; exact ⟨rfl, rfl⟩)
      · cases hk
  · cases h
noncomputable def fit_Bytes_E : Env := ⟨th, gam [(29, s_size2), (76, s_fit_shaped), (79, s_gen3_Size)], fun i => ⟨[], [], []⟩⟩
noncomputable def fit_Bytes.k (rs : List AV) (os : List Den.Obj) : Option Int :=
  match rs, os with
  | [.d (.int .i64) r0], [] => some r0
  | _, _ => none
noncomputable def fit_Bytes.b (mKind : Int) (mFrom : Int) (mInc : Int) (mSpanLo : Int) (mSpanHi : Int) (mSeq : Int) (mTarget : Int) (mLife : Int) (mEpoch : Int) (mBase : Int) (mRecs : List (Int × Int × Int × (Int × Int) × Bool × List (Int × List Int))) (gen : Int) : Option Int :=
  (match (veil (fit_shaped.f BIG mKind mFrom mInc mSpanLo mSpanHi mSeq mTarget mLife mEpoch mBase mRecs gen)) with | none => none | some y0 => (if (!y0) then some ((0 : Int)) else (if (gen == (1 : Int)) then some ((Go.IntKind.wrap .i64 ((15 : Int) + (Go.IntKind.wrap .i64 ((5 : Int) * ((((List.length mRecs)) : Nat) : Int)))))) else (if (gen == (2 : Int)) then (if (smallRecs mRecs) then some ((size2 mKind mFrom mInc mSpanLo mSpanHi mSeq mTarget mLife mEpoch mBase mRecs)) else none) else (match (veil (gen3_Size.f BIG mKind mFrom mInc mSpanLo mSpanHi mSeq mTarget mLife mEpoch mBase mRecs ([] : List (Int × (Int × (Int × ((Int × Int) × (Bool × (List (Int × (List Int))))))))))) with | none => none | some y1 => some (y1))))))
noncomputable def fit_Bytes.f (fuel : Nat) (mKind : Int) (mFrom : Int) (mInc : Int) (mSpanLo : Int) (mSpanHi : Int) (mSeq : Int) (mTarget : Int) (mLife : Int) (mEpoch : Int) (mBase : Int) (mRecs : List (Int × Int × Int × (Int × Int) × Bool × List (Int × List Int))) (gen : Int) : Option Int := fit_Bytes.b mKind mFrom mInc mSpanLo mSpanHi mSeq mTarget mLife mEpoch mBase mRecs gen
theorem fit_Bytes.eq (fuel : Nat) (mKind : Int) (mFrom : Int) (mInc : Int) (mSpanLo : Int) (mSpanHi : Int) (mSeq : Int) (mTarget : Int) (mLife : Int) (mEpoch : Int) (mBase : Int) (mRecs : List (Int × Int × Int × (Int × Int) × Bool × List (Int × List Int))) (gen : Int) : (denF fit_Bytes_E loopN fuel Try.f37 [.raw] [.agg [.d (.int .i64) mKind, .d (.int .i64) mFrom, .d (.int .i64) mInc, .d (.int .i64) mSpanLo, .d (.int .i64) mSpanHi, .d (.int .i64) mSeq, .d (.int .i64) mTarget, .d (.int .i64) mLife, .d (.int .i64) mEpoch, .d (.int .i64) mBase, .d (.sl (.pair (.int .i64) (.pair (.int .i64) (.pair (.int .i64) (.pair (.pair (.int .i64) (.int .i64)) (.pair .bool (.sl (.pair (.int .i64) (.sl (.int .u8)))))))))) mRecs], .d (.int .i64) gen] [] fit_Bytes.k) = fit_Bytes.f fuel mKind mFrom mInc mSpanLo mSpanHi mSeq mTarget mLife mEpoch mBase mRecs gen := by
  kernel_rfl
noncomputable def s_fit_Bytes : Den.Sum := ⟨[.dat (.pair (.int .i64) (.pair (.int .i64) (.pair (.int .i64) (.pair (.pair (.int .i64) (.int .i64)) (.pair (.int .i64) (.pair (.int .i64) (.pair (.int .i64) (.pair (.int .i64) (.pair (.int .i64) (.sl (.pair (.int .i64) (.pair (.int .i64) (.pair (.int .i64) (.pair (.pair (.int .i64) (.int .i64)) (.pair .bool (.sl (.pair (.int .i64) (.sl (.int .u8))))))))))))))))))) true, .raw], fun args objs κ => match args, objs with
  | [.agg [.d (.int .i64) mKind, .d (.int .i64) mFrom, .d (.int .i64) mInc, .d (.int .i64) mSpanLo, .d (.int .i64) mSpanHi, .d (.int .i64) mSeq, .d (.int .i64) mTarget, .d (.int .i64) mLife, .d (.int .i64) mEpoch, .d (.int .i64) mBase, .d (.sl (.pair (.int .i64) (.pair (.int .i64) (.pair (.int .i64) (.pair (.pair (.int .i64) (.int .i64)) (.pair .bool (.sl (.pair (.int .i64) (.sl (.int .u8)))))))))) mRecs], .d (.int .i64) gen], [] => (match veil (fit_Bytes.f BIG mKind mFrom mInc mSpanLo mSpanHi mSeq mTarget mLife mEpoch mBase mRecs gen) with | none => none | some y => κ [.d (.int .i64) y] [])
  | _, _ => none⟩
theorem s_fit_Bytes_det : SumDet s_fit_Bytes := fun avs objs R κ => by
  show s_fit_Bytes.run avs objs (two κ) = (s_fit_Bytes.run avs objs (two some)).bind κ
  unfold s_fit_Bytes
  simp only [veil_eq]
  split
  · split <;> rfl
  · rfl
theorem s_fit_Bytes_ok : SumOk Try.prog 37 s_fit_Bytes := by
  have hE : EnvOk Try.prog fit_Bytes_E := env_ok (l := [(29, s_size2), (76, s_fit_shaped), (79, s_gen3_Size)]) th_ok any_ok ⟨⟨s_size2_ok, s_size2_det⟩, ⟨s_fit_shaped_ok, s_fit_shaped_det⟩, ⟨s_gen3_Size_ok, s_gen3_Size_det⟩, trivial⟩ _
  refine sum_ok hE Try.func37 rfl (by kernel_rfl) s_fit_Bytes [.raw] fit_Bytes.k ?_
  intro R avs objs κ r h
  unfold s_fit_Bytes at h
  simp only [veil_eq] at h
  split at h
  · rename_i mKind mFrom mInc mSpanLo mSpanHi mSeq mTarget mLife mEpoch mBase mRecs gen
    split at h
    · cases h
    · rename_i y hy
      refine ⟨BIG, _, _, _, (fit_Bytes.eq BIG mKind mFrom mInc mSpanLo mSpanHi mSeq mTarget mLife mEpoch mBase mRecs gen).trans hy, ?_, h⟩
      intro rs ros hk
      unfold fit_Bytes.k at hk
      split at hk
      · first | (cases hk; exact ⟨rfl, rfl⟩) | (have e := Option.some.inj hk; rw [← e]; exact ⟨rfl, rfl⟩)
      · cases hk
  · cases h
noncomputable def fit_Why_E : Env := ⟨th, gam [(37, s_fit_Bytes), (76, s_fit_shaped), (77, s_fit_room), (78, s_fit_Why_c1)], fun i => if i = 5 then ⟨[1, 2, 5, 6, 17, 18, 19], [], []⟩ else ⟨[], [], []⟩⟩
noncomputable def fit_Why.k (rs : List AV) (os : List Den.Obj) : Option (List Int) :=
  match rs, os with
  | [.row 0], [.row 46 (.int .i64) r0 false] => some r0
  | _, _ => none
noncomputable def fit_Why.s5 (mKind : Int) (mFrom : Int) (mInc : Int) (mSpanLo : Int) (mSpanHi : Int) (mSeq : Int) (mTarget : Int) (mLife : Int) (mEpoch : Int) (mBase : Int) (mRecs : List (Int × Int × Int × (Int × Int) × Bool × List (Int × List Int))) (gen : Int) (x1 : Bool) (x2 : Bool) (x3 : Int) (x4 : Int) : St := ⟨[.dead, .d (.int .i64) (gen), .ptr 64 0, .dead, .dead, .d .bool x1, .d .bool x2, .dead, .dead, .dead, .dead, .dead, .dead, .dead, .dead, .dead, .dead, .d (.sl (.pair (.int .i64) (.pair (.int .i64) (.pair (.int .i64) (.pair (.pair (.int .i64) (.int .i64)) (.pair .bool (.sl (.pair (.int .i64) (.sl (.int .u8)))))))))) (mRecs), .d (.int .i64) x3, .d (.int .i64) x4, .dead, .dead, .dead, .dead, .dead, .dead, .dead, .dead, .dead, .dead, .dead, .dead, .dead, .dead, .dead, .dead, .dead, .dead, .dead, .dead, .dead, .dead, .dead, .dead, .dead, .dead, .dead, .dead, .dead, .dead, .dead, .dead, .dead, .dead, .dead, .dead, .dead, .dead, .dead, .dead, .dead, .dead, .dead, .dead, .dead, .dead, .dead, .dead, .dead, .dead, .dead, .dead, .dead, .dead, .dead], ofL [(64, .box [.d (.int .i64) (mKind), .d (.int .i64) (mFrom), .d (.int .i64) (mInc), .d (.int .i64) (mSpanLo), .d (.int .i64) (mSpanHi), .d (.int .i64) (mSeq), .d (.int .i64) (mTarget), .d (.int .i64) (mLife), .d (.int .i64) (mEpoch), .d (.int .i64) (mBase), .d (.sl (.pair (.int .i64) (.pair (.int .i64) (.pair (.int .i64) (.pair (.pair (.int .i64) (.int .i64)) (.pair .bool (.sl (.pair (.int .i64) (.sl (.int .u8)))))))))) (mRecs)])], 0⟩
noncomputable def fit_Why.b5 (mKind : Int) (mFrom : Int) (mInc : Int) (mSpanLo : Int) (mSpanHi : Int) (mSeq : Int) (mTarget : Int) (mLife : Int) (mEpoch : Int) (mBase : Int) (mRecs : List (Int × Int × Int × (Int × Int) × Bool × List (Int × List Int))) (gen : Int) (A5 : Bool → Bool → Int → Int → Option (List Int)) (x1 : Bool) (x2 : Bool) (x3 : Int) (x4 : Int) : Option (List Int) :=
  (if (decide (x4 < x3)) then (match (idx mRecs x4) with | none => none | some y5 => (if x1 then (if x2 then A5 true true x3 (Go.IntKind.wrap .i64 (x4 + (1 : Int))) else (match (veil (fit_room.f BIG gen)) with | none => none | some y6 => A5 true (decide (y5.2.1 > y6)) x3 (Go.IntKind.wrap .i64 (x4 + (1 : Int))))) else (if x2 then A5 (decide (((((List.length y5.2.2.2.2.2)) : Nat) : Int) > (0 : Int))) true x3 (Go.IntKind.wrap .i64 (x4 + (1 : Int))) else (match (veil (fit_room.f BIG gen)) with | none => none | some y7 => A5 (decide (((((List.length y5.2.2.2.2.2)) : Nat) : Int) > (0 : Int))) (decide (y5.2.1 > y7)) x3 (Go.IntKind.wrap .i64 (x4 + (1 : Int))))))) else (if (decide (gen < (3 : Int))) then (match (veil (fit_Why_c1.f BIG (mKind == (9 : Int)) (1 : Int) ([] : List Int))) with | none => none | some y8 => (if (decide (gen < (3 : Int))) then (match (veil (fit_Why_c1.f BIG (mEpoch != (0 : Int)) (2 : Int) y8)) with | none => none | some y9 => (if (gen == (1 : Int)) then (match (veil (fit_Why_c1.f BIG x1 (3 : Int) y9)) with | none => none | some y10 => (match (veil (fit_Why_c1.f BIG x2 (4 : Int) y10)) with | none => none | some y11 => (match (veil (fit_Bytes.f BIG mKind mFrom mInc mSpanLo mSpanHi mSeq mTarget mLife mEpoch mBase mRecs gen)) with | none => none | some y12 => (match (veil (fit_Why_c1.f BIG (decide (y12 > (65499 : Int))) (5 : Int) y11)) with | none => none | some y13 => some (y13))))) else (match (veil (fit_Why_c1.f BIG false (3 : Int) y9)) with | none => none | some y14 => (match (veil (fit_Why_c1.f BIG x2 (4 : Int) y14)) with | none => none | some y15 => (match (veil (fit_Bytes.f BIG mKind mFrom mInc mSpanLo mSpanHi mSeq mTarget mLife mEpoch mBase mRecs gen)) with | none => none | some y16 => (match (veil (fit_Why_c1.f BIG (decide (y16 > (65499 : Int))) (5 : Int) y15)) with | none => none | some y17 => some (y17))))))) else (match (veil (fit_Why_c1.f BIG false (2 : Int) y8)) with | none => none | some y18 => (if (gen == (1 : Int)) then (match (veil (fit_Why_c1.f BIG x1 (3 : Int) y18)) with | none => none | some y19 => (match (veil (fit_Why_c1.f BIG x2 (4 : Int) y19)) with | none => none | some y20 => (match (veil (fit_Bytes.f BIG mKind mFrom mInc mSpanLo mSpanHi mSeq mTarget mLife mEpoch mBase mRecs gen)) with | none => none | some y21 => (match (veil (fit_Why_c1.f BIG (decide (y21 > (65499 : Int))) (5 : Int) y20)) with | none => none | some y22 => some (y22))))) else (match (veil (fit_Why_c1.f BIG false (3 : Int) y18)) with | none => none | some y23 => (match (veil (fit_Why_c1.f BIG x2 (4 : Int) y23)) with | none => none | some y24 => (match (veil (fit_Bytes.f BIG mKind mFrom mInc mSpanLo mSpanHi mSeq mTarget mLife mEpoch mBase mRecs gen)) with | none => none | some y25 => (match (veil (fit_Why_c1.f BIG (decide (y25 > (65499 : Int))) (5 : Int) y24)) with | none => none | some y26 => some (y26))))))))) else (match (veil (fit_Why_c1.f BIG false (1 : Int) ([] : List Int))) with | none => none | some y27 => (if (decide (gen < (3 : Int))) then (match (veil (fit_Why_c1.f BIG (mEpoch != (0 : Int)) (2 : Int) y27)) with | none => none | some y28 => (if (gen == (1 : Int)) then (match (veil (fit_Why_c1.f BIG x1 (3 : Int) y28)) with | none => none | some y29 => (match (veil (fit_Why_c1.f BIG x2 (4 : Int) y29)) with | none => none | some y30 => (match (veil (fit_Bytes.f BIG mKind mFrom mInc mSpanLo mSpanHi mSeq mTarget mLife mEpoch mBase mRecs gen)) with | none => none | some y31 => (match (veil (fit_Why_c1.f BIG (decide (y31 > (65499 : Int))) (5 : Int) y30)) with | none => none | some y32 => some (y32))))) else (match (veil (fit_Why_c1.f BIG false (3 : Int) y28)) with | none => none | some y33 => (match (veil (fit_Why_c1.f BIG x2 (4 : Int) y33)) with | none => none | some y34 => (match (veil (fit_Bytes.f BIG mKind mFrom mInc mSpanLo mSpanHi mSeq mTarget mLife mEpoch mBase mRecs gen)) with | none => none | some y35 => (match (veil (fit_Why_c1.f BIG (decide (y35 > (65499 : Int))) (5 : Int) y34)) with | none => none | some y36 => some (y36))))))) else (match (veil (fit_Why_c1.f BIG false (2 : Int) y27)) with | none => none | some y37 => (if (gen == (1 : Int)) then (match (veil (fit_Why_c1.f BIG x1 (3 : Int) y37)) with | none => none | some y38 => (match (veil (fit_Why_c1.f BIG x2 (4 : Int) y38)) with | none => none | some y39 => (match (veil (fit_Bytes.f BIG mKind mFrom mInc mSpanLo mSpanHi mSeq mTarget mLife mEpoch mBase mRecs gen)) with | none => none | some y40 => (match (veil (fit_Why_c1.f BIG (decide (y40 > (65499 : Int))) (5 : Int) y39)) with | none => none | some y41 => some (y41))))) else (match (veil (fit_Why_c1.f BIG false (3 : Int) y37)) with | none => none | some y42 => (match (veil (fit_Why_c1.f BIG x2 (4 : Int) y42)) with | none => none | some y43 => (match (veil (fit_Bytes.f BIG mKind mFrom mInc mSpanLo mSpanHi mSeq mTarget mLife mEpoch mBase mRecs gen)) with | none => none | some y44 => (match (veil (fit_Why_c1.f BIG (decide (y44 > (65499 : Int))) (5 : Int) y43)) with | none => none | some y45 => some (y45)))))))))))
noncomputable def fit_Why.l5 (fuel : Nat) (mKind : Int) (mFrom : Int) (mInc : Int) (mSpanLo : Int) (mSpanHi : Int) (mSeq : Int) (mTarget : Int) (mLife : Int) (mEpoch : Int) (mBase : Int) (mRecs : List (Int × Int × Int × (Int × Int) × Bool × List (Int × List Int))) (gen : Int) : Nat → Bool → Bool → Int → Int → Option (List Int)
  | 0, _, _, _, _ => none
  | k + 1, x1, x2, x3, x4 => fit_Why.b5 mKind mFrom mInc mSpanLo mSpanHi mSeq mTarget mLife mEpoch mBase mRecs gen (fit_Why.l5 fuel mKind mFrom mInc mSpanLo mSpanHi mSeq mTarget mLife mEpoch mBase mRecs gen k) x1 x2 x3 x4
noncomputable def fit_Why.b (mKind : Int) (mFrom : Int) (mInc : Int) (mSpanLo : Int) (mSpanHi : Int) (mSeq : Int) (mTarget : Int) (mLife : Int) (mEpoch : Int) (mBase : Int) (mRecs : List (Int × Int × Int × (Int × Int) × Bool × List (Int × List Int))) (gen : Int) (E5 : Bool → Bool → Int → Int → Option (List Int)) : Option (List Int) :=
  (match (veil (fit_shaped.f BIG mKind mFrom mInc mSpanLo mSpanHi mSeq mTarget mLife mEpoch mBase mRecs gen)) with | none => none | some y0 => (if (!y0) then some (((0 : Int) :: ([] : List Int))) else E5 false false ((((List.length mRecs)) : Nat) : Int) (0 : Int)))
noncomputable def fit_Why.f (fuel : Nat) (mKind : Int) (mFrom : Int) (mInc : Int) (mSpanLo : Int) (mSpanHi : Int) (mSeq : Int) (mTarget : Int) (mLife : Int) (mEpoch : Int) (mBase : Int) (mRecs : List (Int × Int × Int × (Int × Int) × Bool × List (Int × List Int))) (gen : Int) : Option (List Int) := fit_Why.b mKind mFrom mInc mSpanLo mSpanHi mSeq mTarget mLife mEpoch mBase mRecs gen (fit_Why.l5 fuel mKind mFrom mInc mSpanLo mSpanHi mSeq mTarget mLife mEpoch mBase mRecs gen fuel)
theorem fit_Why.l5_eq (fuel : Nat) (mKind : Int) (mFrom : Int) (mInc : Int) (mSpanLo : Int) (mSpanHi : Int) (mSeq : Int) (mTarget : Int) (mLife : Int) (mEpoch : Int) (mBase : Int) (mRecs : List (Int × Int × Int × (Int × Int) × Bool × List (Int × List Int))) (gen : Int) : ∀ (k : Nat) (x1 : Bool) (x2 : Bool) (x3 : Int) (x4 : Int), lp fit_Why_E fuel Try.f34 [.own 46 (.int .i64)] 0 fit_Why.k 5 [] k (fit_Why.s5 mKind mFrom mInc mSpanLo mSpanHi mSeq mTarget mLife mEpoch mBase mRecs gen x1 x2 x3 x4) = fit_Why.l5 fuel mKind mFrom mInc mSpanLo mSpanHi mSeq mTarget mLife mEpoch mBase mRecs gen k x1 x2 x3 x4 := by
  intro k
  induction k with
  | zero => intro x1 x2 x3 x4; rfl
  | succ k ih =>
    intro x1 x2 x3 x4
    have h : lp fit_Why_E fuel Try.f34 [.own 46 (.int .i64)] 0 fit_Why.k 5 [] (k + 1) (fit_Why.s5 mKind mFrom mInc mSpanLo mSpanHi mSeq mTarget mLife mEpoch mBase mRecs gen x1 x2 x3 x4) = fit_Why.b5 mKind mFrom mInc mSpanLo mSpanHi mSeq mTarget mLife mEpoch mBase mRecs gen (fun x1 x2 x3 x4 => lp fit_Why_E fuel Try.f34 [.own 46 (.int .i64)] 0 fit_Why.k 5 [] k (fit_Why.s5 mKind mFrom mInc mSpanLo mSpanHi mSeq mTarget mLife mEpoch mBase mRecs gen x1 x2 x3 x4)) x1 x2 x3 x4 := by kernel_rfl
    rw [h]
    have e5 : (fun x1 x2 x3 x4 => lp fit_Why_E fuel Try.f34 [.own 46 (.int .i64)] 0 fit_Why.k 5 [] k (fit_Why.s5 mKind mFrom mInc mSpanLo mSpanHi mSeq mTarget mLife mEpoch mBase mRecs gen x1 x2 x3 x4)) = fit_Why.l5 fuel mKind mFrom mInc mSpanLo mSpanHi mSeq mTarget mLife mEpoch mBase mRecs gen k := (funext fun x1 => (funext fun x2 => (funext fun x3 => (funext fun x4 => ih x1 x2 x3 x4))))
    rw [e5]
    rfl
theorem fit_Why.eq (fuel : Nat) (mKind : Int) (mFrom : Int) (mInc : Int) (mSpanLo : Int) (mSpanHi : Int) (mSeq : Int) (mTarget : Int) (mLife : Int) (mEpoch : Int) (mBase : Int) (mRecs : List (Int × Int × Int × (Int × Int) × Bool × List (Int × List Int))) (gen : Int) : (denF fit_Why_E loopN fuel Try.f34 [.own 46 (.int .i64)] [.agg [.d (.int .i64) mKind, .d (.int .i64) mFrom, .d (.int .i64) mInc, .d (.int .i64) mSpanLo, .d (.int .i64) mSpanHi, .d (.int .i64) mSeq, .d (.int .i64) mTarget, .d (.int .i64) mLife, .d (.int .i64) mEpoch, .d (.int .i64) mBase, .d (.sl (.pair (.int .i64) (.pair (.int .i64) (.pair (.int .i64) (.pair (.pair (.int .i64) (.int .i64)) (.pair .bool (.sl (.pair (.int .i64) (.sl (.int .u8)))))))))) mRecs], .d (.int .i64) gen] [] fit_Why.k) = fit_Why.f fuel mKind mFrom mInc mSpanLo mSpanHi mSeq mTarget mLife mEpoch mBase mRecs gen := by
  have h : (denF fit_Why_E loopN fuel Try.f34 [.own 46 (.int .i64)] [.agg [.d (.int .i64) mKind, .d (.int .i64) mFrom, .d (.int .i64) mInc, .d (.int .i64) mSpanLo, .d (.int .i64) mSpanHi, .d (.int .i64) mSeq, .d (.int .i64) mTarget, .d (.int .i64) mLife, .d (.int .i64) mEpoch, .d (.int .i64) mBase, .d (.sl (.pair (.int .i64) (.pair (.int .i64) (.pair (.int .i64) (.pair (.pair (.int .i64) (.int .i64)) (.pair .bool (.sl (.pair (.int .i64) (.sl (.int .u8)))))))))) mRecs], .d (.int .i64) gen] [] fit_Why.k) = fit_Why.b mKind mFrom mInc mSpanLo mSpanHi mSeq mTarget mLife mEpoch mBase mRecs gen (fun x1 x2 x3 x4 => lp fit_Why_E fuel Try.f34 [.own 46 (.int .i64)] 0 fit_Why.k 5 [] fuel (fit_Why.s5 mKind mFrom mInc mSpanLo mSpanHi mSeq mTarget mLife mEpoch mBase mRecs gen x1 x2 x3 x4)) := by kernel_rfl
  rw [h]
  have e5 : (fun x1 x2 x3 x4 => lp fit_Why_E fuel Try.f34 [.own 46 (.int .i64)] 0 fit_Why.k 5 [] fuel (fit_Why.s5 mKind mFrom mInc mSpanLo mSpanHi mSeq mTarget mLife mEpoch mBase mRecs gen x1 x2 x3 x4)) = fit_Why.l5 fuel mKind mFrom mInc mSpanLo mSpanHi mSeq mTarget mLife mEpoch mBase mRecs gen fuel := (funext fun x1 => (funext fun x2 => (funext fun x3 => (funext fun x4 => fit_Why.l5_eq fuel mKind mFrom mInc mSpanLo mSpanHi mSeq mTarget mLife mEpoch mBase mRecs gen fuel x1 x2 x3 x4))))
  rw [e5]
  rfl
noncomputable def s_fit_Why : Den.Sum := ⟨[.dat (.pair (.int .i64) (.pair (.int .i64) (.pair (.int .i64) (.pair (.pair (.int .i64) (.int .i64)) (.pair (.int .i64) (.pair (.int .i64) (.pair (.int .i64) (.pair (.int .i64) (.pair (.int .i64) (.sl (.pair (.int .i64) (.pair (.int .i64) (.pair (.int .i64) (.pair (.pair (.int .i64) (.int .i64)) (.pair .bool (.sl (.pair (.int .i64) (.sl (.int .u8))))))))))))))))))) true, .raw], fun args objs κ => match args, objs with
  | [.agg [.d (.int .i64) mKind, .d (.int .i64) mFrom, .d (.int .i64) mInc, .d (.int .i64) mSpanLo, .d (.int .i64) mSpanHi, .d (.int .i64) mSeq, .d (.int .i64) mTarget, .d (.int .i64) mLife, .d (.int .i64) mEpoch, .d (.int .i64) mBase, .d (.sl (.pair (.int .i64) (.pair (.int .i64) (.pair (.int .i64) (.pair (.pair (.int .i64) (.int .i64)) (.pair .bool (.sl (.pair (.int .i64) (.sl (.int .u8)))))))))) mRecs], .d (.int .i64) gen], [] => (match veil (fit_Why.f BIG mKind mFrom mInc mSpanLo mSpanHi mSeq mTarget mLife mEpoch mBase mRecs gen) with | none => none | some y => κ [.row 0] [.row 46 (.int .i64) y false])
  | _, _ => none⟩
theorem s_fit_Why_det : SumDet s_fit_Why := fun avs objs R κ => by
  show s_fit_Why.run avs objs (two κ) = (s_fit_Why.run avs objs (two some)).bind κ
  unfold s_fit_Why
  simp only [veil_eq]
  split
  · split <;> rfl
  · rfl
theorem s_fit_Why_ok : SumOk Try.prog 34 s_fit_Why := by
  have hE : EnvOk Try.prog fit_Why_E := env_ok (l := [(37, s_fit_Bytes), (76, s_fit_shaped), (77, s_fit_room), (78, s_fit_Why_c1)]) th_ok any_ok ⟨⟨s_fit_Bytes_ok, s_fit_Bytes_det⟩, ⟨s_fit_shaped_ok, s_fit_shaped_det⟩, ⟨s_fit_room_ok, s_fit_room_det⟩, ⟨s_fit_Why_c1_ok, s_fit_Why_c1_det⟩, trivial⟩ _
  refine sum_ok hE Try.func34 rfl (by kernel_rfl) s_fit_Why [.own 46 (.int .i64)] fit_Why.k ?_
  intro R avs objs κ r h
  unfold s_fit_Why at h
  simp only [veil_eq] at h
  split at h
  · rename_i mKind mFrom mInc mSpanLo mSpanHi mSeq mTarget mLife mEpoch mBase mRecs gen
    split at h
    · cases h
    · rename_i y hy
      refine ⟨BIG, _, _, _, (fit_Why.eq BIG mKind mFrom mInc mSpanLo mSpanHi mSeq mTarget mLife mEpoch mBase mRecs gen).trans hy, ?_, h⟩
      intro rs ros hk
      unfold fit_Why.k at hk
      split at hk
      · first | (cases hk; exact ⟨rfl, rfl⟩) | (have e := Option.some.inj hk; rw [← e]; exact ⟨rfl, rfl⟩)
      · cases hk
  · cases h
noncomputable def fit_Fits_E : Env := ⟨th, gam [(34, s_fit_Why)], fun i => ⟨[], [], []⟩⟩
noncomputable def fit_Fits.k (rs : List AV) (os : List Den.Obj) : Option Bool :=
  match rs, os with
  | [.d .bool r0], [] => some r0
  | _, _ => none
noncomputable def fit_Fits.b (mKind : Int) (mFrom : Int) (mInc : Int) (mSpanLo : Int) (mSpanHi : Int) (mSeq : Int) (mTarget : Int) (mLife : Int) (mEpoch : Int) (mBase : Int) (mRecs : List (Int × Int × Int × (Int × Int) × Bool × List (Int × List Int))) (gen : Int) : Option Bool :=
  (match (veil (fit_Why.f BIG mKind mFrom mInc mSpanLo mSpanHi mSeq mTarget mLife mEpoch mBase mRecs gen)) with | none => none | some y0 => some ((((((List.length y0)) : Nat) : Int) == (0 : Int))))
noncomputable def fit_Fits.f (fuel : Nat) (mKind : Int) (mFrom : Int) (mInc : Int) (mSpanLo : Int) (mSpanHi : Int) (mSeq : Int) (mTarget : Int) (mLife : Int) (mEpoch : Int) (mBase : Int) (mRecs : List (Int × Int × Int × (Int × Int) × Bool × List (Int × List Int))) (gen : Int) : Option Bool := fit_Fits.b mKind mFrom mInc mSpanLo mSpanHi mSeq mTarget mLife mEpoch mBase mRecs gen
theorem fit_Fits.eq (fuel : Nat) (mKind : Int) (mFrom : Int) (mInc : Int) (mSpanLo : Int) (mSpanHi : Int) (mSeq : Int) (mTarget : Int) (mLife : Int) (mEpoch : Int) (mBase : Int) (mRecs : List (Int × Int × Int × (Int × Int) × Bool × List (Int × List Int))) (gen : Int) : (denF fit_Fits_E loopN fuel Try.f36 [.raw] [.agg [.d (.int .i64) mKind, .d (.int .i64) mFrom, .d (.int .i64) mInc, .d (.int .i64) mSpanLo, .d (.int .i64) mSpanHi, .d (.int .i64) mSeq, .d (.int .i64) mTarget, .d (.int .i64) mLife, .d (.int .i64) mEpoch, .d (.int .i64) mBase, .d (.sl (.pair (.int .i64) (.pair (.int .i64) (.pair (.int .i64) (.pair (.pair (.int .i64) (.int .i64)) (.pair .bool (.sl (.pair (.int .i64) (.sl (.int .u8)))))))))) mRecs], .d (.int .i64) gen] [] fit_Fits.k) = fit_Fits.f fuel mKind mFrom mInc mSpanLo mSpanHi mSeq mTarget mLife mEpoch mBase mRecs gen := by
  kernel_rfl
noncomputable def s_fit_Fits : Den.Sum := ⟨[.dat (.pair (.int .i64) (.pair (.int .i64) (.pair (.int .i64) (.pair (.pair (.int .i64) (.int .i64)) (.pair (.int .i64) (.pair (.int .i64) (.pair (.int .i64) (.pair (.int .i64) (.pair (.int .i64) (.sl (.pair (.int .i64) (.pair (.int .i64) (.pair (.int .i64) (.pair (.pair (.int .i64) (.int .i64)) (.pair .bool (.sl (.pair (.int .i64) (.sl (.int .u8))))))))))))))))))) true, .raw], fun args objs κ => match args, objs with
  | [.agg [.d (.int .i64) mKind, .d (.int .i64) mFrom, .d (.int .i64) mInc, .d (.int .i64) mSpanLo, .d (.int .i64) mSpanHi, .d (.int .i64) mSeq, .d (.int .i64) mTarget, .d (.int .i64) mLife, .d (.int .i64) mEpoch, .d (.int .i64) mBase, .d (.sl (.pair (.int .i64) (.pair (.int .i64) (.pair (.int .i64) (.pair (.pair (.int .i64) (.int .i64)) (.pair .bool (.sl (.pair (.int .i64) (.sl (.int .u8)))))))))) mRecs], .d (.int .i64) gen], [] => (match veil (fit_Fits.f BIG mKind mFrom mInc mSpanLo mSpanHi mSeq mTarget mLife mEpoch mBase mRecs gen) with | none => none | some y => κ [.d .bool y] [])
  | _, _ => none⟩
theorem s_fit_Fits_det : SumDet s_fit_Fits := fun avs objs R κ => by
  show s_fit_Fits.run avs objs (two κ) = (s_fit_Fits.run avs objs (two some)).bind κ
  unfold s_fit_Fits
  simp only [veil_eq]
  split
  · split <;> rfl
  · rfl
theorem s_fit_Fits_ok : SumOk Try.prog 36 s_fit_Fits := by
  have hE : EnvOk Try.prog fit_Fits_E := env_ok (l := [(34, s_fit_Why)]) th_ok any_ok ⟨⟨s_fit_Why_ok, s_fit_Why_det⟩, trivial⟩ _
  refine sum_ok hE Try.func36 rfl (by kernel_rfl) s_fit_Fits [.raw] fit_Fits.k ?_
  intro R avs objs κ r h
  unfold s_fit_Fits at h
  simp only [veil_eq] at h
  split at h
  · rename_i mKind mFrom mInc mSpanLo mSpanHi mSeq mTarget mLife mEpoch mBase mRecs gen
    split at h
    · cases h
    · rename_i y hy
      refine ⟨BIG, _, _, _, (fit_Fits.eq BIG mKind mFrom mInc mSpanLo mSpanHi mSeq mTarget mLife mEpoch mBase mRecs gen).trans hy, ?_, h⟩
      intro rs ros hk
      unfold fit_Fits.k at hk
      split at hk
      · first | (cases hk; exact ⟨rfl, rfl⟩) | (have e := Option.some.inj hk; rw [← e]; exact ⟨rfl, rfl⟩)
      · cases hk
  · cases h
noncomputable def fit_Least_E : Env := ⟨th, gam [(36, s_fit_Fits)], fun i => if i = 2 then ⟨[1, 3], [], []⟩ else ⟨[], [], []⟩⟩
noncomputable def fit_Least.k (rs : List AV) (os : List Den.Obj) : Option Int :=
  match rs, os with
  | [.d (.int .i64) r0], [] => some r0
  | _, _ => none
noncomputable def fit_Least.s2 (mKind : Int) (mFrom : Int) (mInc : Int) (mSpanLo : Int) (mSpanHi : Int) (mSeq : Int) (mTarget : Int) (mLife : Int) (mEpoch : Int) (mBase : Int) (mRecs : List (Int × Int × Int × (Int × Int) × Bool × List (Int × List Int))) (x0 : Int) : St := ⟨[.dead, .ptr 64 0, .dead, .d (.int .i64) x0, .dead, .dead, .dead, .dead, .dead, .dead, .dead, .dead], ofL [(64, .box [.d (.int .i64) (mKind), .d (.int .i64) (mFrom), .d (.int .i64) (mInc), .d (.int .i64) (mSpanLo), .d (.int .i64) (mSpanHi), .d (.int .i64) (mSeq), .d (.int .i64) (mTarget), .d (.int .i64) (mLife), .d (.int .i64) (mEpoch), .d (.int .i64) (mBase), .d (.sl (.pair (.int .i64) (.pair (.int .i64) (.pair (.int .i64) (.pair (.pair (.int .i64) (.int .i64)) (.pair .bool (.sl (.pair (.int .i64) (.sl (.int .u8)))))))))) (mRecs)])], 0⟩
noncomputable def fit_Least.b2 (mKind : Int) (mFrom : Int) (mInc : Int) (mSpanLo : Int) (mSpanHi : Int) (mSeq : Int) (mTarget : Int) (mLife : Int) (mEpoch : Int) (mBase : Int) (mRecs : List (Int × Int × Int × (Int × Int) × Bool × List (Int × List Int))) (A2 : Int → Option Int) (x0 : Int) : Option Int :=
  (if (decide (x0 ≤ (3 : Int))) then (match (veil (fit_Fits.f BIG mKind mFrom mInc mSpanLo mSpanHi mSeq mTarget mLife mEpoch mBase mRecs x0)) with | none => none | some y1 => (if y1 then some (x0) else A2 (Go.IntKind.wrap .i64 (x0 + (1 : Int))))) else some ((0 : Int)))
noncomputable def fit_Least.l2 (fuel : Nat) (mKind : Int) (mFrom : Int) (mInc : Int) (mSpanLo : Int) (mSpanHi : Int) (mSeq : Int) (mTarget : Int) (mLife : Int) (mEpoch : Int) (mBase : Int) (mRecs : List (Int × Int × Int × (Int × Int) × Bool × List (Int × List Int))) : Nat → Int → Option Int
  | 0, _ => none
  | k + 1, x0 => fit_Least.b2 mKind mFrom mInc mSpanLo mSpanHi mSeq mTarget mLife mEpoch mBase mRecs (fit_Least.l2 fuel mKind mFrom mInc mSpanLo mSpanHi mSeq mTarget mLife mEpoch mBase mRecs k) x0
noncomputable def fit_Least.b (mKind : Int) (mFrom : Int) (mInc : Int) (mSpanLo : Int) (mSpanHi : Int) (mSeq : Int) (mTarget : Int) (mLife : Int) (mEpoch : Int) (mBase : Int) (mRecs : List (Int × Int × Int × (Int × Int) × Bool × List (Int × List Int))) (E2 : Int → Option Int) : Option Int :=
  E2 (1 : Int)
noncomputable def fit_Least.f (fuel : Nat) (mKind : Int) (mFrom : Int) (mInc : Int) (mSpanLo : Int) (mSpanHi : Int) (mSeq : Int) (mTarget : Int) (mLife : Int) (mEpoch : Int) (mBase : Int) (mRecs : List (Int × Int × Int × (Int × Int) × Bool × List (Int × List Int))) : Option Int := fit_Least.b mKind mFrom mInc mSpanLo mSpanHi mSeq mTarget mLife mEpoch mBase mRecs (fit_Least.l2 fuel mKind mFrom mInc mSpanLo mSpanHi mSeq mTarget mLife mEpoch mBase mRecs fuel)
theorem fit_Least.l2_eq (fuel : Nat) (mKind : Int) (mFrom : Int) (mInc : Int) (mSpanLo : Int) (mSpanHi : Int) (mSeq : Int) (mTarget : Int) (mLife : Int) (mEpoch : Int) (mBase : Int) (mRecs : List (Int × Int × Int × (Int × Int) × Bool × List (Int × List Int))) : ∀ (k : Nat) (x0 : Int), lp fit_Least_E fuel Try.f39 [.raw] 0 fit_Least.k 2 [] k (fit_Least.s2 mKind mFrom mInc mSpanLo mSpanHi mSeq mTarget mLife mEpoch mBase mRecs x0) = fit_Least.l2 fuel mKind mFrom mInc mSpanLo mSpanHi mSeq mTarget mLife mEpoch mBase mRecs k x0 := by
  intro k
  induction k with
  | zero => intro x0; rfl
  | succ k ih =>
    intro x0
    have h : lp fit_Least_E fuel Try.f39 [.raw] 0 fit_Least.k 2 [] (k + 1) (fit_Least.s2 mKind mFrom mInc mSpanLo mSpanHi mSeq mTarget mLife mEpoch mBase mRecs x0) = fit_Least.b2 mKind mFrom mInc mSpanLo mSpanHi mSeq mTarget mLife mEpoch mBase mRecs (fun x0 => lp fit_Least_E fuel Try.f39 [.raw] 0 fit_Least.k 2 [] k (fit_Least.s2 mKind mFrom mInc mSpanLo mSpanHi mSeq mTarget mLife mEpoch mBase mRecs x0)) x0 := by kernel_rfl
    rw [h]
    have e2 : (fun x0 => lp fit_Least_E fuel Try.f39 [.raw] 0 fit_Least.k 2 [] k (fit_Least.s2 mKind mFrom mInc mSpanLo mSpanHi mSeq mTarget mLife mEpoch mBase mRecs x0)) = fit_Least.l2 fuel mKind mFrom mInc mSpanLo mSpanHi mSeq mTarget mLife mEpoch mBase mRecs k := (funext fun x0 => ih x0)
    rw [e2]
    rfl
theorem fit_Least.eq (fuel : Nat) (mKind : Int) (mFrom : Int) (mInc : Int) (mSpanLo : Int) (mSpanHi : Int) (mSeq : Int) (mTarget : Int) (mLife : Int) (mEpoch : Int) (mBase : Int) (mRecs : List (Int × Int × Int × (Int × Int) × Bool × List (Int × List Int))) : (denF fit_Least_E loopN fuel Try.f39 [.raw] [.agg [.d (.int .i64) mKind, .d (.int .i64) mFrom, .d (.int .i64) mInc, .d (.int .i64) mSpanLo, .d (.int .i64) mSpanHi, .d (.int .i64) mSeq, .d (.int .i64) mTarget, .d (.int .i64) mLife, .d (.int .i64) mEpoch, .d (.int .i64) mBase, .d (.sl (.pair (.int .i64) (.pair (.int .i64) (.pair (.int .i64) (.pair (.pair (.int .i64) (.int .i64)) (.pair .bool (.sl (.pair (.int .i64) (.sl (.int .u8)))))))))) mRecs]] [] fit_Least.k) = fit_Least.f fuel mKind mFrom mInc mSpanLo mSpanHi mSeq mTarget mLife mEpoch mBase mRecs := by
  have h : (denF fit_Least_E loopN fuel Try.f39 [.raw] [.agg [.d (.int .i64) mKind, .d (.int .i64) mFrom, .d (.int .i64) mInc, .d (.int .i64) mSpanLo, .d (.int .i64) mSpanHi, .d (.int .i64) mSeq, .d (.int .i64) mTarget, .d (.int .i64) mLife, .d (.int .i64) mEpoch, .d (.int .i64) mBase, .d (.sl (.pair (.int .i64) (.pair (.int .i64) (.pair (.int .i64) (.pair (.pair (.int .i64) (.int .i64)) (.pair .bool (.sl (.pair (.int .i64) (.sl (.int .u8)))))))))) mRecs]] [] fit_Least.k) = fit_Least.b mKind mFrom mInc mSpanLo mSpanHi mSeq mTarget mLife mEpoch mBase mRecs (fun x0 => lp fit_Least_E fuel Try.f39 [.raw] 0 fit_Least.k 2 [] fuel (fit_Least.s2 mKind mFrom mInc mSpanLo mSpanHi mSeq mTarget mLife mEpoch mBase mRecs x0)) := by kernel_rfl
  rw [h]
  have e2 : (fun x0 => lp fit_Least_E fuel Try.f39 [.raw] 0 fit_Least.k 2 [] fuel (fit_Least.s2 mKind mFrom mInc mSpanLo mSpanHi mSeq mTarget mLife mEpoch mBase mRecs x0)) = fit_Least.l2 fuel mKind mFrom mInc mSpanLo mSpanHi mSeq mTarget mLife mEpoch mBase mRecs fuel := (funext fun x0 => fit_Least.l2_eq fuel mKind mFrom mInc mSpanLo mSpanHi mSeq mTarget mLife mEpoch mBase mRecs fuel x0)
  rw [e2]
  rfl
noncomputable def s_fit_Least : Den.Sum := ⟨[.dat (.pair (.int .i64) (.pair (.int .i64) (.pair (.int .i64) (.pair (.pair (.int .i64) (.int .i64)) (.pair (.int .i64) (.pair (.int .i64) (.pair (.int .i64) (.pair (.int .i64) (.pair (.int .i64) (.sl (.pair (.int .i64) (.pair (.int .i64) (.pair (.int .i64) (.pair (.pair (.int .i64) (.int .i64)) (.pair .bool (.sl (.pair (.int .i64) (.sl (.int .u8))))))))))))))))))) true], fun args objs κ => match args, objs with
  | [.agg [.d (.int .i64) mKind, .d (.int .i64) mFrom, .d (.int .i64) mInc, .d (.int .i64) mSpanLo, .d (.int .i64) mSpanHi, .d (.int .i64) mSeq, .d (.int .i64) mTarget, .d (.int .i64) mLife, .d (.int .i64) mEpoch, .d (.int .i64) mBase, .d (.sl (.pair (.int .i64) (.pair (.int .i64) (.pair (.int .i64) (.pair (.pair (.int .i64) (.int .i64)) (.pair .bool (.sl (.pair (.int .i64) (.sl (.int .u8)))))))))) mRecs]], [] => (match veil (fit_Least.f BIG mKind mFrom mInc mSpanLo mSpanHi mSeq mTarget mLife mEpoch mBase mRecs) with | none => none | some y => κ [.d (.int .i64) y] [])
  | _, _ => none⟩
theorem s_fit_Least_det : SumDet s_fit_Least := fun avs objs R κ => by
  show s_fit_Least.run avs objs (two κ) = (s_fit_Least.run avs objs (two some)).bind κ
  unfold s_fit_Least
  simp only [veil_eq]
  split
  · split <;> rfl
  · rfl
theorem s_fit_Least_ok : SumOk Try.prog 39 s_fit_Least := by
  have hE : EnvOk Try.prog fit_Least_E := env_ok (l := [(36, s_fit_Fits)]) th_ok any_ok ⟨⟨s_fit_Fits_ok, s_fit_Fits_det⟩, trivial⟩ _
  refine sum_ok hE Try.func39 rfl (by kernel_rfl) s_fit_Least [.raw] fit_Least.k ?_
  intro R avs objs κ r h
  unfold s_fit_Least at h
  simp only [veil_eq] at h
  split at h
  · rename_i mKind mFrom mInc mSpanLo mSpanHi mSeq mTarget mLife mEpoch mBase mRecs
    split at h
    · cases h
    · rename_i y hy
      refine ⟨BIG, _, _, _, (fit_Least.eq BIG mKind mFrom mInc mSpanLo mSpanHi mSeq mTarget mLife mEpoch mBase mRecs).trans hy, ?_, h⟩
      intro rs ros hk
      unfold fit_Least.k at hk
      split at hk
      · first | (cases hk; exact ⟨rfl, rfl⟩) | (have e := Option.some.inj hk; rw [← e]; exact ⟨rfl, rfl⟩)
      · cases hk
  · cases h
noncomputable def law16_awake_E : Env := ⟨th, gam [(34, s_fit_Why), (36, s_fit_Fits), (39, s_fit_Least)], fun i => ⟨[], [], []⟩⟩
noncomputable def law16_awake.k (rs : List AV) (os : List Den.Obj) : Option Bool :=
  match rs, os with
  | [.d .bool r0], [] => some r0
  | _, _ => none
noncomputable def law16_awake.b (u : Unit) : Option Bool :=
  (match (veil (fit_Why.f BIG (4 : Int) 0 0 (1 : Int) (3 : Int) 0 0 0 0 0 (((1 : Int), (0, (0, (((1 : Int), (3 : Int)), (false, (((40 : Int), ([] : List Int)) :: ([] : List (Int × (List Int))))))))) :: ([] : List (Int × (Int × (Int × ((Int × Int) × (Bool × (List (Int × (List Int)))))))))) (1 : Int))) with | none => none | some y0 => (if (((((List.length y0)) : Nat) : Int) == (1 : Int)) then (match (idx y0 (0 : Int)) with | none => none | some y1 => (match (idx y0 (0 : Int)) with | none => none | some y2 => (if (y2 == (3 : Int)) then (match (veil (fit_Fits.f BIG (4 : Int) 0 0 (1 : Int) (3 : Int) 0 0 0 0 0 (((1 : Int), (0, (0, (((1 : Int), (3 : Int)), (false, (((40 : Int), ([] : List Int)) :: ([] : List (Int × (List Int))))))))) :: ([] : List (Int × (Int × (Int × ((Int × Int) × (Bool × (List (Int × (List Int)))))))))) (2 : Int))) with | none => none | some y3 => (if y3 then (match (veil (fit_Why.f BIG (9 : Int) 0 0 (1 : Int) (3 : Int) 0 0 0 (1 : Int) 0 ([] : List (Int × (Int × (Int × ((Int × Int) × (Bool × (List (Int × (List Int))))))))) (2 : Int))) with | none => none | some y4 => (if (((((List.length y4)) : Nat) : Int) == (2 : Int)) then (match (veil (fit_Least.f BIG (9 : Int) 0 0 (1 : Int) (3 : Int) 0 0 0 (1 : Int) 0 ([] : List (Int × (Int × (Int × ((Int × Int) × (Bool × (List (Int × (List Int))))))))))) with | none => none | some y5 => (if (y5 == (3 : Int)) then (match (veil (fit_Fits.f BIG (4 : Int) 0 0 (1 : Int) (3 : Int) 0 0 0 0 0 (((1 : Int), (0, (0, (((1 : Int), (3 : Int)), (false, (((40 : Int), ([] : List Int)) :: ([] : List (Int × (List Int))))))))) :: ([] : List (Int × (Int × (Int × ((Int × Int) × (Bool × (List (Int × (List Int)))))))))) (4 : Int))) with | none => none | some y6 => some ((!y6))) else some (false))) else some (false))) else some (false))) else some (false)))) else some (false)))
noncomputable def law16_awake.f (fuel : Nat) (u : Unit) : Option Bool := law16_awake.b u
theorem law16_awake.eq (fuel : Nat) (u : Unit) : (denF law16_awake_E loopN fuel Try.f33 [.raw] [] [] law16_awake.k) = law16_awake.f fuel u := by
  kernel_rfl
noncomputable def s_law16_awake : Den.Sum := ⟨[], fun args objs κ => match args, objs with
  | [], [] => (match veil (law16_awake.f BIG ()) with | none => none | some y => κ [.d .bool y] [])
  | _, _ => none⟩
theorem s_law16_awake_det : SumDet s_law16_awake := fun avs objs R κ => by
  show s_law16_awake.run avs objs (two κ) = (s_law16_awake.run avs objs (two some)).bind κ
  unfold s_law16_awake
  simp only [veil_eq]
  split
  · split <;> rfl
  · rfl
theorem s_law16_awake_ok : SumOk Try.prog 33 s_law16_awake := by
  have hE : EnvOk Try.prog law16_awake_E := env_ok (l := [(34, s_fit_Why), (36, s_fit_Fits), (39, s_fit_Least)]) th_ok any_ok ⟨⟨s_fit_Why_ok, s_fit_Why_det⟩, ⟨s_fit_Fits_ok, s_fit_Fits_det⟩, ⟨s_fit_Least_ok, s_fit_Least_det⟩, trivial⟩ _
  refine sum_ok hE Try.func33 rfl (by kernel_rfl) s_law16_awake [.raw] law16_awake.k ?_
  intro R avs objs κ r h
  unfold s_law16_awake at h
  simp only [veil_eq] at h
  split at h
  · skip
    split at h
    · cases h
    · rename_i y hy
      refine ⟨BIG, _, _, _, (law16_awake.eq BIG ()).trans hy, ?_, h⟩
      intro rs ros hk
      unfold law16_awake.k at hk
      split at hk
      · first | (cases hk; exact ⟨rfl, rfl⟩) | (have e := Option.some.inj hk; rw [← e]; exact ⟨rfl, rfl⟩)
      · cases hk
  · cases h
noncomputable def law16_FitMany_E : Env := ⟨th, gam [(33, s_law16_awake), (36, s_fit_Fits), (39, s_fit_Least)], fun i => if i = 5 then ⟨[0, 1, 5, 6], [(1330, 50, (.pair (.int .i64) (.pair (.int .i64) (.pair (.int .i64) (.pair (.pair (.int .i64) (.int .i64)) (.pair .bool (.sl (.pair (.int .i64) (.sl (.int .u8))))))))))], []⟩ else ⟨[], [], []⟩⟩
noncomputable def law16_FitMany.k (rs : List AV) (os : List Den.Obj) : Option Bool :=
  match rs, os with
  | [.d .bool r0], [] => some r0
  | _, _ => none
noncomputable def law16_FitMany.s5 (n : Int) (inc : Int) (x4 : Int) (x5 : (List (Int × (Int × (Int × ((Int × Int) × (Bool × (List (Int × (List Int)))))))))) : St := ⟨[.d (.int .i64) (n), .d (.int .i64) (inc), .dead, .dead, .dead, .ptr 64 0, .d (.int .i64) x4, .dead, .dead, .dead, .dead, .dead, .dead, .dead, .dead, .dead, .dead, .dead, .dead, .dead, .dead, .dead, .dead, .dead, .dead, .dead, .dead, .dead, .dead, .dead, .dead, .dead, .dead, .dead, .dead, .dead, .dead, .dead, .dead, .dead, .dead, .dead, .dead, .dead, .dead, .dead, .dead, .dead, .dead, .dead, .dead, .dead, .dead, .dead, .dead, .dead, .dead, .dead, .dead, .dead, .dead, .dead, .dead], ofL [(64, .box [.d (.int .i64) ((7 : Int)), .d (.int .i64) (0), .d (.int .i64) (0), .d (.int .i64) ((1 : Int)), .d (.int .i64) ((3 : Int)), .d (.int .i64) (0), .d (.int .i64) (0), .d (.int .i64) (0), .d (.int .i64) (0), .d (.int .i64) (0), .row 65]), (65, .row 50 (.pair (.int .i64) (.pair (.int .i64) (.pair (.int .i64) (.pair (.pair (.int .i64) (.int .i64)) (.pair .bool (.sl (.pair (.int .i64) (.sl (.int .u8))))))))) x5 false)], 0⟩
noncomputable def law16_FitMany.b5 (n : Int) (inc : Int) (A5 : Int → (List (Int × (Int × (Int × ((Int × Int) × (Bool × (List (Int × (List Int))))))))) → Option Bool) (x4 : Int) (x5 : (List (Int × (Int × (Int × ((Int × Int) × (Bool × (List (Int × (List Int)))))))))) : Option Bool :=
  (if (decide (x4 < n)) then (if ((((List.length x5) + (List.length (((Go.IntKind.wrap .i64 (x4 * (16 : Int))), (inc, (0, (((1 : Int), (1 : Int)), (false, ([] : List (Int × (List Int)))))))) :: ([] : List (Int × (Int × (Int × ((Int × Int) × (Bool × (List (Int × (List Int)))))))))))) * (72 : Nat)) ≤ lim) then A5 (Go.IntKind.wrap .i64 (x4 + (1 : Int))) (x5 ++ (((Go.IntKind.wrap .i64 (x4 * (16 : Int))), (inc, (0, (((1 : Int), (1 : Int)), (false, ([] : List (Int × (List Int)))))))) :: ([] : List (Int × (Int × (Int × ((Int × Int) × (Bool × (List (Int × (List Int))))))))))) else none) else (if (n == (0 : Int)) then (match (veil (fit_Least.f BIG (7 : Int) 0 0 (1 : Int) (3 : Int) 0 0 0 0 0 x5)) with | none => none | some y6 => (if (y6 == (1 : Int)) then (match (veil (law16_awake.f BIG ())) with | none => none | some y7 => some (y7)) else some (false))) else (if (decide (inc ≤ (veil (4294967295 : Int)))) then (if (decide (inc ≤ (65535 : Int))) then (match (veil (fit_Least.f BIG (7 : Int) 0 0 (1 : Int) (3 : Int) 0 0 0 0 0 x5)) with | none => none | some y8 => (if (y8 == (1 : Int)) then (match (veil (fit_Fits.f BIG (7 : Int) 0 0 (1 : Int) (3 : Int) 0 0 0 0 0 x5 (3 : Int))) with | none => none | some y9 => (if y9 then (match (veil (law16_awake.f BIG ())) with | none => none | some y10 => some (y10)) else some (false))) else some (false))) else (match (veil (fit_Least.f BIG (7 : Int) 0 0 (1 : Int) (3 : Int) 0 0 0 0 0 x5)) with | none => none | some y11 => (if (y11 == (2 : Int)) then (match (veil (fit_Fits.f BIG (7 : Int) 0 0 (1 : Int) (3 : Int) 0 0 0 0 0 x5 (3 : Int))) with | none => none | some y12 => (if y12 then (match (veil (law16_awake.f BIG ())) with | none => none | some y13 => some (y13)) else some (false))) else some (false)))) else (if (decide (inc ≤ (65535 : Int))) then (match (veil (fit_Least.f BIG (7 : Int) 0 0 (1 : Int) (3 : Int) 0 0 0 0 0 x5)) with | none => none | some y14 => (if (y14 == (1 : Int)) then (match (veil (fit_Fits.f BIG (7 : Int) 0 0 (1 : Int) (3 : Int) 0 0 0 0 0 x5 (3 : Int))) with | none => none | some y15 => (if y15 then (match (veil (law16_awake.f BIG ())) with | none => none | some y16 => some (y16)) else some (false))) else some (false))) else (match (veil (fit_Least.f BIG (7 : Int) 0 0 (1 : Int) (3 : Int) 0 0 0 0 0 x5)) with | none => none | some y17 => (if (y17 == (3 : Int)) then (match (veil (fit_Fits.f BIG (7 : Int) 0 0 (1 : Int) (3 : Int) 0 0 0 0 0 x5 (3 : Int))) with | none => none | some y18 => (if y18 then (match (veil (law16_awake.f BIG ())) with | none => none | some y19 => some (y19)) else some (false))) else some (false)))))))
noncomputable def law16_FitMany.l5 (fuel : Nat) (n : Int) (inc : Int) : Nat → Int → (List (Int × (Int × (Int × ((Int × Int) × (Bool × (List (Int × (List Int))))))))) → Option Bool
  | 0, _, _ => none
  | k + 1, x4, x5 => law16_FitMany.b5 n inc (law16_FitMany.l5 fuel n inc k) x4 x5
noncomputable def law16_FitMany.b (n : Int) (inc : Int) (E5 : Int → (List (Int × (Int × (Int × ((Int × Int) × (Bool × (List (Int × (List Int))))))))) → Option Bool) : Option Bool :=
  (if (decide (n < (0 : Int))) then (match (veil (law16_awake.f BIG ())) with | none => none | some y0 => some (y0)) else (if (decide (n > (255 : Int))) then (match (veil (law16_awake.f BIG ())) with | none => none | some y1 => some (y1)) else (if (decide (inc < (0 : Int))) then (match (veil (law16_awake.f BIG ())) with | none => none | some y2 => some (y2)) else (if (decide (inc > (veil (281474976710655 : Int)))) then (match (veil (law16_awake.f BIG ())) with | none => none | some y3 => some (y3)) else E5 (0 : Int) ([] : List (Int × (Int × (Int × ((Int × Int) × (Bool × (List (Int × (List Int)))))))))))))
noncomputable def law16_FitMany.f (fuel : Nat) (n : Int) (inc : Int) : Option Bool := law16_FitMany.b n inc (law16_FitMany.l5 fuel n inc fuel)
theorem law16_FitMany.l5_eq (fuel : Nat) (n : Int) (inc : Int) : ∀ (k : Nat) (x4 : Int) (x5 : (List (Int × (Int × (Int × ((Int × Int) × (Bool × (List (Int × (List Int)))))))))), lp law16_FitMany_E fuel Try.f13 [.raw] 0 law16_FitMany.k 5 [] k (law16_FitMany.s5 n inc x4 x5) = law16_FitMany.l5 fuel n inc k x4 x5 := by
  intro k
  induction k with
  | zero => intro x4 x5; rfl
  | succ k ih =>
    intro x4 x5
    have h : lp law16_FitMany_E fuel Try.f13 [.raw] 0 law16_FitMany.k 5 [] (k + 1) (law16_FitMany.s5 n inc x4 x5) = law16_FitMany.b5 n inc (fun x4 x5 => lp law16_FitMany_E fuel Try.f13 [.raw] 0 law16_FitMany.k 5 [] k (law16_FitMany.s5 n inc x4 x5)) x4 x5 := by kernel_rfl
    rw [h]
    have e5 : (fun x4 x5 => lp law16_FitMany_E fuel Try.f13 [.raw] 0 law16_FitMany.k 5 [] k (law16_FitMany.s5 n inc x4 x5)) = law16_FitMany.l5 fuel n inc k := (funext fun x4 => (funext fun x5 => ih x4 x5))
    rw [e5]
    rfl
theorem law16_FitMany.eq (fuel : Nat) (n : Int) (inc : Int) : (denF law16_FitMany_E loopN fuel Try.f13 [.raw] [.d (.int .i64) n, .d (.int .i64) inc] [] law16_FitMany.k) = law16_FitMany.f fuel n inc := by
  have h : (denF law16_FitMany_E loopN fuel Try.f13 [.raw] [.d (.int .i64) n, .d (.int .i64) inc] [] law16_FitMany.k) = law16_FitMany.b n inc (fun x4 x5 => lp law16_FitMany_E fuel Try.f13 [.raw] 0 law16_FitMany.k 5 [] fuel (law16_FitMany.s5 n inc x4 x5)) := by kernel_rfl
  rw [h]
  have e5 : (fun x4 x5 => lp law16_FitMany_E fuel Try.f13 [.raw] 0 law16_FitMany.k 5 [] fuel (law16_FitMany.s5 n inc x4 x5)) = law16_FitMany.l5 fuel n inc fuel := (funext fun x4 => (funext fun x5 => law16_FitMany.l5_eq fuel n inc fuel x4 x5))
  rw [e5]
  rfl
theorem gen3_writer_put.l17_at (fuel n k : Nat) (hn : n = k + 1) (l : List Int) (r0ID : Int) (r0Inc : Int) (r0Status : Int) (r0SpanLo : Int) (r0SpanHi : Int) (r0Cut : Bool) (r0Bag : List (Int × List Int)) (last : Int) (base : List (Int × Int × Int × (Int × Int) × Bool × List (Int × List Int))) (x41 : Int) (x42 : Int) (x43 : (List Int)) : gen3_writer_put.l17 fuel l r0ID r0Inc r0Status r0SpanLo r0SpanHi r0Cut r0Bag last base n x41 x42 x43 = gen3_writer_put.b17 l r0ID r0Inc r0Status r0SpanLo r0SpanHi r0Cut r0Bag last base (gen3_writer_put.l17 fuel l r0ID r0Inc r0Status r0SpanLo r0SpanHi r0Cut r0Bag last base k) x41 x42 x43 := by
  subst hn
  rfl
theorem gen3_writer_put.l13_at (fuel n k : Nat) (hn : n = k + 1) (l : List Int) (r0ID : Int) (r0Inc : Int) (r0Status : Int) (r0SpanLo : Int) (r0SpanHi : Int) (r0Cut : Bool) (r0Bag : List (Int × List Int)) (last : Int) (base : List (Int × Int × Int × (Int × Int) × Bool × List (Int × List Int))) (x28 : Int) (x29 : (List Int)) (x30 : Int) (x31 : Int) (x32 : Int) (x33 : Int) (x34 : Int) (x35 : Bool) (x36 : (List (Int × (List Int)))) : gen3_writer_put.l13 fuel l r0ID r0Inc r0Status r0SpanLo r0SpanHi r0Cut r0Bag last base n x28 x29 x30 x31 x32 x33 x34 x35 x36 = gen3_writer_put.b13 l r0ID r0Inc r0Status r0SpanLo r0SpanHi r0Cut r0Bag last base (gen3_writer_put.l13 fuel l r0ID r0Inc r0Status r0SpanLo r0SpanHi r0Cut r0Bag last base k) (gen3_writer_put.l17 fuel l r0ID r0Inc r0Status r0SpanLo r0SpanHi r0Cut r0Bag last base fuel) x28 x29 x30 x31 x32 x33 x34 x35 x36 := by
  subst hn
  rfl
theorem gen3_writer_put.l9_at (fuel n k : Nat) (hn : n = k + 1) (l : List Int) (r0ID : Int) (r0Inc : Int) (r0Status : Int) (r0SpanLo : Int) (r0SpanHi : Int) (r0Cut : Bool) (r0Bag : List (Int × List Int)) (last : Int) (base : List (Int × Int × Int × (Int × Int) × Bool × List (Int × List Int))) (x19 : Int) (x20 : Int) (x21 : Int) (x22 : Int) (x23 : Int) (x24 : Int) (x25 : Bool) (x26 : (List (Int × (List Int)))) : gen3_writer_put.l9 fuel l r0ID r0Inc r0Status r0SpanLo r0SpanHi r0Cut r0Bag last base n x19 x20 x21 x22 x23 x24 x25 x26 = gen3_writer_put.b9 l r0ID r0Inc r0Status r0SpanLo r0SpanHi r0Cut r0Bag last base (gen3_writer_put.l9 fuel l r0ID r0Inc r0Status r0SpanLo r0SpanHi r0Cut r0Bag last base k) (gen3_writer_put.l13 fuel l r0ID r0Inc r0Status r0SpanLo r0SpanHi r0Cut r0Bag last base fuel) x19 x20 x21 x22 x23 x24 x25 x26 := by
  subst hn
  rfl
theorem gen3_writer_put.l7_at (fuel n k : Nat) (hn : n = k + 1) (l : List Int) (r0ID : Int) (r0Inc : Int) (r0Status : Int) (r0SpanLo : Int) (r0SpanHi : Int) (r0Cut : Bool) (r0Bag : List (Int × List Int)) (last : Int) (base : List (Int × Int × Int × (Int × Int) × Bool × List (Int × List Int))) (x10 : Bool) (x11 : Int) (x12 : Int) (x13 : Int) (x14 : Int) (x15 : Int) (x16 : Int) (x17 : Bool) (x18 : (List (Int × (List Int)))) : gen3_writer_put.l7 fuel l r0ID r0Inc r0Status r0SpanLo r0SpanHi r0Cut r0Bag last base n x10 x11 x12 x13 x14 x15 x16 x17 x18 = gen3_writer_put.b7 l r0ID r0Inc r0Status r0SpanLo r0SpanHi r0Cut r0Bag last base (gen3_writer_put.l7 fuel l r0ID r0Inc r0Status r0SpanLo r0SpanHi r0Cut r0Bag last base k) (gen3_writer_put.l9 fuel l r0ID r0Inc r0Status r0SpanLo r0SpanHi r0Cut r0Bag last base fuel) x10 x11 x12 x13 x14 x15 x16 x17 x18 := by
  subst hn
  rfl
theorem gen3_writer_put.l5_at (fuel n k : Nat) (hn : n = k + 1) (l : List Int) (r0ID : Int) (r0Inc : Int) (r0Status : Int) (r0SpanLo : Int) (r0SpanHi : Int) (r0Cut : Bool) (r0Bag : List (Int × List Int)) (last : Int) (base : List (Int × Int × Int × (Int × Int) × Bool × List (Int × List Int))) (x1 : Bool) (x2 : Int) (x3 : Int) (x4 : Int) (x5 : Int) (x6 : Int) (x7 : Int) (x8 : Bool) (x9 : (List (Int × (List Int)))) : gen3_writer_put.l5 fuel l r0ID r0Inc r0Status r0SpanLo r0SpanHi r0Cut r0Bag last base n x1 x2 x3 x4 x5 x6 x7 x8 x9 = gen3_writer_put.b5 l r0ID r0Inc r0Status r0SpanLo r0SpanHi r0Cut r0Bag last base (gen3_writer_put.l5 fuel l r0ID r0Inc r0Status r0SpanLo r0SpanHi r0Cut r0Bag last base k) (gen3_writer_put.l7 fuel l r0ID r0Inc r0Status r0SpanLo r0SpanHi r0Cut r0Bag last base fuel) x1 x2 x3 x4 x5 x6 x7 x8 x9 := by
  subst hn
  rfl
theorem fit2_of : ∀ r : LR, (∀ x ∈ r, x.2.1 ≤ 4294967295) → fit2Go r = true
  | [], _ => rfl
  | x :: r, h => by
    have := h x (by simp)
    rw [fit2Go, if_neg (by simp; omega)]
    exact fit2_of r fun y hy => h y (by simp [hy])
abbrev REC := Int × Int × Int × (Int × Int) × Bool × LF
theorem big_eq : BIG = (BIG - 1) + 1 := by rw [BIG_eq]
/-- a number's form -/
noncomputable def viF : Nat → Int → List Int
  | 0, v => [v]
  | k + 1, v => if v ≥ 128 then (v % 128 + 128) :: viF k (v / 128) else [v]
noncomputable def vi (v : Int) : List Int := viF 9 v
theorem or128_tab : (List.range 256).all (fun n => bits Go.BinOp.or .u8 (n : Int) 128 == (n : Int) % 128 + 128) = true := by kernel_rfl
theorem or128 (c : Int) (h0 : 0 ≤ c) (h1 : c < 256) : bits Go.BinOp.or .u8 c 128 = c % 128 + 128 := by
  have := List.all_eq_true.1 or128_tab c.toNat (by simp; omega)
  rw [show ((c.toNat : Nat) : Int) = c from by omega] at this
  simpa using this
theorem wrapU8 (n : Int) : Go.IntKind.wrap .u8 n = n % 256 := by
  simp [Go.IntKind.wrap, IntKind.signed, IntKind.bits]
theorem Of.loop (fuel : Nat) (v : Int) : ∀ (j k : Nat) (x0 : Int) (x1 : List Int), 0 ≤ x0 → x0 < 128 ^ (j + 1) → j < k → x1.length + j < 1000 →
    varint_Of.l2 fuel v k x0 x1 = some (x1 ++ viF j x0) := by
  intro j
  induction j with
  | zero =>
    intro k x0 x1 h0 h1 hk hl
    obtain ⟨k, rfl⟩ : ∃ k', k = k' + 1 := ⟨k - 1, by omega⟩
    rw [varint_Of.l2]
    unfold varint_Of.b2
    rw [if_neg (by simp at h1 ⊢; omega), if_pos (by simp [lim]; omega), wrapU8, show x0 % 256 = x0 from by simp at h1; omega]
    rfl
  | succ j ih =>
    intro k x0 x1 h0 h1 hk hl
    obtain ⟨k, rfl⟩ : ∃ k', k = k' + 1 := ⟨k - 1, by omega⟩
    rw [varint_Of.l2]
    unfold varint_Of.b2
    rw [viF]
    by_cases hc : x0 ≥ 128
    · rw [if_pos (by simpa using hc), if_pos (by simp [lim]; omega), if_pos hc, wrapU8, or128 _ (by omega) (by omega)]
      rw [show ((2 : Int) ^ (Min.min (Int.toNat (7 : Int)) (Go.IntKind.bits .u64))) = 128 from rfl, Int.fdiv_eq_ediv_of_nonneg _ (by omega)]
      rw [ih k (x0 / 128) _ (by omega) (by rw [Int.pow_succ] at h1; generalize (128 : Int) ^ (j + 1) = M at h1 ⊢; omega) (by omega) (by simp; omega), show x0 % 256 % 128 = x0 % 128 from by omega]
      simp
    · rw [if_neg (by simpa using hc), if_pos (by simp [lim]; omega), if_neg hc, wrapU8, show x0 % 256 = x0 from by omega]
theorem Of.pure (v : Int) (h0 : 0 ≤ v) (h1 : v < 18446744073709551616) : varint_Of.f BIG v = some (vi v) := by
  unfold varint_Of.f varint_Of.b vi
  rw [Of.loop BIG v 9 BIG v [] h0 (by simp; omega) (by rw [BIG_eq]; omega) (by simp)]
  rfl
theorem viF_len : ∀ (j : Nat) (v : Int), 1 ≤ (viF j v).length ∧ (viF j v).length ≤ j + 1
  | 0, v => by simp [viF]
  | j + 1, v => by
    rw [viF]
    split
    · have := viF_len j (v / 128)
      simp; omega
    · simp
theorem vi_len (v : Int) : 1 ≤ (vi v).length ∧ (vi v).length ≤ 10 := viF_len 9 v
theorem Raw.pure (l b : List Int) (h : l.length + b.length ≤ 1099511627776) : octet_Writer_Raw.f BIG l b = some (l ++ b) := by
  unfold octet_Writer_Raw.f octet_Writer_Raw.b
  rw [if_pos (by simp [lim]; omega)]
theorem wrapU64 (n : Int) (h0 : 0 ≤ n) (h1 : n < 18446744073709551616) : Go.IntKind.wrap .u64 n = n := by
  simp [Go.IntKind.wrap, IntKind.signed, IntKind.bits]
  omega
theorem Form.loop (fuel : Nat) (l0 vs : List Int) (hv : ∀ v ∈ vs, 0 ≤ v ∧ v < 9223372036854775808) (hn : vs.length < 1000) : ∀ (k i : Nat) (acc : List Int), i ≤ vs.length → vs.length - i < k → acc.length + 10 * (vs.length - i) ≤ 1099511627776 →
    gen3_writer_form.l2 fuel l0 vs k (vs.length : Int) (i : Int) acc = some (acc ++ (vs.drop i).flatMap vi) := by
  intro k
  induction k with
  | zero => intro i acc h1 h2; omega
  | succ k ih =>
    intro i acc h1 h2 h3
    rw [gen3_writer_form.l2]
    unfold gen3_writer_form.b2
    simp only [veil_eq]
    by_cases hi : i < vs.length
    · rw [if_pos (by simp; omega), idx_at, List.getElem?_eq_getElem hi]
      dsimp only
      obtain ⟨v0, v1⟩ := hv vs[i] (List.getElem_mem hi)
      have hl := vi_len vs[i]
      rw [wrapU64 _ v0 (by omega), Of.pure _ v0 (by omega)]
      dsimp only
      rw [Raw.pure _ _ (by omega)]
      dsimp only
      rw [wrap_small _ (by omega) (by omega), show ((i : Int) + 1) = ((i + 1 : Nat) : Int) from by omega, ih (i + 1) _ (by omega) (by omega) (by simp; omega), List.drop_eq_getElem_cons hi, List.flatMap_cons]
      simp
    · rw [if_neg (by simp; omega), List.drop_of_length_le (by omega)]
      simp
theorem Form.pure (l vs : List Int) (hv : ∀ v ∈ vs, 0 ≤ v ∧ v < 9223372036854775808) (hn : vs.length < 1000) (hl : l.length + 10 * vs.length ≤ 1099511627776) : gen3_writer_form.f BIG l vs = some (l ++ vs.flatMap vi) := by
  unfold gen3_writer_form.f gen3_writer_form.b
  exact Form.loop BIG l vs hv hn BIG 0 l (by omega) (by rw [BIG_eq]; omega) (by omega)
/-- a number, so that small ones of either sign are small -/
noncomputable def zigF (n : Int) : Int := if n ≥ 0 then 2 * n else -2 * n - 1
theorem xor_zero (a : Int) (h0 : 0 ≤ a) (h1 : a < 18446744073709551616) : bits Go.BinOp.xor .u64 a 0 = a := by
  have e : bits Go.BinOp.xor .u64 a 0 = Go.IntKind.wrap .u64 ((BitVec.ofInt 64 a ^^^ 0#64).toNat : Int) := rfl
  rw [e, BitVec.xor_zero, BitVec.toNat_ofInt, wrapU64]
  · omega
  · omega
  · omega
theorem xor_ones (a : Int) (h0 : 0 ≤ a) (h1 : a < 18446744073709551616) : bits Go.BinOp.xor .u64 a 18446744073709551615 = 18446744073709551615 - a := by
  have e : bits Go.BinOp.xor .u64 a 18446744073709551615 = Go.IntKind.wrap .u64 ((BitVec.ofInt 64 a ^^^ BitVec.ofInt 64 18446744073709551615).toNat : Int) := rfl
  rw [e, show BitVec.ofInt 64 18446744073709551615 = BitVec.allOnes 64 from by decide +kernel, BitVec.xor_allOnes, BitVec.toNat_not, BitVec.toNat_ofInt, wrapU64]
  · omega
  · omega
  · omega
theorem Zig.pure (n : Int) (h0 : -4611686018427387904 ≤ n) (h1 : n < 4611686018427387904) : varint_Zig.f BIG n = some (zigF n) := by
  unfold varint_Zig.f varint_Zig.b zigF
  rw [show ((2 : Int) ^ (Min.min (Int.toNat (1 : Int)) (Go.IntKind.bits .u64))) = 2 from rfl, show ((2 : Int) ^ (Min.min (Int.toNat (63 : Int)) (Go.IntKind.bits .i64))) = 9223372036854775808 from by decide +kernel, Int.fdiv_eq_ediv_of_nonneg _ (by omega)]
  by_cases h : n ≥ 0
  · rw [if_pos h, show n / 9223372036854775808 = 0 from by omega, wrapU64 n (by omega) (by omega), wrapU64 _ (by omega) (by omega), wrapU64 0 (by omega) (by omega), xor_zero _ (by omega) (by omega)]
    congr 1
    omega
  · rw [if_neg h, show n / 9223372036854775808 = -1 from by omega]
    have e1 : Go.IntKind.wrap .u64 n = n + 18446744073709551616 := by simp [Go.IntKind.wrap, IntKind.signed, IntKind.bits]; omega
    have e2 : Go.IntKind.wrap .u64 ((n + 18446744073709551616) * 2) = 2 * n + 18446744073709551616 := by simp [Go.IntKind.wrap, IntKind.signed, IntKind.bits]; omega
    have e3 : Go.IntKind.wrap .u64 (-1) = 18446744073709551615 := by decide +kernel
    rw [e1, e2, e3, xor_ones _ (by omega) (by omega)]
    congr 1
    omega
theorem One.pure (t : Int) (d : List Int) (h : d.length ≤ 1099511627776) : bag_one.f BIG t d = some (t, d) := by
  unfold bag_one.f bag_one.b
  rw [if_pos (by simp; omega), if_pos (by simp)]
  simp
theorem Copy.loop (fuel : Nat) (b : LF) (b2 : ∀ x ∈ b, x.2.length ≤ 1000000) (hn : b.length < 1000000000) : ∀ (k i : Nat) (acc : LF), i ≤ b.length → b.length - i < k → acc.length ≤ i →
    bag_Copy.l3 fuel b k (b.length : Int) (i : Int) acc = some (acc ++ b.drop i) := by
  intro k
  induction k with
  | zero => intro i acc h1 h2; omega
  | succ k ih =>
    intro i acc h1 h2 h3
    rw [bag_Copy.l3]
    unfold bag_Copy.b3
    simp only [veil_eq]
    by_cases hi : i < b.length
    · rw [if_pos (by simp; omega), idx_at, List.getElem?_eq_getElem hi]
      dsimp only
      have hx := b2 b[i] (List.getElem_mem hi)
      rw [One.pure _ _ (by omega)]
      dsimp only
      rw [if_pos (by simp [lim]; omega), wrap_small _ (by omega) (by omega), show ((i : Int) + 1) = ((i + 1 : Nat) : Int) from by omega, ih (i + 1) _ (by omega) (by omega) (by simp; omega), List.drop_eq_getElem_cons hi]
      simp only [List.append_assoc, List.singleton_append]
    · rw [if_neg (by simp; omega), List.drop_of_length_le (by omega)]
      simp
theorem Copy.pure (b : LF) (hb : ∀ x ∈ b, x.2.length ≤ 1000000) (hn : b.length < 1000000000) : bag_Copy.f BIG b = some b := by
  unfold bag_Copy.f bag_Copy.b
  have := Copy.loop BIG b hb hn BIG 0 [] (by omega) (by rw [BIG_eq]; omega) (by simp)
  rw [show ((0 : Nat) : Int) = 0 from rfl] at this
  rw [this]
  simp
theorem Clone.pure (r : REC) (hb : ∀ x ∈ r.2.2.2.2.2, x.2.length ≤ 1000000) (hn : r.2.2.2.2.2.length < 1000000000) : rec_clone.f BIG r.1 r.2.1 r.2.2.1 r.2.2.2.1.1 r.2.2.2.1.2 r.2.2.2.2.1 r.2.2.2.2.2 = some (r.1, r.2.1, r.2.2.1, r.2.2.2.1.1, r.2.2.2.1.2, r.2.2.2.2.1, r.2.2.2.2.2) := by
  unfold rec_clone.f rec_clone.b
  rw [veil_eq, Copy.pure _ hb hn]
theorem WhereF.loop (fuel : Nat) (l : LR) (id : Int) (hn : l.length < 1000000000) : ∀ (k i : Nat), i ≤ l.length → l.length - i < k →
    rec_where_api_Rec_find.l2 fuel l id k (l.length : Int) (i : Int) id = some (((i + (l.drop i).findIdx (fun r => r.1 == id) : Nat) : Int), id) := by
  intro k
  induction k with
  | zero => intro i h1 h2; omega
  | succ k ih =>
    intro i h1 h2
    rw [rec_where_api_Rec_find.l2]
    unfold rec_where_api_Rec_find.b2
    simp only [veil_eq]
    by_cases hi : i < l.length
    · rw [if_pos (by simp; omega), idx_at, List.getElem?_eq_getElem hi]
      dsimp only
      rw [show rec_Find_c1.f BIG l[i].1 l[i].2.1 l[i].2.2.1 l[i].2.2.2.1.1 l[i].2.2.2.1.2 l[i].2.2.2.2.1 l[i].2.2.2.2.2 id = some ((l[i].1 == id), id) from rfl]
      dsimp only
      rw [List.drop_eq_getElem_cons hi, List.findIdx_cons]
      cases hc : (l[i].1 == id)
      · rw [if_neg (by simp), wrap_small _ (by omega) (by omega), show ((i : Int) + 1) = ((i + 1 : Nat) : Int) from by omega, ih (i + 1) (by omega) (by omega)]
        simp only [cond_false]
        congr 2
        omega
      · rw [if_pos rfl]
        simp
    · rw [if_neg (by simp; omega), List.drop_of_length_le (by omega)]
      simp
      omega
/-- the record of an id -/
noncomputable def oldR (base : LR) (id : Int) : REC × Bool :=
  match base.find? (fun r => r.1 == id) with
  | some r => (r, true)
  | none => ((0, 0, 0, (0, 0), false, []), false)
theorem find_idx (l : LR) (id : Int) : l.find? (fun r => r.1 == id) = l[l.findIdx (fun r => r.1 == id)]? := by
  induction l with
  | nil => rfl
  | cons x l ih =>
    rw [List.find?_cons, List.findIdx_cons]
    cases x.1 == id
    · simp [ih]
    · simp
/-- of a size that is written -/
def fineRecs (l : LR) : Prop := l.length < 1000000000 ∧ ∀ r ∈ l, r.2.2.2.2.2.length < 1000000000 ∧ ∀ x ∈ r.2.2.2.2.2, x.2.length ≤ 1000000
theorem Find.pure (l : LR) (id : Int) (hl : fineRecs l) :
    rec_Find.f BIG l id = some ((oldR l id).1.1, (oldR l id).1.2.1, (oldR l id).1.2.2.1, (oldR l id).1.2.2.2.1.1, (oldR l id).1.2.2.2.1.2, (oldR l id).1.2.2.2.2.1, (oldR l id).1.2.2.2.2.2, (oldR l id).2) := by
  obtain ⟨hn, l2⟩ := hl
  unfold rec_Find.f rec_Find.b
  simp only [veil_eq]
  have hw : rec_where_api_Rec_find.f BIG l id = some (((l.findIdx (fun r => r.1 == id) : Nat) : Int), id) := by
    unfold rec_where_api_Rec_find.f rec_where_api_Rec_find.b
    have := WhereF.loop BIG l id hn BIG 0 (by omega) (by rw [BIG_eq]; omega)
    rw [show ((0 : Nat) : Int) = 0 from rfl] at this
    rw [this]
    simp
  rw [hw]
  dsimp only
  unfold oldR
  rw [find_idx]
  by_cases hi : l.findIdx (fun r => r.1 == id) < l.length
  · rw [if_neg (by simp; omega), idx_at, List.getElem?_eq_getElem hi]
    dsimp only
    have hm := List.getElem_mem hi
    generalize l[l.findIdx (fun r => r.1 == id)] = r at hm ⊢
    rw [Clone.pure r (l2 r hm).2 (l2 r hm).1]
  · have : l.findIdx (fun r => r.1 == id) = l.length := by have := List.findIdx_le_length (xs := l) (p := fun r => r.1 == id); omega
    rw [if_pos (by rw [this]; simp), List.getElem?_eq_none (by omega)]
/-- a bag, written -/
noncomputable def fld3 (x : Int × List Int) : List Int := x.1 :: (vi (x.2.length : Int) ++ x.2)
noncomputable def bag3 (b : LF) : List Int := vi (b.length : Int) ++ b.flatMap fld3
noncomputable def sameSpan (o : REC × Bool) (r : REC) : Bool := o.2 && (o.1.2.2.2.1.1 == r.2.2.2.1.1 && o.1.2.2.2.1.2 == r.2.2.2.1.2)
noncomputable def sameBag (o : REC × Bool) (r : REC) : Bool := o.2 && (!r.2.2.2.2.1 && cmpGo o.1.2.2.2.2.2 r.2.2.2.2.2 == 0)
noncomputable def flagV (o : REC × Bool) (r : REC) : Int := r.2.2.1 + (if r.2.2.2.2.1 then 4 else 0) + (if sameSpan o r then 8 else 0) + (if sameBag o r then 16 else 0)
noncomputable def rec3 (o : REC × Bool) (last : Int) (r : REC) : List Int :=
  vi (r.1 - last - 1) ++ (flagV o r :: ((if sameSpan o r then [] else [r.2.2.2.1.1 * 16 + r.2.2.2.1.2]) ++ (vi (zigF (r.2.1 - o.1.2.1)) ++ (if r.2.2.2.2.1 || sameBag o r then [] else bag3 r.2.2.2.2.2))))
theorem flag_tab : (List.range 32).all (fun n => (bits Go.BinOp.and .i64 (n : Int) 8 == if (n : Int) / 8 % 2 = 1 then 8 else 0) && ((bits Go.BinOp.and .i64 (n : Int) 20 == if (n : Int) / 4 % 2 = 1 then (if (n : Int) / 16 = 1 then 20 else 4) else (if (n : Int) / 16 = 1 then 16 else 0)) && ((decide ((n : Int) ≥ 4) || (bits Go.BinOp.or .i64 (n : Int) 4 == (n : Int) + 4)) && ((decide ((n : Int) ≥ 8) || (bits Go.BinOp.or .i64 (n : Int) 8 == (n : Int) + 8)) && (decide ((n : Int) ≥ 16) || (bits Go.BinOp.or .i64 (n : Int) 16 == (n : Int) + 16)))))) = true := by kernel_rfl
theorem flag_at (v : Int) (h0 : 0 ≤ v) (h1 : v < 32) : (bits Go.BinOp.and .i64 v 8 = if v / 8 % 2 = 1 then 8 else 0) ∧ (bits Go.BinOp.and .i64 v 20 = if v / 4 % 2 = 1 then (if v / 16 = 1 then 20 else 4) else (if v / 16 = 1 then 16 else 0)) ∧ (v < 4 → bits Go.BinOp.or .i64 v 4 = v + 4) ∧ (v < 8 → bits Go.BinOp.or .i64 v 8 = v + 8) ∧ (v < 16 → bits Go.BinOp.or .i64 v 16 = v + 16) := by
  have := List.all_eq_true.1 flag_tab v.toNat (by simp; omega)
  rw [show ((v.toNat : Nat) : Int) = v from by omega] at this
  simp only [Bool.and_eq_true, beq_iff_eq, Bool.or_eq_true, decide_eq_true_eq] at this
  obtain ⟨a, b, c, d, e⟩ := this
  exact ⟨a, b, fun h => c.resolve_left (by omega), fun h => d.resolve_left (by omega), fun h => e.resolve_left (by omega)⟩
theorem fitByte (v : Int) (h0 : 0 ≤ v) (h1 : v < 256) : fitsF 1 v = true := (fitsF_iff 1 v).2 ⟨by omega, by omega, h0, by simpa using h1⟩
theorem be_one (v : Int) (h0 : 0 ≤ v) (h1 : v < 256) : be (Int.toNat (1 : Int)) v = [v] := be1 v h0 h1
theorem put_fields (l : List Int) (id inc st lo hi : Int) (cut : Bool) (bag : LF) (last : Int) (base : LR) (hb : ∀ x ∈ bag, 0 ≤ x.1 ∧ x.1 ≤ 255 ∧ x.2.length ≤ 1000000) (hn : bag.length < 1000000) :
    ∀ (k i : Nat) (acc : List Int), i ≤ bag.length → bag.length - i < k → acc.length + 2000000 * (bag.length - i) ≤ 1000000000000 →
    gen3_writer_put.l17 BIG l id inc st lo hi cut bag last base k (bag.length : Int) (i : Int) acc = some (acc ++ (bag.drop i).flatMap fld3) := by
  intro k
  induction k with
  | zero => intro i acc h1 h2; omega
  | succ k ih =>
    intro i acc h1 h2 h3
    rw [gen3_writer_put.l17_at BIG (k + 1) k rfl]
    unfold gen3_writer_put.b17
    simp only [veil_eq]
    by_cases hi' : i < bag.length
    · rw [if_pos (by simp; omega), idx_at, List.getElem?_eq_getElem hi']
      dsimp only
      obtain ⟨t0, t1, t2⟩ := hb bag[i] (List.getElem_mem hi')
      rw [List.drop_eq_getElem_cons hi', List.flatMap_cons]
      generalize bag[i] = x at t0 t1 t2 ⊢
      have hl := vi_len (x.2.length : Int)
      rw [if_pos ⟨fitByte _ t0 (by omega), (roomy_iff _).2 (by omega)⟩, be_one _ t0 (by omega), Form.pure _ _ (by intro v hv; simp at hv; omega) (by simp) (by simp; omega)]
      dsimp only
      simp only [List.flatMap_cons, List.flatMap_nil, List.append_nil]
      rw [Raw.pure _ _ (by simp; omega)]
      dsimp only
      rw [wrap_small _ (by omega) (by omega), show ((i : Int) + 1) = ((i + 1 : Nat) : Int) from by omega, ih (i + 1) _ (by omega) (by omega) (by simp; omega)]
      simp [fld3]
    · rw [if_neg (by simp; omega), List.drop_of_length_le (by omega)]
      simp
/-- the last part: what has changed of the incarnation, and the bag -/
theorem put13 (l : List Int) (id inc st lo hi : Int) (cut : Bool) (bag : LF) (last : Int) (base : LR) (v : Int) (acc : List Int) (a1 old a3 a4 a5 : Int) (a6 : Bool) (a7 : LF)
    (hb : ∀ x ∈ bag, 0 ≤ x.1 ∧ x.1 ≤ 255 ∧ x.2.length ≤ 1000000) (hn : bag.length < 10000) (hi0 : 0 ≤ inc) (hi1 : inc ≤ 281474976710655) (ho0 : 0 ≤ old) (ho1 : old ≤ 281474976710655) (hv0 : 0 ≤ v) (hv1 : v < 32) (hl : acc.length ≤ 100000000000) :
    gen3_writer_put.l13 BIG l id inc st lo hi cut bag last base BIG v acc a1 old a3 a4 a5 a6 a7 = some (acc ++ (vi (zigF (inc - old)) ++ (if v / 4 % 2 = 1 ∨ v / 16 = 1 then [] else bag3 bag))) := by
  rw [gen3_writer_put.l13_at BIG BIG (BIG - 1) big_eq]
  unfold gen3_writer_put.b13
  simp only [veil_eq]
  have hz : 0 ≤ zigF (inc - old) ∧ zigF (inc - old) < 1000000000000000000 := by unfold zigF; split <;> omega
  have hlz := vi_len (zigF (inc - old))
  rw [wrap_small _ (by omega) (by omega), Zig.pure _ (by omega) (by omega)]
  dsimp only
  rw [Of.pure _ hz.1 (by omega)]
  dsimp only
  rw [Raw.pure _ _ (by omega)]
  dsimp only
  rw [(flag_at v hv0 hv1).2.1]
  by_cases h4 : v / 4 % 2 = 1
  · rw [if_pos h4, if_pos (by split <;> decide), if_pos (.inl h4)]
    simp
  · rw [if_neg h4]
    by_cases h16 : v / 16 = 1
    · rw [if_pos h16, if_pos (by decide), if_pos (.inr h16)]
      simp
    · rw [if_neg h16, if_neg (by decide), if_neg (by omega), Form.pure _ _ (by intro x hx; simp at hx; omega) (by simp) (by simp; omega)]
      dsimp only
      simp only [List.flatMap_cons, List.flatMap_nil, List.append_nil]
      have hlb := vi_len (bag.length : Int)
      have := put_fields l id inc st lo hi cut bag last base hb (by omega) BIG 0 (acc ++ vi (zigF (inc - old)) ++ vi (bag.length : Int)) (by omega) (by rw [BIG_eq]; omega) (by simp; omega)
      rw [show ((0 : Nat) : Int) = 0 from rfl, List.drop_zero] at this
      rw [this]
      simp [bag3]
theorem put9 (l : List Int) (id inc st lo hi : Int) (cut : Bool) (bag : LF) (last : Int) (base : LR) (v : Int) (a1 old a3 a4 a5 : Int) (a6 : Bool) (a7 : LF)
    (hb : ∀ x ∈ bag, 0 ≤ x.1 ∧ x.1 ≤ 255 ∧ x.2.length ≤ 1000000) (hn : bag.length < 10000) (hi0 : 0 ≤ inc) (hi1 : inc ≤ 281474976710655) (ho0 : 0 ≤ old) (ho1 : old ≤ 281474976710655) (hv0 : 0 ≤ v) (hv1 : v < 32) (hl : l.length ≤ 10000000000)
    (hs : okS lo hi = true) (hid : id ≤ 4095) (hlast : -1 ≤ last) (hlt : last < id) :
    gen3_writer_put.l9 BIG l id inc st lo hi cut bag last base BIG v a1 old a3 a4 a5 a6 a7 = some (l ++ (vi (id - last - 1) ++ (v :: ((if v / 8 % 2 = 1 then [] else [lo * 16 + hi]) ++ (vi (zigF (inc - old)) ++ (if v / 4 % 2 = 1 ∨ v / 16 = 1 then [] else bag3 bag)))))) := by
  rw [gen3_writer_put.l9_at BIG BIG (BIG - 1) big_eq]
  unfold gen3_writer_put.b9
  simp only [veil_eq]
  have hlv := vi_len (id - last - 1)
  have hs' := (okS_iff _ _).1 hs
  rw [wrap_small (id - last) (by omega) (by omega), wrap_small (id - last - 1) (by omega) (by omega), Form.pure _ _ (by intro x hx; simp at hx; omega) (by simp) (by simp; omega)]
  dsimp only
  simp only [List.flatMap_cons, List.flatMap_nil, List.append_nil]
  rw [if_pos ⟨fitByte _ hv0 (by omega), (roomy_iff _).2 (by simp; omega)⟩, (flag_at v hv0 hv1).1, be_one v hv0 (by omega), code_eq hs]
  by_cases h8 : v / 8 % 2 = 1
  · rw [if_pos h8, if_neg (by decide), put13 _ _ _ _ _ _ _ _ _ _ _ _ _ _ _ _ _ _ _ hb hn hi0 hi1 ho0 ho1 hv0 hv1 (by simp; omega), if_pos h8]
    simp
  · rw [if_neg h8, if_pos (by decide), if_pos ⟨fitByte _ (by omega) (by omega), (roomy_iff _).2 (by simp; omega)⟩, be_one _ (by omega) (by omega), put13 _ _ _ _ _ _ _ _ _ _ _ _ _ _ _ _ _ _ _ hb hn hi0 hi1 ho0 ho1 hv0 hv1 (by simp; omega), if_neg h8]
    simp
theorem oldR_mem {base : LR} {id : Int} : (oldR base id).2 = false ∧ (oldR base id).1 = (0, 0, 0, (0, 0), false, []) ∨ (oldR base id).2 = true ∧ (oldR base id).1 ∈ base ∧ (oldR base id).1.1 = id := by
  unfold oldR
  cases h : base.find? (fun r => r.1 == id) with
  | none => exact .inl ⟨rfl, rfl⟩
  | some r => exact .inr ⟨rfl, List.mem_of_find?_eq_some h, by have := List.find?_some h; simpa using this⟩
theorem fine_of {base : LR} (h : ∀ r ∈ base, recOkT r = true) (hn : base.length < 1000000000) : fineRecs base := by
  refine ⟨hn, fun r hr => ?_⟩
  have hb := (recOk_facts (h r hr)).2.2.2.2.2.2.2.1
  have hl := bagOk_len hb
  exact ⟨by omega, fun x hx => by have := bag_tags hb x hx; omega⟩
theorem put.pure (l : List Int) (r : REC) (last : Int) (base : LR) (hr : recOkT r = true) (hbase : ∀ x ∈ base, recOkT x = true) (hbn : base.length < 1000000000) (hlast : -1 ≤ last) (hlt : last < r.1) (hl : l.length ≤ 10000000000) :
    gen3_writer_put.f BIG l r.1 r.2.1 r.2.2.1 r.2.2.2.1.1 r.2.2.2.1.2 r.2.2.2.2.1 r.2.2.2.2.2 last base = some (l ++ rec3 (oldR base r.1) last r) := by
  obtain ⟨f1, f2, f3, f4, f5, f6, f7, f8, f9⟩ := recOk_facts hr
  have hbl := bagOk_len f8
  have hbt := bag_tags f8
  have hb : ∀ x ∈ r.2.2.2.2.2, 0 ≤ x.1 ∧ x.1 ≤ 255 ∧ x.2.length ≤ 1000000 := fun x hx => by have := hbt x hx; omega
  have hold : 0 ≤ (oldR base r.1).1.2.1 ∧ (oldR base r.1).1.2.1 ≤ 281474976710655 ∧ smallBag (oldR base r.1).1.2.2.2.2.2 = true := by
    rcases oldR_mem (base := base) (id := r.1) with ⟨_, h⟩ | ⟨_, h, _⟩
    · rw [h]; exact ⟨by simp, by simp, rfl⟩
    · have := recOk_facts (hbase _ h)
      have hb2 := bagOk_len this.2.2.2.2.2.2.2.1
      exact ⟨this.2.2.1, this.2.2.2.1, (smallBag_iff _).2 ⟨by omega, fun x hx => by have := bag_tags this.2.2.2.2.2.2.2.1 x hx; omega⟩⟩
  have hsb : smallBag r.2.2.2.2.2 = true := (smallBag_iff _).2 ⟨by omega, fun x hx => by have := hbt x hx; omega⟩
  unfold gen3_writer_put.f gen3_writer_put.b
  simp only [veil_eq]
  rw [Find.pure base r.1 (fine_of hbase hbn)]
  dsimp only
  unfold rec3 flagV sameSpan sameBag
  generalize oldR base r.1 = o at hold ⊢
  obtain ⟨o0, o1, o2⟩ := hold
  -- what comes behind the first flag
  have h9 : ∀ v a1 a3 a4 a5 a6 a7, 0 ≤ v → v < 32 → gen3_writer_put.l9 BIG l r.1 r.2.1 r.2.2.1 r.2.2.2.1.1 r.2.2.2.1.2 r.2.2.2.2.1 r.2.2.2.2.2 last base BIG v a1 o.1.2.1 a3 a4 a5 a6 a7 = _ :=
    fun v a1 a3 a4 a5 a6 a7 hv0 hv1 => put9 l r.1 r.2.1 r.2.2.1 r.2.2.2.1.1 r.2.2.2.1.2 r.2.2.2.2.1 r.2.2.2.2.2 last base v a1 o.1.2.1 a3 a4 a5 a6 a7 hb (by omega) f3 f4 o0 o1 hv0 hv1 hl f7 f2 hlast hlt
  have h7 : ∀ v, 0 ≤ v → v < 16 → gen3_writer_put.l7 BIG l r.1 r.2.1 r.2.2.1 r.2.2.2.1.1 r.2.2.2.1.2 r.2.2.2.2.1 r.2.2.2.2.2 last base BIG o.2 v o.1.1 o.1.2.1 o.1.2.2.1 o.1.2.2.2.1.1 o.1.2.2.2.1.2 o.1.2.2.2.2.1 o.1.2.2.2.2.2 =
      gen3_writer_put.l9 BIG l r.1 r.2.1 r.2.2.1 r.2.2.2.1.1 r.2.2.2.1.2 r.2.2.2.2.1 r.2.2.2.2.2 last base BIG (v + if (o.2 && (!r.2.2.2.2.1 && cmpGo o.1.2.2.2.2.2 r.2.2.2.2.2 == 0)) = true then 16 else 0) o.1.1 o.1.2.1 o.1.2.2.1 o.1.2.2.2.1.1 o.1.2.2.2.1.2 o.1.2.2.2.2.1 o.1.2.2.2.2.2 := by
    intro v hv0 hv1
    rw [gen3_writer_put.l7_at BIG BIG (BIG - 1) big_eq]
    unfold gen3_writer_put.b7
    cases o.2
    · simp
    · cases r.2.2.2.2.1
      · simp only [Bool.not_false, if_true, o2, hsb, Bool.and_self, Bool.true_and]
        by_cases hc : cmpGo o.1.2.2.2.2.2 r.2.2.2.2.2 = 0
        · simp only [hc, beq_self_eq_true, if_true]
          rw [(flag_at v hv0 (by omega)).2.2.2.2 hv1]
        · have : (cmpGo o.1.2.2.2.2.2 r.2.2.2.2.2 == 0) = false := by simpa using hc
          simp [this]
      · simp
  have h5 : ∀ v, 0 ≤ v → v < 8 → gen3_writer_put.l5 BIG l r.1 r.2.1 r.2.2.1 r.2.2.2.1.1 r.2.2.2.1.2 r.2.2.2.2.1 r.2.2.2.2.2 last base BIG o.2 v o.1.1 o.1.2.1 o.1.2.2.1 o.1.2.2.2.1.1 o.1.2.2.2.1.2 o.1.2.2.2.2.1 o.1.2.2.2.2.2 =
      gen3_writer_put.l7 BIG l r.1 r.2.1 r.2.2.1 r.2.2.2.1.1 r.2.2.2.1.2 r.2.2.2.2.1 r.2.2.2.2.2 last base BIG o.2 (v + if (o.2 && (o.1.2.2.2.1.1 == r.2.2.2.1.1 && o.1.2.2.2.1.2 == r.2.2.2.1.2)) = true then 8 else 0) o.1.1 o.1.2.1 o.1.2.2.1 o.1.2.2.2.1.1 o.1.2.2.2.1.2 o.1.2.2.2.2.1 o.1.2.2.2.2.2 := by
    intro v hv0 hv1
    rw [gen3_writer_put.l5_at BIG BIG (BIG - 1) big_eq]
    unfold gen3_writer_put.b5
    cases o.2
    · simp
    · cases h1 : (o.1.2.2.2.1.1 == r.2.2.2.1.1)
      · simp
      · cases h2 : (o.1.2.2.2.1.2 == r.2.2.2.1.2)
        · simp
        · simp only [if_true, Bool.and_self]
          rw [(flag_at v hv0 (by omega)).2.2.2.1 hv1]
  have hst : ∀ A : Int → Option (List Int), (if r.2.2.2.2.1 then A (bits Go.BinOp.or .i64 r.2.2.1 4) else A r.2.2.1) = A (r.2.2.1 + if r.2.2.2.2.1 then 4 else 0) := by
    intro A
    cases r.2.2.2.2.1
    · simp
    · simp only [if_true]
      rw [(flag_at r.2.2.1 f5 (by omega)).2.2.1 (by omega)]
  rw [hst (fun v => gen3_writer_put.l5 BIG l r.1 r.2.1 r.2.2.1 r.2.2.2.1.1 r.2.2.2.1.2 r.2.2.2.2.1 r.2.2.2.2.2 last base BIG o.2 v o.1.1 o.1.2.1 o.1.2.2.1 o.1.2.2.2.1.1 o.1.2.2.2.1.2 o.1.2.2.2.2.1 o.1.2.2.2.2.2)]
  generalize hs1 : (o.2 && (o.1.2.2.2.1.1 == r.2.2.2.1.1 && o.1.2.2.2.1.2 == r.2.2.2.1.2)) = s1 at h5 ⊢
  generalize hs2 : (o.2 && (!r.2.2.2.2.1 && cmpGo o.1.2.2.2.2.2 r.2.2.2.2.2 == 0)) = s2 at h7 ⊢
  have hcut : s2 = true → r.2.2.2.2.1 = false := by
    intro h
    rw [← hs2] at h
    simp at h
    exact h.2.1
  rw [h5 _ (by split <;> omega) (by split <;> omega), h7 _ (by split <;> split <;> omega) (by split <;> split <;> omega), h9 _ _ _ _ _ _ _ (by split <;> split <;> split <;> omega) (by split <;> split <;> split <;> omega)]
  congr 2
  congr 1
  generalize r.2.2.2.2.1 = c at hcut ⊢
  generalize r.2.2.1 = st at f5 f6 ⊢
  have hst4 : st = 0 ∨ st = 1 ∨ st = 2 ∨ st = 3 := by omega
  cases c <;> cases s1 <;> cases s2 <;> rcases hst4 with rfl | rfl | rfl | rfl <;> first | rfl | simp at hcut
theorem viF_le : ∀ (j k : Nat) (v : Int), 0 ≤ v → v < 128 ^ (k + 1) → (viF j v).length ≤ k + 1
  | 0, k, v, _, _ => by simp [viF]
  | j + 1, k, v, h0, h => by
    rw [viF]
    split
    · rename_i hc
      cases k with
      | zero => simp at h; omega
      | succ k =>
        have := viF_le j k (v / 128) (by omega) (by rw [Int.pow_succ] at h; generalize (128 : Int) ^ (k + 1) = M at h ⊢; omega)
        simp; omega
    · simp
theorem vi_le (k : Nat) (v : Int) (h0 : 0 ≤ v) (h : v < 128 ^ (k + 1)) : (vi v).length ≤ k + 1 := viF_le 9 k v h0 h
noncomputable def recs3 (base : LR) : Int → LR → List Int
  | _, [] => []
  | last, r :: rs => rec3 (oldR base r.1) last r ++ recs3 base r.1 rs
noncomputable def head3 (kind from0 inc lo hi seq target life epoch base : Int) (n : Int) : List Int :=
  kind :: (vi from0 ++ (vi inc ++ ((lo * 16 + hi) :: ((if hasF kind 0 then vi seq else []) ++ ((if hasF kind 1 then vi target else []) ++ ((if hasF kind 2 then vi life ++ vi epoch else []) ++ ((if hasF kind 3 then vi base else []) ++ (if hasF kind 4 then vi n else []))))))))
noncomputable def baseF (base : Int) (l : LR) : LR := if base == 0 then [] else l
noncomputable def body3 (kind from0 inc lo hi seq target life epoch base : Int) (recs : LR) (l : LR) : List Int :=
  head3 kind from0 inc lo hi seq target life epoch base (recs.length : Int) ++ recs3 (baseF base l) (-1) recs
theorem fld3_len {x : Int × List Int} (h : x.2.length ≤ 4096) : (fld3 x).length ≤ 3 + x.2.length := by
  have := vi_le 1 (x.2.length : Int) (by omega) (by simp; omega)
  simp [fld3]; omega
theorem flat3_len : ∀ (b : LF), (∀ x ∈ b, x.2.length ≤ 4096) → (((b.flatMap fld3).length : Nat) : Int) ≤ bagLen b
  | [], _ => by simp [bagLen]
  | x :: b, h => by
    have h1 := fld3_len (h x (by simp))
    have h2 := flat3_len b fun y hy => h y (by simp [hy])
    have e : bagLen (x :: b) = 3 + x.2.length + bagLen b := by simp [bagLen]
    rw [List.flatMap_cons, List.length_append, e]
    omega
theorem bag3_len {b : LF} (h : bagOk b = true) : ((bag3 b).length : Int) ≤ 1 + bagLen b := by
  have hl := bagOk_len h
  have ht := bag_tags h
  have h1 := vi_le 0 (b.length : Int) (by omega) (by simp; omega)
  have h2 := flat3_len b fun x hx => (ht x hx).2.2
  unfold bag3
  rw [List.length_append]
  omega
/-- a record without a base -/
theorem rec3_len {r : REC} {last : Int} (hr : recOkT r = true) (h1 : -1 ≤ last) (h2 : last < r.1) (k : Nat) (hk : 2 * r.2.1 < 128 ^ (k + 1)) : ((rec3 ((0, 0, 0, (0, 0), false, []), false) last r).length : Int) ≤ 6 + k + bagLen r.2.2.2.2.2 := by
  obtain ⟨f1, f2, f3, f4, f5, f6, f7, f8, f9⟩ := recOk_facts hr
  have a1 := vi_le 1 (r.1 - last - 1) (by omega) (by simp; omega)
  have hz : zigF (r.2.1 - 0) = 2 * r.2.1 := by unfold zigF; rw [if_pos (by omega)]; omega
  have a2 := vi_le k (2 * r.2.1) (by omega) hk
  have a3 := bag3_len f8
  have a4 := (bagOk_len f8).2.1
  unfold rec3
  simp only [sameSpan, sameBag, Bool.false_and, Bool.false_eq_true, if_false, Bool.or_false, hz, List.length_append, List.length_cons, List.length_nil]
  cases r.2.2.2.2.1
  · simp only [Bool.false_eq_true, if_false]
    omega
  · simp only [if_true, List.length_nil]
    omega
theorem oldR_nil (id : Int) : oldR [] id = ((0, 0, 0, (0, 0), false, []), false) := rfl
/-- by rising ids -/
def risen : Int → LR → Prop
  | _, [] => True
  | last, r :: rs => last < r.1 ∧ risen r.1 rs
theorem whGo_risen : ∀ (l : LR) (i last : Int), (whGo l i last).1 = i + (l.length : Int) → risen last l
  | [], _, _, _ => trivial
  | x :: l, i, last, h => by
    unfold whGo at h
    split at h
    · simp at h; omega
    · rename_i hc
      simp only [Bool.or_eq_true, not_or, Bool.not_eq_true', Bool.not_eq_false] at hc
      exact ⟨by simpa using hc.2, whGo_risen l (i + 1) x.1 (by simp only [List.length_cons] at h; omega)⟩
theorem sorted_facts {l : LR} (h : sortedF l = true) : (∀ r ∈ l, recOkT r = true) ∧ risen (-1) l := by
  unfold sortedF at h
  have h' : (whGo l 0 (-1)).1 = 0 + (l.length : Int) := by simpa using h
  exact ⟨whGo_all l 0 (-1) h', whGo_risen l 0 (-1) h'⟩
theorem lives_facts {kind life epoch base : Int} (h : livesF kind life epoch base = true) : 0 ≤ life ∧ life ≤ 281474976710655 ∧ 0 ≤ epoch ∧ epoch ≤ 65535 ∧ 0 ≤ base ∧ base ≤ 65535 ∧ (hasF kind 2 = false → life = 0 ∧ epoch = 0) ∧ (hasF kind 3 = false → base = 0) ∧ (base = 0 ∨ base < epoch) ∧ (epoch = 0 → life = 0 ∧ kind ≠ 9) := by
  unfold livesF at h
  split at h
  · cases h
  rename_i c1
  split at h
  · cases h
  rename_i c2
  simp only [Bool.or_eq_true, Bool.not_eq_true', not_or, Bool.not_eq_false] at c1
  have w1 := within_facts c1.1 (by omega)
  have w2 := within_facts c1.2 (by omega)
  simp only [Bool.or_eq_true, Bool.and_eq_true, beq_iff_eq, decide_eq_true_eq, bne_iff_ne, ne_eq] at h c2
  refine ⟨w1.1, w1.2, w2.1, w2.2, by omega, by omega, ?_, ?_, by omega, ?_⟩
  · intro h2
    rw [h2] at c1
    simp [withinF] at c1
    exact ⟨c1.1, c1.2⟩
  · intro h3
    rw [h3] at h
    simpa using h
  · intro he
    refine ⟨?_, ?_⟩
    · exact Classical.byContradiction fun hl => c2 ⟨he, .inl hl⟩
    · exact fun hk => c2 ⟨he, .inr hk⟩
theorem valid_recs {kind from0 inc lo hi seq target life epoch base : Int} {recs : LR} (h : validF kind from0 inc lo hi seq target life epoch base recs = true) :
    (hasF kind 4 = false → recs = []) ∧ risen (-1) recs := by
  unfold validF at h
  have h1 : ((ofF kind).1.toList == (⟨#[]⟩ : ByteArray).toList || (decide (from0 < 0) || (decide (from0 > 4095) || (decide (inc < 0) || (decide (inc > 281474976710655) || !okS lo hi))))) = false := by
    cases hc : ((ofF kind).1.toList == (⟨#[]⟩ : ByteArray).toList || (decide (from0 < 0) || (decide (from0 > 4095) || (decide (inc < 0) || (decide (inc > 281474976710655) || !okS lo hi))))) with
    | false => rfl
    | true => rw [hc] at h; cases h
  rw [h1] at h
  have h2 : (!withinF (hasF kind 0) seq 0 65535 || (!withinF (hasF kind 1) target (if kind == 3 then 1 else 0) (if kind == 3 then 3 else 4095) || !livesF kind life epoch base)) = false := by
    cases hc : (!withinF (hasF kind 0) seq 0 65535 || (!withinF (hasF kind 1) target (if kind == 3 then 1 else 0) (if kind == 3 then 3 else 4095) || !livesF kind life epoch base)) with
    | false => rfl
    | true => rw [hc] at h; cases h
  rw [h2] at h
  simp only [Bool.false_eq_true, if_false] at h
  cases h4 : hasF kind 4
  · rw [h4] at h
    have : recs = [] := List.eq_nil_of_length_eq_zero (by simpa using h)
    subst this
    exact ⟨fun _ => rfl, trivial⟩
  · rw [h4] at h
    simp at h
    exact ⟨by simp, (sorted_facts h.2).2⟩
theorem rec3_any {o : REC × Bool} {r : REC} {last : Int} (hr : recOkT r = true) : (rec3 o last r).length ≤ 5000 := by
  obtain ⟨f1, f2, f3, f4, f5, f6, f7, f8, f9⟩ := recOk_facts hr
  have a1 := vi_len (r.1 - last - 1)
  have a2 := vi_len (zigF (r.2.1 - o.1.2.1))
  have a3 := bag3_len f8
  have a4 := bagOk_len f8
  unfold rec3
  simp only [List.length_append, List.length_cons]
  have e1 : (if sameSpan o r = true then ([] : List Int) else [r.2.2.2.1.1 * 16 + r.2.2.2.1.2]).length ≤ 1 := by split <;> simp
  have e2 : (if (r.2.2.2.2.1 || sameBag o r) = true then ([] : List Int) else bag3 r.2.2.2.2.2).length ≤ 4300 := by
    split
    · simp
    · omega
  omega
theorem lay_recs (kind from0 inc lo hi seq target life epoch base : Int) (recs l base' : LR) (hr : ∀ r ∈ recs, recOkT r = true) (hb : ∀ r ∈ base', recOkT r = true) (hbn : base'.length < 1000000000) (hn : recs.length ≤ 1000) :
    ∀ (k i : Nat) (last : Int) (acc : List Int), i ≤ recs.length → recs.length - i < k → -1 ≤ last → risen last (recs.drop i) → acc.length + 5000 * (recs.length - i) ≤ 1000000000 →
    gen3_lay.l19 BIG kind from0 inc lo hi seq target life epoch base recs l k base' last (recs.length : Int) (i : Int) acc = some (acc ++ recs3 base' last (recs.drop i)) := by
  intro k
  induction k with
  | zero => intro i last acc h1 h2; omega
  | succ k ih =>
    intro i last acc h1 h2 h3 h4 h5
    rw [gen3_lay.l19]
    unfold gen3_lay.b19
    simp only [veil_eq]
    by_cases hi' : i < recs.length
    · rw [if_pos (by simp; omega), idx_at, List.getElem?_eq_getElem hi']
      dsimp only
      have hm := hr recs[i] (List.getElem_mem hi')
      rw [List.drop_eq_getElem_cons hi'] at h4 ⊢
      generalize recs[i] = r at hm h4 ⊢
      obtain ⟨h6, h7⟩ := h4
      have hlen := rec3_any (o := oldR base' r.1) (last := last) hm
      rw [put.pure acc r last base' hm hb hbn h3 h6 (by omega)]
      dsimp only
      have hid := (recOk_facts hm).1
      rw [wrap_small _ (by omega) (by omega), show ((i : Int) + 1) = ((i + 1 : Nat) : Int) from by omega, ih (i + 1) r.1 _ (by omega) (by omega) (by omega) h7 (by simp; omega)]
      simp [recs3]
    · rw [if_neg (by simp; omega), List.drop_of_length_le (by omega), if_pos ((roomy_iff _).2 (by omega))]
      simp [recs3]
theorem kind_byte {kind : Int} (h1 : 1 ≤ kind) (h2 : kind ≤ 9) : fitsF 1 kind = true := fitByte kind (by omega) (by omega)
theorem Form1 (l : List Int) (a : Int) (h0 : 0 ≤ a) (h1 : a < 9223372036854775808) (hl : l.length ≤ 1000000) : gen3_writer_form.f BIG l [a] = some (l ++ vi a) := by
  rw [Form.pure l [a] (by intro v hv; simp at hv; omega) (by simp) (by simp; omega)]
  simp
theorem Form2 (l : List Int) (a b : Int) (h0 : 0 ≤ a) (h1 : a < 9223372036854775808) (h2 : 0 ≤ b) (h3 : b < 9223372036854775808) (hl : l.length ≤ 1000000) : gen3_writer_form.f BIG l [a, b] = some (l ++ (vi a ++ vi b)) := by
  rw [Form.pure l [a, b] (by intro v hv; simp at hv; omega) (by simp) (by simp; omega)]
  simp
set_option maxHeartbeats 4000000 in
theorem lay.pure (kind from0 inc lo hi seq target life epoch base : Int) (recs l : LR) (hv : validF kind from0 inc lo hi seq target life epoch base recs = true) (hl : ∀ r ∈ l, recOkT r = true) (hln : l.length < 1000000000) :
    gen3_lay.f BIG kind from0 inc lo hi seq target life epoch base recs l = some (body3 kind from0 inc lo hi seq target life epoch base recs l) := by
  obtain ⟨v1, v2, v3, v4, v5, v6, v7, v8, v9, v10, v11, v12, v13, v14⟩ := valid_facts hv
  obtain ⟨w1, w2, w3, w4, w5, w6, _⟩ := lives_facts v12
  obtain ⟨_, hris⟩ := valid_recs hv
  have hs := (okS_iff _ _).1 v7
  have n1 := vi_len from0
  have n2 := vi_len inc
  have n3 := vi_len seq
  have n4 := vi_len target
  have n5 := vi_len life
  have n6 := vi_len epoch
  have n7 := vi_len base
  have n8 := vi_len (recs.length : Int)
  have hlp : ∀ (base' : LR) (hb : ∀ r ∈ base', recOkT r = true) (hbn : base'.length < 1000000000) (acc : List Int), acc.length ≤ 1000 → gen3_lay.l19 BIG kind from0 inc lo hi seq target life epoch base recs l BIG base' (-1) (recs.length : Int) 0 acc = some (acc ++ recs3 base' (-1) recs) := by
    intro base' hb hbn acc ha
    have := lay_recs kind from0 inc lo hi seq target life epoch base recs l base' v14 hb hbn (by omega) BIG 0 (-1) acc (by omega) (by rw [BIG_eq]; omega) (by omega) (by simpa using hris) (by omega)
    simpa using this
  have hb0 : ∀ acc : List Int, acc.length ≤ 1000 → gen3_lay.l19 BIG kind from0 inc lo hi seq target life epoch base recs l BIG [] (-1) (recs.length : Int) 0 acc = some (acc ++ recs3 [] (-1) recs) := fun acc ha => hlp [] (by simp) (by simp) acc ha
  have hb1 : ∀ acc : List Int, acc.length ≤ 1000 → gen3_lay.l19 BIG kind from0 inc lo hi seq target life epoch base recs l BIG l (-1) (recs.length : Int) 0 acc = some (acc ++ recs3 l (-1) recs) := fun acc ha => hlp l hl hln acc ha
  clear hlp
  unfold gen3_lay.f gen3_lay.b
  simp only [veil_eq]
  rw [kind_byte v1 v2, be_one kind (by omega) (by omega), code_eq v7, fitByte (lo * 16 + hi) (by omega) (by omega), be_one (lo * 16 + hi) (by omega) (by omega), Form2 [kind] from0 inc (by omega) (by omega) (by omega) (by omega) (by simp)]
  dsimp only
  have hro : roomy ([kind] ++ (vi from0 ++ vi inc)) = true := (roomy_iff _).2 (by simp; omega)
  unfold body3 head3 baseF
  simp only [if_true, hro, and_self]
  cases hb : (base == 0) <;> cases h0 : hasF kind 0 <;> cases h1 : hasF kind 1 <;> cases h2 : hasF kind 2 <;> cases h3 : hasF kind 3 <;> cases h4 : hasF kind 4 <;>
    simp only [Bool.false_eq_true, if_false, if_true] <;>
    repeat (first | (rw [Form1 _ _ (by omega) (by omega) (by simp; omega)]; dsimp only) | (rw [Form2 _ _ _ (by omega) (by omega) (by omega) (by omega) (by simp; omega)]; dsimp only))
  all_goals (first | rw [hb0 _ (by simp; omega)] | rw [hb1 _ (by simp; omega)])
  all_goals simp
noncomputable def size3 (kind from0 inc lo hi seq target life epoch base : Int) (recs l : LR) : Int :=
  if validF kind from0 inc lo hi seq target life epoch base recs && sortedF l then ((body3 kind from0 inc lo hi seq target life epoch base recs l).length : Int) else 0
theorem Size3.pure (kind from0 inc lo hi seq target life epoch base : Int) (recs l : LR) (hr : smallRecs recs = true) (hl : smallRecs l = true) (hln : l.length < 1000000000) :
    gen3_Size.f BIG kind from0 inc lo hi seq target life epoch base recs l = some (size3 kind from0 inc lo hi seq target life epoch base recs l) := by
  unfold gen3_Size.f gen3_Size.b size3
  simp only [veil_eq]
  rw [hr, hl]
  cases hv : validF kind from0 inc lo hi seq target life epoch base recs
  · rfl
  · cases hs : sortedF l
    · rfl
    · rw [lay.pure kind from0 inc lo hi seq target life epoch base recs l hv (sorted_facts hs).1 hln]
      rfl
/-- how many bytes a body has in a generation -/
noncomputable def bytesF (kind from0 inc lo hi seq target life epoch base : Int) (recs : LR) (gen : Int) : Int :=
  if gen == 1 then 15 + 5 * (recs.length : Int) else if gen == 2 then size2 kind from0 inc lo hi seq target life epoch base recs else size3 kind from0 inc lo hi seq target life epoch base recs []
noncomputable def shapedF (kind from0 inc lo hi seq target life epoch base : Int) (recs : LR) (gen : Int) : Bool := validF kind from0 inc lo hi seq target life epoch base recs && (decide (gen ≥ 1) && decide (gen ≤ 3))
theorem Shaped.pure (kind from0 inc lo hi seq target life epoch base : Int) (recs : LR) (gen : Int) (hr : smallRecs recs = true) :
    fit_shaped.f BIG kind from0 inc lo hi seq target life epoch base recs gen = some (shapedF kind from0 inc lo hi seq target life epoch base recs gen) := by
  unfold fit_shaped.f fit_shaped.b shapedF
  rw [hr]
  cases validF kind from0 inc lo hi seq target life epoch base recs
  · simp
  · by_cases h1 : gen ≥ 1
    · simp [h1]
    · simp [h1]
theorem FitBytes.pure (kind from0 inc lo hi seq target life epoch base : Int) (recs : LR) (gen : Int) (hr : smallRecs recs = true) (hn : recs.length < 1000000000) :
    fit_Bytes.f BIG kind from0 inc lo hi seq target life epoch base recs gen = some (if shapedF kind from0 inc lo hi seq target life epoch base recs gen then bytesF kind from0 inc lo hi seq target life epoch base recs gen else 0) := by
  unfold fit_Bytes.f fit_Bytes.b bytesF
  simp only [veil_eq]
  rw [Shaped.pure _ _ _ _ _ _ _ _ _ _ recs gen hr, hr, Size3.pure _ _ _ _ _ _ _ _ _ _ recs [] hr rfl (by simp), wrap_small (5 * (recs.length : Int)) (by omega) (by omega), wrap_small (15 + 5 * (recs.length : Int)) (by omega) (by omega)]
  dsimp only
  cases shapedF kind from0 inc lo hi seq target life epoch base recs gen
  · rfl
  · cases h1 : (gen == 1)
    · cases h2 : (gen == 2)
      · rfl
      · rfl
    · rfl
theorem recs3_bare : ∀ (recs : LR) (last : Int), (∀ r ∈ recs, recOkT r = true ∧ r.2.2.2.2.2 = []) → -1 ≤ last → risen last recs → (recs3 [] last recs).length ≤ 12 * recs.length
  | [], last, _, _, _ => by simp [recs3]
  | r :: recs, last, h, h1, ⟨h2, h3⟩ => by
    obtain ⟨a, b⟩ := h r (by simp)
    have ih := recs3_bare recs r.1 (fun x hx => h x (by simp [hx])) (by omega) h3
    have hf := recOk_facts a
    have hb := rec3_len a h1 h2 6 (by simp; omega)
    rw [b] at hb
    have e : bagLen [] = 0 := by simp [bagLen]
    rw [e] at hb
    rw [recs3, oldR_nil, List.length_append, List.length_cons]
    omega
theorem head3_len {kind from0 inc lo hi seq target life epoch base : Int} {recs : LR} (hv : validF kind from0 inc lo hi seq target life epoch base recs = true) :
    (head3 kind from0 inc lo hi seq target life epoch base (recs.length : Int)).length ≤ 11 + (if hasF kind 0 then 3 else 0) + (if hasF kind 1 then 2 else 0) + (if hasF kind 2 then (vi life).length + (vi epoch).length else 0) + (if hasF kind 3 then (vi base).length else 0) + 2 := by
  obtain ⟨v1, v2, v3, v4, v5, v6, v7, v8, v9, v10, v11, v12, v13, v14⟩ := valid_facts hv
  have a1 := vi_le 1 from0 v3 (by simp; omega)
  have a2 := vi_le 6 inc v5 (by simp; omega)
  have a3 := vi_le 2 seq v8 (by simp; omega)
  have a4 := vi_le 1 target v10 (by simp; omega)
  have a5 := vi_le 1 (recs.length : Int) (by omega) (by simp; omega)
  unfold head3
  cases hasF kind 0 <;> cases hasF kind 1 <;> cases hasF kind 2 <;> cases hasF kind 3 <;> cases hasF kind 4 <;> simp only [Bool.false_eq_true, if_false, if_true, List.length_cons, List.length_append, List.length_nil] <;> omega
theorem baseF_nil (base : Int) : baseF base [] = [] := by unfold baseF; split <;> rfl
/-- bare records have room in generation 3 -/
theorem size3_bare {kind from0 inc lo hi seq target life epoch base : Int} {recs : LR} (hv : validF kind from0 inc lo hi seq target life epoch base recs = true) (hb : ∀ r ∈ recs, r.2.2.2.2.2 = []) :
    size3 kind from0 inc lo hi seq target life epoch base recs [] ≤ 65499 := by
  obtain ⟨v1, v2, v3, v4, v5, v6, v7, v8, v9, v10, v11, v12, v13, v14⟩ := valid_facts hv
  have hh := head3_len hv
  have hr := recs3_bare recs (-1) (fun r hr => ⟨v14 r hr, hb r hr⟩) (by omega) (valid_recs hv).2
  have a1 := vi_len life
  have a2 := vi_len epoch
  have a3 := vi_len base
  unfold size3
  rw [hv, show sortedF [] = true from rfl]
  simp only [Bool.and_self, if_true]
  unfold body3
  rw [baseF_nil, List.length_append]
  cases h0 : hasF kind 0 <;> cases h1 : hasF kind 1 <;> cases h2 : hasF kind 2 <;> cases h3 : hasF kind 3 <;> rw [h0, h1, h2, h3] at hh <;> simp only [Bool.false_eq_true, if_false, if_true] at hh <;> omega
theorem recsLen_bare : ∀ (recs : LR), (∀ r ∈ recs, r.2.2.2.2.2 = []) → recsLen recs = 23 * (recs.length : Int)
  | [], _ => by simp [recsLen]
  | r :: recs, h => by
    have ih := recsLen_bare recs fun x hx => h x (by simp [hx])
    rw [recsLen, recLen, h r (by simp), ih, List.length_cons]
    simp [bagLen]
    omega
/-- bare records have room in generation 2 -/
theorem size2_bare {kind from0 inc lo hi seq target life epoch base : Int} {recs : LR} (hv : validF kind from0 inc lo hi seq target life epoch base recs = true) (hb : ∀ r ∈ recs, r.2.2.2.2.2 = []) :
    size2 kind from0 inc lo hi seq target life epoch base recs ≤ 65499 := by
  have v13 := (valid_facts hv).2.2.2.2.2.2.2.2.2.2.2.2.1
  have hfl := flatR_len recs
  have hrl := recsLen_bare recs hb
  rw [size_body hv]
  unfold body2
  simp only [List.length_append, itB, List.length_cons, be_length]
  cases hasF kind 0 <;> cases hasF kind 1 <;> simp only [Bool.false_eq_true, if_false, if_true, List.length_cons, List.length_nil, be_length] <;> omega
noncomputable def roomF (gen : Int) : Int := if gen == 1 then 65535 else if gen == 2 then 4294967295 else 281474976710655
noncomputable def bagsF (recs : LR) : Bool := recs.any fun r => decide ((r.2.2.2.2.2.length : Int) > 0)
noncomputable def incsF (gen : Int) (recs : LR) : Bool := recs.any fun r => decide (r.2.1 > roomF gen)
noncomputable def optL (b : Bool) (x : Int) : List Int := if b then [x] else []
noncomputable def tailF (kind from0 inc lo hi seq target life epoch base : Int) (recs : LR) (gen : Int) (bags incs : Bool) : List Int :=
  optL (decide (gen < 3) && kind == 9) 1 ++ (optL (decide (gen < 3) && epoch != 0) 2 ++ (optL (gen == 1 && bags) 3 ++ (optL incs 4 ++ optL (decide (bytesF kind from0 inc lo hi seq target life epoch base recs gen > 65499)) 5)))
noncomputable def whyF (kind from0 inc lo hi seq target life epoch base : Int) (recs : LR) (gen : Int) : List Int := if shapedF kind from0 inc lo hi seq target life epoch base recs gen then tailF kind from0 inc lo hi seq target life epoch base recs gen (bagsF recs) (incsF gen recs) else [0]
theorem WhyC.pure (b : Bool) (x : Int) (l : List Int) (h : l.length ≤ 100) : fit_Why_c1.f BIG b x l = some (l ++ optL b x) := by
  unfold fit_Why_c1.f fit_Why_c1.b optL
  cases b
  · simp
  · rw [if_pos rfl, if_pos (by simp [lim]; omega)]
    rfl
theorem optL_len (b : Bool) (x : Int) : (optL b x).length ≤ 1 := by unfold optL; split <;> simp
theorem Room.pure (gen : Int) : fit_room.f BIG gen = some (roomF gen) := by
  unfold fit_room.f fit_room.b roomF
  simp only [veil_eq]
  split
  · rfl
  · split <;> rfl
theorem Why.last (kind from0 inc lo hi seq target life epoch base : Int) (recs : LR) (gen : Int) (hs : shapedF kind from0 inc lo hi seq target life epoch base recs gen = true) (hr : smallRecs recs = true) (hn : recs.length < 1000000000) (bags incs : Bool) (fuel k : Nat) :
    fit_Why.l5 BIG kind from0 inc lo hi seq target life epoch base recs gen (k + 1) bags incs (recs.length : Int) (recs.length : Int) = some (tailF kind from0 inc lo hi seq target life epoch base recs gen bags incs) := by
  rw [fit_Why.l5]
  unfold fit_Why.b5
  simp only [veil_eq]
  rw [if_neg (by simp)]
  have l1 := fun b => optL_len b 1
  have l2 := fun b => optL_len b 2
  have l3 := fun b => optL_len b 3
  have l4 := fun b => optL_len b 4
  rw [FitBytes.pure kind from0 inc lo hi seq target life epoch base recs gen hr hn, hs]
  unfold tailF
  cases h3 : decide (gen < 3)
  · have hg1 : (gen == 1) = false := by simp at h3 ⊢; omega
    simp only [Bool.false_eq_true, if_false, if_true, hg1, Bool.false_and]
    rw [WhyC.pure _ _ _ (by simp)]
    dsimp only
    rw [WhyC.pure _ _ _ (by have := l1 false; simp; omega)]
    dsimp only
    rw [WhyC.pure _ _ _ (by have := l1 false; have := l2 false; simp; omega)]
    dsimp only
    rw [WhyC.pure _ _ _ (by have := l1 false; have := l2 false; have := l3 false; simp; omega)]
    dsimp only
    rw [WhyC.pure _ _ _ (by have := l1 false; have := l2 false; have := l3 false; have := l4 incs; simp; omega)]
    simp
  · simp only [if_true, Bool.true_and]
    rw [WhyC.pure _ _ _ (by simp)]
    dsimp only
    rw [WhyC.pure _ _ _ (by have := l1 (kind == 9); simp; omega)]
    dsimp only
    cases hg : (gen == 1)
    · simp only [Bool.false_eq_true, if_false, Bool.false_and]
      rw [WhyC.pure _ _ _ (by have := l1 (kind == 9); have := l2 (epoch != 0); simp; omega)]
      dsimp only
      rw [WhyC.pure _ _ _ (by have := l1 (kind == 9); have := l2 (epoch != 0); have := l3 false; simp; omega)]
      dsimp only
      rw [WhyC.pure _ _ _ (by have := l1 (kind == 9); have := l2 (epoch != 0); have := l3 false; have := l4 incs; simp; omega)]
      simp
    · simp only [if_true, Bool.true_and]
      rw [WhyC.pure _ _ _ (by have := l1 (kind == 9); have := l2 (epoch != 0); simp; omega)]
      dsimp only
      rw [WhyC.pure _ _ _ (by have := l1 (kind == 9); have := l2 (epoch != 0); have := l3 bags; simp; omega)]
      dsimp only
      rw [WhyC.pure _ _ _ (by have := l1 (kind == 9); have := l2 (epoch != 0); have := l3 bags; have := l4 incs; simp; omega)]
      simp
theorem Why.loop (kind from0 inc lo hi seq target life epoch base : Int) (recs : LR) (gen : Int) (hs : shapedF kind from0 inc lo hi seq target life epoch base recs gen = true) (hr : smallRecs recs = true) (hn : recs.length < 1000000000) :
    ∀ (k i : Nat) (bags incs : Bool), i ≤ recs.length → recs.length - i < k →
    fit_Why.l5 BIG kind from0 inc lo hi seq target life epoch base recs gen k bags incs (recs.length : Int) (i : Int) = some (tailF kind from0 inc lo hi seq target life epoch base recs gen (bags || bagsF (recs.drop i)) (incs || incsF gen (recs.drop i))) := by
  intro k
  induction k with
  | zero => intro i bags incs h1 h2; omega
  | succ k ih =>
    intro i bags incs h1 h2
    by_cases hI : i < recs.length
    · rw [fit_Why.l5]
      unfold fit_Why.b5
      simp only [veil_eq]
      rw [if_pos (by simp; omega), idx_at, List.getElem?_eq_getElem hI]
      dsimp only
      have hb : bagsF (recs.drop i) = (decide ((recs[i].2.2.2.2.2.length : Int) > 0) || bagsF (recs.drop (i + 1))) := by
        rw [List.drop_eq_getElem_cons hI]
        rfl
      have hc : incsF gen (recs.drop i) = (decide (recs[i].2.1 > roomF gen) || incsF gen (recs.drop (i + 1))) := by
        rw [List.drop_eq_getElem_cons hI]
        rfl
      rw [hb, hc, Room.pure, wrap_small _ (by omega) (by omega), show ((i : Int) + 1) = ((i + 1 : Nat) : Int) from by omega]
      dsimp only
      generalize recs[i] = r
      cases bags
      · cases incs
        · simp only [Bool.false_eq_true, if_false, Bool.false_or]
          rw [ih (i + 1) _ _ (by omega) (by omega)]
        · simp only [Bool.false_eq_true, if_false, if_true, Bool.false_or, Bool.true_or]
          rw [ih (i + 1) _ _ (by omega) (by omega)]
          simp
      · cases incs
        · simp only [Bool.false_eq_true, if_false, if_true, Bool.false_or, Bool.true_or]
          rw [ih (i + 1) _ _ (by omega) (by omega)]
          simp
        · simp only [if_true, Bool.true_or]
          rw [ih (i + 1) _ _ (by omega) (by omega)]
          simp
    · have : i = recs.length := by omega
      subst this
      rw [Why.last kind from0 inc lo hi seq target life epoch base recs gen hs hr hn bags incs 0 k, List.drop_length]
      simp [bagsF, incsF]
theorem Why.pure (kind from0 inc lo hi seq target life epoch base : Int) (recs : LR) (gen : Int) (hr : smallRecs recs = true) : fit_Why.f BIG kind from0 inc lo hi seq target life epoch base recs gen = some (whyF kind from0 inc lo hi seq target life epoch base recs gen) := by
  unfold fit_Why.f fit_Why.b whyF
  simp only [veil_eq]
  rw [Shaped.pure kind from0 inc lo hi seq target life epoch base recs gen hr]
  cases hs : shapedF kind from0 inc lo hi seq target life epoch base recs gen
  · rfl
  · have hv : validF kind from0 inc lo hi seq target life epoch base recs = true := by unfold shapedF at hs; simp at hs; exact hs.1
    have hn := (valid_facts hv).2.2.2.2.2.2.2.2.2.2.2.2.1
    have := Why.loop kind from0 inc lo hi seq target life epoch base recs gen hs hr (by omega) BIG 0 false false (by omega) (by rw [BIG_eq]; omega)
    rw [show ((0 : Nat) : Int) = 0 from rfl, List.drop_zero] at this
    simp only [Bool.not_true, Bool.false_eq_true, if_false, if_true]
    rw [this]
    simp
noncomputable def fitF (kind from0 inc lo hi seq target life epoch base : Int) (recs : LR) (gen : Int) : Bool := ((whyF kind from0 inc lo hi seq target life epoch base recs gen).length : Int) == 0
theorem Fits.pure (kind from0 inc lo hi seq target life epoch base : Int) (recs : LR) (gen : Int) (hr : smallRecs recs = true) : fit_Fits.f BIG kind from0 inc lo hi seq target life epoch base recs gen = some (fitF kind from0 inc lo hi seq target life epoch base recs gen) := by
  unfold fit_Fits.f fit_Fits.b fitF
  simp only [veil_eq]
  rw [Why.pure kind from0 inc lo hi seq target life epoch base recs gen hr]
noncomputable def leastF (kind from0 inc lo hi seq target life epoch base : Int) (recs : LR) : Int := if fitF kind from0 inc lo hi seq target life epoch base recs 1 then 1 else if fitF kind from0 inc lo hi seq target life epoch base recs 2 then 2 else if fitF kind from0 inc lo hi seq target life epoch base recs 3 then 3 else 0
theorem Least.pure (kind from0 inc lo hi seq target life epoch base : Int) (recs : LR) (hr : smallRecs recs = true) : fit_Least.f BIG kind from0 inc lo hi seq target life epoch base recs = some (leastF kind from0 inc lo hi seq target life epoch base recs) := by
  unfold fit_Least.f fit_Least.b leastF
  have step : ∀ (k : Nat) (x : Int), 1 ≤ x → x ≤ 4 → fit_Least.l2 BIG kind from0 inc lo hi seq target life epoch base recs (k + 1) x = (if x ≤ 3 then (if fitF kind from0 inc lo hi seq target life epoch base recs x then some x else fit_Least.l2 BIG kind from0 inc lo hi seq target life epoch base recs k (x + 1)) else some 0) := by
    intro k x h0 h1
    rw [fit_Least.l2]
    unfold fit_Least.b2
    simp only [veil_eq]
    rw [Fits.pure kind from0 inc lo hi seq target life epoch base recs x hr, wrap_small (x + 1) (by omega) (by omega)]
    by_cases h : x ≤ 3
    · rw [if_pos (by simpa using h), if_pos h]
    · rw [if_neg (by simpa using h), if_neg h]
  obtain ⟨k, hk⟩ : ∃ k, BIG = k + 1 + 1 + 1 + 1 := ⟨1099511627772, by rw [BIG_eq]⟩
  have : fit_Least.l2 BIG kind from0 inc lo hi seq target life epoch base recs (k + 1 + 1 + 1 + 1) 1 = some (if fitF kind from0 inc lo hi seq target life epoch base recs 1 then 1 else if fitF kind from0 inc lo hi seq target life epoch base recs 2 then 2 else if fitF kind from0 inc lo hi seq target life epoch base recs 3 then 3 else 0) := by
    rw [step _ 1 (by omega) (by omega), if_pos (by omega)]
    split
    · rfl
    · rw [show (1 : Int) + 1 = 2 from rfl, step _ 2 (by omega) (by omega), if_pos (by omega)]
      split
      · rfl
      · rw [show (2 : Int) + 1 = 3 from rfl, step _ 3 (by omega) (by omega), if_pos (by omega)]
        split
        · rfl
        · rw [show (3 : Int) + 1 = 4 from rfl, step _ 4 (by omega) (by omega), if_neg (by omega)]
  rw [← hk] at this
  exact this
-- the law's reasons
theorem Awake16.pure : law16_awake.f BIG () = some true := by
  unfold law16_awake.f law16_awake.b
  simp only [veil_eq]
  rw [Why.pure _ _ _ _ _ _ _ _ _ _ _ 1 rfl]
  rw [show whyF 4 0 0 1 3 0 0 0 0 0 [(1, (0, (0, ((1, 3), (false, [(40, [])])))))] 1 = [3] from by kernel_rfl]
  dsimp only
  rw [show idx [(3 : Int)] 0 = some 3 from rfl]
  dsimp only
  rw [Fits.pure _ _ _ _ _ _ _ _ _ _ _ 2 rfl, show fitF 4 0 0 1 3 0 0 0 0 0 [(1, (0, (0, ((1, 3), (false, [(40, [])])))))] 2 = true from by kernel_rfl]
  dsimp only
  rw [Why.pure _ _ _ _ _ _ _ _ _ _ _ 2 rfl, show whyF 9 0 0 1 3 0 0 0 1 0 [] 2 = [1, 2] from by kernel_rfl]
  dsimp only
  rw [Least.pure _ _ _ _ _ _ _ _ _ _ _ rfl, show leastF 9 0 0 1 3 0 0 0 1 0 [] = 3 from by kernel_rfl]
  dsimp only
  rw [Fits.pure _ _ _ _ _ _ _ _ _ _ _ 4 rfl, show fitF 4 0 0 1 3 0 0 0 0 0 [(1, (0, (0, ((1, 3), (false, [(40, [])])))))] 4 = false from by kernel_rfl]
  rfl
theorem optL_nil (b : Bool) (x : Int) : optL b x = [] ↔ b = false := by unfold optL; cases b <;> simp
theorem fitF_iff (kind from0 inc lo hi seq target life epoch base : Int) (recs : LR) (gen : Int) : fitF kind from0 inc lo hi seq target life epoch base recs gen = true ↔ shapedF kind from0 inc lo hi seq target life epoch base recs gen = true ∧ (gen < 3 → kind ≠ 9) ∧ (gen < 3 → epoch = 0) ∧ (gen = 1 → bagsF recs = false) ∧ incsF gen recs = false ∧ bytesF kind from0 inc lo hi seq target life epoch base recs gen ≤ 65499 := by
  unfold fitF whyF
  cases hs : shapedF kind from0 inc lo hi seq target life epoch base recs gen
  · simp
  · simp only [if_true, true_and]
    have e : (((tailF kind from0 inc lo hi seq target life epoch base recs gen (bagsF recs) (incsF gen recs)).length : Int) == 0) = true ↔ tailF kind from0 inc lo hi seq target life epoch base recs gen (bagsF recs) (incsF gen recs) = [] := by
      rw [beq_iff_eq]
      constructor
      · intro h; exact List.eq_nil_of_length_eq_zero (by omega)
      · intro h; rw [h]; rfl
    rw [e]
    unfold tailF
    rw [List.append_eq_nil_iff, List.append_eq_nil_iff, List.append_eq_nil_iff, List.append_eq_nil_iff, optL_nil, optL_nil, optL_nil, optL_nil, optL_nil]
    constructor
    · rintro ⟨a, b, c, d, e⟩
      refine ⟨fun h => ?_, fun h => ?_, fun h => ?_, d, by simpa using e⟩
      · simpa [h] using a
      · simpa [h] using b
      · simpa [h] using c
    · rintro ⟨a, b, c, d, e⟩
      refine ⟨?_, ?_, ?_, d, by simpa using e⟩
      · by_cases h : gen < 3
        · simp [h, a h]
        · simp [h]
      · by_cases h : gen < 3
        · simp [h, b h]
        · simp [h]
      · by_cases h : gen = 1
        · simp [h, c h]
        · simp [h]
theorem shaped_valid (kind from0 inc lo hi seq target life epoch base : Int) (recs : LR) {gen : Int} (h1 : 1 ≤ gen) (h3 : gen ≤ 3) : shapedF kind from0 inc lo hi seq target life epoch base recs gen = validF kind from0 inc lo hi seq target life epoch base recs := by
  unfold shapedF
  rw [show decide (gen ≥ 1) = true from by simpa using h1, show decide (gen ≤ 3) = true from by simpa using h3]
  simp
theorem bags_nil {recs : LR} : bagsF recs = false ↔ ∀ r ∈ recs, r.2.2.2.2.2 = [] := by
  unfold bagsF
  rw [List.any_eq_false]
  constructor
  · intro h r hr
    have := h r hr
    exact List.eq_nil_of_length_eq_zero (by simp at this; simpa using this)
  · intro h r hr
    rw [h r hr]
    simp
theorem incs_le {gen : Int} {recs : LR} : incsF gen recs = false ↔ ∀ r ∈ recs, r.2.1 ≤ roomF gen := by
  unfold incsF
  rw [List.any_eq_false]
  constructor
  · intro h r hr; simpa using h r hr
  · intro h r hr; simpa using h r hr
theorem fit1 (kind from0 inc lo hi seq target life epoch base : Int) (recs : LR) : fitF kind from0 inc lo hi seq target life epoch base recs 1 = true ↔ validF kind from0 inc lo hi seq target life epoch base recs = true ∧ kind ≠ 9 ∧ epoch = 0 ∧ (∀ r ∈ recs, r.2.2.2.2.2 = []) ∧ (∀ r ∈ recs, r.2.1 ≤ 65535) := by
  rw [fitF_iff, shaped_valid kind from0 inc lo hi seq target life epoch base recs (by omega) (by omega), bags_nil, incs_le]
  constructor
  · rintro ⟨a, b, c, d, e, f⟩
    exact ⟨a, b (by omega), c (by omega), d rfl, e⟩
  · rintro ⟨a, b, c, d, e⟩
    have := (valid_facts a).2.2.2.2.2.2.2.2.2.2.2.2.1
    exact ⟨a, fun _ => b, fun _ => c, fun _ => d, e, by unfold bytesF; rw [if_pos (by rfl)]; omega⟩
theorem fit2G : ∀ (recs : LR), fit2Go recs = true ↔ ∀ r ∈ recs, r.2.1 ≤ 4294967295 := fun recs => ⟨fit2_all recs, fit2_of recs⟩
theorem fit2 (kind from0 inc lo hi seq target life epoch base : Int) (recs : LR) : fitF kind from0 inc lo hi seq target life epoch base recs 2 = true ↔ fits2 kind from0 inc lo hi seq target life epoch base recs = true := by
  rw [fitF_iff, shaped_valid kind from0 inc lo hi seq target life epoch base recs (by omega) (by omega), incs_le]
  have hr : roomF 2 = 4294967295 := rfl
  have hb : bytesF kind from0 inc lo hi seq target life epoch base recs 2 = size2 kind from0 inc lo hi seq target life epoch base recs := rfl
  rw [hr, hb]
  constructor
  · rintro ⟨a, b, c, d, e, f⟩
    obtain rfl := c (by omega)
    unfold fits2
    rw [a, if_neg, (fit2G recs).2 e]
    simp [b (by omega)]
    omega
  · intro h
    obtain ⟨a, b, c, d, e⟩ := fits2_facts h
    exact ⟨a, fun _ => b, fun _ => c, fun h => by omega, (fit2G recs).1 e, d⟩
theorem fit3 (kind from0 inc lo hi seq target life epoch base : Int) (recs : LR) : fitF kind from0 inc lo hi seq target life epoch base recs 3 = true ↔ validF kind from0 inc lo hi seq target life epoch base recs = true ∧ size3 kind from0 inc lo hi seq target life epoch base recs [] ≤ 65499 := by
  rw [fitF_iff, shaped_valid kind from0 inc lo hi seq target life epoch base recs (by omega) (by omega), incs_le]
  have hr : roomF 3 = 281474976710655 := rfl
  have hb : bytesF kind from0 inc lo hi seq target life epoch base recs 3 = size3 kind from0 inc lo hi seq target life epoch base recs [] := rfl
  rw [hr, hb]
  constructor
  · rintro ⟨a, _, _, _, _, f⟩
    exact ⟨a, f⟩
  · rintro ⟨a, f⟩
    exact ⟨a, fun h => by omega, fun h => by omega, fun h => by omega, fun r hr => (recOk_facts ((valid_facts a).2.2.2.2.2.2.2.2.2.2.2.2.2 r hr)).2.2.2.1, f⟩
noncomputable def bareR (inc : Int) (i : Nat) : REC := ((i : Int) * 16, inc, 0, (1, 1), false, [])
noncomputable def recsN (a m : Nat) (inc : Int) : LR := (List.range' a m).map (bareR inc)
theorem bare_ok (inc : Int) (i : Nat) (h0 : 0 ≤ inc) (h1 : inc ≤ 281474976710655) (hi : i ≤ 255) : recOkT (bareR inc i) = true := by
  unfold recOkT bareR recOk
  dsimp only
  rw [if_neg (by simp; omega), if_neg (by simp; omega), if_neg (by simp)]
  rfl
theorem whGo_bare (inc : Int) (h0 : 0 ≤ inc) (h1 : inc ≤ 281474976710655) : ∀ (m a : Nat) (j last : Int), a + m ≤ 256 → last < (a : Int) * 16 → (whGo (recsN a m inc) j last).1 = j + (m : Int)
  | 0, a, j, last, _, _ => by simp [recsN, whGo]
  | m + 1, a, j, last, h, hl => by
    have e : recsN a (m + 1) inc = bareR inc a :: recsN (a + 1) m inc := by simp [recsN, List.range'_succ]
    have ih := whGo_bare inc h0 h1 m (a + 1) (j + 1) ((a : Int) * 16) (by omega) (by omega)
    have hc : ¬ ((!true || decide ((bareR inc a).1 ≤ last)) = true) := by
      have e2 : (bareR inc a).1 = (a : Int) * 16 := rfl
      rw [e2]
      simp
      omega
    rw [e, whGo, bare_ok inc a h0 h1 (by omega), if_neg hc]
    have e3 : (bareR inc a).1 = (a : Int) * 16 := rfl
    rw [e3, ih]
    omega
theorem many_len (a m : Nat) (inc : Int) : (recsN a m inc).length = m := by simp [recsN]
theorem many_valid (n : Nat) (inc : Int) (h0 : 0 ≤ inc) (h1 : inc ≤ 281474976710655) (hn : n ≤ 255) : validF 7 0 0 1 3 0 0 0 0 0 (recsN 0 n inc) = true := by
  have hs : sortedF (recsN 0 n inc) = true := by
    unfold sortedF
    rw [whGo_bare inc h0 h1 n 0 0 (-1) (by omega) (by omega), many_len]
    simp
  unfold validF
  rw [if_neg (by decide +kernel), if_neg (by decide +kernel), if_neg (by decide +kernel), hs, many_len]
  simp
  omega
theorem many_bare (a m : Nat) (inc : Int) : ∀ r ∈ recsN a m inc, r.2.2.2.2.2 = [] ∧ r.2.1 = inc := by
  intro r hr
  unfold recsN at hr
  obtain ⟨i, _, rfl⟩ := List.mem_map.1 hr
  exact ⟨rfl, rfl⟩
theorem many_small (n : Nat) (inc : Int) (hn : n ≤ 255) : smallRecs (recsN 0 n inc) = true :=
  (smallRecs_iff _).2 ⟨by rw [many_len]; omega, fun r hr => by rw [(many_bare 0 n inc r hr).1]; rfl⟩
theorem many_fits (n : Nat) (inc : Int) (h0 : 0 ≤ inc) (h1 : inc ≤ 281474976710655) (hn : n ≤ 255) (hp : 1 ≤ n) :
    (fitF 7 0 0 1 3 0 0 0 0 0 (recsN 0 n inc) 1 = decide (inc ≤ 65535)) ∧ (fitF 7 0 0 1 3 0 0 0 0 0 (recsN 0 n inc) 2 = decide (inc ≤ 4294967295)) := by
  have hv := many_valid n inc h0 h1 hn
  have hb := many_bare 0 n inc
  have hmem : bareR inc 0 ∈ recsN 0 n inc := by
    unfold recsN
    exact List.mem_map.2 ⟨0, by simp [List.mem_range']; omega, rfl⟩
  constructor
  · have h := fit1 7 0 0 1 3 0 0 0 0 0 (recsN 0 n inc)
    by_cases hc : inc ≤ 65535
    · rw [h.2 ⟨hv, by omega, rfl, fun r hr => (hb r hr).1, fun r hr => by rw [(hb r hr).2]; exact hc⟩]
      simp [hc]
    · cases hf : fitF 7 0 0 1 3 0 0 0 0 0 (recsN 0 n inc) 1 with
      | false => simp [hc]
      | true => exact absurd ((h.1 hf).2.2.2.2 _ hmem) hc
  · have h := fit2 7 0 0 1 3 0 0 0 0 0 (recsN 0 n inc)
    by_cases hc : inc ≤ 4294967295
    · have hz := size2_bare hv fun r hr => (hb r hr).1
      have hf : fits2 7 0 0 1 3 0 0 0 0 0 (recsN 0 n inc) = true := by
        unfold fits2
        rw [hv, if_neg (by simp; omega), (fit2G _).2 fun r hr => by rw [(hb r hr).2]; exact hc]
      rw [h.2 hf]
      simp [hc]
    · cases hf : fitF 7 0 0 1 3 0 0 0 0 0 (recsN 0 n inc) 2 with
      | false => simp [hc]
      | true =>
        have := (fit2G _).1 (fits2_facts (h.1 hf)).2.2.2.2 _ hmem
        exact absurd this hc
theorem many_fit3 (n : Nat) (inc : Int) (h0 : 0 ≤ inc) (h1 : inc ≤ 281474976710655) (hn : n ≤ 255) : fitF 7 0 0 1 3 0 0 0 0 0 (recsN 0 n inc) 3 = true :=
  (fit3 7 0 0 1 3 0 0 0 0 0 (recsN 0 n inc)).2 ⟨many_valid n inc h0 h1 hn, size3_bare (many_valid n inc h0 h1 hn) fun r hr => (many_bare 0 n inc r hr).1⟩
theorem many_last (n : Nat) (inc : Int) (h0 : 0 ≤ inc) (h1 : inc ≤ 281474976710655) (hn : n ≤ 255) (k : Nat) : law16_FitMany.l5 BIG (n : Int) inc (k + 1) (n : Int) (recsN 0 n inc) = some true := by
  rw [law16_FitMany.l5]
  unfold law16_FitMany.b5
  simp only [veil_eq]
  have hs := many_small n inc hn
  rw [if_neg (by simp), Least.pure _ _ _ _ _ _ _ _ _ _ _ hs, Fits.pure _ _ _ _ _ _ _ _ _ _ _ 3 hs, many_fit3 n inc h0 h1 hn, Awake16.pure]
  dsimp only
  by_cases hz : n = 0
  · subst hz
    rw [if_pos (by rfl), show recsN 0 0 inc = [] from rfl, show leastF 7 0 0 1 3 0 0 0 0 0 [] = 1 from by kernel_rfl]
    rfl
  · rw [if_neg (by simp; omega)]
    obtain ⟨f1, f2⟩ := many_fits n inc h0 h1 hn (by omega)
    unfold leastF
    rw [f1, f2, many_fit3 n inc h0 h1 hn]
    by_cases c2 : inc ≤ 4294967295
    · by_cases c1 : inc ≤ 65535
      · simp [c1, c2]
      · simp [c1, c2]
    · have c1 : ¬ inc ≤ 65535 := by omega
      simp [c1, c2]
theorem many_loop (n : Nat) (inc : Int) (h0 : 0 ≤ inc) (h1 : inc ≤ 281474976710655) (hn : n ≤ 255) : ∀ (k i : Nat), i ≤ n → n - i < k → law16_FitMany.l5 BIG (n : Int) inc k (i : Int) (recsN 0 i inc) = some true := by
  intro k
  induction k with
  | zero => intro i h1 h2; omega
  | succ k ih =>
    intro i hi hk
    by_cases hlt : i < n
    · rw [law16_FitMany.l5]
      unfold law16_FitMany.b5
      rw [if_pos (by simp; omega), if_pos (by simp [lim, many_len]; omega), wrap_small _ (by omega) (by omega), wrap_small _ (by omega) (by omega), show ((i : Int) + 1) = ((i + 1 : Nat) : Int) from by omega]
      have e : recsN 0 i inc ++ [((i : Int) * 16, inc, 0, (1, 1), false, [])] = recsN 0 (i + 1) inc := by
        unfold recsN
        rw [List.range'_concat, List.map_append]
        simp [bareR]
      rw [e]
      exact ih (i + 1) (by omega) (by omega)
    · have : i = n := by omega
      subst this
      exact many_last i inc h0 h1 hn k
theorem FitMany.pure (n inc : Int) : law16_FitMany.f BIG n inc = some true := by
  unfold law16_FitMany.f law16_FitMany.b
  simp only [veil_eq]
  rw [Awake16.pure]
  dsimp only
  by_cases c1 : n < 0
  · rw [if_pos (by simpa using c1)]
  rw [if_neg (by simpa using c1)]
  by_cases c2 : n > 255
  · rw [if_pos (by simpa using c2)]
  rw [if_neg (by simpa using c2)]
  by_cases c3 : inc < 0
  · rw [if_pos (by simpa using c3)]
  rw [if_neg (by simpa using c3)]
  by_cases c4 : inc > 281474976710655
  · rw [if_pos (by simpa using c4)]
  rw [if_neg (by simpa using c4)]
  have := many_loop n.toNat inc (by omega) (by omega) (by omega) BIG 0 (by omega) (by rw [BIG_eq]; omega)
  rw [show ((n.toNat : Nat) : Int) = n from by omega] at this
  exact this
theorem fitMany_envOk : EnvOk Try.prog law16_FitMany_E := env_ok (l := [(33, s_law16_awake), (36, s_fit_Fits), (39, s_fit_Least)]) th_ok any_ok ⟨⟨s_law16_awake_ok, s_law16_awake_det⟩, ⟨s_fit_Fits_ok, s_fit_Fits_det⟩, ⟨s_fit_Least_ok, s_fit_Least_det⟩, trivial⟩ _
theorem fitMany_tells (n : Int) (inc : Int)  : denF law16_FitMany_E loopN BIG Try.f13 [.raw] [.d (.int .i64) n, .d (.int .i64) inc] [] isTrue = some () := by
  rw [denF_any fitMany_envOk.D ((law16_FitMany.eq BIG n inc).trans (FitMany.pure n inc)) (out := [.d .bool true]) (os := []) (fun rs ros hk => by
    unfold law16_FitMany.k at hk
    split at hk
    · first | (cases hk; exact ⟨rfl, rfl⟩) | (have e := Option.some.inj hk; rw [← e]; exact ⟨rfl, rfl⟩)
    · cases hk)]
  rfl
set_option maxRecDepth 100000 in
theorem fitMany_lifted (os : Os) (started : os.Started) (H : Type) (enc : TypeId × Value → H) :
    ReturnsInHanded {} Try.checked os 13 .any (Rows.fitManySpec.pre6 enc Try.prog Try.f13 Rows.fitManyRow.domain false) (Rows.fitManySpec.post enc Try.prog Try.f13 false true false false) := by
  refine returnsInHanded_of_change_sized (C := Try.checked) Try.own started (by kernel_rfl) Try.func13
    (ChangeSpec.witness6 (enc := enc) (C := Try.checked) false ⟨#[], #[.int .i64 0, .int .i64 0], []⟩ 8 (by kernel_rfl) (by kernel_rfl) (by kernel_rfl) (by kernel_rfl)) ?_
  intro W base args ds gs before hval hW _ hwt _
  exact law_contract fitMany_envOk Try.func13 rfl [(.int .i64, false), (.int .i64, false)] (tb := 4) (by kernel_rfl) (by kernel_rfl) (by kernel_rfl) rfl
    (fun ds h => by match ds, h with | [_, _], _ => rfl) Try.laidOut Try.mapsRow Try.slicesSize (fun y hg => ⟨BIG, fitMany_tells y.1 y.2.1⟩) W base args ds gs before hval hW hwt
theorem fitMany_holds : Rows.FitManySaid :=
  OpenClaim.holds_of_wide 13 Try.f13 rfl rfl rfl rfl rfl rfl rfl ⟨rfl, rfl, rfl, rfl, rfl⟩ rfl rfl rfl rfl rfl (by kernel_rfl) Try.func13 (by kernel_rfl)
    (of_decide_eq_true (by kernel_rfl)) (by unfold Func.isWrapper; first | (rw [if_pos (by decide +kernel)]; kernel_rfl) | (rw [if_neg (by decide +kernel)]; exact ⟨rfl, rfl⟩))
    (fun os started H enc _ => fitMany_lifted os started H enc)
end Go.Proofs.Ytlmljpmohljefaa
