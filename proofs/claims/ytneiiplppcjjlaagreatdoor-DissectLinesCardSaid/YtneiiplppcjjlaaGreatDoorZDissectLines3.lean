/- DissectLines, part 3: what the row leans on. -/
import Derived.Test.YtneiiplppcjjlaaGreatDoorZDissectLines2
set_option linter.unusedVariables false
set_option linter.unusedSimpArgs false
set_option maxRecDepth 100000
namespace Go.Proofs.YtneiiplppcjjlaaGreatDoor
open Go.Den
noncomputable section
def zO.b (bs : List Int) (at0 : Int) (bad za : Bool) : Option (Int × Int × Int × Int × Int × Int × Int × Int × Int × Int × Bool × (List Int) × Int × Bool) :=
 (if (zt bs at0) then (match (veil (Option.some (qz bs (1 : Int) at0 bad))) with | none => none | some y0 => (match (veil (qI.f BIG bs y0.2.1 y0.2.2 za (4095 : Int))) with | none => none | some y1 => (match (veil (qI.f BIG y1.2.2.1 y1.2.2.2.1 y1.2.2.2.2 y1.2.1 (veil (281474976710655 : Int)))) with | none => none | some y2 => (match (veil (zp.f BIG y2.2.2.1 y2.2.2.2.1 y2.2.2.2.2 y2.2.1)) with | none => none | some y3 => (if (qy y0.1 (0 : Int)) then (match (veil (qI.f BIG y3.2.2.2.1 y3.2.2.2.2.1 y3.2.2.2.2.2 y3.2.2.1 (65535 : Int))) with | none => none | some y4 => (if (qy y0.1 (1 : Int)) then (match (veil (qI.f BIG y4.2.2.1 y4.2.2.2.1 y4.2.2.2.2 y4.2.1 (4095 : Int))) with | none => none | some y5 => (if (qy y0.1 (2 : Int)) then (match (veil (qI.f BIG y5.2.2.1 y5.2.2.2.1 y5.2.2.2.2 y5.2.1 (veil (281474976710655 : Int)))) with | none => none | some y6 => (match (veil (qI.f BIG y6.2.2.1 y6.2.2.2.1 y6.2.2.2.2 y6.2.1 (65535 : Int))) with | none => none | some y7 => (if (qy y0.1 (3 : Int)) then (match (veil (qI.f BIG y7.2.2.1 y7.2.2.2.1 y7.2.2.2.2 y7.2.1 (65535 : Int))) with | none => none | some y8 => (if y8.2.2.2.2 then some (y0.1, y1.1, y2.1, y3.1, y3.2.1, y4.1, y5.1, y6.1, y7.1, y8.1, true, y8.2.2.1, y8.2.2.2.1, y8.2.2.2.2) else (if (!(q0 y0.1 y1.1 y2.1 y3.1 y3.2.1 y4.1 y5.1 y6.1 y7.1 y8.1 ([] : LR))) then some (y0.1, y1.1, y2.1, y3.1, y3.2.1, y4.1, y5.1, y6.1, y7.1, y8.1, true, y8.2.2.1, y8.2.2.2.1, y8.2.2.2.2) else some (y0.1, y1.1, y2.1, y3.1, y3.2.1, y4.1, y5.1, y6.1, y7.1, y8.1, y8.2.1, y8.2.2.1, y8.2.2.2.1, y8.2.2.2.2)))) else (if y7.2.2.2.2 then some (y0.1, y1.1, y2.1, y3.1, y3.2.1, y4.1, y5.1, y6.1, y7.1, 0, true, y7.2.2.1, y7.2.2.2.1, y7.2.2.2.2) else (if (!(q0 y0.1 y1.1 y2.1 y3.1 y3.2.1 y4.1 y5.1 y6.1 y7.1 0 ([] : LR))) then some (y0.1, y1.1, y2.1, y3.1, y3.2.1, y4.1, y5.1, y6.1, y7.1, 0, true, y7.2.2.1, y7.2.2.2.1, y7.2.2.2.2) else some (y0.1, y1.1, y2.1, y3.1, y3.2.1, y4.1, y5.1, y6.1, y7.1, 0, y7.2.1, y7.2.2.1, y7.2.2.2.1, y7.2.2.2.2)))))) else (if (qy y0.1 (3 : Int)) then (match (veil (qI.f BIG y5.2.2.1 y5.2.2.2.1 y5.2.2.2.2 y5.2.1 (65535 : Int))) with | none => none | some y9 => (if y9.2.2.2.2 then some (y0.1, y1.1, y2.1, y3.1, y3.2.1, y4.1, y5.1, 0, 0, y9.1, true, y9.2.2.1, y9.2.2.2.1, y9.2.2.2.2) else (if (!(q0 y0.1 y1.1 y2.1 y3.1 y3.2.1 y4.1 y5.1 0 0 y9.1 ([] : LR))) then some (y0.1, y1.1, y2.1, y3.1, y3.2.1, y4.1, y5.1, 0, 0, y9.1, true, y9.2.2.1, y9.2.2.2.1, y9.2.2.2.2) else some (y0.1, y1.1, y2.1, y3.1, y3.2.1, y4.1, y5.1, 0, 0, y9.1, y9.2.1, y9.2.2.1, y9.2.2.2.1, y9.2.2.2.2)))) else (if y5.2.2.2.2 then some (y0.1, y1.1, y2.1, y3.1, y3.2.1, y4.1, y5.1, 0, 0, 0, true, y5.2.2.1, y5.2.2.2.1, y5.2.2.2.2) else (if (!(q0 y0.1 y1.1 y2.1 y3.1 y3.2.1 y4.1 y5.1 0 0 0 ([] : LR))) then some (y0.1, y1.1, y2.1, y3.1, y3.2.1, y4.1, y5.1, 0, 0, 0, true, y5.2.2.1, y5.2.2.2.1, y5.2.2.2.2) else some (y0.1, y1.1, y2.1, y3.1, y3.2.1, y4.1, y5.1, 0, 0, 0, y5.2.1, y5.2.2.1, y5.2.2.2.1, y5.2.2.2.2)))))) else (if (qy y0.1 (2 : Int)) then (match (veil (qI.f BIG y4.2.2.1 y4.2.2.2.1 y4.2.2.2.2 y4.2.1 (veil (281474976710655 : Int)))) with | none => none | some y10 => (match (veil (qI.f BIG y10.2.2.1 y10.2.2.2.1 y10.2.2.2.2 y10.2.1 (65535 : Int))) with | none => none | some y11 => (if (qy y0.1 (3 : Int)) then (match (veil (qI.f BIG y11.2.2.1 y11.2.2.2.1 y11.2.2.2.2 y11.2.1 (65535 : Int))) with | none => none | some y12 => (if y12.2.2.2.2 then some (y0.1, y1.1, y2.1, y3.1, y3.2.1, y4.1, 0, y10.1, y11.1, y12.1, true, y12.2.2.1, y12.2.2.2.1, y12.2.2.2.2) else (if (!(q0 y0.1 y1.1 y2.1 y3.1 y3.2.1 y4.1 0 y10.1 y11.1 y12.1 ([] : LR))) then some (y0.1, y1.1, y2.1, y3.1, y3.2.1, y4.1, 0, y10.1, y11.1, y12.1, true, y12.2.2.1, y12.2.2.2.1, y12.2.2.2.2) else some (y0.1, y1.1, y2.1, y3.1, y3.2.1, y4.1, 0, y10.1, y11.1, y12.1, y12.2.1, y12.2.2.1, y12.2.2.2.1, y12.2.2.2.2)))) else (if y11.2.2.2.2 then some (y0.1, y1.1, y2.1, y3.1, y3.2.1, y4.1, 0, y10.1, y11.1, 0, true, y11.2.2.1, y11.2.2.2.1, y11.2.2.2.2) else (if (!(q0 y0.1 y1.1 y2.1 y3.1 y3.2.1 y4.1 0 y10.1 y11.1 0 ([] : LR))) then some (y0.1, y1.1, y2.1, y3.1, y3.2.1, y4.1, 0, y10.1, y11.1, 0, true, y11.2.2.1, y11.2.2.2.1, y11.2.2.2.2) else some (y0.1, y1.1, y2.1, y3.1, y3.2.1, y4.1, 0, y10.1, y11.1, 0, y11.2.1, y11.2.2.1, y11.2.2.2.1, y11.2.2.2.2)))))) else (if (qy y0.1 (3 : Int)) then (match (veil (qI.f BIG y4.2.2.1 y4.2.2.2.1 y4.2.2.2.2 y4.2.1 (65535 : Int))) with | none => none | some y13 => (if y13.2.2.2.2 then some (y0.1, y1.1, y2.1, y3.1, y3.2.1, y4.1, 0, 0, 0, y13.1, true, y13.2.2.1, y13.2.2.2.1, y13.2.2.2.2) else (if (!(q0 y0.1 y1.1 y2.1 y3.1 y3.2.1 y4.1 0 0 0 y13.1 ([] : LR))) then some (y0.1, y1.1, y2.1, y3.1, y3.2.1, y4.1, 0, 0, 0, y13.1, true, y13.2.2.1, y13.2.2.2.1, y13.2.2.2.2) else some (y0.1, y1.1, y2.1, y3.1, y3.2.1, y4.1, 0, 0, 0, y13.1, y13.2.1, y13.2.2.1, y13.2.2.2.1, y13.2.2.2.2)))) else (if y4.2.2.2.2 then some (y0.1, y1.1, y2.1, y3.1, y3.2.1, y4.1, 0, 0, 0, 0, true, y4.2.2.1, y4.2.2.2.1, y4.2.2.2.2) else (if (!(q0 y0.1 y1.1 y2.1 y3.1 y3.2.1 y4.1 0 0 0 0 ([] : LR))) then some (y0.1, y1.1, y2.1, y3.1, y3.2.1, y4.1, 0, 0, 0, 0, true, y4.2.2.1, y4.2.2.2.1, y4.2.2.2.2) else some (y0.1, y1.1, y2.1, y3.1, y3.2.1, y4.1, 0, 0, 0, 0, y4.2.1, y4.2.2.1, y4.2.2.2.1, y4.2.2.2.2))))))) else (if (qy y0.1 (1 : Int)) then (match (veil (qI.f BIG y3.2.2.2.1 y3.2.2.2.2.1 y3.2.2.2.2.2 y3.2.2.1 (4095 : Int))) with | none => none | some y14 => (if (qy y0.1 (2 : Int)) then (match (veil (qI.f BIG y14.2.2.1 y14.2.2.2.1 y14.2.2.2.2 y14.2.1 (veil (281474976710655 : Int)))) with | none => none | some y15 => (match (veil (qI.f BIG y15.2.2.1 y15.2.2.2.1 y15.2.2.2.2 y15.2.1 (65535 : Int))) with | none => none | some y16 => (if (qy y0.1 (3 : Int)) then (match (veil (qI.f BIG y16.2.2.1 y16.2.2.2.1 y16.2.2.2.2 y16.2.1 (65535 : Int))) with | none => none | some y17 => (if y17.2.2.2.2 then some (y0.1, y1.1, y2.1, y3.1, y3.2.1, 0, y14.1, y15.1, y16.1, y17.1, true, y17.2.2.1, y17.2.2.2.1, y17.2.2.2.2) else (if (!(q0 y0.1 y1.1 y2.1 y3.1 y3.2.1 0 y14.1 y15.1 y16.1 y17.1 ([] : LR))) then some (y0.1, y1.1, y2.1, y3.1, y3.2.1, 0, y14.1, y15.1, y16.1, y17.1, true, y17.2.2.1, y17.2.2.2.1, y17.2.2.2.2) else some (y0.1, y1.1, y2.1, y3.1, y3.2.1, 0, y14.1, y15.1, y16.1, y17.1, y17.2.1, y17.2.2.1, y17.2.2.2.1, y17.2.2.2.2)))) else (if y16.2.2.2.2 then some (y0.1, y1.1, y2.1, y3.1, y3.2.1, 0, y14.1, y15.1, y16.1, 0, true, y16.2.2.1, y16.2.2.2.1, y16.2.2.2.2) else (if (!(q0 y0.1 y1.1 y2.1 y3.1 y3.2.1 0 y14.1 y15.1 y16.1 0 ([] : LR))) then some (y0.1, y1.1, y2.1, y3.1, y3.2.1, 0, y14.1, y15.1, y16.1, 0, true, y16.2.2.1, y16.2.2.2.1, y16.2.2.2.2) else some (y0.1, y1.1, y2.1, y3.1, y3.2.1, 0, y14.1, y15.1, y16.1, 0, y16.2.1, y16.2.2.1, y16.2.2.2.1, y16.2.2.2.2)))))) else (if (qy y0.1 (3 : Int)) then (match (veil (qI.f BIG y14.2.2.1 y14.2.2.2.1 y14.2.2.2.2 y14.2.1 (65535 : Int))) with | none => none | some y18 => (if y18.2.2.2.2 then some (y0.1, y1.1, y2.1, y3.1, y3.2.1, 0, y14.1, 0, 0, y18.1, true, y18.2.2.1, y18.2.2.2.1, y18.2.2.2.2) else (if (!(q0 y0.1 y1.1 y2.1 y3.1 y3.2.1 0 y14.1 0 0 y18.1 ([] : LR))) then some (y0.1, y1.1, y2.1, y3.1, y3.2.1, 0, y14.1, 0, 0, y18.1, true, y18.2.2.1, y18.2.2.2.1, y18.2.2.2.2) else some (y0.1, y1.1, y2.1, y3.1, y3.2.1, 0, y14.1, 0, 0, y18.1, y18.2.1, y18.2.2.1, y18.2.2.2.1, y18.2.2.2.2)))) else (if y14.2.2.2.2 then some (y0.1, y1.1, y2.1, y3.1, y3.2.1, 0, y14.1, 0, 0, 0, true, y14.2.2.1, y14.2.2.2.1, y14.2.2.2.2) else (if (!(q0 y0.1 y1.1 y2.1 y3.1 y3.2.1 0 y14.1 0 0 0 ([] : LR))) then some (y0.1, y1.1, y2.1, y3.1, y3.2.1, 0, y14.1, 0, 0, 0, true, y14.2.2.1, y14.2.2.2.1, y14.2.2.2.2) else some (y0.1, y1.1, y2.1, y3.1, y3.2.1, 0, y14.1, 0, 0, 0, y14.2.1, y14.2.2.1, y14.2.2.2.1, y14.2.2.2.2)))))) else (if (qy y0.1 (2 : Int)) then (match (veil (qI.f BIG y3.2.2.2.1 y3.2.2.2.2.1 y3.2.2.2.2.2 y3.2.2.1 (veil (281474976710655 : Int)))) with | none => none | some y19 => (match (veil (qI.f BIG y19.2.2.1 y19.2.2.2.1 y19.2.2.2.2 y19.2.1 (65535 : Int))) with | none => none | some y20 => (if (qy y0.1 (3 : Int)) then (match (veil (qI.f BIG y20.2.2.1 y20.2.2.2.1 y20.2.2.2.2 y20.2.1 (65535 : Int))) with | none => none | some y21 => (if y21.2.2.2.2 then some (y0.1, y1.1, y2.1, y3.1, y3.2.1, 0, 0, y19.1, y20.1, y21.1, true, y21.2.2.1, y21.2.2.2.1, y21.2.2.2.2) else (if (!(q0 y0.1 y1.1 y2.1 y3.1 y3.2.1 0 0 y19.1 y20.1 y21.1 ([] : LR))) then some (y0.1, y1.1, y2.1, y3.1, y3.2.1, 0, 0, y19.1, y20.1, y21.1, true, y21.2.2.1, y21.2.2.2.1, y21.2.2.2.2) else some (y0.1, y1.1, y2.1, y3.1, y3.2.1, 0, 0, y19.1, y20.1, y21.1, y21.2.1, y21.2.2.1, y21.2.2.2.1, y21.2.2.2.2)))) else (if y20.2.2.2.2 then some (y0.1, y1.1, y2.1, y3.1, y3.2.1, 0, 0, y19.1, y20.1, 0, true, y20.2.2.1, y20.2.2.2.1, y20.2.2.2.2) else (if (!(q0 y0.1 y1.1 y2.1 y3.1 y3.2.1 0 0 y19.1 y20.1 0 ([] : LR))) then some (y0.1, y1.1, y2.1, y3.1, y3.2.1, 0, 0, y19.1, y20.1, 0, true, y20.2.2.1, y20.2.2.2.1, y20.2.2.2.2) else some (y0.1, y1.1, y2.1, y3.1, y3.2.1, 0, 0, y19.1, y20.1, 0, y20.2.1, y20.2.2.1, y20.2.2.2.1, y20.2.2.2.2)))))) else (if (qy y0.1 (3 : Int)) then (match (veil (qI.f BIG y3.2.2.2.1 y3.2.2.2.2.1 y3.2.2.2.2.2 y3.2.2.1 (65535 : Int))) with | none => none | some y22 => (if y22.2.2.2.2 then some (y0.1, y1.1, y2.1, y3.1, y3.2.1, 0, 0, 0, 0, y22.1, true, y22.2.2.1, y22.2.2.2.1, y22.2.2.2.2) else (if (!(q0 y0.1 y1.1 y2.1 y3.1 y3.2.1 0 0 0 0 y22.1 ([] : LR))) then some (y0.1, y1.1, y2.1, y3.1, y3.2.1, 0, 0, 0, 0, y22.1, true, y22.2.2.1, y22.2.2.2.1, y22.2.2.2.2) else some (y0.1, y1.1, y2.1, y3.1, y3.2.1, 0, 0, 0, 0, y22.1, y22.2.1, y22.2.2.1, y22.2.2.2.1, y22.2.2.2.2)))) else (if y3.2.2.2.2.2 then some (y0.1, y1.1, y2.1, y3.1, y3.2.1, 0, 0, 0, 0, 0, true, y3.2.2.2.1, y3.2.2.2.2.1, y3.2.2.2.2.2) else (if (!(q0 y0.1 y1.1 y2.1 y3.1 y3.2.1 0 0 0 0 0 ([] : LR))) then some (y0.1, y1.1, y2.1, y3.1, y3.2.1, 0, 0, 0, 0, 0, true, y3.2.2.2.1, y3.2.2.2.2.1, y3.2.2.2.2.2) else some (y0.1, y1.1, y2.1, y3.1, y3.2.1, 0, 0, 0, 0, 0, y3.2.2.1, y3.2.2.2.1, y3.2.2.2.2.1, y3.2.2.2.2.2))))))))))) else none)
def zO.f (qa : Nat) (bs : List Int) (at0 : Int) (bad za : Bool) : Option (Int × Int × Int × Int × Int × Int × Int × Int × Int × Int × Bool × (List Int) × Int × Bool) := zO.b bs at0 bad za
theorem zO.eq (qa : Nat) (bs : List Int) (at0 : Int) (bad za : Bool) : (denF qeB loopN qa Tryz.f74 [.raw] [.ptr 0 0] [.box [.ptr 1 0, .d .bool za], .box [.d (.sl (.int .u8)) bs, .d tQi at0, .d .bool bad]] zO.k) = zO.f qa bs at0 bad za := by
 kernel_rfl
def ZF : Den.Sum := ⟨[.pb [.frz none [0] 0 (.int .u8)]], fun qK qn κ => match qK, qn with
 | [.ptr 0 0], [.box [.ptr 1 0, .d .bool za], .box [.d (.sl (.int .u8)) bs, .d (.int .i64) at0, .d .bool bad]] => (match veil (zO.f BIG bs at0 bad za) with | none => none | some y => κ [.agg [.d (.int .i64) y.1, .d (.int .i64) y.2.1, .d (.int .i64) y.2.2.1, .d (.int .i64) y.2.2.2.1, .d (.int .i64) y.2.2.2.2.1, .d (.int .i64) y.2.2.2.2.2.1, .d (.int .i64) y.2.2.2.2.2.2.1, .d (.int .i64) y.2.2.2.2.2.2.2.1, .d (.int .i64) y.2.2.2.2.2.2.2.2.1, .d (.int .i64) y.2.2.2.2.2.2.2.2.2.1, .nilsl]] [.box [.ptr 1 0, .d .bool y.2.2.2.2.2.2.2.2.2.2.1], .box [.d (.sl (.int .u8)) y.2.2.2.2.2.2.2.2.2.2.2.1, .d (.int .i64) y.2.2.2.2.2.2.2.2.2.2.2.2.1, .d .bool y.2.2.2.2.2.2.2.2.2.2.2.2.2]])
 | _, _ => none⟩
theorem qfZ : SumDet ZF := zj fun _ _ _ _ => by
 unfold ZF
 simp only [veil_eq]
 split
 ·split <;> rfl
 ·rfl
theorem qgl : SumOk Tryz.prog 74 ZF := by
 have hE : EnvOk Tryz.prog qeB := env_ok (l := [(76, QK), (41, qah), (98, zQ), (52, Zg), (107, Qy), (84, qaP)]) th_ok qZ ⟨⟨qat, qad⟩, ⟨qb0, qbl⟩, ⟨qap, qae⟩, ⟨qbd, qaL⟩, ⟨qce, qb1⟩, ⟨qcZ, qcj⟩, trivial⟩ _
 refine sum_ok hE Tryz.func74 rfl (by kernel_rfl) ZF [.raw] zO.k ?_
 intro R avs qn κ r h
 unfold ZF at h
 simp only [veil_eq] at h
 split at h
 ·rename_i za bs at0 bad
  split at h
  ·cases h
  ·rename_i y hy
   refine ⟨BIG, _, _, _, (zO.eq BIG bs at0 bad za).trans hy, ?_, h⟩
   intro rs ros hk
   unfold zO.k at hk
   split at hk
   ·rw [← sj hk]; exact ⟨rfl, rfl⟩
   ·cases hk
 ·cases h
theorem qh7 (l m : List Int) : strOf l ++ strOf m = strOf (l ++ m) := by
 apply ByteArray.ext
 rw [ByteArray.data_append]
 simp [strOf, strOfNums]
theorem qfl (l : List Int) : (strOf l).size = l.length := strOfNums_size l
def qfc : Nat → Int → List Int
 | 0, u => [48 + u]
 | j + 1, u => if u < 10 then [48 + u] else qfc j (u / 10) ++ [48 + u % 10]
def qq1 (v : Int) : List Int := if v < 0 then 45 :: qfc 18 (-v) else qfc 18 v
def ZG (v : Int) : ByteArray := strOf (qq1 v)
theorem qkL (j : Nat) (u : Int) (h : u < 10) : qfc j u = [48 + u] := by
 cases j with
 | zero => rfl
 | succ j => rw [qfc, if_pos h]
theorem qjN : ∀ (j : Nat) (u : Int), (qfc j u).length ≤ j + 1
 | 0, u => by simp [qfc]
 | j + 1, u => by
  rw [qfc]
  split
  ·simp
  ·have := qjN j (u / 10)
   simp; omega
theorem Z7 (v : Int) : (ZG v).size ≤ 20 := by
 unfold ZG
 rw [qfl]
 unfold qq1
 have h1 := qjN 18 v
 have h2 := qjN 18 (-v)
 split
 ·simp; omega
 ·omega
theorem Num.loop (qa : Nat) (v : Int) : ∀ (j k : Nat) (u : Int) (b : List Int), 0 ≤ u → u < 10 ^ (j + 1) → j ≤ 18 → j < k → b.length = 20 →
  zl.l6 qa v k ((j + 2 : Nat) : Int) u b = some (strOf ((if v < 0 then [45] else []) ++ (qfc j u ++ b.drop (j + 2)))) := by
 intro j
 induction j with
 | zero =>
  intro k u b h0 h1 hj hk hb
  obtain ⟨k, rfl⟩ : ∃ k', k = k' + 1 := ⟨k - 1, by omega⟩
  have h1 : u < 10 := by simpa using h1
  rw [zl.l6]
  unfold zl.b6
  rw [show IntKind.wrap .i64 (((0 + 2 : Nat) : Int) - 1) = ((1 : Nat) : Int) from by decide, Qn, List.getElem?_eq_getElem (by omega)]
  dsimp only
  rw [Int.tdiv_eq_ediv_of_nonneg h0, Int.tmod_eq_emod_of_nonneg h0, show u / 10 = 0 from by omega, show u % 10 = u from by omega, if_pos (by decide), qab (48 + u) (by omega) (by omega), show IntKind.wrap .u8 (48 + u) = 48 + u from by rw [qgE]; omega]
  have hd : (b.set 1 (48 + u)).drop 1 = (48 + u) :: b.drop 2 := by
   rw [List.drop_eq_getElem_cons (by simp; omega), List.getElem_set_self, List.drop_set_of_lt (by omega)]
  by_cases hv : v < 0
  ·rw [if_pos (by simpa using hv), show IntKind.wrap .i64 (((1 : Nat) : Int) - 1) = ((0 : Nat) : Int) from by decide, Qn, Int.toNat_natCast, List.getElem?_eq_getElem (by simp; omega)]
   dsimp only
   rw [if_pos (by simp), if_pos hv, Int.toNat_natCast, List.take_length, qfc]
   refine congrArg (fun l => some (strOf l)) ?_
   rw [List.drop_zero]
   have e : (b.set 1 (48 + u)).set 0 45 = 45 :: (b.set 1 (48 + u)).drop 1 := by
    cases b with
    | nil => simp at hb
    | cons x b => simp
   rw [e, hd]
   all_goals rfl
  ·rw [if_neg (by simpa using hv), if_pos (by simp; omega), if_neg hv, Int.toNat_natCast, List.take_length, hd, qfc]
   all_goals rfl
 | succ j ih =>
  intro k u b h0 h1 hj hk hb
  obtain ⟨k, rfl⟩ : ∃ k', k = k' + 1 := ⟨k - 1, by omega⟩
  have hu : u < 10000000000000000000 := by
   have : (10 : Int) ^ (j + 1 + 1) ≤ 10 ^ 19 := by
    have : (10 : Nat) ^ (j + 1 + 1) ≤ 10 ^ 19 := Nat.pow_le_pow_right (by decide) (by omega)
    exact_mod_cast this
   have e : (10 : Int) ^ 19 = 10000000000000000000 := by decide
   omega
  rw [zl.l6]
  unfold zl.b6
  rw [show IntKind.wrap .i64 (((j + 1 + 2 : Nat) : Int) - 1) = ((j + 2 : Nat) : Int) from by rw [qX _ (by omega) (by omega)]; omega, Qn, List.getElem?_eq_getElem (by omega)]
  dsimp only
  rw [Int.tdiv_eq_ediv_of_nonneg h0, Int.tmod_eq_emod_of_nonneg h0, qab (u / 10) (by omega) (by omega), qab (48 + u % 10) (by omega) (by omega), show IntKind.wrap .u8 (48 + u % 10) = 48 + u % 10 from by rw [qgE]; omega, Int.toNat_natCast]
  have hd : (b.set (j + 2) (48 + u % 10)).drop (j + 2) = (48 + u % 10) :: b.drop (j + 3) := by
   rw [List.drop_eq_getElem_cons (by simp; omega), List.getElem_set_self, List.drop_set_of_lt (by omega)]
  by_cases h10 : u < 10
  ·have e10 : u % 10 = u := by omega
   rw [e10] at hd ⊢
   rw [if_pos (c := (u / 10 == 0) = true) (by simp; omega)]
   by_cases hv : v < 0
   ·rw [if_pos (by simpa using hv), show IntKind.wrap .i64 (((j + 2 : Nat) : Int) - 1) = ((j + 1 : Nat) : Int) from by rw [qX _ (by omega) (by omega)]; omega, Qn, List.getElem?_eq_getElem (by simp; omega)]
    dsimp only
    rw [if_pos (by simp; omega), if_pos hv, Int.toNat_natCast, List.take_length, qkL _ u h10]
    refine congrArg (fun l => some (strOf l)) ?_
    rw [List.drop_eq_getElem_cons (by simp; omega), List.getElem_set_self]
    rw [List.drop_set_of_lt (by omega), hd]
    all_goals rfl
   ·rw [if_neg (by simpa using hv), if_pos (by simp; omega), if_neg hv, List.take_length, hd, qkL _ u h10]
    all_goals rfl
  ·rw [if_neg (by simp; omega), ih k (u / 10) (b.set (j + 2) (48 + u % 10)) (by omega) (by rw [Int.pow_succ] at h1; generalize (10 : Int) ^ (j + 1) = M at h1 ⊢; omega) (by omega) (by omega) (by simpa using hb), hd, qfc, if_neg h10]
   simp
theorem qfX.pure (v : Int) (h0 : -9223372036854775808 ≤ v) (h1 : v < 9223372036854775808) : zl.f BIG v = some (ZG v) := by
 have hB : 18 < BIG := by rw [Zx]; omega
 have e19 : (10 : Int) ^ (18 + 1) = 10000000000000000000 := by decide
 unfold zl.f zl.b ZG qq1
 by_cases hv : v < 0
 ·rw [if_pos (by simpa using hv), if_pos hv]
  have e1 : IntKind.wrap .u64 v = v + 18446744073709551616 := by simp [IntKind.wrap, IntKind.signed, IntKind.bits]; omega
  have e2 : IntKind.wrap .u64 (0 - (v + 18446744073709551616)) = -v := by simp [IntKind.wrap, IntKind.signed, IntKind.bits]; omega
  have := Num.loop BIG v 18 BIG (-v) (List.replicate 20 (zeroI (Ty.int .u8))) (by omega) (by rw [e19]; omega) (by omega) hB (by simp)
  rw [e1, e2]
  rw [if_pos hv] at this
  simpa using this
 ·rw [if_neg (by simpa using hv), if_neg hv]
  have := Num.loop BIG v 18 BIG v (List.replicate 20 (zeroI (Ty.int .u8))) (by omega) (by rw [e19]; omega) (by omega) hB (by simp)
  rw [qab v (by omega) (by omega)]
  rw [if_neg hv] at this
  simpa using this
def pv (top : Bool) : Nat → List Int → Option (Int × List Int)
 | _, [] => none
 | 0, c :: r => if c > 1 then none else if c = 0 then none else some (c, r)
 | k + 1, c :: r => if c < 128 then (if c = 0 ∧ top = false then none else some (c, r)) else
   match pv false k r with
   | some (v, s) => some (c - 128 + 128 * v, s)
   | none => none
theorem qqW : ∀ (k : Nat) (top : Bool) (l : List Int), (∀ c ∈ l, 0 ≤ c ∧ c ≤ 255) → ∀ v r, pv top k l = some (v, r) →
  l = viF k v ++ r ∧ 0 ≤ v ∧ v < 2 * 128 ^ k ∧ (top = false → 1 ≤ v) := by
 intro k
 induction k with
 | zero =>
  intro top l hb v r h
  cases l with
  | nil => rw [pv] at h; cases h
  | cons c l =>
   obtain ⟨c0, c1⟩ := hb c (List.mem_cons_self ..)
   rw [pv] at h
   split at h
   ·cases h
   ·split at h
    ·cases h
    ·cases h
     refine ⟨rfl, c0, by simp; omega, fun _ => by omega⟩
 | succ k ih =>
  intro top l hb v r h
  cases l with
  | nil => rw [pv] at h; cases h
  | cons c l =>
   obtain ⟨c0, c1⟩ := hb c (List.mem_cons_self ..)
   have hp : (1 : Int) ≤ 128 ^ k := Int.pow_pos (by decide)
   rw [pv] at h
   split at h
   ·rename_i hc
    split at h
    ·cases h
    ·rename_i hz
     have hz : ¬ (c = 0 ∧ top = false) := hz
     obtain ⟨rfl, rfl⟩ : c = v ∧ l = r := by cases h; exact ⟨rfl, rfl⟩
     refine ⟨?_, c0, ?_, fun ht => ?_⟩
     ·rw [viF, if_neg (by omega)]; rfl
     ·rw [Int.pow_succ]; generalize (128 : Int) ^ k = M at hp ⊢; omega
     ·by_cases hz' : c = 0
      ·exact absurd ⟨hz', ht⟩ hz
      ·omega
   ·rename_i hc
    split at h
    ·rename_i w s hw
     cases h
     obtain ⟨e, w0, w1, w2⟩ := ih false l (fun c h => hb c (List.mem_cons_of_mem _ h)) w _ hw
     have w2 := w2 rfl
     refine ⟨?_, by omega, ?_, fun _ => by omega⟩
     ·rw [viF, if_pos (by omega), show (c - 128 + 128 * w) % 128 + 128 = c from by omega, show (c - 128 + 128 * w) / 128 = w from by omega, e]; rfl
     ·rw [Int.pow_succ]; generalize (128 : Int) ^ k = M at hp w1 ⊢; omega
    ·cases h
theorem qrQ : ∀ (k : Nat) (top : Bool) (v : Int) (r : List Int), 0 ≤ v → v < 2 * 128 ^ k → (top = false ∨ k = 0 → 1 ≤ v) → pv top k (viF k v ++ r) = some (v, r) := by
 intro k
 induction k with
 | zero =>
  intro top v r h0 h1 h2
  have := h2 (Or.inr rfl)
  simp at h1
  rw [viF]
  show pv top 0 (v :: r) = _
  rw [pv, if_neg (by omega), if_neg (by omega)]
 | succ k ih =>
  intro top v r h0 h1 h2
  rw [viF]
  have hp : (1 : Int) ≤ 128 ^ k := Int.pow_pos (by decide)
  by_cases hc : v ≥ 128
  ·rw [if_pos hc]
   show pv top (k + 1) ((v % 128 + 128) :: (viF k (v / 128) ++ r)) = _
   rw [pv, if_neg (by omega), ih false (v / 128) r (by omega) (by rw [Int.pow_succ] at h1; generalize (128 : Int) ^ k = M at hp h1 ⊢; omega) (fun _ => by omega)]
   show some (v % 128 + 128 - 128 + 128 * (v / 128), r) = _
   rw [show v % 128 + 128 - 128 + 128 * (v / 128) = v from by omega]
  ·rw [if_neg hc]
   show pv top (k + 1) (v :: r) = _
   rw [pv, if_pos (by omega), if_neg]
   intro ⟨a, b⟩
   have := h2 (Or.inl b)
   omega
def pV (l : List Int) : Option (Int × List Int) := pv true 9 l
theorem qmZ {l : List Int} (hb : ∀ c ∈ l, 0 ≤ c ∧ c ≤ 255) {v : Int} {r : List Int} (h : pV l = some (v, r)) : l = vi v ++ r ∧ 0 ≤ v ∧ v < 18446744073709551616 := by
 obtain ⟨a, b, c, _⟩ := qqW 9 true l hb v r h
 exact ⟨a, b, by simpa using c⟩
theorem qrR {v : Int} (r : List Int) (h0 : 0 ≤ v) (h1 : v < 18446744073709551616) : pV (vi v ++ r) = some (v, r) :=
 qrQ 9 true v r h0 (by simpa using h1) (fun h => by simp at h)
theorem qpt : (List.range 256).all (fun n => bits BinOp.and .u8 (n : Int) 127 == (n : Int) % 128) = true := by kernel_rfl
theorem qqv (c : Int) (h0 : 0 ≤ c) (h1 : c ≤ 255) : bits BinOp.and .u8 c 127 = c % 128 := by
 have := List.all_eq_true.1 qpt c.toNat (by simp; omega)
 rw [show ((c.toNat : Nat) : Int) = c from by omega] at this
 simpa using this
theorem qn0 (x y : Int) (m : Nat) (h0 : 0 ≤ x) (h1 : x < 2 ^ m) (y0 : 0 ≤ y) (hy : y * 2 ^ m < 18446744073709551616) (hx : x + y * 2 ^ m < 18446744073709551616) : bits BinOp.or .u64 x (y * 2 ^ m) = x + y * 2 ^ m := by
 obtain ⟨a, rfl⟩ := Int.eq_ofNat_of_zero_le h0
 obtain ⟨b, rfl⟩ := Int.eq_ofNat_of_zero_le y0
 have e2 : ((b : Int) * 2 ^ m) = ((b * 2 ^ m : Nat) : Int) := by simp
 rw [e2] at hy hx ⊢
 have h1' : a < 2 ^ m := by
  have : ((2 : Int) ^ m) = ((2 ^ m : Nat) : Int) := by simp
  rw [this] at h1
  exact Int.ofNat_lt.1 h1
 unfold bits
 dsimp only
 have b64 : IntKind.bits .u64 = 64 := rfl
 have t1 : (BitVec.ofInt (IntKind.bits .u64) (a : Int)).toNat = a := by
  rw [b64, BitVec.ofInt_natCast, BitVec.toNat_ofNat, Nat.mod_eq_of_lt (by omega)]
 have t2 : (BitVec.ofInt (IntKind.bits .u64) ((b * 2 ^ m : Nat) : Int)).toNat = b * 2 ^ m := by
  rw [b64, BitVec.ofInt_natCast, BitVec.toNat_ofNat, Nat.mod_eq_of_lt (by omega)]
 rw [BitVec.toNat_or, t1, t2]
 have t3 : a ||| b * 2 ^ m = a + b * 2 ^ m := by
  rw [Nat.or_comm, Nat.mul_comm, ← Nat.two_pow_add_eq_or_of_lt h1']
  omega
 rw [t3, qab _ (by omega) (by omega)]
 omega
theorem qnX : IntKind.bits .u64 = 64 := rfl
theorem Get.loop (qa : Nat) (b : List Int) (hb : ∀ c ∈ b, 0 ≤ c ∧ c ≤ 255) (hl : b.length < 1099511600000) : ∀ (j k : Nat) (i : Nat) (x : Int), i + j = 9 → j < k → i ≤ b.length → 0 ≤ x → x < 2 ^ (7 * i) →
  match pv (i == 0) j (b.drop i) with
  | some (v, r) => zq.l4 qa b k x (i : Int) = some (x + v * 2 ^ (7 * i), (b.length : Int) - (r.length : Int), 0)
  | none => ∃ e, (e = 2 ∨ e = 4) ∧ zq.l4 qa b k x (i : Int) = some (0, 0, e) := by
 intro j
 induction j with
 | zero =>
  intro k i x hi hk hle x0 x1
  obtain ⟨k, rfl⟩ : ∃ k', k = k' + 1 := ⟨k - 1, by omega⟩
  obtain rfl : i = 9 := by omega
  rw [zq.l4]
  unfold zq.b4
  rw [if_pos (by simp)]
  by_cases hlt : 9 < b.length
  ·rw [if_neg (by simp; omega), Qn, List.getElem?_eq_getElem hlt, ← List.getElem_cons_drop hlt]
   dsimp only
   obtain ⟨c0, c1⟩ := hb _ (List.getElem_mem hlt)
   have hd : (b.drop (9 + 1)).length = b.length - 10 := by simp
   generalize b[9] = c at c0 c1 ⊢
   generalize b.drop (9 + 1) = rest at hd ⊢
   rw [pv, show ((((9 : Nat)) : Int) == (9 : Int)) = true from rfl, if_pos (c := true = true) rfl]
   by_cases hc : c > 1
   ·rw [if_pos hc, if_pos (c := decide (c > 1) = true) (by simpa using hc)]
    exact ⟨4, Or.inr rfl, rfl⟩
   ·rw [if_neg hc, if_neg (c := decide (c > 1) = true) (by simpa using hc), if_neg (c := IntKind.wrap .i64 ((7 : Int) * ((9 : Nat) : Int)) < 0) (by decide), if_pos (c := decide (c < 128) = true) (by simp; omega)]
    by_cases hz : c = 0
    ·rw [if_pos hz, if_pos (c := (c == 0) = true) (by simpa using hz), if_pos (c := decide ((((9 : Nat)) : Int) > 0) = true) (by simp)]
     exact ⟨4, Or.inr rfl, rfl⟩
    ·rw [if_neg hz, if_neg (c := (c == 0) = true) (by simpa using hz)]
     obtain rfl : c = 1 := by omega
     dsimp only
     have e7 : Int.toNat (IntKind.wrap .i64 ((7 : Int) * ((9 : Nat) : Int))) = 63 := by decide
     rw [qqv 1 (by decide) (by decide), e7, qnX, show Min.min 63 64 = 63 from rfl, qab ((1 : Int) % 128) (by decide) (by decide), qab _ (by decide) (by decide), qn0 x _ 63 x0 (by simpa using x1) (by decide) (by decide) (by simp at x1 ⊢; omega)]
     rw [qX _ (by omega) (by omega)]
     simp
     omega
  ·rw [if_pos (by simp; omega), List.drop_of_length_le (by omega), pv]
   exact ⟨2, Or.inl rfl, rfl⟩
 | succ j ih =>
  intro k i x hi hk hle x0 x1
  obtain ⟨k, rfl⟩ : ∃ k', k = k' + 1 := ⟨k - 1, by omega⟩
  rw [zq.l4]
  unfold zq.b4
  rw [if_pos (by simp; omega)]
  by_cases hlt : i < b.length
  ·rw [if_neg (by simp; omega), Qn, List.getElem?_eq_getElem hlt, ← List.getElem_cons_drop hlt]
   dsimp only
   obtain ⟨c0, c1⟩ := hb _ (List.getElem_mem hlt)
   have hd : (b.drop (i + 1)).length = b.length - (i + 1) := by simp
   have IH := ih k (i + 1)
   generalize b[i] = c at c0 c1 ⊢
   generalize b.drop (i + 1) = rest at hd IH ⊢
   have w7 : IntKind.wrap .i64 ((7 : Int) * (i : Int)) = ((7 * i : Nat) : Int) := by rw [qX _ (by omega) (by omega)]; omega
   have w1 : IntKind.wrap .i64 ((i : Int) + 1) = ((i + 1 : Nat) : Int) := by rw [qX _ (by omega) (by omega)]; omega
   have hm : Min.min (Int.toNat ((7 * i : Nat) : Int)) 64 = 7 * i := by rw [Int.toNat_natCast]; omega
   have hpos : (1 : Int) ≤ 2 ^ (7 * i) := Int.pow_pos (by decide)
   have hbig : (2 : Int) ^ (7 * i) ≤ 2 ^ 56 := by
    have : (2 : Nat) ^ (7 * i) ≤ 2 ^ 56 := Nat.pow_le_pow_right (by decide) (by omega)
    exact_mod_cast this
   have hs : (2 : Int) ^ (7 * (i + 1)) = 2 ^ (7 * i) * 128 := by rw [show 7 * (i + 1) = 7 * i + 7 from by omega, Int.pow_add]; rfl
   rw [pv, if_neg (c := ((i : Int) == 9) = true) (by simp; omega), w7, w1, qnX, hm, if_neg (c := ((7 * i : Nat) : Int) < 0) (by omega), qqv c c0 c1, qab (c % 128) (by omega) (by omega)]
   have hq : c % 128 * 2 ^ (7 * i) < 18446744073709551616 ∧ x + c % 128 * 2 ^ (7 * i) < 2 ^ (7 * i) * 128 ∧ 0 ≤ c % 128 * 2 ^ (7 * i) ∧ x + c % 128 * 2 ^ (7 * i) < 18446744073709551616 := by
    have a1 : c % 128 * 2 ^ (7 * i) ≤ 127 * 2 ^ (7 * i) := Int.mul_le_mul_of_nonneg_right (by omega) (by omega)
    have a2 : 0 ≤ c % 128 * 2 ^ (7 * i) := Int.mul_nonneg (by omega) (by omega)
    generalize c % 128 * 2 ^ (7 * i) = Q at a1 a2 ⊢
    generalize (2 : Int) ^ (7 * i) = M at a1 x1 hbig ⊢
    simp at hbig
    omega
   rw [qab _ hq.2.2.1 hq.1, qn0 x _ (7 * i) x0 x1 (by omega) hq.1 hq.2.2.2]
   by_cases hc : c < 128
   ·rw [if_pos hc, if_pos (c := decide (c < 128) = true) (by simpa using hc)]
    by_cases hz : c = 0
    ·rw [if_pos (c := (c == 0) = true) (by simpa using hz)]
     by_cases hi0 : i = 0
     ·subst hi0
      rw [if_neg (c := decide ((((0 : Nat)) : Int) > 0) = true) (by simp), if_neg (by simp)]
      subst hz
      simp
      omega
     ·rw [if_pos (c := decide ((i : Int) > 0) = true) (by simp; omega), if_pos ⟨hz, by simpa using hi0⟩]
      exact ⟨4, Or.inr rfl, rfl⟩
    ·rw [if_neg (fun h => hz h.1), if_neg (c := (c == 0) = true) (by simpa using hz)]
     rw [show c % 128 = c from by omega]
     simp
     omega
   ·rw [if_neg hc, if_neg (c := decide (c < 128) = true) (by simpa using hc)]
    have := IH (x + c % 128 * 2 ^ (7 * i)) (by omega) (by omega) (by omega) (by omega) (by rw [hs]; exact hq.2.1)
    rw [show (i + 1 == 0) = false from rfl] at this
    split at this
    ·rename_i v r hv
     rw [this, hs]
     refine congrArg (fun z => some (z, _)) ?_
     rw [show c % 128 = c - 128 from by omega, Int.add_mul, show 128 * v * 2 ^ (7 * i) = v * (2 ^ (7 * i) * 128) from by rw [Int.mul_comm 128 v, Int.mul_assoc, Int.mul_comm 128]]
     omega
    ·exact this
  ·rw [if_pos (by simp; omega), List.drop_of_length_le (by omega), pv]
   exact ⟨2, Or.inl rfl, rfl⟩
theorem Get.pure (b : List Int) (hb : ∀ c ∈ b, 0 ≤ c ∧ c ≤ 255) (hl : b.length < 1099511600000) :
  match pV b with
  | some (v, r) => zq.f BIG b = some (v, (b.length : Int) - (r.length : Int), 0)
  | none => ∃ e, (e = 2 ∨ e = 4) ∧ zq.f BIG b = some (0, 0, e) := by
 have := Get.loop BIG b hb hl 9 BIG 0 0 rfl (by rw [Zx]; omega) (by omega) (by omega) (by simp)
 unfold zq.f zq.b pV
 simpa using this
def qbD (x : Int × List Int) : List Int := x.1 :: (vi (x.2.length : Int) ++ x.2)
def qch (b : LF) : List Int := vi (b.length : Int) ++ b.flatMap qbD
def qbX (o : REC × Bool) (r : REC) : Bool := o.2 && (o.1.2.2.2.1.1 == r.2.2.2.1.1 && o.1.2.2.2.1.2 == r.2.2.2.1.2)
def qcb (o : REC × Bool) (r : REC) : Bool := o.2 && (!r.2.2.2.2.1 && ZP o.1.2.2.2.2.2 r.2.2.2.2.2 == 0)
def qeX (o : REC × Bool) (r : REC) : Int := r.2.2.1 + (if r.2.2.2.2.1 then 4 else 0) + (if qbX o r then 8 else 0) + (if qcb o r then 16 else 0)
def qdr (o : REC × Bool) (qi : Int) (r : REC) : List Int :=
 vi (r.1 - qi - 1) ++ (qeX o r :: ((if qbX o r then [] else [r.2.2.2.1.1 * 16 + r.2.2.2.1.2]) ++ (vi (qbq (r.2.1 - o.1.2.1)) ++ (if r.2.2.2.2.1 || qcb o r then [] else qch r.2.2.2.2.2))))
theorem qrf : (List.range 32).all (fun n => (bits BinOp.and .i64 (n : Int) 8 == if (n : Int) / 8 % 2 = 1 then 8 else 0) && ((bits BinOp.and .i64 (n : Int) 20 == if (n : Int) / 4 % 2 = 1 then (if (n : Int) / 16 = 1 then 20 else 4) else (if (n : Int) / 16 = 1 then 16 else 0)) && ((decide ((n : Int) ≥ 4) || (bits BinOp.or .i64 (n : Int) 4 == (n : Int) + 4)) && ((decide ((n : Int) ≥ 8) || (bits BinOp.or .i64 (n : Int) 8 == (n : Int) + 8)) && (decide ((n : Int) ≥ 16) || (bits BinOp.or .i64 (n : Int) 16 == (n : Int) + 16)))))) = true := by kernel_rfl
theorem qgY (v : Int) (h0 : 0 ≤ v) (h1 : v < 32) : (bits BinOp.and .i64 v 8 = if v / 8 % 2 = 1 then 8 else 0) ∧ (bits BinOp.and .i64 v 20 = if v / 4 % 2 = 1 then (if v / 16 = 1 then 20 else 4) else (if v / 16 = 1 then 16 else 0)) ∧ (v < 4 → bits BinOp.or .i64 v 4 = v + 4) ∧ (v < 8 → bits BinOp.or .i64 v 8 = v + 8) ∧ (v < 16 → bits BinOp.or .i64 v 16 = v + 16) := by
 have := List.all_eq_true.1 qrf v.toNat (by simp; omega)
 rw [show ((v.toNat : Nat) : Int) = v from by omega] at this
 simp only [Bool.and_eq_true, beq_iff_eq, Bool.or_eq_true, decide_eq_true_eq] at this
 obtain ⟨a, b, c, d, e⟩ := this
 exact ⟨a, b, fun h => c.resolve_left (by omega), fun h => d.resolve_left (by omega), fun h => e.resolve_left (by omega)⟩
theorem qgZ (v : Int) (h0 : 0 ≤ v) (h1 : v < 256) : Qd 1 v = true := (qbS 1 v).2 ⟨by omega, by omega, h0, by simpa using h1⟩
theorem qiE (v : Int) (h0 : 0 ≤ v) (h1 : v < 256) : be (Int.toNat (1 : Int)) v = [v] := be1 v h0 h1
theorem qo1 (l : List Int) (id inc st lo hi : Int) (cut : Bool) (bag : LF) (qi : Int) (qb : LR) (hb : ∀ x ∈ bag, 0 ≤ x.1 ∧ x.1 ≤ 255 ∧ x.2.length ≤ 1000000) (hn : bag.length < 1000000) :
  ∀ (k i : Nat) (acc : List Int), i ≤ bag.length → bag.length - i < k → acc.length + 2000000 * (bag.length - i) ≤ 1000000000000 →
  qd.l17 BIG l id inc st lo hi cut bag qi qb k (bag.length : Int) (i : Int) acc = some (acc ++ (bag.drop i).flatMap qbD) := by
 intro k
 induction k with
 | zero => intro i acc h1 h2; omega
 | succ k ih =>
  intro i acc h1 h2 h3
  rw [qd.l17_at BIG (k + 1) k rfl]
  unfold qd.b17
  simp only [veil_eq]
  by_cases hi' : i < bag.length
  ·rw [if_pos (by simp; omega), Qn, List.getElem?_eq_getElem hi']
   dsimp only
   obtain ⟨t0, t1, t2⟩ := hb bag[i] (List.getElem_mem hi')
   rw [List.drop_eq_getElem_cons hi', List.flatMap_cons]
   generalize bag[i] = x at t0 t1 t2 ⊢
   have hl := qaD (x.2.length : Int)
   rw [if_pos ⟨qgZ _ t0 (by omega), (qbR _).2 (by omega)⟩, qiE _ t0 (by omega), qjZ.pure _ _ (by intro v hv; simp at hv; omega) (by simp) (by simp; omega)]
   dsimp only
   simp only [List.flatMap_cons, List.flatMap_nil, List.append_nil]
   rw [Raw.pure _ _ (by simp; omega)]
   dsimp only
   rw [qX _ (by omega) (by omega), show ((i : Int) + 1) = ((i + 1 : Nat) : Int) from by omega, ih (i + 1) _ (by omega) (by omega) (by simp; omega)]
   simp [qbD]
  ·rw [if_neg (by simp; omega), List.drop_of_length_le (by omega)]
   simp
theorem qrB (l : List Int) (id inc st lo hi : Int) (cut : Bool) (bag : LF) (qi : Int) (qb : LR) (v : Int) (acc : List Int) (a1 old a3 a4 a5 : Int) (a6 : Bool) (a7 : LF)
  (hb : ∀ x ∈ bag, 0 ≤ x.1 ∧ x.1 ≤ 255 ∧ x.2.length ≤ 1000000) (hn : bag.length < 10000) (hi0 : 0 ≤ inc) (hi1 : inc ≤ 281474976710655) (ho0 : 0 ≤ old) (ho1 : old ≤ 281474976710655) (hv0 : 0 ≤ v) (hv1 : v < 32) (hl : acc.length ≤ 100000000000) :
  qd.l13 BIG l id inc st lo hi cut bag qi qb BIG v acc a1 old a3 a4 a5 a6 a7 = some (acc ++ (vi (qbq (inc - old)) ++ (if v / 4 % 2 = 1 ∨ v / 16 = 1 then [] else qch bag))) := by
 rw [qd.l13_at BIG BIG (BIG - 1) qaX]
 unfold qd.b13
 simp only [veil_eq]
 have hz : 0 ≤ qbq (inc - old) ∧ qbq (inc - old) < 1000000000000000000 := by unfold qbq; split <;> omega
 have hlz := qaD (qbq (inc - old))
 rw [qX _ (by omega) (by omega), Zig.pure _ (by omega) (by omega)]
 dsimp only
 rw [Of.pure _ hz.1 (by omega)]
 dsimp only
 rw [Raw.pure _ _ (by omega)]
 dsimp only
 rw [(qgY v hv0 hv1).2.1]
 by_cases h4 : v / 4 % 2 = 1
 ·rw [if_pos h4, if_pos (by split <;> decide), if_pos (.inl h4)]
  simp
 ·rw [if_neg h4]
  by_cases h16 : v / 16 = 1
  ·rw [if_pos h16, if_pos (by decide), if_pos (.inr h16)]
   simp
  ·rw [if_neg h16, if_neg (by decide), if_neg (by omega), qjZ.pure _ _ (by intro x hx; simp at hx; omega) (by simp) (by simp; omega)]
   dsimp only
   simp only [List.flatMap_cons, List.flatMap_nil, List.append_nil]
   have hlb := qaD (bag.length : Int)
   have := qo1 l id inc st lo hi cut bag qi qb hb (by omega) BIG 0 (acc ++ vi (qbq (inc - old)) ++ vi (bag.length : Int)) (by omega) (by rw [Zx]; omega) (by simp; omega)
   rw [show ((0 : Nat) : Int) = 0 from rfl, List.drop_zero] at this
   rw [this]
   simp [qch]
theorem qsG (l : List Int) (id inc st lo hi : Int) (cut : Bool) (bag : LF) (qi : Int) (qb : LR) (v : Int) (a1 old a3 a4 a5 : Int) (a6 : Bool) (a7 : LF)
  (hb : ∀ x ∈ bag, 0 ≤ x.1 ∧ x.1 ≤ 255 ∧ x.2.length ≤ 1000000) (hn : bag.length < 10000) (hi0 : 0 ≤ inc) (hi1 : inc ≤ 281474976710655) (ho0 : 0 ≤ old) (ho1 : old ≤ 281474976710655) (hv0 : 0 ≤ v) (hv1 : v < 32) (hl : l.length ≤ 10000000000)
  (hs : okS lo hi = true) (hid : id ≤ 4095) (hlast : -1 ≤ qi) (hlt : qi < id) :
  qd.l9 BIG l id inc st lo hi cut bag qi qb BIG v a1 old a3 a4 a5 a6 a7 = some (l ++ (vi (id - qi - 1) ++ (v :: ((if v / 8 % 2 = 1 then [] else [lo * 16 + hi]) ++ (vi (qbq (inc - old)) ++ (if v / 4 % 2 = 1 ∨ v / 16 = 1 then [] else qch bag)))))) := by
 rw [qd.l9_at BIG BIG (BIG - 1) qaX]
 unfold qd.b9
 simp only [veil_eq]
 have hlv := qaD (id - qi - 1)
 have hs' := (qaq _ _).1 hs
 rw [qX (id - qi) (by omega) (by omega), qX (id - qi - 1) (by omega) (by omega), qjZ.pure _ _ (by intro x hx; simp at hx; omega) (by simp) (by simp; omega)]
 dsimp only
 simp only [List.flatMap_cons, List.flatMap_nil, List.append_nil]
 rw [if_pos ⟨qgZ _ hv0 (by omega), (qbR _).2 (by simp; omega)⟩, (qgY v hv0 hv1).1, qiE v hv0 (by omega), qeQ hs]
 by_cases h8 : v / 8 % 2 = 1
 ·rw [if_pos h8, if_neg (by decide), qrB _ _ _ _ _ _ _ _ _ _ _ _ _ _ _ _ _ _ _ hb hn hi0 hi1 ho0 ho1 hv0 hv1 (by simp; omega), if_pos h8]
  simp
 ·rw [if_neg h8, if_pos (by decide), if_pos ⟨qgZ _ (by omega) (by omega), (qbR _).2 (by simp; omega)⟩, qiE _ (by omega) (by omega), qrB _ _ _ _ _ _ _ _ _ _ _ _ _ _ _ _ _ _ _ hb hn hi0 hi1 ho0 ho1 hv0 hv1 (by simp; omega), if_neg h8]
  simp
theorem qjM {qb : LR} {id : Int} : (zF qb id).2 = false ∧ (zF qb id).1 = (0, 0, 0, (0, 0), false, []) ∨ (zF qb id).2 = true ∧ (zF qb id).1 ∈ qb ∧ (zF qb id).1.1 = id := by
 unfold zF
 cases h : qb.find? (fun r => r.1 == id) with
 | none => exact .inl ⟨rfl, rfl⟩
 | some r => exact .inr ⟨rfl, List.mem_of_find?_eq_some h, by have := List.find?_some h; simpa using this⟩
theorem qn6 {qb : LR} (h : ∀ r ∈ qb, zA r = true) (hn : qb.length < 1000000000) : qne qb := by
 refine ⟨hn, fun r hr => ?_⟩
 have hb := (zH (h r hr)).2.2.2.2.2.2.2.1
 have hl := Ze hb
 exact ⟨by omega, fun x hx => by have := qbE hb x hx; omega⟩
theorem put.pure (l : List Int) (r : REC) (qi : Int) (qb : LR) (hr : zA r = true) (QD : ∀ x ∈ qb, zA x = true) (hbn : qb.length < 1000000000) (hlast : -1 ≤ qi) (hlt : qi < r.1) (hl : l.length ≤ 10000000000) :
  qd.f BIG l r.1 r.2.1 r.2.2.1 r.2.2.2.1.1 r.2.2.2.1.2 r.2.2.2.2.1 r.2.2.2.2.2 qi qb = some (l ++ qdr (zF qb r.1) qi r) := by
 obtain ⟨f1, f2, f3, f4, f5, f6, f7, f8, f9⟩ := zH hr
 have hbl := Ze f8
 have hbt := qbE f8
 have hb : ∀ x ∈ r.2.2.2.2.2, 0 ≤ x.1 ∧ x.1 ≤ 255 ∧ x.2.length ≤ 1000000 := fun x hx => by have := hbt x hx; omega
 have hold : 0 ≤ (zF qb r.1).1.2.1 ∧ (zF qb r.1).1.2.1 ≤ 281474976710655 ∧ zx (zF qb r.1).1.2.2.2.2.2 = true := by
  rcases qjM (qb := qb) (id := r.1) with ⟨_, h⟩ | ⟨_, h, _⟩
  ·rw [h]; exact ⟨by simp, by simp, rfl⟩
  ·have := zH (QD _ h)
   have hb2 := Ze this.2.2.2.2.2.2.2.1
   exact ⟨this.2.2.1, this.2.2.2.1, (qaR _).2 ⟨by omega, fun x hx => by have := qbE this.2.2.2.2.2.2.2.1 x hx; omega⟩⟩
 have hsb : zx r.2.2.2.2.2 = true := (qaR _).2 ⟨by omega, fun x hx => by have := hbt x hx; omega⟩
 unfold qd.f qd.b
 simp only [veil_eq]
 rw [qrw.pure qb r.1 (qn6 QD hbn)]
 dsimp only
 unfold qdr qeX qbX qcb
 generalize zF qb r.1 = o at hold ⊢
 obtain ⟨o0, o1, o2⟩ := hold
 -- what comes behind the first flag
 have h9 : ∀ v a1 a3 a4 a5 a6 a7, 0 ≤ v → v < 32 → qd.l9 BIG l r.1 r.2.1 r.2.2.1 r.2.2.2.1.1 r.2.2.2.1.2 r.2.2.2.2.1 r.2.2.2.2.2 qi qb BIG v a1 o.1.2.1 a3 a4 a5 a6 a7 = _ :=
  fun v a1 a3 a4 a5 a6 a7 hv0 hv1 => qsG l r.1 r.2.1 r.2.2.1 r.2.2.2.1.1 r.2.2.2.1.2 r.2.2.2.2.1 r.2.2.2.2.2 qi qb v a1 o.1.2.1 a3 a4 a5 a6 a7 hb (by omega) f3 f4 o0 o1 hv0 hv1 hl f7 f2 hlast hlt
 have h7 : ∀ v, 0 ≤ v → v < 16 → qd.l7 BIG l r.1 r.2.1 r.2.2.1 r.2.2.2.1.1 r.2.2.2.1.2 r.2.2.2.2.1 r.2.2.2.2.2 qi qb BIG o.2 v o.1.1 o.1.2.1 o.1.2.2.1 o.1.2.2.2.1.1 o.1.2.2.2.1.2 o.1.2.2.2.2.1 o.1.2.2.2.2.2 =
   qd.l9 BIG l r.1 r.2.1 r.2.2.1 r.2.2.2.1.1 r.2.2.2.1.2 r.2.2.2.2.1 r.2.2.2.2.2 qi qb BIG (v + if (o.2 && (!r.2.2.2.2.1 && ZP o.1.2.2.2.2.2 r.2.2.2.2.2 == 0)) = true then 16 else 0) o.1.1 o.1.2.1 o.1.2.2.1 o.1.2.2.2.1.1 o.1.2.2.2.1.2 o.1.2.2.2.2.1 o.1.2.2.2.2.2 := by
  intro v hv0 hv1
  rw [qd.l7_at BIG BIG (BIG - 1) qaX]
  unfold qd.b7
  cases o.2
  ·simp
  ·cases r.2.2.2.2.1
   ·simp only [Bool.not_false, if_true, o2, hsb, Bool.and_self, Bool.true_and]
    by_cases hc : ZP o.1.2.2.2.2.2 r.2.2.2.2.2 = 0
    ·simp only [hc, beq_self_eq_true, if_true]
     rw [(qgY v hv0 (by omega)).2.2.2.2 hv1]
    ·have : (ZP o.1.2.2.2.2.2 r.2.2.2.2.2 == 0) = false := by simpa using hc
     simp [this]
   ·simp
 have h5 : ∀ v, 0 ≤ v → v < 8 → qd.l5 BIG l r.1 r.2.1 r.2.2.1 r.2.2.2.1.1 r.2.2.2.1.2 r.2.2.2.2.1 r.2.2.2.2.2 qi qb BIG o.2 v o.1.1 o.1.2.1 o.1.2.2.1 o.1.2.2.2.1.1 o.1.2.2.2.1.2 o.1.2.2.2.2.1 o.1.2.2.2.2.2 =
   qd.l7 BIG l r.1 r.2.1 r.2.2.1 r.2.2.2.1.1 r.2.2.2.1.2 r.2.2.2.2.1 r.2.2.2.2.2 qi qb BIG o.2 (v + if (o.2 && (o.1.2.2.2.1.1 == r.2.2.2.1.1 && o.1.2.2.2.1.2 == r.2.2.2.1.2)) = true then 8 else 0) o.1.1 o.1.2.1 o.1.2.2.1 o.1.2.2.2.1.1 o.1.2.2.2.1.2 o.1.2.2.2.2.1 o.1.2.2.2.2.2 := by
  intro v hv0 hv1
  rw [qd.l5_at BIG BIG (BIG - 1) qaX]
  unfold qd.b5
  cases o.2
  ·simp
  ·cases h1 : (o.1.2.2.2.1.1 == r.2.2.2.1.1)
   ·simp
   ·cases h2 : (o.1.2.2.2.1.2 == r.2.2.2.1.2)
    ·simp
    ·simp only [if_true, Bool.and_self]
     rw [(qgY v hv0 (by omega)).2.2.2.1 hv1]
 have hst : ∀ A : Int → Option (List Int), (if r.2.2.2.2.1 then A (bits BinOp.or .i64 r.2.2.1 4) else A r.2.2.1) = A (r.2.2.1 + if r.2.2.2.2.1 then 4 else 0) := by
  intro A
  cases r.2.2.2.2.1
  ·simp
  ·simp only [if_true]
   rw [(qgY r.2.2.1 f5 (by omega)).2.2.1 (by omega)]
 rw [hst (fun v => qd.l5 BIG l r.1 r.2.1 r.2.2.1 r.2.2.2.1.1 r.2.2.2.1.2 r.2.2.2.2.1 r.2.2.2.2.2 qi qb BIG o.2 v o.1.1 o.1.2.1 o.1.2.2.1 o.1.2.2.2.1.1 o.1.2.2.2.1.2 o.1.2.2.2.2.1 o.1.2.2.2.2.2)]
 generalize hs1 : (o.2 && (o.1.2.2.2.1.1 == r.2.2.2.1.1 && o.1.2.2.2.1.2 == r.2.2.2.1.2)) = s1 at h5 ⊢
 generalize hs2 : (o.2 && (!r.2.2.2.2.1 && ZP o.1.2.2.2.2.2 r.2.2.2.2.2 == 0)) = s2 at h7 ⊢
 have hcut : s2 = true → r.2.2.2.2.1 = false := by
  intro h
  rw [← hs2] at h
  simp at h
  exact h.2.1
 rw [h5 _ (by split <;> omega) (by split <;> omega), h7 _ (by split <;> split <;> omega) (by split <;> split <;> omega), h9 _ _ _ _ _ _ _ (by split <;> split <;> split <;> omega) (by split <;> split <;> split <;> omega)]
 congr 2
 congr 1
 generalize r.2.2.2.2.1 = c at hcut ⊢
 generalize r.2.2.1 = st at f5 f6 ⊢
 have hst4 : st = 0 ∨ st = 1 ∨ st = 2 ∨ st = 3 := by omega
 cases c <;> cases s1 <;> cases s2 <;> rcases hst4 with rfl | rfl | rfl | rfl <;> first | rfl | simp at hcut
theorem qpx : ∀ (j k : Nat) (v : Int), 0 ≤ v → v < 128 ^ (k + 1) → (viF j v).length ≤ k + 1
 | 0, k, v, _, _ => by simp [viF]
 | j + 1, k, v, h0, h => by
  rw [viF]
  split
  ·rename_i hc
   cases k with
   | zero => simp at h; omega
   | succ k =>
    have := qpx j k (v / 128) (by omega) (by rw [Int.pow_succ] at h; generalize (128 : Int) ^ (k + 1) = M at h ⊢; omega)
    simp; omega
  ·simp
theorem qrA (k : Nat) (v : Int) (h0 : 0 ≤ v) (h : v < 128 ^ (k + 1)) : (vi v).length ≤ k + 1 := qpx 9 k v h0 h
def ZW (qb : LR) : Int → LR → List Int
 | _, [] => []
 | qi, r :: rs => qdr (zF qb r.1) qi r ++ ZW qb r.1 rs
def qpe (qk qx inc lo hi seq qo qP qD qb : Int) (n : Int) : List Int :=
 qk :: (vi qx ++ (vi inc ++ ((lo * 16 + hi) :: ((if qy qk 0 then vi seq else []) ++ ((if qy qk 1 then vi qo else []) ++ ((if qy qk 2 then vi qP ++ vi qD else []) ++ ((if qy qk 3 then vi qb else []) ++ (if qy qk 4 then vi n else []))))))))
def qbj (qb : Int) (l : LR) : LR := if qb == 0 then [] else l
def qb9 (qk qx inc lo hi seq qo qP qD qb : Int) (qc : LR) (l : LR) : List Int :=
 qpe qk qx inc lo hi seq qo qP qD qb (qc.length : Int) ++ ZW (qbj qb l) (-1) qc
theorem qrd {x : Int × List Int} (h : x.2.length ≤ 4096) : (qbD x).length ≤ 3 + x.2.length := by
 have := qrA 1 (x.2.length : Int) (by omega) (by simp; omega)
 simp [qbD]; omega
theorem qmd : ∀ (b : LF), (∀ x ∈ b, x.2.length ≤ 4096) → (((b.flatMap qbD).length : Nat) : Int) ≤ Z1 b
 | [], _ => by simp [Z1]
 | x :: b, h => by
  have h1 := qrd (h x (by simp))
  have h2 := qmd b fun y hy => h y (by simp [hy])
  have e : Z1 (x :: b) = 3 + x.2.length + Z1 b := by simp [Z1]
  rw [List.flatMap_cons, List.length_append, e]
  omega
theorem qrs {b : LF} (h : qca b = true) : ((qch b).length : Int) ≤ 1 + Z1 b := by
 have hl := Ze h
 have ht := qbE h
 have h1 := qrA 0 (b.length : Int) (by omega) (by simp; omega)
 have h2 := qmd b fun x hx => (ht x hx).2.2
 unfold qch
 rw [List.length_append]
 omega
def qga : Int → LR → Prop
 | _, [] => True
 | qi, r :: rs => qi < r.1 ∧ qga r.1 rs
theorem qj3 : ∀ (l : LR) (i qi : Int), (qd3 l i qi).1 = i + (l.length : Int) → qga qi l
 | [], _, _, _ => trivial
 | x :: l, i, qi, h => by
  unfold qd3 at h
  split at h
  ·simp at h; omega
  ·rename_i hc
   simp only [Bool.or_eq_true, not_or, Bool.not_eq_true', Bool.not_eq_false] at hc
   exact ⟨by simpa using hc.2, qj3 l (i + 1) x.1 (by simp only [List.length_cons] at h; omega)⟩
theorem qbr {l : LR} (h : Qp l = true) : (∀ r ∈ l, zA r = true) ∧ qga (-1) l := by
 unfold Qp at h
 have h' : (qd3 l 0 (-1)).1 = 0 + (l.length : Int) := by simpa using h
 exact ⟨qju l 0 (-1) h', qj3 l 0 (-1) h'⟩
theorem qdz {qk qP qD qb : Int} (h : qar qk qP qD qb = true) : 0 ≤ qP ∧ qP ≤ 281474976710655 ∧ 0 ≤ qD ∧ qD ≤ 65535 ∧ 0 ≤ qb ∧ qb ≤ 65535 ∧ (qy qk 2 = false → qP = 0 ∧ qD = 0) ∧ (qy qk 3 = false → qb = 0) ∧ (qb = 0 ∨ qb < qD) ∧ (qD = 0 → qP = 0 ∧ qk ≠ 9) := by
 unfold qar at h
 split at h
 ·cases h
 rename_i c1
 split at h
 ·cases h
 rename_i c2
 simp only [Bool.or_eq_true, Bool.not_eq_true', not_or, Bool.not_eq_false] at c1
 have w1 := qfy c1.1 (by omega)
 have w2 := qfy c1.2 (by omega)
 simp only [Bool.or_eq_true, Bool.and_eq_true, beq_iff_eq, decide_eq_true_eq, bne_iff_ne, ne_eq] at h c2
 refine ⟨w1.1, w1.2, w2.1, w2.2, by omega, by omega, ?_, ?_, by omega, ?_⟩
 ·intro h2
  rw [h2] at c1
  simp [zY] at c1
  exact ⟨c1.1, c1.2⟩
 ·intro h3
  rw [h3] at h
  simpa using h
 ·intro he
  refine ⟨?_, ?_⟩
  ·exact Classical.byContradiction fun hl => c2 ⟨he, .inl hl⟩
  ·exact fun hk => c2 ⟨he, .inr hk⟩
theorem qg3 {qk qx inc lo hi seq qo qP qD qb : Int} {qc : LR} (h : q0 qk qx inc lo hi seq qo qP qD qb qc = true) :
  (qy qk 4 = false → qc = []) ∧ qga (-1) qc := by
 unfold q0 at h
 have h1 : ((ofF qk).1.toList == (⟨#[]⟩ : ByteArray).toList || (decide (qx < 0) || (decide (qx > 4095) || (decide (inc < 0) || (decide (inc > 281474976710655) || !okS lo hi))))) = false := by
  cases hc : ((ofF qk).1.toList == (⟨#[]⟩ : ByteArray).toList || (decide (qx < 0) || (decide (qx > 4095) || (decide (inc < 0) || (decide (inc > 281474976710655) || !okS lo hi))))) with
  | false => rfl
  | true => rw [hc] at h; cases h
 rw [h1] at h
 have h2 : (!zY (qy qk 0) seq 0 65535 || (!zY (qy qk 1) qo (if qk == 3 then 1 else 0) (if qk == 3 then 3 else 4095) || !qar qk qP qD qb)) = false := by
  cases hc : (!zY (qy qk 0) seq 0 65535 || (!zY (qy qk 1) qo (if qk == 3 then 1 else 0) (if qk == 3 then 3 else 4095) || !qar qk qP qD qb)) with
  | false => rfl
  | true => rw [hc] at h; cases h
 rw [h2] at h
 simp only [Bool.false_eq_true, if_false] at h
 cases h4 : qy qk 4
 ·rw [h4] at h
  have : qc = [] := List.eq_nil_of_length_eq_zero (by simpa using h)
  subst this
  exact ⟨fun _ => rfl, trivial⟩
 ·rw [h4] at h
  simp at h
  exact ⟨by simp, (qbr h.2).2⟩
theorem qqU {o : REC × Bool} {r : REC} {qi : Int} (hr : zA r = true) : (qdr o qi r).length ≤ 5000 := by
 obtain ⟨f1, f2, f3, f4, f5, f6, f7, f8, f9⟩ := zH hr
 have a1 := qaD (r.1 - qi - 1)
 have a2 := qaD (qbq (r.2.1 - o.1.2.1))
 have a3 := qrs f8
 have a4 := Ze f8
 unfold qdr
 simp only [List.length_append, List.length_cons]
 have e1 : (if qbX o r = true then ([] : List Int) else [r.2.2.2.1.1 * 16 + r.2.2.2.1.2]).length ≤ 1 := by split <;> simp
 have e2 : (if (r.2.2.2.2.1 || qcb o r) = true then ([] : List Int) else qch r.2.2.2.2.2).length ≤ 4300 := by
  split
  ·simp
  ·omega
 omega
theorem qq5 (qk qx inc lo hi seq qo qP qD qb : Int) (qc l base' : LR) (hr : ∀ r ∈ qc, zA r = true) (hb : ∀ r ∈ base', zA r = true) (hbn : base'.length < 1000000000) (hn : qc.length ≤ 1000) :
  ∀ (k i : Nat) (qi : Int) (acc : List Int), i ≤ qc.length → qc.length - i < k → -1 ≤ qi → qga qi (qc.drop i) → acc.length + 5000 * (qc.length - i) ≤ 1000000000 →
  zJ.l19 BIG qk qx inc lo hi seq qo qP qD qb qc l k base' qi (qc.length : Int) (i : Int) acc = some (acc ++ ZW base' qi (qc.drop i)) := by
 intro k
 induction k with
 | zero => intro i qi acc h1 h2; omega
 | succ k ih =>
  intro i qi acc h1 h2 h3 h4 h5
  rw [zJ.l19]
  unfold zJ.b19
  simp only [veil_eq]
  by_cases hi' : i < qc.length
  ·rw [if_pos (by simp; omega), Qn, List.getElem?_eq_getElem hi']
   dsimp only
   have hm := hr qc[i] (List.getElem_mem hi')
   rw [List.drop_eq_getElem_cons hi'] at h4 ⊢
   generalize qc[i] = r at hm h4 ⊢
   obtain ⟨h6, h7⟩ := h4
   have hlen := qqU (o := zF base' r.1) (qi := qi) hm
   rw [put.pure acc r qi base' hm hb hbn h3 h6 (by omega)]
   dsimp only
   have hid := (zH hm).1
   rw [qX _ (by omega) (by omega), show ((i : Int) + 1) = ((i + 1 : Nat) : Int) from by omega, ih (i + 1) r.1 _ (by omega) (by omega) (by omega) h7 (by simp; omega)]
   simp [ZW]
  ·rw [if_neg (by simp; omega), List.drop_of_length_le (by omega), if_pos ((qbR _).2 (by omega))]
   simp [ZW]
theorem qp9 {qk : Int} (h1 : 1 ≤ qk) (h2 : qk ≤ 9) : Qd 1 qk = true := qgZ qk (by omega) (by omega)
theorem qsB (l : List Int) (a : Int) (h0 : 0 ≤ a) (h1 : a < 9223372036854775808) (hl : l.length ≤ 1000000) : qm.f BIG l [a] = some (l ++ vi a) := by
 rw [qjZ.pure l [a] (by intro v hv; simp at hv; omega) (by simp) (by simp; omega)]
 simp
theorem qrI (l : List Int) (a b : Int) (h0 : 0 ≤ a) (h1 : a < 9223372036854775808) (h2 : 0 ≤ b) (h3 : b < 9223372036854775808) (hl : l.length ≤ 1000000) : qm.f BIG l [a, b] = some (l ++ (vi a ++ vi b)) := by
 rw [qjZ.pure l [a, b] (by intro v hv; simp at hv; omega) (by simp) (by simp; omega)]
 simp
set_option maxHeartbeats 4000000 in
theorem lay.pure (qk qx inc lo hi seq qo qP qD qb : Int) (qc l : LR) (hv : q0 qk qx inc lo hi seq qo qP qD qb qc = true) (hl : ∀ r ∈ l, zA r = true) (hln : l.length < 1000000000) :
  zJ.f BIG qk qx inc lo hi seq qo qP qD qb qc l = some (qb9 qk qx inc lo hi seq qo qP qD qb qc l) := by
 obtain ⟨v1, v2, v3, v4, v5, v6, v7, v8, v9, v10, v11, v12, v13, v14⟩ := Ql hv
 obtain ⟨w1, w2, w3, w4, w5, w6, _⟩ := qdz v12
 obtain ⟨_, hris⟩ := qg3 hv
 have hs := (qaq _ _).1 v7
 have n1 := qaD qx
 have n2 := qaD inc
 have n3 := qaD seq
 have n4 := qaD qo
 have n5 := qaD qP
 have n6 := qaD qD
 have n7 := qaD qb
 have n8 := qaD (qc.length : Int)
 have hlp : ∀ (base' : LR) (hb : ∀ r ∈ base', zA r = true) (hbn : base'.length < 1000000000) (acc : List Int), acc.length ≤ 1000 → zJ.l19 BIG qk qx inc lo hi seq qo qP qD qb qc l BIG base' (-1) (qc.length : Int) 0 acc = some (acc ++ ZW base' (-1) qc) := by
  intro base' hb hbn acc ha
  have := qq5 qk qx inc lo hi seq qo qP qD qb qc l base' v14 hb hbn (by omega) BIG 0 (-1) acc (by omega) (by rw [Zx]; omega) (by omega) (by simpa using hris) (by omega)
  simpa using this
 have hb0 : ∀ acc : List Int, acc.length ≤ 1000 → zJ.l19 BIG qk qx inc lo hi seq qo qP qD qb qc l BIG [] (-1) (qc.length : Int) 0 acc = some (acc ++ ZW [] (-1) qc) := fun acc ha => hlp [] (by simp) (by simp) acc ha
 have hb1 : ∀ acc : List Int, acc.length ≤ 1000 → zJ.l19 BIG qk qx inc lo hi seq qo qP qD qb qc l BIG l (-1) (qc.length : Int) 0 acc = some (acc ++ ZW l (-1) qc) := fun acc ha => hlp l hl hln acc ha
 clear hlp
 unfold zJ.f zJ.b
 simp only [veil_eq]
 rw [qp9 v1 v2, qiE qk (by omega) (by omega), qeQ v7, qgZ (lo * 16 + hi) (by omega) (by omega), qiE (lo * 16 + hi) (by omega) (by omega), qrI [qk] qx inc (by omega) (by omega) (by omega) (by omega) (by simp)]
 dsimp only
 have hro : Zi ([qk] ++ (vi qx ++ vi inc)) = true := (qbR _).2 (by simp; omega)
 unfold qb9 qpe qbj
 simp only [if_true, hro, and_self]
 cases hb : (qb == 0) <;> cases h0 : qy qk 0 <;> cases h1 : qy qk 1 <;> cases h2 : qy qk 2 <;> cases h3 : qy qk 3 <;> cases h4 : qy qk 4 <;>
  simp only [Bool.false_eq_true, if_false, if_true] <;>
  repeat (first | (rw [qsB _ _ (by omega) (by omega) (by simp; omega)]; dsimp only) | (rw [qrI _ _ _ (by omega) (by omega) (by omega) (by omega) (by simp; omega)]; dsimp only))
 all_goals (first | rw [hb0 _ (by simp; omega)] | rw [hb1 _ (by simp; omega)])
 all_goals simp
def qoC (qk qx inc lo hi seq qo qP qD qb : Int) (qc l : LR) : Int :=
 if q0 qk qx inc lo hi seq qo qP qD qb qc && Qp l then ((qb9 qk qx inc lo hi seq qo qP qD qb qc l).length : Int) else 0
theorem qsy.pure (qk qx inc lo hi seq qo qP qD qb : Int) (qc l : LR) (hr : q9 qc = true) (hl : q9 l = true) (hln : l.length < 1000000000) :
  Z8.f BIG qk qx inc lo hi seq qo qP qD qb qc l = some (qoC qk qx inc lo hi seq qo qP qD qb qc l) := by
 unfold Z8.f Z8.b qoC
 simp only [veil_eq]
 rw [hr, hl]
 cases hv : q0 qk qx inc lo hi seq qo qP qD qb qc
 ·rfl
 ·cases hs : Qp l
  ·rfl
  ·rw [lay.pure qk qx inc lo hi seq qo qP qD qb qc l hv (qbr hs).1 hln]
   rfl
def qds (qk qx inc lo hi seq qo qP qD qb : Int) (qc l : LR) : List Int × Int :=
 if q0 qk qx inc lo hi seq qo qP qD qb qc && Qp l then (if (qb9 qk qx inc lo hi seq qo qP qD qb qc l).length > 65499 then ([], 14) else (qb9 qk qx inc lo hi seq qo qP qD qb qc l, 0)) else ([], 1)
theorem qsM.pure (qk qx inc lo hi seq qo qP qD qb : Int) (qc l : LR) (hr : q9 qc = true) (hl : q9 l = true) (hln : l.length < 1000000000) :
  Zc.f BIG qk qx inc lo hi seq qo qP qD qb qc l = some ((qds qk qx inc lo hi seq qo qP qD qb qc l).1, (qds qk qx inc lo hi seq qo qP qD qb qc l).2) := by
 unfold Zc.f Zc.b qds
 simp only [veil_eq]
 rw [hr, hl]
 cases hv : q0 qk qx inc lo hi seq qo qP qD qb qc
 ·rfl
 ·cases hs : Qp l
  ·rfl
  ·rw [lay.pure qk qx inc lo hi seq qo qP qD qb qc l hv (qbr hs).1 hln]
   simp only [Bool.not_true, Bool.false_eq_true, if_false, if_true, Bool.and_self]
   by_cases hc : (qb9 qk qx inc lo hi seq qo qP qD qb qc l).length > 65499
   ·rw [if_pos (by simp; omega), if_pos hc]
   ·rw [if_neg (by simp; omega), if_neg hc]
def qnh (qk qx inc lo hi seq qo qP qD qb : Int) (qc : LR) (gen : Int) : Int :=
 if gen == 1 then 15 + 5 * (qc.length : Int) else if gen == 2 then qd6 qk qx inc lo hi seq qo qP qD qb qc else qoC qk qx inc lo hi seq qo qP qD qb qc []
def qc8 (qk qx inc lo hi seq qo qP qD qb : Int) (qc : LR) (gen : Int) : Bool := q0 qk qx inc lo hi seq qo qP qD qb qc && (decide (gen ≥ 1) && decide (gen ≤ 3))
theorem qqy.pure (qk qx inc lo hi seq qo qP qD qb : Int) (qc : LR) (gen : Int) (hr : q9 qc = true) :
  Zn.f BIG qk qx inc lo hi seq qo qP qD qb qc gen = some (qc8 qk qx inc lo hi seq qo qP qD qb qc gen) := by
 unfold Zn.f Zn.b qc8
 rw [hr]
 cases q0 qk qx inc lo hi seq qo qP qD qb qc
 ·simp
 ·by_cases h1 : gen ≥ 1
  ·simp [h1]
  ·simp [h1]
theorem qrv.pure (qk qx inc lo hi seq qo qP qD qb : Int) (qc : LR) (gen : Int) (hr : q9 qc = true) (hn : qc.length < 1000000000) :
  QJ.f BIG qk qx inc lo hi seq qo qP qD qb qc gen = some (if qc8 qk qx inc lo hi seq qo qP qD qb qc gen then qnh qk qx inc lo hi seq qo qP qD qb qc gen else 0) := by
 unfold QJ.f QJ.b qnh
 simp only [veil_eq]
 rw [qqy.pure _ _ _ _ _ _ _ _ _ _ qc gen hr, hr, qsy.pure _ _ _ _ _ _ _ _ _ _ qc [] hr rfl (by simp), qX (5 * (qc.length : Int)) (by omega) (by omega), qX (15 + 5 * (qc.length : Int)) (by omega) (by omega)]
 dsimp only
 cases qc8 qk qx inc lo hi seq qo qP qD qb qc gen
 ·rfl
 ·cases h1 : (gen == 1)
  ·cases h2 : (gen == 2)
   ·rfl
   ·rfl
  ·rfl
theorem qqr (qb : Int) : qbj qb [] = [] := by unfold qbj; split <;> rfl
theorem qpo (v : Int) (h0 : 0 ≤ v) (h1 : v < 256) : IntKind.wrap .u8 v = v := by rw [qgE]; omega
theorem qrP : ∀ (p : List Int) (k : Nat) (top : Bool) (c : Int) (s : List Int), (∀ x ∈ p, 128 ≤ x) → p.length ≤ k → c < 128 →
  (pv top k (p ++ [c]) = none ∧ pv top k (p ++ c :: s) = none) ∨ ∃ v, pv top k (p ++ [c]) = some (v, []) ∧ pv top k (p ++ c :: s) = some (v, s) := by
 intro p
 induction p with
 | nil =>
  intro k top c s hp hk hc
  cases k with
  | zero =>
   simp only [List.nil_append, pv]
   by_cases h1 : c > 1
   ·rw [if_pos h1, if_pos h1]; exact Or.inl ⟨rfl, rfl⟩
   ·rw [if_neg h1, if_neg h1]
    by_cases h2 : c = 0
    ·rw [if_pos h2, if_pos h2]; exact Or.inl ⟨rfl, rfl⟩
    ·rw [if_neg h2, if_neg h2]; exact Or.inr ⟨c, rfl, rfl⟩
  | succ k =>
   simp only [List.nil_append, pv]
   rw [if_pos hc, if_pos hc]
   by_cases h2 : c = 0 ∧ top = false
   ·rw [if_pos h2, if_pos h2]; exact Or.inl ⟨rfl, rfl⟩
   ·rw [if_neg h2, if_neg h2]; exact Or.inr ⟨c, rfl, rfl⟩
 | cons x p ih =>
  intro k top c s hp hk hc
  cases k with
  | zero => simp at hk
  | succ k =>
   have hx : 128 ≤ x := hp x (List.mem_cons_self ..)
   simp only [List.cons_append, pv]
   rw [if_neg (by omega), if_neg (by omega)]
   rcases ih k false c s (fun y h => hp y (List.mem_cons_of_mem _ h)) (by simpa using hk) hc with ⟨a, b⟩ | ⟨v, a, b⟩
   ·rw [a, b]; exact Or.inl ⟨rfl, rfl⟩
   ·rw [a, b]; exact Or.inr ⟨_, rfl, rfl⟩
theorem qnZ : ∀ (p : List Int) (k : Nat) (top : Bool) (s : List Int), (∀ x ∈ p, 128 ≤ x) → p.length = k + 1 → pv top k (p ++ s) = none := by
 intro p
 induction p with
 | nil => intro k top s hp hk; simp at hk
 | cons x p ih =>
  intro k top s hp hk
  have hx : 128 ≤ x := hp x (List.mem_cons_self ..)
  cases k with
  | zero =>
   simp only [List.cons_append, pv]
   rw [if_pos (by omega)]
  | succ k =>
   simp only [List.cons_append, pv]
   rw [if_neg (by omega), ih k false s (fun y h => hp y (List.mem_cons_of_mem _ h)) (by simpa using hk)]
theorem qqX : ∀ (p : List Int) (k : Nat) (top : Bool), (∀ x ∈ p, 128 ≤ x) → p.length ≤ k → pv top k p = none := by
 intro p
 induction p with
 | nil => intro k top hp hk; cases k <;> rfl
 | cons x p ih =>
  intro k top hp hk
  have hx : 128 ≤ x := hp x (List.mem_cons_self ..)
  cases k with
  | zero => simp at hk
  | succ k =>
   rw [pv, if_neg (by omega), ih k false (fun y h => hp y (List.mem_cons_of_mem _ h)) (by simpa using hk)]
theorem qc0 (l : List Int) (a : Nat) (h : a < l.length) : qz l 1 (a : Int) false = (l[a], ((a + 1 : Nat) : Int), false) := by
 unfold qz
 have hn : (if (decide ((1 : Int) < 1) || decide ((1 : Int) > 7)) = true then (-1 : Int) else 1) = 1 := by decide
 simp only [hn]
 have hs : zf l 1 (a : Int) false = (seg l a 1, true, (a : Int) + 1, false) := by
  unfold zf
  rw [if_neg (by decide), if_neg (by simp; omega)]
 rw [hs]
 dsimp only
 rw [if_pos rfl]
 have e : seg l (a : Int) 1 = [l[a]] := by
  unfold seg
  rw [show ((a : Int) + 1).toNat = a + 1 from by omega, Int.toNat_natCast, List.take_succ_eq_append_getElem h, List.drop_append_of_le_length (by simp; omega), List.drop_of_length_le (by simp; omega)]
  rfl
 rw [e]
 simp [Q6]
theorem qc1 (l : List Int) (a : Nat) (h : l.length ≤ a) : qz l 1 (a : Int) false = (0, (a : Int), true) := by
 unfold qz
 have hn : (if (decide ((1 : Int) < 1) || decide ((1 : Int) > 7)) = true then (-1 : Int) else 1) = 1 := by decide
 simp only [hn]
 have hs : zf l 1 (a : Int) false = ([], false, (a : Int), true) := by
  unfold zf
  rw [if_neg (by decide), if_pos (by simp; omega)]
 rw [hs]
 rfl
theorem qil (l : List Int) (a : Int) : qz l 1 a true = (0, a, true) := by
 unfold qz zf
 simp
def Got (bs : List Int) (a0 : Nat) (zm : Int) (o : Option (Int × Bool × List Int × Int × Bool)) : Prop :=
 ∃ (v : Int) (ok : Bool) (a : Nat) (bad : Bool), o = some (v, ok, bs, (a : Int), bad) ∧ a ≤ bs.length ∧
  match pV (bs.drop a0) with
  | some (w, r) => if w ≤ zm then v = w ∧ ok = true ∧ bad = false ∧ bs.drop a = r else ok = false ∧ v = 0
  | none => ok = false ∧ v = 0
theorem qnr.loop (qa : Nat) (bs : List Int) (a0 : Nat) (bad0 : Bool) (zm : Int) (hb : inB bs = true) (m0 : 0 ≤ zm) (m1 : zm < 9223372036854775808) : ∀ (j k : Nat) (a : Nat) (p : List Int), p.length + j = 10 → j < k → (∀ x ∈ p, 128 ≤ x ∧ x ≤ 255) → bs.drop a0 = p ++ bs.drop a → a ≤ bs.length →
  Got bs a0 zm (zk.l2 qa bs (a0 : Int) bad0 zm k (a : Int) false p) := by
 obtain ⟨hl, hc⟩ := (QY bs).1 hb
 have gp : ∀ q : List Int, (∀ x ∈ q, 0 ≤ x ∧ x ≤ 255) → q.length ≤ 10 → _ := fun q h1 h2 => Get.pure q h1 (by omega)
 intro j
 induction j with
 | zero =>
  intro k a p hj hk hp hd ha
  obtain ⟨k, rfl⟩ : ∃ k', k = k' + 1 := ⟨k - 1, by omega⟩
  rw [zk.l2]
  unfold zk.b2
  simp only [veil_eq]
  rw [if_neg (by simp; omega)]
  have hn : pV (bs.drop a0) = none := by rw [hd]; exact qnZ p 9 true _ (fun x h => (hp x h).1) (by omega)
  have hq := gp p (fun x h => ⟨by have := hp x h; omega, (hp x h).2⟩) (by omega)
  have hn2 : pV p = none := by have := qnZ p 9 true [] (fun x h => (hp x h).1) (by omega); simpa [pV] using this
  rw [hn2] at hq
  obtain ⟨e, he, hq⟩ := hq
  rw [hq]
  dsimp only
  rw [if_pos (by rcases he with rfl | rfl <;> rfl)]
  refine ⟨0, false, a, false, rfl, ha, ?_⟩
  rw [hn]
  exact ⟨rfl, rfl⟩
 | succ j ih =>
  intro k a p hj hk hp hd ha
  obtain ⟨k, rfl⟩ : ∃ k', k = k' + 1 := ⟨k - 1, by omega⟩
  rw [zk.l2]
  unfold zk.b2
  simp only [veil_eq]
  rw [if_pos (by simp; omega), if_pos ((zN _ _).2 ⟨hb, by omega, by omega⟩)]
  by_cases hlt : a < bs.length
  ·rw [qc0 bs a hlt]
   dsimp only
   rw [if_neg (by simp), if_pos (by simp [lim]; omega)]
   obtain ⟨c0, c1⟩ := hc _ (List.getElem_mem hlt)
   have hda : bs.drop a = bs[a] :: bs.drop (a + 1) := (List.getElem_cons_drop hlt).symm
   generalize bs[a] = c at c0 c1 hda ⊢
   rw [qpo c c0 (by omega)]
   by_cases h128 : c < 128
   ·rw [if_pos (by simpa using h128)]
    have hq := gp (p ++ [c]) (fun x h => by
     rcases List.mem_append.1 h with h | h
     ·have := hp x h; omega
     ·rw [List.mem_singleton.1 h]; omega) (by simp; omega)
    rcases qrP p 9 true c (bs.drop (a + 1)) (fun x h => (hp x h).1) (by omega) h128 with ⟨e1, e2⟩ | ⟨v, e1, e2⟩
    ·have e1 : pV (p ++ [c]) = none := e1
     rw [e1] at hq
     obtain ⟨e, he, hq⟩ := hq
     rw [hq]
     dsimp only
     rw [if_pos (by rcases he with rfl | rfl <;> rfl)]
     refine ⟨0, false, a + 1, false, rfl, by omega, ?_⟩
     rw [hd, hda, show pV (p ++ c :: bs.drop (a + 1)) = none from e2]
     exact ⟨rfl, rfl⟩
    ·have e1 : pV (p ++ [c]) = some (v, []) := e1
     rw [e1] at hq
     dsimp only at hq
     rw [hq]
     dsimp only
     have hv := qmZ (l := p ++ [c]) (fun x h => by
      rcases List.mem_append.1 h with h | h
      ·have := hp x h; omega
      ·rw [List.mem_singleton.1 h]; omega) e1
     rw [if_neg (by decide), if_neg (by simpa using m0), qab _ m0 (by omega)]
     by_cases hm : v > zm
     ·rw [if_pos (by simpa using hm)]
      refine ⟨0, false, a + 1, false, rfl, by omega, ?_⟩
      rw [hd, hda, show pV (p ++ c :: bs.drop (a + 1)) = some (v, bs.drop (a + 1)) from e2]
      dsimp only
      rw [if_neg (by omega)]
      exact ⟨rfl, rfl⟩
     ·rw [if_neg (by simpa using hm), qX v (by omega) (by omega)]
      refine ⟨v, true, a + 1, false, rfl, by omega, ?_⟩
      rw [hd, hda, show pV (p ++ c :: bs.drop (a + 1)) = some (v, bs.drop (a + 1)) from e2]
      dsimp only
      rw [if_pos (by omega)]
      exact ⟨rfl, rfl, rfl, rfl⟩
   ·rw [if_neg (by simpa using h128)]
    exact ih k (a + 1) (p ++ [c]) (by simp; omega) (by omega) (fun x h => by
     rcases List.mem_append.1 h with h | h
     ·exact hp x h
     ·rw [List.mem_singleton.1 h]; omega) (by rw [hd, hda]; simp) (by omega)
  ·rw [qc1 bs a (by omega)]
   dsimp only
   rw [if_pos rfl]
   refine ⟨0, false, a, true, rfl, ha, ?_⟩
   rw [hd, List.drop_of_length_le (by omega), List.append_nil, show pV p = none from qqX p 9 true (fun x h => (hp x h).1) (by omega)]
   exact ⟨rfl, rfl⟩
theorem qnr.pure (bs : List Int) (a0 : Nat) (zm : Int) (hb : inB bs = true) (m0 : 0 ≤ zm) (m1 : zm < 9223372036854775808) (ha : a0 ≤ bs.length) :
  Got bs a0 zm (zk.f BIG bs (a0 : Int) false zm) := by
 unfold zk.f zk.b
 exact qnr.loop BIG bs a0 false zm hb m0 m1 10 BIG a0 [] rfl (by rw [Zx]; omega) (by simp) rfl ha
theorem qnr.bad (bs : List Int) (a0 : Nat) (zm : Int) (hb : inB bs = true) (ha : a0 ≤ bs.length) :
  zk.f BIG bs (a0 : Int) true zm = some (0, false, bs, (a0 : Int), true) := by
 unfold zk.f zk.b
 rw [qaX, zk.l2]
 unfold zk.b2
 simp only [veil_eq]
 rw [if_pos (by simp), if_pos ((zN _ _).2 ⟨hb, by omega, by omega⟩), qil]
 rfl
def qe5 : Env := ⟨th, gam [(76, QK), (41, qah), (98, zQ), (52, Zg), (107, Qy), (84, qaP)], fun i => ⟨[], [], []⟩⟩
def z8.k (rs : List AV) (os : List Den.Obj) : Option (Int × Int × Int × Int × Int × Int × Int × Int × Int × Int × LR × Bool × (List Int) × Int × Bool) :=
 match rs, os with
 | [.agg [.d (.int .i64) r0, .d (.int .i64) r1, .d (.int .i64) r2, .d (.int .i64) r3, .d (.int .i64) r4, .d (.int .i64) r5, .d (.int .i64) r6, .d (.int .i64) r7, .d (.int .i64) r8, .d (.int .i64) r9, .d (.sl (.pair (.int .i64) (.pair (.int .i64) (.pair (.int .i64) (.pair (.pair (.int .i64) (.int .i64)) (.pair .bool (.sl (.pair (.int .i64) (.sl (.int .u8)))))))))) r10]], [.box [.ptr 1 0, .d .bool r11], .box [.d (.sl (.int .u8)) r12, .d (.int .i64) r13, .d .bool r14]] => some (r0, r1, r2, r3, r4, r5, r6, r7, r8, r9, r10, r11, r12, r13, r14)
 | _, _ => none
def z8.b (bs : List Int) (at0 : Int) (bad za : Bool) : Option (Int × Int × Int × Int × Int × Int × Int × Int × Int × Int × LR × Bool × (List Int) × Int × Bool) :=
 (if (zt bs at0) then (match (veil (Option.some (qz bs (1 : Int) at0 bad))) with | none => none | some y0 => (match (veil (qI.f BIG bs y0.2.1 y0.2.2 za (4095 : Int))) with | none => none | some y1 => (match (veil (qI.f BIG y1.2.2.1 y1.2.2.2.1 y1.2.2.2.2 y1.2.1 (veil (281474976710655 : Int)))) with | none => none | some y2 => (match (veil (zp.f BIG y2.2.2.1 y2.2.2.2.1 y2.2.2.2.2 y2.2.1)) with | none => none | some y3 => (if (qy y0.1 (0 : Int)) then (match (veil (qI.f BIG y3.2.2.2.1 y3.2.2.2.2.1 y3.2.2.2.2.2 y3.2.2.1 (65535 : Int))) with | none => none | some y4 => (if (qy y0.1 (1 : Int)) then (match (veil (qI.f BIG y4.2.2.1 y4.2.2.2.1 y4.2.2.2.2 y4.2.1 (4095 : Int))) with | none => none | some y5 => (if (qy y0.1 (2 : Int)) then (match (veil (qI.f BIG y5.2.2.1 y5.2.2.2.1 y5.2.2.2.2 y5.2.1 (veil (281474976710655 : Int)))) with | none => none | some y6 => (match (veil (qI.f BIG y6.2.2.1 y6.2.2.2.1 y6.2.2.2.2 y6.2.1 (65535 : Int))) with | none => none | some y7 => (if (qy y0.1 (3 : Int)) then (match (veil (qI.f BIG y7.2.2.1 y7.2.2.2.1 y7.2.2.2.2 y7.2.1 (65535 : Int))) with | none => none | some y8 => (if y8.2.2.2.2 then some (y0.1, y1.1, y2.1, y3.1, y3.2.1, y4.1, y5.1, y6.1, y7.1, y8.1, ([] : LR), true, y8.2.2.1, y8.2.2.2.1, y8.2.2.2.2) else (if (!(q0 y0.1 y1.1 y2.1 y3.1 y3.2.1 y4.1 y5.1 y6.1 y7.1 y8.1 ([] : LR))) then some (y0.1, y1.1, y2.1, y3.1, y3.2.1, y4.1, y5.1, y6.1, y7.1, y8.1, ([] : LR), true, y8.2.2.1, y8.2.2.2.1, y8.2.2.2.2) else some (y0.1, y1.1, y2.1, y3.1, y3.2.1, y4.1, y5.1, y6.1, y7.1, y8.1, ([] : LR), y8.2.1, y8.2.2.1, y8.2.2.2.1, y8.2.2.2.2)))) else (if y7.2.2.2.2 then some (y0.1, y1.1, y2.1, y3.1, y3.2.1, y4.1, y5.1, y6.1, y7.1, 0, ([] : LR), true, y7.2.2.1, y7.2.2.2.1, y7.2.2.2.2) else (if (!(q0 y0.1 y1.1 y2.1 y3.1 y3.2.1 y4.1 y5.1 y6.1 y7.1 0 ([] : LR))) then some (y0.1, y1.1, y2.1, y3.1, y3.2.1, y4.1, y5.1, y6.1, y7.1, 0, ([] : LR), true, y7.2.2.1, y7.2.2.2.1, y7.2.2.2.2) else some (y0.1, y1.1, y2.1, y3.1, y3.2.1, y4.1, y5.1, y6.1, y7.1, 0, ([] : LR), y7.2.1, y7.2.2.1, y7.2.2.2.1, y7.2.2.2.2)))))) else (if (qy y0.1 (3 : Int)) then (match (veil (qI.f BIG y5.2.2.1 y5.2.2.2.1 y5.2.2.2.2 y5.2.1 (65535 : Int))) with | none => none | some y9 => (if y9.2.2.2.2 then some (y0.1, y1.1, y2.1, y3.1, y3.2.1, y4.1, y5.1, 0, 0, y9.1, ([] : LR), true, y9.2.2.1, y9.2.2.2.1, y9.2.2.2.2) else (if (!(q0 y0.1 y1.1 y2.1 y3.1 y3.2.1 y4.1 y5.1 0 0 y9.1 ([] : LR))) then some (y0.1, y1.1, y2.1, y3.1, y3.2.1, y4.1, y5.1, 0, 0, y9.1, ([] : LR), true, y9.2.2.1, y9.2.2.2.1, y9.2.2.2.2) else some (y0.1, y1.1, y2.1, y3.1, y3.2.1, y4.1, y5.1, 0, 0, y9.1, ([] : LR), y9.2.1, y9.2.2.1, y9.2.2.2.1, y9.2.2.2.2)))) else (if y5.2.2.2.2 then some (y0.1, y1.1, y2.1, y3.1, y3.2.1, y4.1, y5.1, 0, 0, 0, ([] : LR), true, y5.2.2.1, y5.2.2.2.1, y5.2.2.2.2) else (if (!(q0 y0.1 y1.1 y2.1 y3.1 y3.2.1 y4.1 y5.1 0 0 0 ([] : LR))) then some (y0.1, y1.1, y2.1, y3.1, y3.2.1, y4.1, y5.1, 0, 0, 0, ([] : LR), true, y5.2.2.1, y5.2.2.2.1, y5.2.2.2.2) else some (y0.1, y1.1, y2.1, y3.1, y3.2.1, y4.1, y5.1, 0, 0, 0, ([] : LR), y5.2.1, y5.2.2.1, y5.2.2.2.1, y5.2.2.2.2)))))) else (if (qy y0.1 (2 : Int)) then (match (veil (qI.f BIG y4.2.2.1 y4.2.2.2.1 y4.2.2.2.2 y4.2.1 (veil (281474976710655 : Int)))) with | none => none | some y10 => (match (veil (qI.f BIG y10.2.2.1 y10.2.2.2.1 y10.2.2.2.2 y10.2.1 (65535 : Int))) with | none => none | some y11 => (if (qy y0.1 (3 : Int)) then (match (veil (qI.f BIG y11.2.2.1 y11.2.2.2.1 y11.2.2.2.2 y11.2.1 (65535 : Int))) with | none => none | some y12 => (if y12.2.2.2.2 then some (y0.1, y1.1, y2.1, y3.1, y3.2.1, y4.1, 0, y10.1, y11.1, y12.1, ([] : LR), true, y12.2.2.1, y12.2.2.2.1, y12.2.2.2.2) else (if (!(q0 y0.1 y1.1 y2.1 y3.1 y3.2.1 y4.1 0 y10.1 y11.1 y12.1 ([] : LR))) then some (y0.1, y1.1, y2.1, y3.1, y3.2.1, y4.1, 0, y10.1, y11.1, y12.1, ([] : LR), true, y12.2.2.1, y12.2.2.2.1, y12.2.2.2.2) else some (y0.1, y1.1, y2.1, y3.1, y3.2.1, y4.1, 0, y10.1, y11.1, y12.1, ([] : LR), y12.2.1, y12.2.2.1, y12.2.2.2.1, y12.2.2.2.2)))) else (if y11.2.2.2.2 then some (y0.1, y1.1, y2.1, y3.1, y3.2.1, y4.1, 0, y10.1, y11.1, 0, ([] : LR), true, y11.2.2.1, y11.2.2.2.1, y11.2.2.2.2) else (if (!(q0 y0.1 y1.1 y2.1 y3.1 y3.2.1 y4.1 0 y10.1 y11.1 0 ([] : LR))) then some (y0.1, y1.1, y2.1, y3.1, y3.2.1, y4.1, 0, y10.1, y11.1, 0, ([] : LR), true, y11.2.2.1, y11.2.2.2.1, y11.2.2.2.2) else some (y0.1, y1.1, y2.1, y3.1, y3.2.1, y4.1, 0, y10.1, y11.1, 0, ([] : LR), y11.2.1, y11.2.2.1, y11.2.2.2.1, y11.2.2.2.2)))))) else (if (qy y0.1 (3 : Int)) then (match (veil (qI.f BIG y4.2.2.1 y4.2.2.2.1 y4.2.2.2.2 y4.2.1 (65535 : Int))) with | none => none | some y13 => (if y13.2.2.2.2 then some (y0.1, y1.1, y2.1, y3.1, y3.2.1, y4.1, 0, 0, 0, y13.1, ([] : LR), true, y13.2.2.1, y13.2.2.2.1, y13.2.2.2.2) else (if (!(q0 y0.1 y1.1 y2.1 y3.1 y3.2.1 y4.1 0 0 0 y13.1 ([] : LR))) then some (y0.1, y1.1, y2.1, y3.1, y3.2.1, y4.1, 0, 0, 0, y13.1, ([] : LR), true, y13.2.2.1, y13.2.2.2.1, y13.2.2.2.2) else some (y0.1, y1.1, y2.1, y3.1, y3.2.1, y4.1, 0, 0, 0, y13.1, ([] : LR), y13.2.1, y13.2.2.1, y13.2.2.2.1, y13.2.2.2.2)))) else (if y4.2.2.2.2 then some (y0.1, y1.1, y2.1, y3.1, y3.2.1, y4.1, 0, 0, 0, 0, ([] : LR), true, y4.2.2.1, y4.2.2.2.1, y4.2.2.2.2) else (if (!(q0 y0.1 y1.1 y2.1 y3.1 y3.2.1 y4.1 0 0 0 0 ([] : LR))) then some (y0.1, y1.1, y2.1, y3.1, y3.2.1, y4.1, 0, 0, 0, 0, ([] : LR), true, y4.2.2.1, y4.2.2.2.1, y4.2.2.2.2) else some (y0.1, y1.1, y2.1, y3.1, y3.2.1, y4.1, 0, 0, 0, 0, ([] : LR), y4.2.1, y4.2.2.1, y4.2.2.2.1, y4.2.2.2.2))))))) else (if (qy y0.1 (1 : Int)) then (match (veil (qI.f BIG y3.2.2.2.1 y3.2.2.2.2.1 y3.2.2.2.2.2 y3.2.2.1 (4095 : Int))) with | none => none | some y14 => (if (qy y0.1 (2 : Int)) then (match (veil (qI.f BIG y14.2.2.1 y14.2.2.2.1 y14.2.2.2.2 y14.2.1 (veil (281474976710655 : Int)))) with | none => none | some y15 => (match (veil (qI.f BIG y15.2.2.1 y15.2.2.2.1 y15.2.2.2.2 y15.2.1 (65535 : Int))) with | none => none | some y16 => (if (qy y0.1 (3 : Int)) then (match (veil (qI.f BIG y16.2.2.1 y16.2.2.2.1 y16.2.2.2.2 y16.2.1 (65535 : Int))) with | none => none | some y17 => (if y17.2.2.2.2 then some (y0.1, y1.1, y2.1, y3.1, y3.2.1, 0, y14.1, y15.1, y16.1, y17.1, ([] : LR), true, y17.2.2.1, y17.2.2.2.1, y17.2.2.2.2) else (if (!(q0 y0.1 y1.1 y2.1 y3.1 y3.2.1 0 y14.1 y15.1 y16.1 y17.1 ([] : LR))) then some (y0.1, y1.1, y2.1, y3.1, y3.2.1, 0, y14.1, y15.1, y16.1, y17.1, ([] : LR), true, y17.2.2.1, y17.2.2.2.1, y17.2.2.2.2) else some (y0.1, y1.1, y2.1, y3.1, y3.2.1, 0, y14.1, y15.1, y16.1, y17.1, ([] : LR), y17.2.1, y17.2.2.1, y17.2.2.2.1, y17.2.2.2.2)))) else (if y16.2.2.2.2 then some (y0.1, y1.1, y2.1, y3.1, y3.2.1, 0, y14.1, y15.1, y16.1, 0, ([] : LR), true, y16.2.2.1, y16.2.2.2.1, y16.2.2.2.2) else (if (!(q0 y0.1 y1.1 y2.1 y3.1 y3.2.1 0 y14.1 y15.1 y16.1 0 ([] : LR))) then some (y0.1, y1.1, y2.1, y3.1, y3.2.1, 0, y14.1, y15.1, y16.1, 0, ([] : LR), true, y16.2.2.1, y16.2.2.2.1, y16.2.2.2.2) else some (y0.1, y1.1, y2.1, y3.1, y3.2.1, 0, y14.1, y15.1, y16.1, 0, ([] : LR), y16.2.1, y16.2.2.1, y16.2.2.2.1, y16.2.2.2.2)))))) else (if (qy y0.1 (3 : Int)) then (match (veil (qI.f BIG y14.2.2.1 y14.2.2.2.1 y14.2.2.2.2 y14.2.1 (65535 : Int))) with | none => none | some y18 => (if y18.2.2.2.2 then some (y0.1, y1.1, y2.1, y3.1, y3.2.1, 0, y14.1, 0, 0, y18.1, ([] : LR), true, y18.2.2.1, y18.2.2.2.1, y18.2.2.2.2) else (if (!(q0 y0.1 y1.1 y2.1 y3.1 y3.2.1 0 y14.1 0 0 y18.1 ([] : LR))) then some (y0.1, y1.1, y2.1, y3.1, y3.2.1, 0, y14.1, 0, 0, y18.1, ([] : LR), true, y18.2.2.1, y18.2.2.2.1, y18.2.2.2.2) else some (y0.1, y1.1, y2.1, y3.1, y3.2.1, 0, y14.1, 0, 0, y18.1, ([] : LR), y18.2.1, y18.2.2.1, y18.2.2.2.1, y18.2.2.2.2)))) else (if y14.2.2.2.2 then some (y0.1, y1.1, y2.1, y3.1, y3.2.1, 0, y14.1, 0, 0, 0, ([] : LR), true, y14.2.2.1, y14.2.2.2.1, y14.2.2.2.2) else (if (!(q0 y0.1 y1.1 y2.1 y3.1 y3.2.1 0 y14.1 0 0 0 ([] : LR))) then some (y0.1, y1.1, y2.1, y3.1, y3.2.1, 0, y14.1, 0, 0, 0, ([] : LR), true, y14.2.2.1, y14.2.2.2.1, y14.2.2.2.2) else some (y0.1, y1.1, y2.1, y3.1, y3.2.1, 0, y14.1, 0, 0, 0, ([] : LR), y14.2.1, y14.2.2.1, y14.2.2.2.1, y14.2.2.2.2)))))) else (if (qy y0.1 (2 : Int)) then (match (veil (qI.f BIG y3.2.2.2.1 y3.2.2.2.2.1 y3.2.2.2.2.2 y3.2.2.1 (veil (281474976710655 : Int)))) with | none => none | some y19 => (match (veil (qI.f BIG y19.2.2.1 y19.2.2.2.1 y19.2.2.2.2 y19.2.1 (65535 : Int))) with | none => none | some y20 => (if (qy y0.1 (3 : Int)) then (match (veil (qI.f BIG y20.2.2.1 y20.2.2.2.1 y20.2.2.2.2 y20.2.1 (65535 : Int))) with | none => none | some y21 => (if y21.2.2.2.2 then some (y0.1, y1.1, y2.1, y3.1, y3.2.1, 0, 0, y19.1, y20.1, y21.1, ([] : LR), true, y21.2.2.1, y21.2.2.2.1, y21.2.2.2.2) else (if (!(q0 y0.1 y1.1 y2.1 y3.1 y3.2.1 0 0 y19.1 y20.1 y21.1 ([] : LR))) then some (y0.1, y1.1, y2.1, y3.1, y3.2.1, 0, 0, y19.1, y20.1, y21.1, ([] : LR), true, y21.2.2.1, y21.2.2.2.1, y21.2.2.2.2) else some (y0.1, y1.1, y2.1, y3.1, y3.2.1, 0, 0, y19.1, y20.1, y21.1, ([] : LR), y21.2.1, y21.2.2.1, y21.2.2.2.1, y21.2.2.2.2)))) else (if y20.2.2.2.2 then some (y0.1, y1.1, y2.1, y3.1, y3.2.1, 0, 0, y19.1, y20.1, 0, ([] : LR), true, y20.2.2.1, y20.2.2.2.1, y20.2.2.2.2) else (if (!(q0 y0.1 y1.1 y2.1 y3.1 y3.2.1 0 0 y19.1 y20.1 0 ([] : LR))) then some (y0.1, y1.1, y2.1, y3.1, y3.2.1, 0, 0, y19.1, y20.1, 0, ([] : LR), true, y20.2.2.1, y20.2.2.2.1, y20.2.2.2.2) else some (y0.1, y1.1, y2.1, y3.1, y3.2.1, 0, 0, y19.1, y20.1, 0, ([] : LR), y20.2.1, y20.2.2.1, y20.2.2.2.1, y20.2.2.2.2)))))) else (if (qy y0.1 (3 : Int)) then (match (veil (qI.f BIG y3.2.2.2.1 y3.2.2.2.2.1 y3.2.2.2.2.2 y3.2.2.1 (65535 : Int))) with | none => none | some y22 => (if y22.2.2.2.2 then some (y0.1, y1.1, y2.1, y3.1, y3.2.1, 0, 0, 0, 0, y22.1, ([] : LR), true, y22.2.2.1, y22.2.2.2.1, y22.2.2.2.2) else (if (!(q0 y0.1 y1.1 y2.1 y3.1 y3.2.1 0 0 0 0 y22.1 ([] : LR))) then some (y0.1, y1.1, y2.1, y3.1, y3.2.1, 0, 0, 0, 0, y22.1, ([] : LR), true, y22.2.2.1, y22.2.2.2.1, y22.2.2.2.2) else some (y0.1, y1.1, y2.1, y3.1, y3.2.1, 0, 0, 0, 0, y22.1, ([] : LR), y22.2.1, y22.2.2.1, y22.2.2.2.1, y22.2.2.2.2)))) else (if y3.2.2.2.2.2 then some (y0.1, y1.1, y2.1, y3.1, y3.2.1, 0, 0, 0, 0, 0, ([] : LR), true, y3.2.2.2.1, y3.2.2.2.2.1, y3.2.2.2.2.2) else (if (!(q0 y0.1 y1.1 y2.1 y3.1 y3.2.1 0 0 0 0 0 ([] : LR))) then some (y0.1, y1.1, y2.1, y3.1, y3.2.1, 0, 0, 0, 0, 0, ([] : LR), true, y3.2.2.2.1, y3.2.2.2.2.1, y3.2.2.2.2.2) else some (y0.1, y1.1, y2.1, y3.1, y3.2.1, 0, 0, 0, 0, 0, ([] : LR), y3.2.2.1, y3.2.2.2.1, y3.2.2.2.2.1, y3.2.2.2.2.2))))))))))) else none)
def z8.f (qa : Nat) (bs : List Int) (at0 : Int) (bad za : Bool) : Option (Int × Int × Int × Int × Int × Int × Int × Int × Int × Int × LR × Bool × (List Int) × Int × Bool) := z8.b bs at0 bad za
theorem z8.eq (qa : Nat) (bs : List Int) (at0 : Int) (bad za : Bool) : (denF qe5 loopN qa Tryz.f74 [.dat (.pair tQi (.pair tQi (.pair tQi (.pair (.pair tQi tQi) (.pair tQi (.pair tQi (.pair tQi (.pair tQi (.pair tQi (.sl tQr)))))))))) true] [.ptr 0 0] [.box [.ptr 1 0, .d .bool za], .box [.d (.sl (.int .u8)) bs, .d tQi at0, .d .bool bad]] z8.k) = z8.f qa bs at0 bad za := by
 kernel_rfl
def ZR : Den.Sum := ⟨[.pb [.frz none [0] 0 (.int .u8)]], fun qK qn κ => match qK, qn with
 | [.ptr 0 0], [.box [.ptr 1 0, .d .bool za], .box [.d (.sl (.int .u8)) bs, .d (.int .i64) at0, .d .bool bad]] => (match veil (z8.f BIG bs at0 bad za) with | none => none | some y => κ [.agg [.d (.int .i64) y.1, .d (.int .i64) y.2.1, .d (.int .i64) y.2.2.1, .d (.int .i64) y.2.2.2.1, .d (.int .i64) y.2.2.2.2.1, .d (.int .i64) y.2.2.2.2.2.1, .d (.int .i64) y.2.2.2.2.2.2.1, .d (.int .i64) y.2.2.2.2.2.2.2.1, .d (.int .i64) y.2.2.2.2.2.2.2.2.1, .d (.int .i64) y.2.2.2.2.2.2.2.2.2.1, .d (.sl (.pair (.int .i64) (.pair (.int .i64) (.pair (.int .i64) (.pair (.pair (.int .i64) (.int .i64)) (.pair .bool (.sl (.pair (.int .i64) (.sl (.int .u8)))))))))) y.2.2.2.2.2.2.2.2.2.2.1]] [.box [.ptr 1 0, .d .bool y.2.2.2.2.2.2.2.2.2.2.2.1], .box [.d (.sl (.int .u8)) y.2.2.2.2.2.2.2.2.2.2.2.2.1, .d (.int .i64) y.2.2.2.2.2.2.2.2.2.2.2.2.2.1, .d .bool y.2.2.2.2.2.2.2.2.2.2.2.2.2.2]])
 | _, _ => none⟩
theorem qgk : SumDet ZR := zj fun _ _ _ _ => by
 unfold ZR
 simp only [veil_eq]
 split
 ·split <;> rfl
 ·rfl
theorem qgS : SumOk Tryz.prog 74 ZR := by
 have hE : EnvOk Tryz.prog qe5 := env_ok (l := [(76, QK), (41, qah), (98, zQ), (52, Zg), (107, Qy), (84, qaP)]) th_ok qZ ⟨⟨qat, qad⟩, ⟨qb0, qbl⟩, ⟨qap, qae⟩, ⟨qbd, qaL⟩, ⟨qce, qb1⟩, ⟨qcZ, qcj⟩, trivial⟩ _
 refine sum_ok hE Tryz.func74 rfl (by kernel_rfl) ZR [.dat (.pair tQi (.pair tQi (.pair tQi (.pair (.pair tQi tQi) (.pair tQi (.pair tQi (.pair tQi (.pair tQi (.pair tQi (.sl tQr)))))))))) true] z8.k ?_
 intro R avs qn κ r h
 unfold ZR at h
 simp only [veil_eq] at h
 split at h
 ·rename_i za bs at0 bad
  split at h
  ·cases h
  ·rename_i y hy
   refine ⟨BIG, _, _, _, (z8.eq BIG bs at0 bad za).trans hy, ?_, h⟩
   intro rs ros hk
   unfold z8.k at hk
   split at hk
   ·rw [← sj hk]; exact ⟨rfl, rfl⟩
   ·cases hk
 ·cases h
def tk (bs : List Int) (a : Nat) (zm : Int) : Option (Int × Nat) :=
 match pV (bs.drop a) with
 | some (w, r) => if w ≤ zm then some (w, bs.length - r.length) else none
 | none => none
theorem qa3 {bs : List Int} {a : Nat} {zm w : Int} {a2 : Nat} (hb : ∀ c ∈ bs, 0 ≤ c ∧ c ≤ 255) (h : tk bs a zm = some (w, a2)) : bs.drop a = vi w ++ bs.drop a2 ∧ 0 ≤ w ∧ w ≤ zm ∧ w < 18446744073709551616 ∧ a < a2 ∧ a2 ≤ bs.length := by
 unfold tk at h
 split at h
 ·rename_i v r hv
  split at h
  ·rename_i hm
   obtain ⟨rfl, rfl⟩ : v = w ∧ bs.length - r.length = a2 := by cases h; exact ⟨rfl, rfl⟩
   obtain ⟨e, v0, v1⟩ := qmZ (fun c hc => hb c (List.mem_of_mem_drop hc)) hv
   have hl := congrArg List.length e
   have h1 := (qaD v).1
   simp only [List.length_drop, List.length_append] at hl
   refine ⟨?_, v0, hm, v1, by omega, by omega⟩
   have e2 : bs = (bs.take a ++ vi v) ++ r := by rw [List.append_assoc, ← e, List.take_append_drop]
   have e3 : bs.length - r.length = (bs.take a ++ vi v).length := by simp; omega
   rw [e, e3]
   congr 1
   generalize bs.take a ++ vi v = q at e2
   rw [e2, List.drop_left]
  ·cases h
 ·cases h
theorem qsp {bs : List Int} {a : Nat} {zm w : Int} {r : List Int} (h : bs.drop a = vi w ++ r) (h0 : 0 ≤ w) (h1 : w < 18446744073709551616) (hm : w ≤ zm) : tk bs a zm = some (w, bs.length - r.length) := by
 unfold tk
 rw [h, qrR r h0 h1]
 exact if_pos hm
theorem Got.tk {bs : List Int} {a0 : Nat} {zm : Int} {o : Option (Int × Bool × List Int × Int × Bool)} (h : Got bs a0 zm o) :
  match tk bs a0 zm with
  | some (w, a2) => o = some (w, true, bs, (a2 : Int), false)
  | none => ∃ (a : Nat) (bad : Bool), o = some (0, false, bs, (a : Int), bad) ∧ a ≤ bs.length := by
 obtain ⟨v, ok, a, bad, rfl, ha, h⟩ := h
 unfold Proofs.YtneiiplppcjjlaaGreatDoor.tk
 revert h
 cases hw : pV (bs.drop a0) with
 | none =>
  intro h
  obtain ⟨rfl, rfl⟩ := h
  exact ⟨a, bad, rfl, ha⟩
 | some x =>
  obtain ⟨w, r⟩ := x
  intro h
  dsimp only at h ⊢
  by_cases hm : w ≤ zm
  ·rw [if_pos hm] at h ⊢
   obtain ⟨rfl, rfl, rfl, rfl⟩ := h
   dsimp only
   rw [show bs.length - (bs.drop a).length = a from by simp; omega]
  ·rw [if_neg hm] at h ⊢
   obtain ⟨rfl, rfl⟩ := h
   exact ⟨a, bad, rfl, ha⟩
theorem qhx (bs : List Int) (a : Int) (bad : Bool) (zm : Int) : qI.f BIG bs a bad true zm = some (0, true, bs, a, bad) := rfl
theorem qm9 (bs : List Int) (a : Nat) (zm : Int) (hb : inB bs = true) (ha : a ≤ bs.length) : qI.f BIG bs (a : Int) true false zm = some (0, true, bs, (a : Int), true) := by
 unfold qI.f qI.b
 simp only [veil_eq]
 rw [if_neg (by simp), qnr.bad bs a zm hb ha]
 rfl
theorem qd0 (bs : List Int) (a : Nat) (zm : Int) (hb : inB bs = true) (m0 : 0 ≤ zm) (m1 : zm < 9223372036854775808) (ha : a ≤ bs.length) :
  match tk bs a zm with
  | some (w, a2) => qI.f BIG bs (a : Int) false false zm = some (w, false, bs, (a2 : Int), false)
  | none => ∃ (a' : Nat) (bad : Bool), qI.f BIG bs (a : Int) false false zm = some (0, true, bs, (a' : Int), bad) ∧ a' ≤ bs.length := by
 have h := Got.tk (qnr.pure bs a zm hb m0 m1 ha)
 unfold qI.f qI.b
 simp only [veil_eq]
 rw [if_neg (by simp)]
 revert h
 cases tk bs a zm with
 | some p =>
  intro h
  obtain ⟨w, a2⟩ := p
  try dsimp only at h ⊢
  rw [h]
  all_goals rfl
 | none =>
  intro h
  obtain ⟨a', bad, h, h2⟩ := h
  refine ⟨a', bad, ?_, h2⟩
  rw [h]
  all_goals rfl
abbrev HD := Int × Int × Int × Int × Int × Int × Int × Int × Int × Int × LR × Bool × List Int × Int × Bool
def qcw {R : Type} (c : Bool) (zm : Int) (wr : Bool) (bs : List Int) (a : Int) (bad : Bool) (k : Int → Bool → List Int → Int → Bool → Option R) : Option R :=
 if c then (match qI.f BIG bs a bad wr zm with
  | none => none
  | some y => k y.1 y.2.1 y.2.2.1 y.2.2.2.1 y.2.2.2.2)
 else k 0 wr bs a bad
def qri (k f i lo hi s t l e b : Int) (wr : Bool) (bs : List Int) (a : Int) (bad : Bool) : Option HD :=
 if bad then some (k, f, i, lo, hi, s, t, l, e, b, [], true, bs, a, bad)
 else if (!(q0 k f i lo hi s t l e b [])) then some (k, f, i, lo, hi, s, t, l, e, b, [], true, bs, a, bad)
 else some (k, f, i, lo, hi, s, t, l, e, b, [], wr, bs, a, bad)
def qpd (bs : List Int) (at0 : Int) (bad za : Bool) : Option HD :=
 if zt bs at0 then
  qcw true 4095 za bs (qz bs 1 at0 bad).2.1 (qz bs 1 at0 bad).2.2 fun f w b1 a1 d1 =>
  qcw true 281474976710655 w b1 a1 d1 fun i w b2 a2 d2 =>
  match zp.f BIG b2 a2 d2 w with
  | none => none
  | some y =>
   qcw (qy (qz bs 1 at0 bad).1 0) 65535 y.2.2.1 y.2.2.2.1 y.2.2.2.2.1 y.2.2.2.2.2 fun s w b3 a3 d3 =>
   qcw (qy (qz bs 1 at0 bad).1 1) 4095 w b3 a3 d3 fun t w b4 a4 d4 =>
   qcw (qy (qz bs 1 at0 bad).1 2) 281474976710655 w b4 a4 d4 fun l w b5 a5 d5 =>
   qcw (qy (qz bs 1 at0 bad).1 2) 65535 w b5 a5 d5 fun e w b6 a6 d6 =>
   qcw (qy (qz bs 1 at0 bad).1 3) 65535 w b6 a6 d6 fun b w b7 a7 d7 =>
   qri (qz bs 1 at0 bad).1 f i y.1 y.2.1 s t l e b w b7 a7 d7
 else none
theorem qrZ (bs : List Int) (at0 : Int) (bad za : Bool) : z8.f BIG bs at0 bad za = qpd bs at0 bad za := by
 unfold z8.f z8.b qpd qcw qri
 simp only [veil_eq]
 generalize qy (qz bs 1 at0 bad).1 0 = h0
 generalize qy (qz bs 1 at0 bad).1 1 = h1
 generalize qy (qz bs 1 at0 bad).1 2 = h2
 generalize qy (qz bs 1 at0 bad).1 3 = h3
 cases h0 <;> cases h1 <;> cases h2 <;> cases h3 <;> rfl
def Rel (bs : List Int) (st : Option Nat) (wr : Bool) (a : Int) (bad : Bool) : Prop :=
 (∃ n : Nat, a = (n : Int) ∧ n ≤ bs.length) ∧ match st with
  | some n => wr = false ∧ bad = false ∧ a = (n : Int)
  | none => wr = true ∨ bad = true
def zr (bs : List Int) (c : Bool) (st : Option Nat) (zm : Int) : Int × Option Nat :=
 if c then (match st with
  | none => (0, none)
  | some a => match tk bs a zm with
   | some (w, a2) => (w, some a2)
   | none => (0, none))
 else (0, st)
theorem qaw {R : Type} {bs : List Int} {st : Option Nat} {wr : Bool} {a : Int} {bad : Bool} (hb : inB bs = true) (h : Rel bs st wr a bad) (c : Bool) (zm : Int) (m0 : 0 ≤ zm) (m1 : zm < 9223372036854775808) (k : Int → Bool → List Int → Int → Bool → Option R) :
  ∃ wr' a' bad', qcw c zm wr bs a bad k = k (zr bs c st zm).1 wr' bs a' bad' ∧ Rel bs (zr bs c st zm).2 wr' a' bad' := by
 obtain ⟨hl, hc⟩ := (QY bs).1 hb
 obtain ⟨⟨n, rfl, hn⟩, h⟩ := h
 cases c with
 | false => exact ⟨wr, n, bad, rfl, ⟨n, rfl, hn⟩, h⟩
 | true =>
  cases st with
  | none =>
   cases wr with
   | true => exact ⟨true, n, bad, rfl, ⟨n, rfl, hn⟩, Or.inl rfl⟩
   | false =>
    obtain rfl : bad = true := by rcases h with h | h; cases h; exact h
    refine ⟨true, n, true, ?_, ⟨n, rfl, hn⟩, Or.inl rfl⟩
    unfold qcw
    rw [if_pos rfl, qm9 bs n zm hb hn]
    rfl
  | some m =>
   obtain ⟨rfl, rfl, e⟩ := h
   obtain rfl : n = m := by omega
   have hg := qd0 bs n zm hb m0 m1 hn
   unfold qcw zr
   rw [if_pos rfl, if_pos rfl]
   dsimp only
   split at hg
   ·rename_i w a2 ht
    obtain ⟨_, _, _, _, _, h2⟩ := qa3 hc ht
    rw [hg]
    try simp only [ht]
    exact ⟨false, a2, false, rfl, ⟨a2, rfl, h2⟩, rfl, rfl, rfl⟩
   ·rename_i ht
    obtain ⟨a', bad', hg, h2⟩ := hg
    rw [hg]
    try simp only [ht]
    exact ⟨true, a', bad', rfl, ⟨a', rfl, h2⟩, Or.inl rfl⟩
def spS (bs : List Int) (st : Option Nat) : Int × Int × Option Nat :=
 match st with
 | some n => (match bs[n]? with
  | some c => if okS (c / 16) (c % 16) then (c / 16, c % 16, some (n + 1)) else (0, 0, none)
  | none => (0, 0, none))
 | none => (0, 0, none)
theorem qq0 : (List.range 256).all (fun n => (zW Qw (n : Int)).2.2 == okS ((n : Int) / 16) ((n : Int) % 16)) = true := by kernel_rfl
theorem qho (c : Int) (h0 : 0 ≤ c) (h1 : c ≤ 255) : (zW Qw c).2.2 = okS (c / 16) (c % 16) := by
 have := List.all_eq_true.1 qq0 c.toNat (by simp; omega)
 rw [show ((c.toNat : Nat) : Int) = c from by omega] at this
 simpa using this
theorem qjv {bs : List Int} {st : Option Nat} {wr : Bool} {a : Int} {bad : Bool} (hb : inB bs = true) (h : Rel bs st wr a bad) :
  ∃ lo hi wr' a' bad', zp.f BIG bs a bad wr = some (lo, hi, wr', bs, a', bad') ∧ Rel bs (spS bs st).2.2 wr' a' bad' ∧ ((spS bs st).2.2 ≠ none → lo = (spS bs st).1 ∧ hi = (spS bs st).2.1) := by
 obtain ⟨hl, hc⟩ := (QY bs).1 hb
 obtain ⟨⟨n, rfl, hn⟩, h⟩ := h
 have hat : zt bs (n : Int) = true := (zN _ _).2 ⟨hb, by omega, by omega⟩
 have ha' := (zN _ _).1 (QE bs 1 (n : Int) bad hat)
 have hex : ∃ m : Nat, (qz bs 1 (n : Int) bad).2.1 = (m : Int) ∧ m ≤ bs.length := ⟨(qz bs 1 (n : Int) bad).2.1.toNat, by omega, by omega⟩
 unfold zp.f zp.b
 simp only [veil_eq]
 rw [if_pos hat]
 cases wr with
 | true =>
  refine ⟨_, _, true, _, _, rfl, ⟨hex, ?_⟩, ?_⟩
  ·cases st with
   | none => exact Or.inl rfl
   | some m => exact absurd h.1 (by simp)
  ·cases st with
   | none => intro h; exact absurd rfl h
   | some m => exact absurd h.1 (by simp)
 | false =>
  cases st with
  | none =>
   obtain rfl : bad = true := by rcases h with h | h; cases h; exact h
   refine ⟨_, _, _, _, _, rfl, ⟨hex, ?_⟩, fun h => absurd rfl h⟩
   refine Or.inr ?_
   rw [qil]
  | some m =>
   obtain ⟨_, rfl, e⟩ := h
   obtain rfl : n = m := by omega
   by_cases hlt : n < bs.length
   ·have hs : spS bs (some n) = if okS (bs[n] / 16) (bs[n] % 16) then (bs[n] / 16, bs[n] % 16, some (n + 1)) else (0, 0, none) := by
     unfold spS; dsimp only
     rw [List.getElem?_eq_getElem hlt]
    rw [hs]
    obtain ⟨c0, c1⟩ := hc _ (List.getElem_mem hlt)
    rw [qc0 bs n hlt]
    dsimp only
    rw [if_neg (by simp)]
    have ht := qho _ c0 c1
    have hd := qhp _ c0 c1
    generalize bs[n] = c at c0 c1 ht hd ⊢
    refine ⟨_, _, _, _, _, rfl, ?_, ?_⟩
    ·refine ⟨⟨n + 1, rfl, hlt⟩, ?_⟩
     rw [ht]
     cases ho : okS (c / 16) (c % 16) with
     | true => exact ⟨rfl, rfl, rfl⟩
     | false => exact Or.inl rfl
    ·cases ho : okS (c / 16) (c % 16) with
     | true => intro _; rw [hd.1 ho]; exact ⟨rfl, rfl⟩
     | false => intro h; exact absurd rfl h
   ·have hs : spS bs (some n) = (0, 0, none) := by
     unfold spS; dsimp only
     rw [List.getElem?_eq_none (by omega)]
    rw [hs, qc1 bs n (by omega)]
    exact ⟨_, _, _, _, _, rfl, ⟨⟨n, rfl, hn⟩, Or.inr rfl⟩, fun h => absurd rfl h⟩
def qam (bs : List Int) : Option Nat := if 0 < bs.length then some 1 else none
def hdK (bs : List Int) : Int := bs.getD 0 0
def hdS (bs : List Int) : Option (Int × Int × Int × Int × Int × Int × Int × Int × Int × Int × Nat) :=
 let k := hdK bs
 let f := zr bs true (qam bs) 4095
 let i := zr bs true f.2 281474976710655
 let p := spS bs i.2
 let s := zr bs (qy k 0) p.2.2 65535
 let t := zr bs (qy k 1) s.2 4095
 let l := zr bs (qy k 2) t.2 281474976710655
 let e := zr bs (qy k 2) l.2 65535
 let b := zr bs (qy k 3) e.2 65535
 match b.2 with
 | none => none
 | some a => if q0 k f.1 i.1 p.1 p.2.1 s.1 t.1 l.1 e.1 b.1 [] then some (k, f.1, i.1, p.1, p.2.1, s.1, t.1, l.1, e.1, b.1, a) else none
theorem qbm {bs : List Int} {c : Bool} {st : Option Nat} {zm : Int} (h : (zr bs c st zm).2 ≠ none) : st ≠ none := by
 intro e
 subst e
 cases c <;> exact h rfl
theorem head.pure (bs : List Int) (hb : inB bs = true) :
  match hdS bs with
  | some (k, f, i, lo, hi, s, t, l, e, b, a) => z8.f BIG bs 0 false false = some (k, f, i, lo, hi, s, t, l, e, b, [], false, bs, (a : Int), false) ∧ a ≤ bs.length ∧ q0 k f i lo hi s t l e b [] = true
  | none => ∃ k f i lo hi s t l e b a bad, z8.f BIG bs 0 false false = some (k, f, i, lo, hi, s, t, l, e, b, [], true, bs, a, bad) := by
 rw [qrZ]
 unfold qpd
 rw [if_pos ((zN _ _).2 ⟨hb, by omega, by omega⟩)]
 have h0 : (qz bs 1 0 false).1 = hdK bs ∧ Rel bs (qam bs) false (qz bs 1 0 false).2.1 (qz bs 1 0 false).2.2 := by
  unfold hdK qam
  by_cases h : 0 < bs.length
  ·rw [if_pos h, show (0 : Int) = ((0 : Nat) : Int) from rfl, qc0 bs 0 h]
   refine ⟨?_, ⟨1, rfl, h⟩, rfl, rfl, rfl⟩
   simp [List.getD, List.getElem?_eq_getElem h]
  ·rw [if_neg h, show (0 : Int) = ((0 : Nat) : Int) from rfl, qc1 bs 0 (by omega)]
   refine ⟨?_, ⟨0, rfl, by omega⟩, Or.inr rfl⟩
   simp [List.getD, List.getElem?_eq_none (show bs.length ≤ 0 by omega)]
 obtain ⟨e0, r0⟩ := h0
 rw [e0]
 obtain ⟨w1, a1, d1, e1, r1⟩ := qaw hb r0 true 4095 (by decide) (by decide) _
 rw [e1]
 obtain ⟨w2, a2, d2, e2, r2⟩ := qaw hb r1 true 281474976710655 (by decide) (by decide) _
 rw [e2]
 obtain ⟨lo, hi, w3, a3, d3, e3, r3, q3⟩ := qjv hb r2
 rw [e3]
 dsimp only
 obtain ⟨w4, a4, d4, e4, r4⟩ := qaw hb r3 (qy (hdK bs) 0) 65535 (by decide) (by decide) _
 rw [e4]
 obtain ⟨w5, a5, d5, e5, r5⟩ := qaw hb r4 (qy (hdK bs) 1) 4095 (by decide) (by decide) _
 rw [e5]
 obtain ⟨w6, a6, d6, e6, r6⟩ := qaw hb r5 (qy (hdK bs) 2) 281474976710655 (by decide) (by decide) _
 rw [e6]
 obtain ⟨w7, a7, d7, e7, r7⟩ := qaw hb r6 (qy (hdK bs) 2) 65535 (by decide) (by decide) _
 rw [e7]
 obtain ⟨w8, a8, d8, e8, r8⟩ := qaw hb r7 (qy (hdK bs) 3) 65535 (by decide) (by decide) _
 rw [e8]
 have hs : (zr bs (qy (hdK bs) 3) (zr bs (qy (hdK bs) 2) (zr bs (qy (hdK bs) 2) (zr bs (qy (hdK bs) 1) (zr bs (qy (hdK bs) 0) (spS bs (zr bs true (zr bs true (qam bs) 4095).2 281474976710655).2).2.2 65535).2 4095).2 281474976710655).2 65535).2 65535).2 ≠ none → lo = (spS bs (zr bs true (zr bs true (qam bs) 4095).2 281474976710655).2).1 ∧ hi = (spS bs (zr bs true (zr bs true (qam bs) 4095).2 281474976710655).2).2.1 :=
  fun h => q3 (qbm (qbm (qbm (qbm (qbm h)))))
 unfold hdS qri
 dsimp only
 generalize zr bs (qy (hdK bs) 3) _ 65535 = B at r8 hs ⊢
 obtain ⟨b, st⟩ := B
 dsimp only at r8 hs ⊢
 obtain ⟨⟨n, rfl, hn⟩, r8⟩ := r8
 cases st with
 | none =>
  dsimp only at r8 ⊢
  cases d8 with
  | true => exact ⟨_, _, _, _, _, _, _, _, _, _, _, _, rfl⟩
  | false =>
   obtain rfl : w8 = true := by rcases r8 with h | h; exact h; cases h
   rw [if_neg (by simp)]
   split <;> exact ⟨_, _, _, _, _, _, _, _, _, _, _, _, rfl⟩
 | some m =>
  obtain ⟨rfl, rfl, e⟩ := r8
  obtain ⟨rfl, rfl⟩ := hs (by simp)
  obtain rfl : n = m := by omega
  dsimp only
  rw [if_neg (c := false = true) (by simp)]
  by_cases hv : q0 (hdK bs) (zr bs true (qam bs) 4095).1 (zr bs true (zr bs true (qam bs) 4095).2 281474976710655).1 (spS bs (zr bs true (zr bs true (qam bs) 4095).2 281474976710655).2).1 (spS bs (zr bs true (zr bs true (qam bs) 4095).2 281474976710655).2).2.1 (zr bs (qy (hdK bs) 0) (spS bs (zr bs true (zr bs true (qam bs) 4095).2 281474976710655).2).2.2 65535).1 (zr bs (qy (hdK bs) 1) (zr bs (qy (hdK bs) 0) (spS bs (zr bs true (zr bs true (qam bs) 4095).2 281474976710655).2).2.2 65535).2 4095).1 (zr bs (qy (hdK bs) 2) (zr bs (qy (hdK bs) 1) (zr bs (qy (hdK bs) 0) (spS bs (zr bs true (zr bs true (qam bs) 4095).2 281474976710655).2).2.2 65535).2 4095).2 281474976710655).1 (zr bs (qy (hdK bs) 2) (zr bs (qy (hdK bs) 2) (zr bs (qy (hdK bs) 1) (zr bs (qy (hdK bs) 0) (spS bs (zr bs true (zr bs true (qam bs) 4095).2 281474976710655).2).2.2 65535).2 4095).2 281474976710655).2 65535).1 b [] = true
  ·rw [if_pos hv, if_neg (by rw [Bool.not_eq_true, Bool.not_eq_false']; exact hv)]
   exact ⟨rfl, hn, hv⟩
  ·rw [if_neg hv, if_pos (by simpa using hv)]
   exact ⟨_, _, _, _, _, _, _, _, _, _, _, _, rfl⟩
theorem qiN {bs : List Int} {a : Nat} {zm w : Int} {r : List Int} (h : bs.drop a = vi w ++ r) (h0 : 0 ≤ w) (h1 : w < 18446744073709551616) (hm : w ≤ zm) : tk bs a zm = some (w, a + (vi w).length) ∧ bs.drop (a + (vi w).length) = r := by
 have hl := congrArg List.length h
 have h1' := (qaD w).1
 simp only [List.length_drop, List.length_append] at hl
 refine ⟨?_, ?_⟩
 ·rw [qsp h h0 h1 hm, show bs.length - r.length = a + (vi w).length from by omega]
 ·rw [← List.drop_drop, h, List.drop_left]
theorem qkW {bs : List Int} {a : Nat} {c : Int} {r : List Int} (h : bs.drop a = c :: r) : bs[a]? = some c ∧ bs.drop (a + 1) = r := by
 constructor
 ·have := List.getElem?_drop (xs := bs) (i := a) (j := 0)
  rw [h] at this
  simpa using this.symm
 ·rw [← List.drop_drop, h]; all_goals rfl
theorem qeO {bs : List Int} {a : Nat} {c : Int} (h : bs[a]? = some c) : bs.drop a = c :: bs.drop (a + 1) ∧ a < bs.length := by
 obtain ⟨hlt, he⟩ := List.getElem?_eq_some_iff.1 h
 rw [List.drop_eq_getElem_cons hlt, he]
 exact ⟨rfl, hlt⟩
def qgt (bs : List Int) (a : Nat) : Option ((Int × List Int) × Nat) :=
 match bs[a]? with
 | none => none
 | some t => match tk bs (a + 1) 4096 with
  | none => none
  | some (n, a2) => if a2 + n.toNat ≤ bs.length then some ((t, (bs.drop a2).take n.toNat), a2 + n.toNat) else none
theorem qph {bs : List Int} {a : Nat} {x : Int × List Int} {a2 : Nat} (hb : ∀ c ∈ bs, 0 ≤ c ∧ c ≤ 255) (h : qgt bs a = some (x, a2)) : bs.drop a = qbD x ++ bs.drop a2 ∧ a2 ≤ bs.length ∧ x.2.length ≤ 4096 := by
 unfold qgt at h
 cases hc : bs[a]? with
 | none => rw [hc] at h; cases h
 | some c =>
  rw [hc] at h
  dsimp only at h
  cases ht : tk bs (a + 1) 4096 with
  | none => rw [ht] at h; cases h
  | some p =>
   obtain ⟨n, a3⟩ := p
   rw [ht] at h
   dsimp only at h
   by_cases hle : a3 + n.toNat ≤ bs.length
   ·rw [if_pos hle] at h
    obtain ⟨e1, n0, n1, _, _, _⟩ := qa3 hb ht
    obtain ⟨e0, _⟩ := qeO hc
    have hlen : ((bs.drop a3).take n.toNat).length = n.toNat := by rw [List.length_take, List.length_drop]; omega
    obtain ⟨rfl, rfl⟩ : (c, (bs.drop a3).take n.toNat) = x ∧ a3 + n.toNat = a2 := by cases h; exact ⟨rfl, rfl⟩
    refine ⟨?_, hle, by dsimp only; omega⟩
    unfold qbD
    dsimp only
    rw [hlen, e0, e1, show ((n.toNat : Nat) : Int) = n from by omega, ← List.drop_drop, List.cons_append, List.append_assoc, List.take_append_drop]
   ·rw [if_neg hle] at h; cases h
theorem qqf {bs : List Int} {a : Nat} {x : Int × List Int} {r : List Int} (h : bs.drop a = qbD x ++ r) (hx : x.2.length ≤ 4096) : qgt bs a = some (x, a + (qbD x).length) ∧ bs.drop (a + (qbD x).length) = r := by
 have hl := congrArg List.length h
 refine ⟨?_, by rw [← List.drop_drop, h, List.drop_left]⟩
 obtain ⟨t, d⟩ := x
 dsimp only at hx
 obtain ⟨g1, g2⟩ := qkW (show bs.drop a = t :: (vi (d.length : Int) ++ (d ++ r)) from by rw [h]; simp [qbD])
 obtain ⟨k1, k2⟩ := qiN (zm := 4096) g2 (by omega) (by omega) (by omega)
 have hv := qaD (d.length : Int)
 unfold qgt
 rw [g1]
 dsimp only
 rw [k1]
 dsimp only
 simp only [List.length_drop, List.length_append, qbD, List.length_cons] at hl ⊢
 rw [if_pos (by omega), k2, Int.toNat_natCast, List.take_left, show a + 1 + (vi (d.length : Int)).length + d.length = a + ((vi (d.length : Int)).length + d.length + 1) from by omega]
def qdE (bs : List Int) : Nat → Nat → Option (LF × Nat)
 | 0, a => some ([], a)
 | k + 1, a => match qgt bs a with
  | none => none
  | some (x, a2) => match qdE bs k a2 with
   | none => none
   | some (l, a3) => some (x :: l, a3)
theorem qnM {bs : List Int} (hb : ∀ c ∈ bs, 0 ≤ c ∧ c ≤ 255) : ∀ (k a : Nat) (l : LF) (a2 : Nat), a ≤ bs.length → qdE bs k a = some (l, a2) → bs.drop a = l.flatMap qbD ++ bs.drop a2 ∧ a2 ≤ bs.length ∧ l.length = k ∧ ∀ x ∈ l, x.2.length ≤ 4096 := by
 intro k
 induction k with
 | zero =>
  intro a l a2 ha h
  rw [qdE] at h
  cases h
  exact ⟨rfl, ha, rfl, by simp⟩
 | succ k ih =>
  intro a l a2 ha h
  rw [qdE] at h
  cases h1 : qgt bs a with
  | none => rw [h1] at h; cases h
  | some p =>
   obtain ⟨x, a3⟩ := p
   rw [h1] at h
   dsimp only at h
   obtain ⟨e1, l1, s1⟩ := qph hb h1
   cases h2 : qdE bs k a3 with
   | none => rw [h2] at h; cases h
   | some q =>
    obtain ⟨m, a4⟩ := q
    rw [h2] at h
    dsimp only at h
    obtain ⟨e2, l2, n2, s2⟩ := ih a3 m a4 l1 h2
    cases h
    refine ⟨by rw [e1, e2]; simp, l2, by simp [n2], ?_⟩
    intro y hy
    rcases List.mem_cons.1 hy with rfl | hy
    ·exact s1
    ·exact s2 y hy
theorem qkY {bs : List Int} : ∀ (l : LF) (a : Nat) (r : List Int), bs.drop a = l.flatMap qbD ++ r → (∀ x ∈ l, x.2.length ≤ 4096) → qdE bs l.length a = some (l, a + (l.flatMap qbD).length) ∧ bs.drop (a + (l.flatMap qbD).length) = r
 | [], a, r, h, _ => ⟨rfl, h⟩
 | x :: l, a, r, h, hx => by
  obtain ⟨h1, h2⟩ := qqf (x := x) (r := l.flatMap qbD ++ r) (by rw [h]; simp) (hx x (List.mem_cons_self ..))
  obtain ⟨h3, h4⟩ := qkY l _ r h2 (fun y hy => hx y (List.mem_cons_of_mem _ hy))
  have e : a + ((x :: l).flatMap qbD).length = a + (qbD x).length + (l.flatMap qbD).length := by simp; omega
  rw [e]
  refine ⟨?_, h4⟩
  rw [List.length_cons, qdE, h1]
  dsimp only
  rw [h3]
def qgw (bs : List Int) (a : Nat) : Option (LF × Nat) :=
 match tk bs a 32 with
 | none => none
 | some (n, a1) => qdE bs n.toNat a1
theorem qhE {bs : List Int} (hb : ∀ c ∈ bs, 0 ≤ c ∧ c ≤ 255) {a : Nat} {l : LF} {a2 : Nat} (h : qgw bs a = some (l, a2)) : bs.drop a = qch l ++ bs.drop a2 ∧ a2 ≤ bs.length ∧ l.length ≤ 32 ∧ ∀ x ∈ l, x.2.length ≤ 4096 := by
 unfold qgw at h
 cases ht : tk bs a 32 with
 | none => rw [ht] at h; cases h
 | some p =>
  obtain ⟨n, a1⟩ := p
  rw [ht] at h
  dsimp only at h
  obtain ⟨e1, n0, n1, _, _, l1⟩ := qa3 hb ht
  obtain ⟨e2, l2, n2, s2⟩ := qnM hb _ _ _ _ l1 h
  refine ⟨?_, l2, by omega, s2⟩
  rw [e1, e2]
  unfold qch
  rw [n2, show ((n.toNat : Nat) : Int) = n from by omega, List.append_assoc]
theorem qqs {bs : List Int} {a : Nat} {l : LF} {r : List Int} (h : bs.drop a = qch l ++ r) (hn : l.length ≤ 32) (hx : ∀ x ∈ l, x.2.length ≤ 4096) : qgw bs a = some (l, a + (qch l).length) ∧ bs.drop (a + (qch l).length) = r := by
 refine ⟨?_, by rw [← List.drop_drop, h, List.drop_left]⟩
 obtain ⟨h1, h2⟩ := qiN (w := (l.length : Int)) (zm := 32) (r := l.flatMap qbD ++ r) (by rw [h]; simp [qch]) (by omega) (by omega) (by omega)
 obtain ⟨h3, h4⟩ := qkY l _ r h2 hx
 unfold qgw
 rw [h1]
 dsimp only
 rw [Int.toNat_natCast, h3]
 simp [qch]
 omega
theorem qn2 : ∀ (l m : List Int), qeN l m = 0 → l = m
 | [], [], _ => rfl
 | [], _ :: _, h => by simp [qeN] at h
 | _ :: _, [], h => by simp [qeN] at h
 | x :: l, y :: m, h => by
  rw [qeN] at h
  by_cases h1 : x < y
  ·rw [if_pos (by simpa using h1)] at h; omega
  ·rw [if_neg (by simpa using h1)] at h
   by_cases h2 : x > y
   ·rw [if_pos (by simpa using h2)] at h; omega
   ·rw [if_neg (by simpa using h2)] at h
    rw [qn2 l m h, show x = y from by omega]
theorem qng : ∀ (l m : LF), ZP l m = 0 → l = m
 | [], [], _ => rfl
 | [], _ :: _, h => by simp [ZP] at h
 | _ :: _, [], h => by simp [ZP] at h
 | (t, d) :: l, (u, e) :: m, h => by
  rw [ZP] at h
  dsimp only at h
  by_cases h1 : qd7 t d u e = 0
  ·rw [if_neg (by simp [h1])] at h
   rw [qng l m h]
   unfold qd7 at h1
   by_cases h2 : t = u
   ·subst h2
    rw [if_neg (by simp)] at h1
    rw [qn2 d e h1]
   ·rw [if_pos (by simpa using h2)] at h1
    split at h1 <;> omega
  ·rw [if_pos (by simpa using h1)] at h
   exact absurd h h1
theorem qe8 (l m : LF) : (ZP l m == 0) = decide (l = m) := by
 by_cases h : l = m
 ·subst h; rw [qhC]; simp
 ·rw [decide_eq_false h]
  cases hc : ZP l m == 0 with
  | false => rfl
  | true => exact absurd (qng l m (by simpa using hc)) h
def qeC (z : Int) : Int := if z % 2 = 0 then z / 2 else -((z + 1) / 2)
theorem qrJ (z : Int) (h : 0 ≤ z) : qbq (qeC z) = z := by unfold qbq qeC; split <;> split <;> omega
theorem qrK (n : Int) : qeC (qbq n) = n := by unfold qbq qeC; split <;> split <;> omega
def qeT (bs : List Int) (o : REC × Bool) (v : Int) (a : Nat) : Option ((Int × Int) × Nat) :=
 if v / 8 % 2 = 1 then some (o.1.2.2.2.1, a) else
 match bs[a]? with
 | none => none
 | some c => if okS (c / 16) (c % 16) = true ∧ (o.2 && (c / 16 == o.1.2.2.2.1.1 && c % 16 == o.1.2.2.2.1.2)) = false then some ((c / 16, c % 16), a + 1) else none
def qes (bs : List Int) (o : REC × Bool) (v : Int) (a : Nat) : Option (LF × Nat) :=
 if v / 4 % 2 = 1 then some ([], a) else if 16 ≤ v then some (o.1.2.2.2.2.2, a) else
 match qgw bs a with
 | none => none
 | some (b, a2) => if (o.2 && ZP b o.1.2.2.2.2.2 == 0) = true then none else some (b, a2)
def qbM (o : REC × Bool) (v : Int) : Bool := decide (32 ≤ v) || ((!o.2 && decide (8 ≤ v)) || (decide (v / 4 % 2 = 1) && decide (16 ≤ v)))
def qfR (bs : List Int) (qb : LR) (qi : Int) (a : Nat) : Option (REC × Nat) :=
 match tk bs a 4095 with
 | none => none
 | some (d, a1) => match bs[a1]? with
  | none => none
  | some v => if qbM (zF qb (qi + 1 + d)) v then none else
   match qeT bs (zF qb (qi + 1 + d)) v (a1 + 1) with
   | none => none
   | some (sp, a2) => match tk bs a2 562949953421310 with
    | none => none
    | some (z, a3) => match qes bs (zF qb (qi + 1 + d)) v a3 with
     | none => none
     | some (b, a4) => some ((qi + 1 + d, (zF qb (qi + 1 + d)).1.2.1 + qeC z, v % 4, sp, v / 4 % 2 == 1, b), a4)
theorem qnz {bs : List Int} (hb : ∀ c ∈ bs, 0 ≤ c ∧ c ≤ 255) {o : REC × Bool} {v : Int} {a : Nat} {sp : Int × Int} {a2 : Nat} (ha : a ≤ bs.length) (v0 : 0 ≤ v) (ho : o.2 = false → v < 8) (h : qeT bs o v a = some (sp, a2)) :
  bs.drop a = (if v / 8 % 2 = 1 then [] else [sp.1 * 16 + sp.2]) ++ bs.drop a2 ∧ a2 ≤ bs.length ∧ (o.2 && (o.1.2.2.2.1.1 == sp.1 && o.1.2.2.2.1.2 == sp.2)) = decide (v / 8 % 2 = 1) ∧ (v / 8 % 2 = 1 ∨ okS sp.1 sp.2 = true) := by
 unfold qeT at h
 by_cases hv : v / 8 % 2 = 1
 ·rw [if_pos hv] at h
  cases h
  rw [if_pos hv]
  refine ⟨rfl, ha, ?_, Or.inl hv⟩
  have : o.2 = true := by
   cases h2 : o.2 with
   | true => rfl
   | false => have := ho h2; omega
  rw [this, decide_eq_true hv]
  simp
 ·rw [if_neg hv] at h ⊢
  cases hc : bs[a]? with
  | none => rw [hc] at h; cases h
  | some c =>
   rw [hc] at h
   dsimp only at h
   obtain ⟨e0, hlt⟩ := qeO hc
   obtain ⟨c0, c1⟩ := hb c (List.mem_of_getElem? hc)
   by_cases hk : okS (c / 16) (c % 16) = true ∧ (o.2 && (c / 16 == o.1.2.2.2.1.1 && c % 16 == o.1.2.2.2.1.2)) = false
   ·rw [if_pos hk] at h
    cases h
    refine ⟨by rw [e0, show c / 16 * 16 + c % 16 = c from by omega]; rfl, hlt, ?_, Or.inr hk.1⟩
    rw [decide_eq_false hv, ← hk.2, Bool.beq_comm (a := o.1.2.2.2.1.1), Bool.beq_comm (a := o.1.2.2.2.1.2)]
   ·rw [if_neg hk] at h; cases h
theorem qjq (l m : LF) : decide (l = m) = decide (m = l) := by
 by_cases h : l = m
 ·rw [decide_eq_true h, decide_eq_true h.symm]
 ·rw [decide_eq_false h, decide_eq_false (fun e => h e.symm)]
theorem qkZ {o : REC × Bool} {v : Int} (h : qbM o v = false) : v < 32 ∧ (o.2 = false → v < 8) ∧ (v / 4 % 2 = 1 → v < 16) := by
 unfold qbM at h
 simp only [Bool.or_eq_false_iff, Bool.and_eq_false_iff, decide_eq_false_iff_not, Bool.not_eq_false'] at h
 obtain ⟨h1, h2, h3⟩ := h
 refine ⟨by omega, fun ho => ?_, fun hc => ?_⟩
 ·rcases h2 with h2 | h2
  ·rw [ho] at h2; cases h2
  ·omega
 ·rcases h3 with h3 | h3
  ·exact absurd hc h3
  ·omega
theorem qpj {o : REC × Bool} {v : Int} (h1 : v < 32) (h2 : o.2 = false → v < 8) (h3 : v / 4 % 2 = 1 → v < 16) : qbM o v = false := by
 unfold qbM
 rw [decide_eq_false (by omega : ¬ 32 ≤ v)]
 have e1 : (!o.2 && decide (8 ≤ v)) = false := by
  cases ho : o.2 with
  | true => rfl
  | false => have := h2 ho; rw [decide_eq_false (by omega : ¬ 8 ≤ v)]; all_goals rfl
 have e2 : (decide (v / 4 % 2 = 1) && decide (16 ≤ v)) = false := by
  by_cases hc : v / 4 % 2 = 1
  ·have := h3 hc; rw [decide_eq_false (by omega : ¬ 16 ≤ v)]; simp
  ·rw [decide_eq_false hc]; all_goals rfl
 rw [e1, e2]; all_goals rfl
theorem qnU {bs : List Int} (hb : ∀ c ∈ bs, 0 ≤ c ∧ c ≤ 255) {o : REC × Bool} {v : Int} {a : Nat} {b : LF} {a2 : Nat} (ha : a ≤ bs.length) (ho : o.2 = false → v < 8) (hc : v / 4 % 2 = 1 → v < 16) (h : qes bs o v a = some (b, a2)) :
  bs.drop a = (if (v / 4 % 2 == 1 || decide (16 ≤ v)) = true then [] else qch b) ++ bs.drop a2 ∧ a2 ≤ bs.length ∧ (o.2 && (!(v / 4 % 2 == 1) && ZP o.1.2.2.2.2.2 b == 0)) = decide (16 ≤ v) := by
 unfold qes at h
 by_cases h1 : v / 4 % 2 = 1
 ·rw [if_pos h1] at h
  cases h
  have := hc h1
  have e1 : (v / 4 % 2 == 1) = true := by simpa using h1
  rw [e1, decide_eq_false (by omega : ¬ 16 ≤ v)]
  exact ⟨rfl, ha, by simp⟩
 ·rw [if_neg h1] at h
  have e1 : (v / 4 % 2 == 1) = false := by simpa using h1
  rw [e1]
  by_cases h2 : 16 ≤ v
  ·rw [if_pos h2] at h
   cases h
   rw [decide_eq_true h2, qhC]
   have : o.2 = true := by
    cases h2 : o.2 with
    | true => rfl
    | false => have := ho h2; omega
   exact ⟨rfl, ha, by rw [this]; rfl⟩
  ·rw [if_neg h2] at h
   rw [decide_eq_false h2]
   cases hg : qgw bs a with
   | none => rw [hg] at h; cases h
   | some p =>
    obtain ⟨b', a3⟩ := p
    rw [hg] at h
    dsimp only at h
    obtain ⟨e2, l2, _, _⟩ := qhE hb hg
    by_cases h3 : (o.2 && ZP b' o.1.2.2.2.2.2 == 0) = true
    ·rw [if_pos h3] at h; cases h
    ·rw [if_neg h3] at h
     cases h
     refine ⟨by rw [e2]; rfl, l2, ?_⟩
     rw [qe8] at h3
     rw [qe8, ← qjq b]
     simpa using h3
theorem qkG {bs : List Int} (hb : ∀ c ∈ bs, 0 ≤ c ∧ c ≤ 255) {qb : LR} {qi : Int} {a : Nat} {r : REC} {a2 : Nat} (h : qfR bs qb qi a = some (r, a2)) :
  bs.drop a = qdr (zF qb r.1) qi r ++ bs.drop a2 ∧ a2 ≤ bs.length ∧ qi < r.1 ∧ r.1 ≤ qi + 4096 := by
 unfold qfR at h
 cases ht : tk bs a 4095 with
 | none => rw [ht] at h; cases h
 | some p =>
  obtain ⟨d, a1⟩ := p
  rw [ht] at h
  dsimp only at h
  obtain ⟨e1, d0, d1, _, _, l1⟩ := qa3 hb ht
  cases hc : bs[a1]? with
  | none => rw [hc] at h; cases h
  | some v =>
   rw [hc] at h
   dsimp only at h
   obtain ⟨e2, l2⟩ := qeO hc
   obtain ⟨v0, v1⟩ := hb v (List.mem_of_getElem? hc)
   cases hf : qbM (zF qb (qi + 1 + d)) v with
   | true => rw [hf] at h; cases h
   | false =>
    obtain ⟨f1, f2, f3⟩ := qkZ hf
    rw [hf, if_neg (by simp)] at h
    cases hs : qeT bs (zF qb (qi + 1 + d)) v (a1 + 1) with
    | none => rw [hs] at h; cases h
    | some q =>
     obtain ⟨sp, a3⟩ := q
     rw [hs] at h
     dsimp only at h
     obtain ⟨e3, l3, s3, _⟩ := qnz hb (by omega) v0 f2 hs
     cases hz : tk bs a3 562949953421310 with
     | none => rw [hz] at h; cases h
     | some w =>
      obtain ⟨z, a4⟩ := w
      rw [hz] at h
      dsimp only at h
      obtain ⟨e4, z0, z1, _, _, l4⟩ := qa3 hb hz
      cases hg : qes bs (zF qb (qi + 1 + d)) v a4 with
      | none => rw [hg] at h; cases h
      | some u =>
       obtain ⟨b, a5⟩ := u
       rw [hg] at h
       dsimp only at h
       obtain ⟨e5, l5, s5⟩ := qnU hb l4 f2 f3 hg
       cases h
       refine ⟨?_, l5, by dsimp only; omega, by dsimp only; omega⟩
       rw [e1, e2, e3, e4, e5]
       dsimp only
       unfold qdr qeX qbX qcb
       dsimp only
       rw [s3, s5]
       generalize zF qb (qi + 1 + d) = o
       rw [show qi + 1 + d - qi - 1 = d from by omega, show o.1.2.1 + qeC z - o.1.2.1 = qeC z from by omega, qrJ z z0]
       have ev : v % 4 + (if (v / 4 % 2 == 1) = true then 4 else 0) + (if decide (v / 8 % 2 = 1) = true then 8 else 0) + (if decide (16 ≤ v) = true then 16 else 0) = v := by
        simp only [beq_iff_eq, decide_eq_true_eq]
        split <;> split <;> split <;> omega
       rw [ev]
       simp only [decide_eq_true_eq, List.append_assoc, List.cons_append]
theorem qmF {w o : Int} (h0 : 0 ≤ w) (h1 : w ≤ 281474976710655) (o0 : 0 ≤ o) (o1 : o ≤ 281474976710655) : 0 ≤ qbq (w - o) ∧ qbq (w - o) ≤ 562949953421310 := by
 unfold qbq; split <;> omega
theorem qlB {qb : LR} (QD : ∀ x ∈ qb, zA x = true) (id : Int) : 0 ≤ (zF qb id).1.2.1 ∧ (zF qb id).1.2.1 ≤ 281474976710655 := by
 rcases qjM (qb := qb) (id := id) with ⟨_, h⟩ | ⟨_, h, _⟩
 ·rw [h]; exact ⟨by simp, by simp⟩
 ·have := zH (QD _ h)
  exact ⟨this.2.2.1, this.2.2.2.1⟩
theorem qpW {bs : List Int} {qb : LR} (QD : ∀ x ∈ qb, zA x = true) {qi : Int} {a : Nat} {r : REC} {rest : List Int} (hr : zA r = true) (h1 : -1 ≤ qi) (h2 : qi < r.1) (h : bs.drop a = qdr (zF qb r.1) qi r ++ rest) :
  qfR bs qb qi a = some (r, a + (qdr (zF qb r.1) qi r).length) ∧ bs.drop (a + (qdr (zF qb r.1) qi r).length) = rest := by
 refine ⟨?_, by rw [← List.drop_drop, h, List.drop_left]⟩
 obtain ⟨f1, f2, f3, f4, f5, f6, f7, f8, f9⟩ := zH hr
 have hbl := Ze f8
 have hbt := qbE f8
 obtain ⟨o0, o1⟩ := qlB QD r.1
 obtain ⟨z0, z1⟩ := qmF f3 f4 o0 o1
 have hsp := (qaq _ _).1 f7
 have hS : qbX (zF qb r.1) r = true → (zF qb r.1).2 = true ∧ (zF qb r.1).1.2.2.2.1 = r.2.2.2.1 := by
  intro hs
  unfold qbX at hs
  simp only [Bool.and_eq_true, beq_iff_eq] at hs
  exact ⟨hs.1, Prod.ext hs.2.1 hs.2.2⟩
 have hB : qcb (zF qb r.1) r = true → (zF qb r.1).2 = true ∧ r.2.2.2.2.1 = false ∧ (zF qb r.1).1.2.2.2.2.2 = r.2.2.2.2.2 := by
  intro hs
  unfold qcb at hs
  rw [qe8] at hs
  simp only [Bool.and_eq_true, Bool.not_eq_true', decide_eq_true_eq] at hs
  exact ⟨hs.1, hs.2.1, hs.2.2⟩
 have hS' : qbX (zF qb r.1) r = false → ((zF qb r.1).2 && (r.2.2.2.1.1 == (zF qb r.1).1.2.2.2.1.1 && r.2.2.2.1.2 == (zF qb r.1).1.2.2.2.1.2)) = false := by
  intro hs
  unfold qbX at hs
  rw [← hs, Bool.beq_comm (a := r.2.2.2.1.1), Bool.beq_comm (a := r.2.2.2.1.2)]
 have hB' : qcb (zF qb r.1) r = false → r.2.2.2.2.1 = false → ((zF qb r.1).2 && ZP r.2.2.2.2.2 (zF qb r.1).1.2.2.2.2.2 == 0) = false := by
  intro hs hc
  unfold qcb at hs
  rw [qe8, hc] at hs
  rw [qe8, ← hs, qjq]
  all_goals rfl
 unfold qdr at h ⊢
 generalize hss : qbX (zF qb r.1) r = ss at h hS hS' ⊢
 generalize hsb : qcb (zF qb r.1) r = sb at h hB hB' ⊢
 obtain ⟨t1, t2⟩ := qiN (zm := 4095) (r := qeX (zF qb r.1) r :: ((if ss = true then [] else [r.2.2.2.1.1 * 16 + r.2.2.2.1.2]) ++ (vi (qbq (r.2.1 - (zF qb r.1).1.2.1)) ++ ((if (r.2.2.2.2.1 || sb) = true then [] else qch r.2.2.2.2.2) ++ rest)))) (by rw [h]; simp) (by omega : 0 ≤ r.1 - qi - 1) (by omega) (by omega)
 obtain ⟨g1, g2⟩ := qkW t2
 have hv : qeX (zF qb r.1) r = r.2.2.1 + (if r.2.2.2.2.1 = true then 4 else 0) + (if ss = true then 8 else 0) + (if sb = true then 16 else 0) := by unfold qeX; rw [hss, hsb]
 generalize qeX (zF qb r.1) r = v at hv g1 g2 h t1 t2 ⊢
 obtain ⟨id, inc, st, ⟨lo, hi⟩, cut, bag⟩ := r
 dsimp only at *
 have hid : qi + 1 + (id - qi - 1) = id := by omega
 generalize ho : zF qb id = o at *
 have q4 : v / 4 % 2 = 1 ↔ cut = true := by
  cases cut <;> cases ss <;> cases sb <;> simp at hv ⊢ <;> omega
 have q8 : v / 8 % 2 = 1 ↔ ss = true := by
  cases cut <;> cases ss <;> cases sb <;> simp at hv ⊢ <;> omega
 have q16 : 16 ≤ v ↔ sb = true := by
  cases cut <;> cases ss <;> cases sb <;> simp at hv ⊢ <;> omega
 have q3 : v % 4 = st := by
  cases cut <;> cases ss <;> cases sb <;> simp at hv <;> omega
 have hf : qbM o v = false := by
  refine qpj (by cases cut <;> cases ss <;> cases sb <;> simp at hv <;> omega) (fun hno => ?_) (fun hcb => ?_)
  ·have a1 : ss = false := by
    cases ss with
    | false => rfl
    | true => have := (hS rfl).1; rw [hno] at this; cases this
   have a2 : sb = false := by
    cases sb with
    | false => rfl
    | true => have := (hB rfl).1; rw [hno] at this; cases this
   subst a1 a2
   cases cut <;> simp at hv <;> omega
  ·have a1 := q4.1 hcb
   have a2 : sb = false := by
    cases sb with
    | false => rfl
    | true => have := (hB rfl).2.1; rw [a1] at this; cases this
   subst a1 a2
   cases ss <;> simp at hv <;> omega
 unfold qfR
 rw [t1]
 dsimp only
 rw [hid, ho, g1]
 dsimp only
 rw [hf, if_neg (by simp)]
 have hspan : qeT bs o v (a + (vi (id - qi - 1)).length + 1) = some ((lo, hi), a + (vi (id - qi - 1)).length + 1 + (if ss = true then [] else [lo * 16 + hi] : List Int).length) ∧ bs.drop (a + (vi (id - qi - 1)).length + 1 + (if ss = true then [] else [lo * 16 + hi] : List Int).length) = vi (qbq (inc - o.1.2.1)) ++ ((if (cut || sb) = true then [] else qch bag) ++ rest) := by
  unfold qeT
  cases ss with
  | true =>
   rw [if_pos (q8.2 rfl), (hS rfl).2]
   exact ⟨rfl, by simpa using g2⟩
  | false =>
   rw [if_neg (fun h => by have := q8.1 h; cases this)]
   obtain ⟨k1, k2⟩ := qkW (show bs.drop (a + (vi (id - qi - 1)).length + 1) = (lo * 16 + hi) :: (vi (qbq (inc - o.1.2.1)) ++ ((if (cut || sb) = true then [] else qch bag) ++ rest)) from by simpa using g2)
   rw [k1]
   dsimp only
   rw [show (lo * 16 + hi) / 16 = lo from by omega, show (lo * 16 + hi) % 16 = hi from by omega, if_pos ⟨f7, hS' rfl⟩]
   exact ⟨rfl, by simpa using k2⟩
 rw [hspan.1]
 dsimp only
 obtain ⟨u1, u2⟩ := qiN (zm := 562949953421310) hspan.2 z0 (by omega) z1
 rw [u1]
 dsimp only
 have hbag : qes bs o v (a + (vi (id - qi - 1)).length + 1 + (if ss = true then [] else [lo * 16 + hi] : List Int).length + (vi (qbq (inc - o.1.2.1))).length) = some (bag, a + (vi (id - qi - 1)).length + 1 + (if ss = true then [] else [lo * 16 + hi] : List Int).length + (vi (qbq (inc - o.1.2.1))).length + (if (cut || sb) = true then [] else qch bag).length) := by
  unfold qes
  cases cut with
  | true =>
   rw [if_pos (q4.2 rfl), f9 rfl]
   all_goals rfl
  | false =>
   rw [if_neg (fun h => by have := q4.1 h; cases this)]
   cases sb with
   | true => rw [if_pos (q16.2 rfl), (hB rfl).2.2]; all_goals rfl
   | false =>
    rw [if_neg (fun h => by have := q16.1 h; cases this)]
    have hg := qqs (l := bag) (r := rest) (by simpa using u2) hbl.1 (fun x hx => (hbt x hx).2.2)
    rw [hg.1]
    dsimp only
    rw [hB' rfl rfl, if_neg (by simp)]
    all_goals rfl
 rw [hbag]
 dsimp only
 rw [qrK, q3, show o.1.2.1 + (inc - o.1.2.1) = inc from by omega]
 have hcut : (v / 4 % 2 == 1) = cut := by
  cases cut with
  | true => simpa using q4.2 rfl
  | false => simp; intro h; have := q4.1 h; cases this
 rw [hcut]
 refine congrArg (fun n => some ((id, inc, st, (lo, hi), cut, bag), n)) ?_
 simp only [List.length_append, List.length_cons]
 omega
def qdi (bs : List Int) (qb : LR) : Nat → Int → Nat → Option (LR × Nat)
 | 0, _, a => some ([], a)
 | k + 1, qi, a => match qfR bs qb qi a with
  | none => none
  | some (r, a2) => match qdi bs qb k r.1 a2 with
   | none => none
   | some (l, a3) => some (r :: l, a3)
theorem qnJ {bs : List Int} (hb : ∀ c ∈ bs, 0 ≤ c ∧ c ≤ 255) {qb : LR} : ∀ (k : Nat) (qi : Int) (a : Nat) (l : LR) (a2 : Nat), a ≤ bs.length → qdi bs qb k qi a = some (l, a2) → bs.drop a = ZW qb qi l ++ bs.drop a2 ∧ a2 ≤ bs.length ∧ l.length = k := by
 intro k
 induction k with
 | zero =>
  intro qi a l a2 ha h
  rw [qdi] at h
  cases h
  exact ⟨rfl, ha, rfl⟩
 | succ k ih =>
  intro qi a l a2 ha h
  rw [qdi] at h
  cases h1 : qfR bs qb qi a with
  | none => rw [h1] at h; cases h
  | some p =>
   obtain ⟨x, a3⟩ := p
   rw [h1] at h
   dsimp only at h
   obtain ⟨e1, l1, _⟩ := qkG hb h1
   cases h2 : qdi bs qb k x.1 a3 with
   | none => rw [h2] at h; cases h
   | some q =>
    obtain ⟨m, a4⟩ := q
    rw [h2] at h
    dsimp only at h
    obtain ⟨e2, l2, n2⟩ := ih x.1 a3 m a4 l1 h2
    cases h
    exact ⟨by rw [e1, e2, ZW, List.append_assoc], l2, by simp [n2]⟩
theorem qkC {bs : List Int} {qb : LR} (QD : ∀ x ∈ qb, zA x = true) : ∀ (l : LR) (qi : Int) (a : Nat) (rest : List Int), (∀ r ∈ l, zA r = true) → -1 ≤ qi → qga qi l → bs.drop a = ZW qb qi l ++ rest →
  qdi bs qb l.length qi a = some (l, a + (ZW qb qi l).length) ∧ bs.drop (a + (ZW qb qi l).length) = rest
 | [], qi, a, rest, _, _, _, h => ⟨rfl, h⟩
 | r :: l, qi, a, rest, hr, h1, h2, h => by
  obtain ⟨h3, h4⟩ := h2
  have hm := hr r (List.mem_cons_self ..)
  have hid := (zH hm).1
  obtain ⟨k1, k2⟩ := qpW QD (rest := ZW qb r.1 l ++ rest) hm h1 h3 (by rw [h, ZW, List.append_assoc])
  obtain ⟨k3, k4⟩ := qkC QD l r.1 _ rest (fun x hx => hr x (List.mem_cons_of_mem _ hx)) (by omega) h4 k2
  have e : a + (ZW qb qi (r :: l)).length = a + (qdr (zF qb r.1) qi r).length + (ZW qb r.1 l).length := by rw [ZW, List.length_append]; omega
  rw [e]
  refine ⟨?_, k4⟩
  rw [List.length_cons, qdi, k1]
  dsimp only
  rw [k3]
theorem qj7 {qk qx inc lo hi seq qo qP qD qb : Int} {qc : LR} (h : q0 qk qx inc lo hi seq qo qP qD qb qc = true) : q0 qk qx inc lo hi seq qo qP qD qb [] = true := by
 unfold q0 at h ⊢
 generalize ((ofF qk).1.toList == (⟨#[]⟩ : ByteArray).toList || (decide (qx < 0) || (decide (qx > 4095) || (decide (inc < 0) || (decide (inc > 281474976710655) || !okS lo hi))))) = c1 at h ⊢
 generalize (!zY (qy qk 0) seq 0 65535 || (!zY (qy qk 1) qo (if qk == 3 then 1 else 0) (if qk == 3 then 3 else 4095) || !qar qk qP qD qb)) = c2 at h ⊢
 cases c1
 ·cases c2
  ·generalize qy qk 4 = c4 at h ⊢
   cases c4 <;> rfl
  ·exact absurd h (by simp)
 ·exact absurd h (by simp)
theorem qcv {bs : List Int} (hb : ∀ c ∈ bs, 0 ≤ c ∧ c ≤ 255) {c : Bool} {st : Option Nat} {zm : Int} {a' : Nat} (h : (zr bs c st zm).2 = some a') :
  ∃ a0, st = some a0 ∧ bs.drop a0 = (if c = true then vi (zr bs c st zm).1 else []) ++ bs.drop a' ∧ (a0 ≤ bs.length → a' ≤ bs.length) := by
 cases c with
 | false => exact ⟨a', h, rfl, id⟩
 | true =>
  cases st with
  | none => exact absurd h (by unfold zr; simp)
  | some a0 =>
   unfold zr at h ⊢
   simp only [if_true] at h ⊢
   cases ht : tk bs a0 zm with
   | none => rw [ht] at h; cases h
   | some p =>
    obtain ⟨w, a2⟩ := p
    rw [ht] at h
    cases h
    obtain ⟨e, _, _, _, _, l⟩ := qa3 hb ht
    exact ⟨a0, rfl, e, fun _ => l⟩
theorem qc2 {bs : List Int} {a : Nat} {c : Bool} {v zm : Int} {r : List Int} (h : bs.drop a = (if c = true then vi v else []) ++ r) (ha : a ≤ bs.length) (h0 : 0 ≤ v) (h1 : v < 18446744073709551616) (hm : v ≤ zm) (hz : c = false → v = 0) :
  ∃ a', zr bs c (some a) zm = (v, some a') ∧ bs.drop a' = r ∧ a' ≤ bs.length := by
 cases c with
 | false =>
  have := hz rfl
  subst this
  exact ⟨a, rfl, by simpa using h, ha⟩
 | true =>
  rw [if_pos rfl] at h
  obtain ⟨k1, k2⟩ := qiN (zm := zm) h h0 h1 hm
  have hl := congrArg List.length h
  simp only [List.length_drop, List.length_append] at hl
  refine ⟨a + (vi v).length, ?_, k2, by omega⟩
  unfold zr
  rw [if_pos rfl]
  dsimp only
  rw [k1]
theorem qpF {bs : List Int} (hb : ∀ c ∈ bs, 0 ≤ c ∧ c ≤ 255) {st : Option Nat} {a' : Nat} (h : (spS bs st).2.2 = some a') :
  ∃ a0, st = some a0 ∧ bs.drop a0 = ((spS bs st).1 * 16 + (spS bs st).2.1) :: bs.drop a' ∧ a' ≤ bs.length := by
 cases st with
 | none => cases h
 | some a0 =>
  unfold spS at h ⊢
  dsimp only at h ⊢
  cases hc : bs[a0]? with
  | none => rw [hc] at h; cases h
  | some c =>
   rw [hc] at h
   dsimp only at h ⊢
   obtain ⟨c0, c1⟩ := hb c (List.mem_of_getElem? hc)
   obtain ⟨e, hlt⟩ := qeO hc
   by_cases ho : okS (c / 16) (c % 16) = true
   ·rw [if_pos ho] at h ⊢
    cases h
    exact ⟨a0, rfl, by rw [e]; congr 1; dsimp only; omega, hlt⟩
   ·rw [if_neg ho] at h; cases h
theorem qqN {bs : List Int} {a : Nat} {lo hi : Int} {r : List Int} (h : bs.drop a = (lo * 16 + hi) :: r) (ha : a ≤ bs.length) (ho : okS lo hi = true) : spS bs (some a) = (lo, hi, some (a + 1)) ∧ bs.drop (a + 1) = r ∧ a + 1 ≤ bs.length := by
 obtain ⟨g1, g2⟩ := qkW h
 have hs := (qaq _ _).1 ho
 refine ⟨?_, g2, (qeO g1).2⟩
 unfold spS
 dsimp only
 rw [g1]
 dsimp only
 rw [show (lo * 16 + hi) / 16 = lo from by omega, show (lo * 16 + hi) % 16 = hi from by omega, if_pos ho]
def hd3 (k f i lo hi s t l e b : Int) (r : List Int) : List Int :=
 k :: (vi f ++ (vi i ++ ((lo * 16 + hi) :: ((if qy k 0 = true then vi s else []) ++ ((if qy k 1 = true then vi t else []) ++ ((if qy k 2 = true then vi l else []) ++ ((if qy k 2 = true then vi e else []) ++ ((if qy k 3 = true then vi b else []) ++ r))))))))
theorem qhu (k f i lo hi s t l e b : Int) (qc qb : LR) : qb9 k f i lo hi s t l e b qc qb = hd3 k f i lo hi s t l e b ((if qy k 4 = true then vi (qc.length : Int) else []) ++ ZW (qbj b qb) (-1) qc) := by
 unfold qb9 qpe hd3
 cases qy k 2 <;> simp
theorem qqd {bs : List Int} (hb : ∀ c ∈ bs, 0 ≤ c ∧ c ≤ 255) {k f i lo hi s t l e b : Int} {a : Nat} (h : hdS bs = some (k, f, i, lo, hi, s, t, l, e, b, a)) :
  bs = hd3 k f i lo hi s t l e b (bs.drop a) ∧ a ≤ bs.length ∧ q0 k f i lo hi s t l e b [] = true := by
 unfold hdS at h
 dsimp only at h
 generalize hF : zr bs true (qam bs) 4095 = F at h
 generalize hI : zr bs true F.2 281474976710655 = I at h
 generalize hP : spS bs I.2 = P at h
 generalize hS : zr bs (qy (hdK bs) 0) P.2.2 65535 = S at h
 generalize hT : zr bs (qy (hdK bs) 1) S.2 4095 = T at h
 generalize hL : zr bs (qy (hdK bs) 2) T.2 281474976710655 = L at h
 generalize hE : zr bs (qy (hdK bs) 2) L.2 65535 = E at h
 generalize hB : zr bs (qy (hdK bs) 3) E.2 65535 = B at h
 cases hB2 : B.2 with
 | none => rw [hB2] at h; cases h
 | some a' =>
  rw [hB2] at h
  dsimp only at h
  by_cases hv : q0 (hdK bs) F.1 I.1 P.1 P.2.1 S.1 T.1 L.1 E.1 B.1 [] = true
  ·rw [if_pos hv] at h
   cases h
   obtain ⟨a8, q8, e8, l8⟩ := qcv hb (h := by rw [hB]; exact hB2)
   obtain ⟨a7, q7, e7, l7⟩ := qcv hb (h := by rw [hE]; exact q8)
   obtain ⟨a6, q6, e6, l6⟩ := qcv hb (h := by rw [hL]; exact q7)
   obtain ⟨a5, q5, e5, l5⟩ := qcv hb (h := by rw [hT]; exact q6)
   obtain ⟨a4, q4, e4, l4⟩ := qcv hb (h := by rw [hS]; exact q5)
   obtain ⟨a3, q3, e3, l3⟩ := qpF hb (h := by rw [hP]; exact q4)
   obtain ⟨a2, q2, e2, l2⟩ := qcv hb (h := by rw [hI]; exact q3)
   obtain ⟨a1, q1, e1, l1⟩ := qcv hb (h := by rw [hF]; exact q2)
   rw [hF] at e1
   rw [hI] at e2
   rw [hP] at e3
   rw [hS] at e4
   rw [hT] at e5
   rw [hL] at e6
   rw [hE] at e7
   rw [hB] at e8
   have h1 : 0 < bs.length ∧ a1 = 1 := by
    unfold qam at q1
    by_cases h0 : 0 < bs.length
    ·rw [if_pos h0] at q1; cases q1; exact ⟨h0, rfl⟩
    ·rw [if_neg h0] at q1; cases q1
   obtain ⟨h0, rfl⟩ := h1
   have hk : bs = hdK bs :: bs.drop 1 := by
    cases bs with
    | nil => simp at h0
    | cons x m => rfl
   refine ⟨?_, l8 (l7 (l6 (l5 (l4 l3)))), hv⟩
   unfold hd3
   rw [← e8, ← e7, ← e6, ← e5, ← e4, ← e3]
   rw [if_pos rfl] at e1 e2
   rw [← e2, ← e1]
   exact hk
  ·rw [if_neg hv] at h; cases h
theorem qrc {bs : List Int} {k f i lo hi s t l e b : Int} {r : List Int} (h : bs = hd3 k f i lo hi s t l e b r) (hv : q0 k f i lo hi s t l e b [] = true) :
  ∃ a, hdS bs = some (k, f, i, lo, hi, s, t, l, e, b, a) ∧ bs.drop a = r ∧ a ≤ bs.length := by
 obtain ⟨v1, v2, v3, v4, v5, v6, v7, v8, v9, v10, v11, v12, v13, v14⟩ := Ql hv
 obtain ⟨w1, w2, w3, w4, w5, w6, w7, w8, _⟩ := qdz v12
 obtain ⟨z1, z2⟩ := qj6 hv
 unfold hd3 at h
 have hlen : 0 < bs.length := by rw [h]; simp
 have hk : hdK bs = k := by rw [h]; all_goals rfl
 have hst : qam bs = some 1 := by unfold qam; rw [if_pos hlen]
 have d1 : bs.drop 1 = (if true = true then vi f else []) ++ (vi i ++ ((lo * 16 + hi) :: ((if qy k 0 = true then vi s else []) ++ ((if qy k 1 = true then vi t else []) ++ ((if qy k 2 = true then vi l else []) ++ ((if qy k 2 = true then vi e else []) ++ ((if qy k 3 = true then vi b else []) ++ r))))))) := by rw [h]; all_goals rfl
 obtain ⟨a1, e1, d1, l1⟩ := qc2 (zm := 4095) d1 hlen v3 (by omega) v4 (by simp)
 obtain ⟨a2, e2, d2, l2⟩ := qc2 (c := true) (zm := 281474976710655) d1 l1 v5 (by omega) v6 (by simp)
 obtain ⟨e3, d3, l3⟩ := qqN d2 l2 v7
 obtain ⟨a4, e4, d4, l4⟩ := qc2 (zm := 65535) d3 l3 v8 (by omega) v9 z1
 obtain ⟨a5, e5, d5, l5⟩ := qc2 (zm := 4095) d4 l4 v10 (by omega) v11 z2
 obtain ⟨a6, e6, d6, l6⟩ := qc2 (zm := 281474976710655) d5 l5 w1 (by omega) w2 (fun hh => (w7 hh).1)
 obtain ⟨a7, e7, d7, l7⟩ := qc2 (zm := 65535) d6 l6 w3 (by omega) w4 (fun hh => (w7 hh).2)
 obtain ⟨a8, e8, d8, l8⟩ := qc2 (zm := 65535) d7 l7 w5 (by omega) w6 w8
 refine ⟨a8, ?_, d8, l8⟩
 unfold hdS
 dsimp only
 rw [hk, hst, e1]
 dsimp only
 rw [e2]
 dsimp only
 rw [e3]
 dsimp only
 rw [e4]
 dsimp only
 rw [e5]
 dsimp only
 rw [e6]
 dsimp only
 rw [e7]
 dsimp only
 rw [e8]
 dsimp only
 rw [if_pos hv]
abbrev qsk := Int × Int × Int × Int × Int × Int × Int × Int × Int × Int × LR
def qgb (bs : List Int) (qb : LR) (k : Int) (a : Nat) : Option (LR × Nat) :=
 if qy k 4 = true then (match tk bs a 255 with
  | none => none
  | some (n, a1) => qdi bs qb n.toNat (-1) a1) else some ([], a)
def qiD (bs : List Int) (qb : LR) : Option qsk :=
 match hdS bs with
 | none => none
 | some (k, f, i, lo, hi, s, t, l, e, b, a) =>
  match qgb bs (qbj b qb) k a with
  | none => none
  | some (rs, a2) => if a2 = bs.length ∧ bs.length ≤ 65499 ∧ q0 k f i lo hi s t l e b rs = true then some (k, f, i, lo, hi, s, t, l, e, b, rs) else none
theorem qnI {bs : List Int} (hb : ∀ c ∈ bs, 0 ≤ c ∧ c ≤ 255) {qb : LR} {k : Int} {a : Nat} {rs : LR} {a2 : Nat} (ha : a ≤ bs.length) (h : qgb bs qb k a = some (rs, a2)) :
  bs.drop a = (if qy k 4 = true then vi (rs.length : Int) else []) ++ ZW qb (-1) rs ++ bs.drop a2 ∧ a2 ≤ bs.length := by
 unfold qgb at h
 cases h4 : qy k 4 with
 | false =>
  rw [h4, if_neg (by simp)] at h
  cases h
  exact ⟨rfl, ha⟩
 | true =>
  rw [h4, if_pos rfl] at h
  rw [if_pos rfl]
  cases ht : tk bs a 255 with
  | none => rw [ht] at h; cases h
  | some p =>
   obtain ⟨n, a1⟩ := p
   rw [ht] at h
   dsimp only at h
   obtain ⟨e1, n0, n1, _, _, l1⟩ := qa3 hb ht
   obtain ⟨e2, l2, n2⟩ := qnJ hb _ _ _ _ _ l1 h
   refine ⟨?_, l2⟩
   rw [e1, e2, n2, show ((n.toNat : Nat) : Int) = n from by omega, List.append_assoc]
theorem qpn {bs : List Int} (hb : ∀ c ∈ bs, 0 ≤ c ∧ c ≤ 255) {qb : LR} {k f i lo hi s t l e b : Int} {rs : LR} (h : qiD bs qb = some (k, f, i, lo, hi, s, t, l, e, b, rs)) :
  qb9 k f i lo hi s t l e b rs qb = bs ∧ q0 k f i lo hi s t l e b rs = true ∧ bs.length ≤ 65499 ∧ ∃ a, hdS bs = some (k, f, i, lo, hi, s, t, l, e, b, a) := by
 unfold qiD at h
 cases hh : hdS bs with
 | none => rw [hh] at h; cases h
 | some p =>
  obtain ⟨k', f', i', lo', hi', s', t', l', e', b', a⟩ := p
  rw [hh] at h
  dsimp only at h
  obtain ⟨e1, l1, _⟩ := qqd hb hh
  cases hr : qgb bs (qbj b' qb) k' a with
  | none => rw [hr] at h; cases h
  | some q =>
   obtain ⟨rs', a2⟩ := q
   rw [hr] at h
   dsimp only at h
   obtain ⟨e2, l2⟩ := qnI hb l1 hr
   by_cases hc : a2 = bs.length ∧ bs.length ≤ 65499 ∧ q0 k' f' i' lo' hi' s' t' l' e' b' rs' = true
   ·rw [if_pos hc] at h
    obtain ⟨c1, c2, c3⟩ := hc
    cases h
    refine ⟨?_, c3, c2, a, rfl⟩
    rw [qhu]
    have e3 : bs.drop a = (if qy k 4 = true then vi (rs.length : Int) else []) ++ ZW (qbj b qb) (-1) rs := by
     rw [e2, c1, List.drop_length, List.append_nil]
    rw [← e3]
    exact e1.symm
   ·rw [if_neg hc] at h; cases h
theorem qiF {qb : LR} (h : ∀ x ∈ qb, zA x = true) (b : Int) : ∀ x ∈ qbj b qb, zA x = true := by
 unfold qbj
 split
 ·simp
 ·exact h
theorem qqo {qb : LR} (QD : ∀ x ∈ qb, zA x = true) {k f i lo hi s t l e b : Int} {rs : LR} (hv : q0 k f i lo hi s t l e b rs = true) (hlen : (qb9 k f i lo hi s t l e b rs qb).length ≤ 65499) :
  qiD (qb9 k f i lo hi s t l e b rs qb) qb = some (k, f, i, lo, hi, s, t, l, e, b, rs) := by
 obtain ⟨v1, v2, v3, v4, v5, v6, v7, v8, v9, v10, v11, v12, v13, v14⟩ := Ql hv
 obtain ⟨u1, u2⟩ := qg3 hv
 generalize hbs : qb9 k f i lo hi s t l e b rs qb = bs at hlen ⊢
 rw [qhu] at hbs
 obtain ⟨a, e1, d1, l1⟩ := qrc hbs.symm (qj7 hv)
 have hr : qgb bs (qbj b qb) k a = some (rs, bs.length) := by
  unfold qgb
  cases h4 : qy k 4 with
  | false =>
   rw [h4] at d1
   have := u1 h4
   subst this
   have hl := congrArg List.length d1
   simp [ZW] at hl
   rw [if_neg (by simp), show a = bs.length from by omega]
  | true =>
   rw [h4, if_pos rfl] at d1
   rw [if_pos rfl]
   obtain ⟨k1, k2⟩ := qiN (zm := 255) d1 (by omega) (by omega) (by omega)
   rw [k1]
   dsimp only
   obtain ⟨k3, k4⟩ := qkC (qiF QD b) rs (-1) _ [] v14 (by omega) u2 (by rw [k2, List.append_nil])
   rw [Int.toNat_natCast, k3]
   have hl := congrArg List.length d1
   simp only [List.length_drop, List.length_append] at hl
   rw [show a + (vi (rs.length : Int)).length + (ZW (qbj b qb) (-1) rs).length = bs.length from by omega]
 unfold qiD
 rw [e1]
 dsimp only
 rw [hr]
 dsimp only
 rw [if_pos ⟨rfl, hlen, hv⟩]
def enc : Option Nat → Int
 | some a => (a : Int)
 | none => -1
def qkO : Env := ⟨th, gam [], fun i => ⟨[], [], []⟩⟩
def qbC.k (rs : List AV) (os : List Den.Obj) : Option (Int × Int × Int × Int × Int × Int × Int × Int × Int × Int × LR) :=
 match rs, os with
 | [.agg [.d (.int .i64) r0, .d (.int .i64) r1, .d (.int .i64) r2, .d (.int .i64) r3, .d (.int .i64) r4, .d (.int .i64) r5, .d (.int .i64) r6, .d (.int .i64) r7, .d (.int .i64) r8, .d (.int .i64) r9, .d (.sl (.pair (.int .i64) (.pair (.int .i64) (.pair (.int .i64) (.pair (.pair (.int .i64) (.int .i64)) (.pair .bool (.sl (.pair (.int .i64) (.sl (.int .u8)))))))))) r10]], [] => some (r0, r1, r2, r3, r4, r5, r6, r7, r8, r9, r10)
 | _, _ => none
def qbC.b (qj qs qH qe qf qG qg qr ql qq : Int) (qh : LR) : Option (Int × Int × Int × Int × Int × Int × Int × Int × Int × Int × LR) :=
 some (qj, qs, qH, qe, qf, qG, qg, qr, ql, qq, ([] : LR))
def qbC.f (qa : Nat) (qj qs qH qe qf qG qg qr ql qq : Int) (qh : LR) : Option (Int × Int × Int × Int × Int × Int × Int × Int × Int × Int × LR) := qbC.b qj qs qH qe qf qG qg qr ql qq qh
theorem qbC.eq (qa : Nat) (qj qs qH qe qf qG qg qr ql qq : Int) (qh : LR) : (denF qkO loopN qa Tryz.f16 [.dat (.pair tQi (.pair tQi (.pair tQi (.pair (.pair tQi tQi) (.pair tQi (.pair tQi (.pair tQi (.pair tQi (.pair tQi (.sl tQr)))))))))) true] [.agg [.d tQi qj, .d tQi qs, .d tQi qH, .d tQi qe, .d tQi qf, .d tQi qG, .d tQi qg, .d tQi qr, .d tQi ql, .d tQi qq, .d (.sl tQr) qh]] [] qbC.k) = qbC.f qa qj qs qH qe qf qG qg qr ql qq qh := by
 kernel_rfl
def qcp : Den.Sum := ⟨[.dat (.pair tQi (.pair tQi (.pair tQi (.pair (.pair tQi tQi) (.pair tQi (.pair tQi (.pair tQi (.pair tQi (.pair tQi (.sl tQr)))))))))) true], fun qK qn κ => match qK, qn with
 | [.agg [.d (.int .i64) qj, .d (.int .i64) qs, .d (.int .i64) qH, .d (.int .i64) qe, .d (.int .i64) qf, .d (.int .i64) qG, .d (.int .i64) qg, .d (.int .i64) qr, .d (.int .i64) ql, .d (.int .i64) qq, .d (.sl (.pair (.int .i64) (.pair (.int .i64) (.pair (.int .i64) (.pair (.pair (.int .i64) (.int .i64)) (.pair .bool (.sl (.pair (.int .i64) (.sl (.int .u8)))))))))) qh]], [] => (match veil (qbC.f BIG qj qs qH qe qf qG qg qr ql qq qh) with | none => none | some y => κ [.agg [.d (.int .i64) y.1, .d (.int .i64) y.2.1, .d (.int .i64) y.2.2.1, .d (.int .i64) y.2.2.2.1, .d (.int .i64) y.2.2.2.2.1, .d (.int .i64) y.2.2.2.2.2.1, .d (.int .i64) y.2.2.2.2.2.2.1, .d (.int .i64) y.2.2.2.2.2.2.2.1, .d (.int .i64) y.2.2.2.2.2.2.2.2.1, .d (.int .i64) y.2.2.2.2.2.2.2.2.2.1, .d (.sl (.pair (.int .i64) (.pair (.int .i64) (.pair (.int .i64) (.pair (.pair (.int .i64) (.int .i64)) (.pair .bool (.sl (.pair (.int .i64) (.sl (.int .u8)))))))))) y.2.2.2.2.2.2.2.2.2.2]] [])
 | _, _ => none⟩
theorem qlq : SumDet qcp := zj fun _ _ _ _ => by
 unfold qcp
 simp only [veil_eq]
 split
 ·split <;> rfl
 ·rfl
theorem qmr : SumOk Tryz.prog 16 qcp := by
 have hE : EnvOk Tryz.prog qkO := env_ok (l := []) th_ok qZ trivial _
 refine sum_ok hE Tryz.func16 rfl (by kernel_rfl) qcp [.dat (.pair tQi (.pair tQi (.pair tQi (.pair (.pair tQi tQi) (.pair tQi (.pair tQi (.pair tQi (.pair tQi (.pair tQi (.sl tQr)))))))))) true] qbC.k ?_
 intro R avs qn κ r h
 unfold qcp at h
 simp only [veil_eq] at h
 split at h
 ·rename_i qj qs qH qe qf qG qg qr ql qq qh
  split at h
  ·cases h
  ·rename_i y hy
   refine ⟨BIG, _, _, _, (qbC.eq BIG qj qs qH qe qf qG qg qr ql qq qh).trans hy, ?_, h⟩
   intro rs ros hk
   unfold qbC.k at hk
   split at hk
   ·rw [← sj hk]; exact ⟨rfl, rfl⟩
   ·cases hk
 ·cases h
def qh4 : Env := ⟨th, gam [], fun i => ⟨[], [], []⟩⟩
def Q7.k (rs : List AV) (os : List Den.Obj) : Option Int :=
 match rs, os with
 | [.d (.int .i64) r0], [] => some r0
 | _, _ => none
def Q7.b (v : Int) : Option Int :=
 some ((bits BinOp.xor .i64 (IntKind.wrap .i64 (Int.fdiv v ((2 : Int) ^ (Min.min (Int.toNat (1 : Int)) (IntKind.bits .u64))))) (IntKind.wrap .i64 ((0 : Int) - (IntKind.wrap .i64 (bits BinOp.and .u64 v (1 : Int)))))))
def Q7.f (qa : Nat) (v : Int) : Option Int := Q7.b v
theorem Q7.eq (qa : Nat) (v : Int) : (denF qh4 loopN qa Tryz.f123 [.raw] [.d (.int .u64) v] [] Q7.k) = Q7.f qa v := by
 kernel_rfl
def qbu : Den.Sum := ⟨[.raw], fun qK qn κ => match qK, qn with
 | [.d (.int .u64) v], [] => (match veil (Q7.f BIG v) with | none => none | some y => κ [.d (.int .i64) y] [])
 | _, _ => none⟩
theorem qjy : SumDet qbu := zj fun _ _ _ _ => by
 unfold qbu
 simp only [veil_eq]
 split
 ·split <;> rfl
 ·rfl
theorem qkf : SumOk Tryz.prog 123 qbu := by
 have hE : EnvOk Tryz.prog qh4 := env_ok (l := []) th_ok qZ trivial _
 refine sum_ok hE Tryz.func123 rfl (by kernel_rfl) qbu [.raw] Q7.k ?_
 intro R avs qn κ r h
 unfold qbu at h
 simp only [veil_eq] at h
 split at h
 ·rename_i v
  split at h
  ·cases h
  ·rename_i y hy
   refine ⟨BIG, _, _, _, (Q7.eq BIG v).trans hy, ?_, h⟩
   intro rs ros hk
   unfold Q7.k at hk
   split at hk
   ·rw [← sj hk]; exact ⟨rfl, rfl⟩
   ·cases hk
 ·cases h
def qjo : Env := ⟨th, gam [(51, qaS), (74, ZR)], fun i => ⟨[], [], []⟩⟩
def ZS.k (rs : List AV) (os : List Den.Obj) : Option (Int × Int × Int × Int × Int × Int × Int × Int × Int × Int × LR × Int) :=
 match rs, os with
 | [.agg [.d (.int .i64) r0, .d (.int .i64) r1, .d (.int .i64) r2, .d (.int .i64) r3, .d (.int .i64) r4, .d (.int .i64) r5, .d (.int .i64) r6, .d (.int .i64) r7, .d (.int .i64) r8, .d (.int .i64) r9, .d (.sl (.pair (.int .i64) (.pair (.int .i64) (.pair (.int .i64) (.pair (.pair (.int .i64) (.int .i64)) (.pair .bool (.sl (.pair (.int .i64) (.sl (.int .u8)))))))))) r10], .d (.int .i64) r11], [] => some (r0, r1, r2, r3, r4, r5, r6, r7, r8, r9, r10, r11)
 | _, _ => none
def ZS.b (b : List Int) : Option (Int × Int × Int × Int × Int × Int × Int × Int × Int × Int × LR × Int) :=
 (if (inB b) then (match (veil (z8.f BIG b 0 false false)) with | none => none | some y0 => (if y0.2.2.2.2.2.2.2.2.2.2.2.1 then some (0, 0, 0, 0, 0, 0, 0, 0, 0, 0, ([] : LR), (4 : Int)) else some (y0.1, y0.2.1, y0.2.2.1, y0.2.2.2.1, y0.2.2.2.2.1, y0.2.2.2.2.2.1, y0.2.2.2.2.2.2.1, y0.2.2.2.2.2.2.2.1, y0.2.2.2.2.2.2.2.2.1, y0.2.2.2.2.2.2.2.2.2.1, y0.2.2.2.2.2.2.2.2.2.2.1, (0 : Int)))) else none)
def ZS.f (qa : Nat) (b : List Int) : Option (Int × Int × Int × Int × Int × Int × Int × Int × Int × Int × LR × Int) := ZS.b b
theorem ZS.eq (qa : Nat) (b : List Int) : (denF qjo loopN qa Tryz.f54 [.dat (.pair tQi (.pair tQi (.pair tQi (.pair (.pair tQi tQi) (.pair tQi (.pair tQi (.pair tQi (.pair tQi (.pair tQi (.sl tQr)))))))))) true, .raw] [.d (.sl (.int .u8)) b] [] ZS.k) = ZS.f qa b := by
 kernel_rfl
def qb3 : Den.Sum := ⟨[.dat (.sl (.int .u8)) false], fun qK qn κ => match qK, qn with
 | [.d (.sl (.int .u8)) b], [] => (match veil (ZS.f BIG b) with | none => none | some y => κ [.agg [.d (.int .i64) y.1, .d (.int .i64) y.2.1, .d (.int .i64) y.2.2.1, .d (.int .i64) y.2.2.2.1, .d (.int .i64) y.2.2.2.2.1, .d (.int .i64) y.2.2.2.2.2.1, .d (.int .i64) y.2.2.2.2.2.2.1, .d (.int .i64) y.2.2.2.2.2.2.2.1, .d (.int .i64) y.2.2.2.2.2.2.2.2.1, .d (.int .i64) y.2.2.2.2.2.2.2.2.2.1, .d (.sl (.pair (.int .i64) (.pair (.int .i64) (.pair (.int .i64) (.pair (.pair (.int .i64) (.int .i64)) (.pair .bool (.sl (.pair (.int .i64) (.sl (.int .u8)))))))))) y.2.2.2.2.2.2.2.2.2.2.1], .d (.int .i64) y.2.2.2.2.2.2.2.2.2.2.2] [])
 | _, _ => none⟩
theorem qkt : SumDet qb3 := zj fun _ _ _ _ => by
 unfold qb3
 simp only [veil_eq]
 split
 ·split <;> rfl
 ·rfl
theorem qlt : SumOk Tryz.prog 54 qb3 := by
 have hE : EnvOk Tryz.prog qjo := env_ok (l := [(51, qaS), (74, ZR)]) th_ok qZ ⟨⟨qdR, qdb⟩, ⟨qgS, qgk⟩, trivial⟩ _
 refine sum_ok hE Tryz.func54 rfl (by kernel_rfl) qb3 [.dat (.pair tQi (.pair tQi (.pair tQi (.pair (.pair tQi tQi) (.pair tQi (.pair tQi (.pair tQi (.pair tQi (.pair tQi (.sl tQr)))))))))) true, .raw] ZS.k ?_
 intro R avs qn κ r h
 unfold qb3 at h
 simp only [veil_eq] at h
 split at h
 ·rename_i b
  split at h
  ·cases h
  ·rename_i y hy
   refine ⟨BIG, _, _, _, (ZS.eq BIG b).trans hy, ?_, h⟩
   intro rs ros hk
   unfold ZS.k at hk
   split at hk
   ·rw [← sj hk]; exact ⟨rfl, rfl⟩
   ·cases hk
 ·cases h
def qkN : Env := ⟨th, gam [(66, qfH)], fun i => ⟨[], [], []⟩⟩
def qbb.k (rs : List AV) (os : List Den.Obj) : Option ByteArray :=
 match rs, os with
 | [.d .str r0], [] => some r0
 | _, _ => none
def qbb.b (qk : Int) : Option ByteArray :=
 some ((ofF qk).1)
def qbb.f (qa : Nat) (qk : Int) : Option ByteArray := qbb.b qk
theorem qbb.eq (qa : Nat) (qk : Int) : (denF qkN loopN qa Tryz.f39 [.raw] [.d tQi qk] [] qbb.k) = qbb.f qa qk := by
 kernel_rfl
def qco : Den.Sum := ⟨[.raw], fun qK qn κ => match qK, qn with
 | [.d (.int .i64) qk], [] => (match veil (qbb.f BIG qk) with | none => none | some y => κ [.d .str y] [])
 | _, _ => none⟩
theorem qlp : SumDet qco := zj fun _ _ _ _ => by
 unfold qco
 simp only [veil_eq]
 split
 ·split <;> rfl
 ·rfl
theorem qmq : SumOk Tryz.prog 39 qco := by
 have hE : EnvOk Tryz.prog qkN := env_ok (l := [(66, qfH)]) th_ok qZ ⟨⟨qlo, qjC⟩, trivial⟩ _
 refine sum_ok hE Tryz.func39 rfl (by kernel_rfl) qco [.raw] qbb.k ?_
 intro R avs qn κ r h
 unfold qco at h
 simp only [veil_eq] at h
 split at h
 ·rename_i qk
  split at h
  ·cases h
  ·rename_i y hy
   refine ⟨BIG, _, _, _, (qbb.eq BIG qk).trans hy, ?_, h⟩
   intro rs ros hk
   unfold qbb.k at hk
   split at hk
   ·rw [← sj hk]; exact ⟨rfl, rfl⟩
   ·cases hk
 ·cases h
def qi5 : Env := ⟨th, gam [(33, qdJ)], fun i => ⟨[], [], []⟩⟩
def Zd.k (rs : List AV) (os : List Den.Obj) : Option ByteArray :=
 match rs, os with
 | [.d .str r0], [] => some r0
 | _, _ => none
def Zd.b (sLo sHi : Int) : Option ByteArray :=
 (if (!(okS sLo sHi)) then some ((⟨(([] : List UInt8)).toArray⟩ : ByteArray)) else some ((strOf ((IntKind.wrap .u8 (IntKind.wrap .i64 ((48 : Int) + sLo))) :: ((45 : Int) :: ((IntKind.wrap .u8 (IntKind.wrap .i64 ((48 : Int) + sHi))) :: ([] : List Int)))))))
def Zd.f (qa : Nat) (sLo sHi : Int) : Option ByteArray := Zd.b sLo sHi
theorem Zd.eq (qa : Nat) (sLo sHi : Int) : (denF qi5 loopN qa Tryz.f40 [.raw] [.agg [.d tQi sLo, .d tQi sHi]] [] Zd.k) = Zd.f qa sLo sHi := by
 kernel_rfl
def qaK : Den.Sum := ⟨[.dat (.pair tQi tQi) true], fun qK qn κ => match qK, qn with
 | [.agg [.d (.int .i64) sLo, .d (.int .i64) sHi]], [] => (match veil (Zd.f BIG sLo sHi) with | none => none | some y => κ [.d .str y] [])
 | _, _ => none⟩
theorem qf2 : SumDet qaK := zj fun _ _ _ _ => by
 unfold qaK
 simp only [veil_eq]
 split
 ·split <;> rfl
 ·rfl
theorem qgJ : SumOk Tryz.prog 40 qaK := by
 have hE : EnvOk Tryz.prog qi5 := env_ok (l := [(33, qdJ)]) th_ok qZ ⟨⟨qgI, qfB⟩, trivial⟩ _
 refine sum_ok hE Tryz.func40 rfl (by kernel_rfl) qaK [.raw] Zd.k ?_
 intro R avs qn κ r h
 unfold qaK at h
 simp only [veil_eq] at h
 split at h
 ·rename_i sLo sHi
  split at h
  ·cases h
  ·rename_i y hy
   refine ⟨BIG, _, _, _, (Zd.eq BIG sLo sHi).trans hy, ?_, h⟩
   intro rs ros hk
   unfold Zd.k at hk
   split at hk
   ·rw [← sj hk]; exact ⟨rfl, rfl⟩
   ·cases hk
 ·cases h
def qji : Env := ⟨th, gam [], fun i => ⟨[], [], []⟩⟩
def qaU.k (rs : List AV) (os : List Den.Obj) : Option (List ByteArray) :=
 match rs, os with
 | [.d (.arr 4 .str) r0], [] => some r0
 | _, _ => none
def qaU.b (u : Unit) : Option (List ByteArray) :=
 some (((⟨((97 :: (108 :: (105 :: (118 :: (101 :: ([] : List UInt8))))))).toArray⟩ : ByteArray) :: ((⟨((115 :: (117 :: (115 :: (112 :: (101 :: (99 :: (116 :: ([] : List UInt8))))))))).toArray⟩ : ByteArray) :: ((⟨((100 :: (101 :: (97 :: (100 :: ([] : List UInt8)))))).toArray⟩ : ByteArray) :: ((⟨((108 :: (101 :: (102 :: (116 :: ([] : List UInt8)))))).toArray⟩ : ByteArray) :: ([] : List ByteArray))))))
def qaU.f (qa : Nat) (u : Unit) : Option (List ByteArray) := qaU.b u
theorem qaU.eq (qa : Nat) (u : Unit) : (denF qji loopN qa Tryz.f68 [.raw] [] [] qaU.k) = qaU.f qa u := by
 kernel_rfl
def qbY : Den.Sum := ⟨[], fun qK qn κ => match qK, qn with
 | [], [] => (match veil (qaU.f BIG ()) with | none => none | some y => κ [.d (.arr 4 .str) y] [])
 | _, _ => none⟩
theorem qkm : SumDet qbY := zj fun _ _ _ _ => by
 unfold qbY
 simp only [veil_eq]
 split
 ·split <;> rfl
 ·rfl
theorem qll : SumOk Tryz.prog 68 qbY := by
 have hE : EnvOk Tryz.prog qji := env_ok (l := []) th_ok qZ trivial _
 refine sum_ok hE Tryz.func68 rfl (by kernel_rfl) qbY [.raw] qaU.k ?_
 intro R avs qn κ r h
 unfold qbY at h
 simp only [veil_eq] at h
 split at h
 ·skip
  split at h
  ·cases h
  ·rename_i y hy
   refine ⟨BIG, _, _, _, (qaU.eq BIG ()).trans hy, ?_, h⟩
   intro rs ros hk
   unfold qaU.k at hk
   split at hk
   ·rw [← sj hk]; exact ⟨rfl, rfl⟩
   ·cases hk
 ·cases h
def qkE : Env := ⟨th, gam [(68, qbY)], fun i => ⟨[], [], []⟩⟩
def qak.k (rs : List AV) (os : List Den.Obj) : Option ByteArray :=
 match rs, os with
 | [.d .str r0], [] => some r0
 | _, _ => none
def qak.b (qcz : Int) : Option ByteArray :=
 (if (decide (qcz < (0 : Int))) then some ((⟨(([] : List UInt8)).toArray⟩ : ByteArray)) else (if (decide (qcz > (3 : Int))) then some ((⟨(([] : List UInt8)).toArray⟩ : ByteArray)) else (match (veil (qaU.f BIG ())) with | none => none | some y0 => (match (idx y0 qcz) with | none => none | some y1 => some (y1)))))
def qak.f (qa : Nat) (qcz : Int) : Option ByteArray := qak.b qcz
theorem qak.eq (qa : Nat) (qcz : Int) : (denF qkE loopN qa Tryz.f43 [.raw] [.d tQi qcz] [] qak.k) = qak.f qa qcz := by
 kernel_rfl
def qcn : Den.Sum := ⟨[.raw], fun qK qn κ => match qK, qn with
 | [.d (.int .i64) qcz], [] => (match veil (qak.f BIG qcz) with | none => none | some y => κ [.d .str y] [])
 | _, _ => none⟩
theorem qln : SumDet qcn := zj fun _ _ _ _ => by
 unfold qcn
 simp only [veil_eq]
 split
 ·split <;> rfl
 ·rfl
theorem qmp : SumOk Tryz.prog 43 qcn := by
 have hE : EnvOk Tryz.prog qkE := env_ok (l := [(68, qbY)]) th_ok qZ ⟨⟨qll, qkm⟩, trivial⟩ _
 refine sum_ok hE Tryz.func43 rfl (by kernel_rfl) qcn [.raw] qak.k ?_
 intro R avs qn κ r h
 unfold qcn at h
 simp only [veil_eq] at h
 split at h
 ·rename_i qcz
  split at h
  ·cases h
  ·rename_i y hy
   refine ⟨BIG, _, _, _, (qak.eq BIG qcz).trans hy, ?_, h⟩
   intro rs ros hk
   unfold qak.k at hk
   split at hk
   ·rw [← sj hk]; exact ⟨rfl, rfl⟩
   ·cases hk
 ·cases h
theorem qsA.pure {bs : List Int} (hb : inB bs = true) : ZS.f BIG bs = some (match hdS bs with
  | none => (0, 0, 0, 0, 0, 0, 0, 0, 0, 0, [], 4)
  | some (k, f, i, lo, hi, s, t, l, e, b, _) => (k, f, i, lo, hi, s, t, l, e, b, [], 0)) := by
 unfold ZS.f ZS.b
 simp only [veil_eq]
 rw [if_pos hb]
 have h := head.pure bs hb
 cases hs : hdS bs with
 | none =>
  rw [hs] at h
  obtain ⟨k, f, i, lo, hi, s, t, l, e, b, a, bad, h⟩ := h
  rw [h]
  rfl
 | some x =>
  obtain ⟨k, f, i, lo, hi, s, t, l, e, b, a⟩ := x
  rw [hs] at h
  dsimp only at h
  rw [h.1]
  rfl
abbrev M12 := Int × Int × Int × Int × Int × Int × Int × Int × Int × Int × LR × Int
def z12 (e : Int) : M12 := (0, 0, 0, 0, 0, 0, 0, 0, 0, 0, [], e)
def qrE (m : M12) : M12 := (m.1, m.2.1, m.2.2.1, m.2.2.2.1, m.2.2.2.2.1, m.2.2.2.2.2.1, m.2.2.2.2.2.2.1, m.2.2.2.2.2.2.2.1, m.2.2.2.2.2.2.2.2.1, m.2.2.2.2.2.2.2.2.2.1, [], m.2.2.2.2.2.2.2.2.2.2.2)
def qaC (m : M12) : Int := m.2.2.2.2.2.2.2.2.2.2.2
def qsv (m : M12) : Int := m.2.2.2.2.2.2.2.2.2.1
def qkB (m : M12) : LR := m.2.2.2.2.2.2.2.2.2.2.1
def qmE (m : M12) : Prop := q0 m.1 m.2.1 m.2.2.1 m.2.2.2.1 m.2.2.2.2.1 m.2.2.2.2.2.1 m.2.2.2.2.2.2.1 m.2.2.2.2.2.2.2.1 m.2.2.2.2.2.2.2.2.1 m.2.2.2.2.2.2.2.2.2.1 m.2.2.2.2.2.2.2.2.2.2.1 = true
def okM (m : qsk) : M12 := (m.1, m.2.1, m.2.2.1, m.2.2.2.1, m.2.2.2.2.1, m.2.2.2.2.2.1, m.2.2.2.2.2.2.1, m.2.2.2.2.2.2.2.1, m.2.2.2.2.2.2.2.2.1, m.2.2.2.2.2.2.2.2.2.1, m.2.2.2.2.2.2.2.2.2.2, 0)
def qaW (b : List Int) (qb : LR) : M12 :=
 if Qp qb = true then (match qiD b qb with
  | none => z12 4
  | some m => okM m) else z12 1
def qgX (b : List Int) : M12 := match hdS b with
 | none => z12 4
 | some (k, f, i, lo, hi, s, t, l, e, b, _) => (k, f, i, lo, hi, s, t, l, e, b, [], 0)
theorem qn8 {b : List Int} {qb : LR} (hb : ∀ c ∈ b, 0 ≤ c ∧ c ≤ 255) (h : qaC (qaW b qb) = 0) :
  qmE (qaW b qb) ∧ qds (qaW b qb).1 (qaW b qb).2.1 (qaW b qb).2.2.1 (qaW b qb).2.2.2.1 (qaW b qb).2.2.2.2.1 (qaW b qb).2.2.2.2.2.1 (qaW b qb).2.2.2.2.2.2.1 (qaW b qb).2.2.2.2.2.2.2.1 (qaW b qb).2.2.2.2.2.2.2.2.1 (qaW b qb).2.2.2.2.2.2.2.2.2.1 (qaW b qb).2.2.2.2.2.2.2.2.2.2.1 qb = (b, 0) ∧ qgX b = qrE (qaW b qb) := by
 unfold qaW at h ⊢
 by_cases hs : Qp qb = true
 ·rw [if_pos hs] at h ⊢
  cases hd : qiD b qb with
  | none => rw [hd] at h; exact absurd h (by unfold qaC z12; decide)
  | some m =>
   obtain ⟨k, f, i, lo, hi, s, t, l, e, b', rs⟩ := m
   obtain ⟨e1, e2, e3, a, e4⟩ := qpn hb hd
   dsimp only [okM]
   refine ⟨e2, ?_, ?_⟩
   ·unfold qds
    rw [e2, hs, e1]
    simp only [Bool.and_self, if_true]
    rw [if_neg (by omega)]
   ·unfold qgX
    rw [e4]
    all_goals rfl
 ·rw [if_neg hs] at h
  exact absurd h (by unfold qaC z12; decide)
theorem qr2 {b : List Int} {qb : LR} (h : qaC (qaW b qb) ≠ 0) : qaW b qb = z12 (qaC (qaW b qb)) := by
 unfold qaW at h ⊢
 by_cases hs : Qp qb = true
 ·rw [if_pos hs] at h ⊢
  cases hd : qiD b qb with
  | none => rfl
  | some m => rw [hd] at h; exact absurd rfl h
 ·rw [if_neg hs]; all_goals rfl
theorem qmg {k f i lo hi s t l e b : Int} {qc qb : LR} (hs : Qp qb = true) (h : (qds k f i lo hi s t l e b qc qb).2 = 0) :
  qaW (qds k f i lo hi s t l e b qc qb).1 qb = (k, f, i, lo, hi, s, t, l, e, b, qc, 0) ∧ q0 k f i lo hi s t l e b qc = true ∧ (qds k f i lo hi s t l e b qc qb).1.length ≤ 65499 := by
 unfold qds at h ⊢
 cases hv : q0 k f i lo hi s t l e b qc with
 | false => rw [hv] at h; exact absurd h (by simp)
 | true =>
  rw [hv, hs] at h
  rw [hs]
  simp only [Bool.and_self, if_true] at h ⊢
  by_cases hl : (qb9 k f i lo hi s t l e b qc qb).length > 65499
  ·rw [if_pos hl] at h; exact absurd h (by decide)
  ·rw [if_neg hl]
   dsimp only
   refine ⟨?_, trivial, by omega⟩
   unfold qaW
   rw [if_pos hs, qqo (qbr hs).1 hv (by omega)]
   all_goals rfl
def qmC (gen : Int) : Int := if gen == 1 then 65535 else if gen == 2 then 4294967295 else 281474976710655
def qk6 (qc : LR) : Bool := qc.any fun r => decide ((r.2.2.2.2.2.length : Int) > 0)
def qkT (gen : Int) (qc : LR) : Bool := qc.any fun r => decide (r.2.1 > qmC gen)
def qhm (b : Bool) (x : Int) : List Int := if b then [x] else []
def qmA (qk qx inc lo hi seq qo qP qD qb : Int) (qc : LR) (gen : Int) (bags incs : Bool) : List Int :=
 qhm (decide (gen < 3) && qk == 9) 1 ++ (qhm (decide (gen < 3) && qD != 0) 2 ++ (qhm (gen == 1 && bags) 3 ++ (qhm incs 4 ++ qhm (decide (qnh qk qx inc lo hi seq qo qP qD qb qc gen > 65499)) 5)))
def qqH (qk qx inc lo hi seq qo qP qD qb : Int) (qc : LR) (gen : Int) : List Int := if qc8 qk qx inc lo hi seq qo qP qD qb qc gen then qmA qk qx inc lo hi seq qo qP qD qb qc gen (qk6 qc) (qkT gen qc) else [0]
theorem qeR.pure (b : Bool) (x : Int) (l : List Int) (h : l.length ≤ 100) : zn.f BIG b x l = some (l ++ qhm b x) := by
 unfold zn.f zn.b qhm
 cases b
 ·simp
 ·rw [if_pos rfl, if_pos (by simp [lim]; omega)]
  rfl
theorem qhl (b : Bool) (x : Int) : (qhm b x).length ≤ 1 := by unfold qhm; split <;> simp
theorem qsK.pure (gen : Int) : qan.f BIG gen = some (qmC gen) := by
 unfold qan.f qan.b qmC
 simp only [veil_eq]
 split
 ·rfl
 ·split <;> rfl
theorem Why.last (qk qx inc lo hi seq qo qP qD qb : Int) (qc : LR) (gen : Int) (hs : qc8 qk qx inc lo hi seq qo qP qD qb qc gen = true) (hr : q9 qc = true) (hn : qc.length < 1000000000) (bags incs : Bool) (qa k : Nat) :
  zZ.l5 BIG qk qx inc lo hi seq qo qP qD qb qc gen (k + 1) bags incs (qc.length : Int) (qc.length : Int) = some (qmA qk qx inc lo hi seq qo qP qD qb qc gen bags incs) := by
 rw [zZ.l5]
 unfold zZ.b5
 simp only [veil_eq]
 rw [if_neg (by simp)]
 have l1 := fun b => qhl b 1
 have l2 := fun b => qhl b 2
 have l3 := fun b => qhl b 3
 have l4 := fun b => qhl b 4
 rw [qrv.pure qk qx inc lo hi seq qo qP qD qb qc gen hr hn, hs]
 unfold qmA
 cases h3 : decide (gen < 3)
 ·have hg1 : (gen == 1) = false := by simp at h3 ⊢; omega
  simp only [Bool.false_eq_true, if_false, if_true, hg1, Bool.false_and]
  rw [qeR.pure _ _ _ (by simp)]
  dsimp only
  rw [qeR.pure _ _ _ (by have := l1 false; simp; omega)]
  dsimp only
  rw [qeR.pure _ _ _ (by have := l1 false; have := l2 false; simp; omega)]
  dsimp only
  rw [qeR.pure _ _ _ (by have := l1 false; have := l2 false; have := l3 false; simp; omega)]
  dsimp only
  rw [qeR.pure _ _ _ (by have := l1 false; have := l2 false; have := l3 false; have := l4 incs; simp; omega)]
  simp
 ·simp only [if_true, Bool.true_and]
  rw [qeR.pure _ _ _ (by simp)]
  dsimp only
  rw [qeR.pure _ _ _ (by have := l1 (qk == 9); simp; omega)]
  dsimp only
  cases hg : (gen == 1)
  ·simp only [Bool.false_eq_true, if_false, Bool.false_and]
   rw [qeR.pure _ _ _ (by have := l1 (qk == 9); have := l2 (qD != 0); simp; omega)]
   dsimp only
   rw [qeR.pure _ _ _ (by have := l1 (qk == 9); have := l2 (qD != 0); have := l3 false; simp; omega)]
   dsimp only
   rw [qeR.pure _ _ _ (by have := l1 (qk == 9); have := l2 (qD != 0); have := l3 false; have := l4 incs; simp; omega)]
   simp
  ·simp only [if_true, Bool.true_and]
   rw [qeR.pure _ _ _ (by have := l1 (qk == 9); have := l2 (qD != 0); simp; omega)]
   dsimp only
   rw [qeR.pure _ _ _ (by have := l1 (qk == 9); have := l2 (qD != 0); have := l3 bags; simp; omega)]
   dsimp only
   rw [qeR.pure _ _ _ (by have := l1 (qk == 9); have := l2 (qD != 0); have := l3 bags; have := l4 incs; simp; omega)]
   simp
theorem Why.loop (qk qx inc lo hi seq qo qP qD qb : Int) (qc : LR) (gen : Int) (hs : qc8 qk qx inc lo hi seq qo qP qD qb qc gen = true) (hr : q9 qc = true) (hn : qc.length < 1000000000) :
  ∀ (k i : Nat) (bags incs : Bool), i ≤ qc.length → qc.length - i < k →
  zZ.l5 BIG qk qx inc lo hi seq qo qP qD qb qc gen k bags incs (qc.length : Int) (i : Int) = some (qmA qk qx inc lo hi seq qo qP qD qb qc gen (bags || qk6 (qc.drop i)) (incs || qkT gen (qc.drop i))) := by
 intro k
 induction k with
 | zero => intro i bags incs h1 h2; omega
 | succ k ih =>
  intro i bags incs h1 h2
  by_cases hI : i < qc.length
  ·rw [zZ.l5]
   unfold zZ.b5
   simp only [veil_eq]
   rw [if_pos (by simp; omega), Qn, List.getElem?_eq_getElem hI]
   dsimp only
   have hb : qk6 (qc.drop i) = (decide ((qc[i].2.2.2.2.2.length : Int) > 0) || qk6 (qc.drop (i + 1))) := by
    rw [List.drop_eq_getElem_cons hI]
    rfl
   have hc : qkT gen (qc.drop i) = (decide (qc[i].2.1 > qmC gen) || qkT gen (qc.drop (i + 1))) := by
    rw [List.drop_eq_getElem_cons hI]
    rfl
   rw [hb, hc, qsK.pure, qX _ (by omega) (by omega), show ((i : Int) + 1) = ((i + 1 : Nat) : Int) from by omega]
   dsimp only
   generalize qc[i] = r
   cases bags
   ·cases incs
    ·simp only [Bool.false_eq_true, if_false, Bool.false_or]
     rw [ih (i + 1) _ _ (by omega) (by omega)]
    ·simp only [Bool.false_eq_true, if_false, if_true, Bool.false_or, Bool.true_or]
     rw [ih (i + 1) _ _ (by omega) (by omega)]
     simp
   ·cases incs
    ·simp only [Bool.false_eq_true, if_false, if_true, Bool.false_or, Bool.true_or]
     rw [ih (i + 1) _ _ (by omega) (by omega)]
     simp
    ·simp only [if_true, Bool.true_or]
     rw [ih (i + 1) _ _ (by omega) (by omega)]
     simp
  ·have : i = qc.length := by omega
   subst this
   rw [Why.last qk qx inc lo hi seq qo qP qD qb qc gen hs hr hn bags incs 0 k, List.drop_length]
   simp [qk6, qkT]
theorem Why.pure (qk qx inc lo hi seq qo qP qD qb : Int) (qc : LR) (gen : Int) (hr : q9 qc = true) : zZ.f BIG qk qx inc lo hi seq qo qP qD qb qc gen = some (qqH qk qx inc lo hi seq qo qP qD qb qc gen) := by
 unfold zZ.f zZ.b qqH
 simp only [veil_eq]
 rw [qqy.pure qk qx inc lo hi seq qo qP qD qb qc gen hr]
 cases hs : qc8 qk qx inc lo hi seq qo qP qD qb qc gen
 ·rfl
 ·have hv : q0 qk qx inc lo hi seq qo qP qD qb qc = true := by unfold qc8 at hs; simp at hs; exact hs.1
  have hn := (Ql hv).2.2.2.2.2.2.2.2.2.2.2.2.1
  have := Why.loop qk qx inc lo hi seq qo qP qD qb qc gen hs hr (by omega) BIG 0 false false (by omega) (by rw [Zx]; omega)
  rw [show ((0 : Nat) : Int) = 0 from rfl, List.drop_zero] at this
  simp only [Bool.not_true, Bool.false_eq_true, if_false, if_true]
  rw [this]
  simp
def qc4 (qk qx inc lo hi seq qo qP qD qb : Int) (qc : LR) (gen : Int) : Bool := ((qqH qk qx inc lo hi seq qo qP qD qb qc gen).length : Int) == 0
theorem qsl.pure (qk qx inc lo hi seq qo qP qD qb : Int) (qc : LR) (gen : Int) (hr : q9 qc = true) : qao.f BIG qk qx inc lo hi seq qo qP qD qb qc gen = some (qc4 qk qx inc lo hi seq qo qP qD qb qc gen) := by
 unfold qao.f qao.b qc4
 simp only [veil_eq]
 rw [Why.pure qk qx inc lo hi seq qo qP qD qb qc gen hr]
def QV (gen : Int) (b : List Int) (qb : LR) : M12 :=
 if gen == 1 then ((Qs b).1, (Qs b).2.1, (Qs b).2.2.1, (Qs b).2.2.2.1, (Qs b).2.2.2.2.1, (Qs b).2.2.2.2.2.1, (Qs b).2.2.2.2.2.2.1, 0, 0, 0, (Qs b).2.2.2.2.2.2.2.1, (Qs b).2.2.2.2.2.2.2.2)
 else if gen == 2 then ((zT b).1, (zT b).2.1, (zT b).2.2.1, (zT b).2.2.2.1, (zT b).2.2.2.2.1, (zT b).2.2.2.2.2.1, (zT b).2.2.2.2.2.2.1, 0, 0, 0, (zT b).2.2.2.2.2.2.2.1, (zT b).2.2.2.2.2.2.2.2)
 else if gen == 3 then qaW b qb else z12 5
def Qb (gen : Int) (k f i lo hi s t l e b : Int) (qc qb : LR) : List Int × Int :=
 if gen == 1 then qen k f i lo hi s t l e b qc else if gen == 2 then qeo k f i lo hi s t l e b qc else if gen == 3 then qds k f i lo hi s t l e b qc qb else ([], 5)
def QW (gen : Int) (b : List Int) : M12 := if gen == 3 then qgX b else qrE (QV gen b [])
def qo2 (gen : Int) (m : M12) (qb : LR) : List Int × Int :=
 Qb gen m.1 m.2.1 m.2.2.1 m.2.2.2.1 m.2.2.2.2.1 m.2.2.2.2.2.1 m.2.2.2.2.2.2.1 m.2.2.2.2.2.2.2.1 m.2.2.2.2.2.2.2.2.1 m.2.2.2.2.2.2.2.2.2.1 m.2.2.2.2.2.2.2.2.2.2.1 qb
theorem qpH {qc : LR} (hr : ∀ r ∈ qc, zA r = true) (hn : qc.length < 1000000000) : q9 qc = true :=
 (Zo _).2 ⟨by omega, fun r h => by
  have := (zH (hr r h)).2.2.2.2.2.2.2.1
  have h1 := Ze this
  exact (qaR _).2 ⟨by omega, fun x hx => by have := qbE this x hx; omega⟩⟩
theorem qnw {k f i lo hi s t l e b : Int} {qc : LR} (h : q0 k f i lo hi s t l e b qc = true) : q9 qc = true := by
 have := Ql h
 exact qpH this.2.2.2.2.2.2.2.2.2.2.2.2.2 (by have := this.2.2.2.2.2.2.2.2.2.2.2.2.1; omega)
theorem qjL {gen : Int} {b : List Int} {qb : LR} (hb : ∀ c ∈ b, 0 ≤ c ∧ c ≤ 255) (hl : b.length < 1000000000) (h : qaC (QV gen b qb) = 0) :
  qmE (QV gen b qb) ∧ qo2 gen (QV gen b qb) qb = (b, 0) ∧ 1 ≤ gen ∧ gen ≤ 3 := by
 unfold QV at h ⊢
 by_cases h1 : gen = 1
 ·subst h1
  rw [if_pos (by simp)] at h ⊢
  obtain ⟨i1, i2, i3⟩ := qsr b ((QY b).2 ⟨by omega, hb⟩) h
  have hv := (qel (by rw [← qd1]; exact i1)).1
  refine ⟨hv, ?_, by omega, by omega⟩
  unfold qo2 Qb
  rw [if_pos (by simp)]
  dsimp only
  unfold qen
  rw [hv, i1, i2]
  all_goals rfl
 ·rw [if_neg (by simpa using h1)] at h ⊢
  by_cases h2 : gen = 2
  ·subst h2
   rw [if_pos (by simp)] at h ⊢
   obtain ⟨i1, i2, i3⟩ := qse b (qm6 hb hl) h
   have hv := (qgu i1).1
   refine ⟨hv, ?_, by omega, by omega⟩
   unfold qo2 Qb
   rw [if_neg (by simp), if_pos (by simp)]
   dsimp only
   unfold qeo
   rw [hv, i1, i2]
   all_goals rfl
  ·rw [if_neg (by simpa using h2)] at h ⊢
   by_cases h3 : gen = 3
   ·subst h3
    rw [if_pos (by simp)] at h ⊢
    obtain ⟨d1, d2, d3⟩ := qn8 hb h
    refine ⟨d1, ?_, by omega, by omega⟩
    unfold qo2 Qb
    rw [if_neg (by simp), if_neg (by simp), if_pos (by simp)]
    exact d2
   ·rw [if_neg (by simpa using h3)] at h
    exact absurd h (by unfold qaC z12; decide)
theorem qqV {gen : Int} {b : List Int} {qb : LR} (h : qaC (QV gen b qb) ≠ 0) : QV gen b qb = z12 (qaC (QV gen b qb)) := by
 unfold QV at h ⊢
 by_cases h1 : gen = 1
 ·subst h1
  rw [if_pos (by simp)] at h ⊢
  rw [qrm b h]; all_goals rfl
 ·rw [if_neg (by simpa using h1)] at h ⊢
  by_cases h2 : gen = 2
  ·subst h2
   rw [if_pos (by simp)] at h ⊢
   rw [qqp b h]; all_goals rfl
  ·rw [if_neg (by simpa using h2)] at h ⊢
   by_cases h3 : gen = 3
   ·subst h3
    rw [if_pos (by simp)] at h ⊢
    exact qr2 h
   ·rw [if_neg (by simpa using h3)]; all_goals rfl
theorem qgo {gen : Int} {b : List Int} {qb : LR} (hb : ∀ c ∈ b, 0 ≤ c ∧ c ≤ 255) (hl : b.length < 1000000000) : q9 (qkB (QV gen b qb)) = true := by
 by_cases h : qaC (QV gen b qb) = 0
 ·exact qnw (qjL hb hl h).1
 ·rw [qqV h]; all_goals rfl
theorem qdZ {gen : Int} (P : Int → Prop) (h1 : P 1) (h2 : P 2) (h3 : P 3) (h0 : gen ≠ 1 → gen ≠ 2 → gen ≠ 3 → P gen) : P gen := by
 by_cases e1 : gen = 1
 ·subst e1; exact h1
 ·by_cases e2 : gen = 2
  ·subst e2; exact h2
  ·by_cases e3 : gen = 3
   ·subst e3; exact h3
   ·exact h0 e1 e2 e3
theorem qgC (k f i lo hi s t l e b : Int) (qc qb : LR) : Qb 1 k f i lo hi s t l e b qc qb = qen k f i lo hi s t l e b qc := rfl
theorem qgB (k f i lo hi s t l e b : Int) (qc qb : LR) : Qb 2 k f i lo hi s t l e b qc qb = qeo k f i lo hi s t l e b qc := rfl
theorem qeD (k f i lo hi s t l e b : Int) (qc qb : LR) : Qb 3 k f i lo hi s t l e b qc qb = qds k f i lo hi s t l e b qc qb := rfl
theorem qgD {gen : Int} (h1 : gen ≠ 1) (h2 : gen ≠ 2) (h3 : gen ≠ 3) (k f i lo hi s t l e b : Int) (qc qb : LR) : Qb gen k f i lo hi s t l e b qc qb = ([], 5) := by
 unfold Qb
 rw [if_neg (by simpa using h1), if_neg (by simpa using h2), if_neg (by simpa using h3)]
theorem qkK (b : List Int) (qb : LR) : QV 1 b qb = ((Qs b).1, (Qs b).2.1, (Qs b).2.2.1, (Qs b).2.2.2.1, (Qs b).2.2.2.2.1, (Qs b).2.2.2.2.2.1, (Qs b).2.2.2.2.2.2.1, 0, 0, 0, (Qs b).2.2.2.2.2.2.2.1, (Qs b).2.2.2.2.2.2.2.2) := rfl
theorem qkJ (b : List Int) (qb : LR) : QV 2 b qb = ((zT b).1, (zT b).2.1, (zT b).2.2.1, (zT b).2.2.2.1, (zT b).2.2.2.2.1, (zT b).2.2.2.2.2.1, (zT b).2.2.2.2.2.2.1, 0, 0, 0, (zT b).2.2.2.2.2.2.2.1, (zT b).2.2.2.2.2.2.2.2) := rfl
theorem qmY (b : List Int) (qb : LR) : QV 3 b qb = qaW b qb := rfl
theorem qlG {k f i lo hi s t l e b : Int} {qc : LR} (h : (qen k f i lo hi s t l e b qc).2 = 0) : q0 k f i lo hi s t l e b qc = true ∧ qbi k f i lo hi s t l e b qc = true ∧ l = 0 ∧ e = 0 ∧ b = 0 ∧ qen k f i lo hi s t l e b qc = (qcG k f i lo hi s t qc, 0) := by
 unfold qen at h ⊢
 cases hv : q0 k f i lo hi s t l e b qc with
 | false => rw [hv] at h; exact absurd h (by simp)
 | true =>
  rw [hv] at h
  cases hf : qbi k f i lo hi s t l e b qc with
  | false => rw [hf] at h; exact absurd h (by simp)
  | true =>
   have hf' := hf
   rw [qd1] at hf'
   obtain ⟨h1, h2, h3⟩ := qpk hf'
   exact ⟨rfl, rfl, h1, h2, h3, rfl⟩
theorem qlF {k f i lo hi s t l e b : Int} {qc : LR} (h : (qeo k f i lo hi s t l e b qc).2 = 0) : q0 k f i lo hi s t l e b qc = true ∧ k ≠ 9 ∧ l = 0 ∧ e = 0 ∧ b = 0 ∧ qc5 qc = true ∧ (qaj k f i lo hi s t qc).length ≤ 65499 ∧ qeo k f i lo hi s t l e b qc = (qaj k f i lo hi s t qc, 0) := by
 unfold qeo at h ⊢
 cases hv : q0 k f i lo hi s t l e b qc with
 | false => rw [hv] at h; exact absurd h (by simp)
 | true =>
  rw [hv] at h
  cases hf : qbG k f i lo hi s t l e b qc with
  | false => rw [hf] at h; exact absurd h (by simp)
  | true =>
   have hf' := hf
   rw [qpl] at hf'
   obtain ⟨_, h9, h1, h2, h3, h2', hlen⟩ := qnd hf'
   exact ⟨rfl, h9, h1, h2, h3, h2', hlen, rfl⟩
theorem qg1 {gen : Int} {k f i lo hi s t l e b : Int} {qc qb : LR} (QD : gen = 3 → Qp qb = true) (h : (Qb gen k f i lo hi s t l e b qc qb).2 = 0) :
  QV gen (Qb gen k f i lo hi s t l e b qc qb).1 qb = (k, f, i, lo, hi, s, t, l, e, b, qc, 0) ∧ q0 k f i lo hi s t l e b qc = true ∧ (Qb gen k f i lo hi s t l e b qc qb).1.length ≤ 65499 ∧ 1 ≤ gen ∧ gen ≤ 3 := by
 revert QD h
 refine qdZ (gen := gen) (fun gen => (gen = 3 → Qp qb = true) → (Qb gen k f i lo hi s t l e b qc qb).2 = 0 → QV gen (Qb gen k f i lo hi s t l e b qc qb).1 qb = (k, f, i, lo, hi, s, t, l, e, b, qc, 0) ∧ q0 k f i lo hi s t l e b qc = true ∧ (Qb gen k f i lo hi s t l e b qc qb).1.length ≤ 65499 ∧ 1 ≤ gen ∧ gen ≤ 3) ?_ ?_ ?_ ?_
 ·intro _ h
  rw [qgC] at h ⊢
  obtain ⟨hv, hf, rfl, rfl, rfl, he⟩ := qlG h
  rw [qkK, he]
  dsimp only
  rw [qsI k f i lo hi s t qc hf]
  have := qro k f i lo hi s t qc
  have hlen := (Ql hv).2.2.2.2.2.2.2.2.2.2.2.2.1
  exact ⟨rfl, hv, by omega, by omega, by omega⟩
 ·intro _ h
  rw [qgB] at h ⊢
  obtain ⟨hv, h9, rfl, rfl, rfl, h2, hl, he⟩ := qlF h
  rw [qkJ, he]
  dsimp only
  rw [qsw hv h9 h2 hl]
  exact ⟨rfl, hv, hl, by omega, by omega⟩
 ·intro hs h
  rw [qeD] at h ⊢
  rw [qmY]
  obtain ⟨q1, q2, q3⟩ := qmg (hs rfl) h
  exact ⟨q1, q2, q3, by omega, by omega⟩
 ·intro h1 h2 h3 _ h
  rw [qgD h1 h2 h3] at h
  exact absurd h (by simp)
def isB (l : List Int) : Prop := ∀ c ∈ l, 0 ≤ c ∧ c ≤ 255
theorem qaB : isB [] := by simp [isB]
theorem qaH {l m : List Int} (h1 : isB l) (h2 : isB m) : isB (l ++ m) := fun c hc => by
 rcases List.mem_append.1 hc with h | h
 ·exact h1 c h
 ·exact h2 c h
theorem Z4 {x : Int} {m : List Int} (h0 : 0 ≤ x) (h1 : x ≤ 255) (h2 : isB m) : isB (x :: m) := fun c hc => by
 rcases List.mem_cons.1 hc with rfl | h
 ·exact ⟨h0, h1⟩
 ·exact h2 c h
theorem qgW {b : Bool} {l : List Int} (h : isB l) : isB (if b = true then l else []) := by
 cases b
 ·exact qaB
 ·exact h
theorem qn3 {b : Bool} {l : List Int} (h : isB l) : isB (if b = true then [] else l) := by
 cases b
 ·exact h
 ·exact qaB
theorem qlR : ∀ (j : Nat) (v : Int), 0 ≤ v → v < 2 * 128 ^ j → isB (viF j v)
 | 0, v, h0, h1 => by
  rw [viF]
  exact Z4 h0 (by simp at h1; omega) qaB
 | j + 1, v, h0, h1 => by
  rw [viF]
  by_cases h : v ≥ 128
  ·rw [if_pos h]
   exact Z4 (by omega) (by omega) (qlR j (v / 128) (by omega) (by rw [Int.pow_succ] at h1; generalize (128 : Int) ^ j = M at h1 ⊢; omega))
  ·rw [if_neg h]
   exact Z4 h0 (by omega) qaB
theorem qa2 {v : Int} (h0 : 0 ≤ v) (h1 : v < 18446744073709551616) : isB (vi v) := qlR 9 v h0 (by simpa using h1)
theorem qpi {x : Int × List Int} (h0 : 0 ≤ x.1) (h1 : x.1 ≤ 255) (h2 : x.2.length ≤ 4096) (h3 : isB x.2) : isB (qbD x) :=
 Z4 h0 h1 (qaH (qa2 (by omega) (by omega)) h3)
theorem qps {b : LF} (h : qca b = true) (hb : ∀ x ∈ b, isB x.2) : isB (qch b) := by
 have hl := Ze h
 have ht := qbE h
 exact qaH (qa2 (by omega) (by omega)) (qjS fun x hx => qpi (by have := ht x hx; omega) (ht x hx).2.1 (ht x hx).2.2 (hb x hx))
theorem qnN {o : REC × Bool} {r : REC} (hr : zA r = true) : 0 ≤ qeX o r ∧ qeX o r ≤ 31 := by
 obtain ⟨f1, f2, f3, f4, f5, f6, _⟩ := zH hr
 unfold qeX
 split <;> split <;> split <;> omega
theorem qo0 {qb : LR} (QD : ∀ x ∈ qb, zA x = true) {qi : Int} {r : REC} (hr : zA r = true) (h1 : -1 ≤ qi) (h2 : qi < r.1) (hb : ∀ x ∈ r.2.2.2.2.2, isB x.2) : isB (qdr (zF qb r.1) qi r) := by
 obtain ⟨f1, f2, f3, f4, f5, f6, f7, f8, f9⟩ := zH hr
 obtain ⟨o0, o1⟩ := qlB QD r.1
 obtain ⟨z0, z1⟩ := qmF f3 f4 o0 o1
 obtain ⟨g0, g1⟩ := qnN (o := zF qb r.1) hr
 have hs := (qaq _ _).1 f7
 unfold qdr
 exact qaH (qa2 (by omega) (by omega)) (Z4 g0 (by omega) (qaH (qn3 (Z4 (by omega) (by omega) qaB)) (qaH (qa2 z0 (by omega)) (qn3 (qps f8 hb)))))
theorem qjh {qb : LR} (QD : ∀ x ∈ qb, zA x = true) : ∀ (l : LR) (qi : Int), (∀ r ∈ l, zA r = true) → -1 ≤ qi → qga qi l → qaI l → isB (ZW qb qi l)
 | [], _, _, _, _, _ => qaB
 | r :: l, qi, hr, h1, h2, hb => by
  have hm := hr r (List.mem_cons_self ..)
  have hid := (zH hm).1
  exact qaH (qo0 QD hm h1 h2.1 (hb r (List.mem_cons_self ..))) (qjh QD l r.1 (fun x hx => hr x (List.mem_cons_of_mem _ hx)) (by omega) h2.2 (fun x hx => hb x (List.mem_cons_of_mem _ hx)))
theorem qnR {k f i lo hi s t l e b : Int} {qc qb : LR} (hv : q0 k f i lo hi s t l e b qc = true) (QD : ∀ x ∈ qb, zA x = true) (hb : qaI qc) : isB (qb9 k f i lo hi s t l e b qc qb) := by
 obtain ⟨v1, v2, v3, v4, v5, v6, v7, v8, v9, v10, v11, v12, v13, v14⟩ := Ql hv
 obtain ⟨w1, w2, w3, w4, w5, w6, _⟩ := qdz v12
 obtain ⟨_, hris⟩ := qg3 hv
 have hs := (qaq _ _).1 v7
 rw [qhu]
 unfold hd3
 exact Z4 (by omega) (by omega) (qaH (qa2 v3 (by omega)) (qaH (qa2 v5 (by omega)) (Z4 (by omega) (by omega) (qaH (qgW (qa2 v8 (by omega))) (qaH (qgW (qa2 v10 (by omega))) (qaH (qgW (qa2 w1 (by omega))) (qaH (qgW (qa2 w3 (by omega))) (qaH (qgW (qa2 w5 (by omega))) (qaH (qgW (qa2 (by omega) (by omega))) (qjh (qiF QD b) qc (-1) v14 (by omega) hris hb))))))))))
theorem qni : ∀ (l : LR) (qi : Int), (∀ r ∈ l, zA r = true) → isB (ZW [] qi l) → qaI l
 | [], _, _, _ => by intro r hr; simp at hr
 | r :: l, qi, hr, h => by
  have hm := hr r (List.mem_cons_self ..)
  have f9 := (zH hm).2.2.2.2.2.2.2.2
  have h1 : isB (qdr (zF [] r.1) qi r) := fun c hc => h c (List.mem_append_left _ hc)
  have h2 : isB (ZW [] r.1 l) := fun c hc => h c (List.mem_append_right _ hc)
  intro x hx
  rcases List.mem_cons.1 hx with rfl | hx
  ·intro y hy c hc
   refine h1 c ?_
   unfold qdr
   have hcut : x.2.2.2.2.1 = false := by
    cases hq : x.2.2.2.2.1 with
    | false => rfl
    | true => rw [f9 hq] at hy; simp at hy
   have hsb : qcb (zF [] x.1) x = false := rfl
   simp only [hsb, hcut, Bool.or_self, Bool.false_eq_true, if_false]
   refine List.mem_append_right _ (List.mem_cons_of_mem _ (List.mem_append_right _ (List.mem_append_right _ (List.mem_append_right _ (List.mem_flatMap.2 ⟨y, hy, ?_⟩)))))
   exact List.mem_cons_of_mem _ (List.mem_append_right _ hc)
  ·exact qni l r.1 (fun z hz => hr z (List.mem_cons_of_mem _ hz)) h2 x hx
theorem qrr {k f i lo hi s t : Int} {qc : LR} (h : isB (qaj k f i lo hi s t qc)) : qaI qc := by
 intro r hr y hy c hc
 refine h c ?_
 unfold qaj
 refine List.mem_append_right _ (List.mem_append_right _ (List.mem_append_right _ (List.mem_append_right _ (List.mem_append_right _ (List.mem_append_right _ (List.mem_flatMap.2 ⟨r, hr, ?_⟩))))))
 unfold qee Qj
 refine List.mem_cons_of_mem _ (List.mem_cons_of_mem _ (List.mem_cons_of_mem _ ?_))
 unfold Za
 refine List.mem_append_right _ (List.mem_append_right _ (List.mem_append_right _ (List.mem_append_right _ (List.mem_flatMap.2 ⟨y, hy, ?_⟩))))
 exact List.mem_cons_of_mem _ (List.mem_cons_of_mem _ (List.mem_cons_of_mem _ hc))
theorem qot {gen : Int} {k f i lo hi s t l e b : Int} {qc : LR} {bs : List Int} (h : Qb gen k f i lo hi s t l e b qc [] = (bs, 0)) (hb : isB bs) : qaI qc := by
 revert h
 refine qdZ (gen := gen) (fun gen => Qb gen k f i lo hi s t l e b qc [] = (bs, 0) → qaI qc) ?_ ?_ ?_ ?_
 ·intro h
  rw [qgC] at h
  obtain ⟨hv, hf, _, _, _, _⟩ := qlG (by rw [h])
  rw [qd1] at hf
  have := (qel hf).2
  intro r hr x hx
  rw [(this r hr).2] at hx
  simp at hx
 ·intro h
  rw [qgB] at h
  obtain ⟨_, _, _, _, _, _, _, he⟩ := qlF (by rw [h])
  rw [he] at h
  have e : qaj k f i lo hi s t qc = bs := congrArg Prod.fst h
  exact qrr (by rw [e]; exact hb)
 ·intro h
  rw [qeD] at h
  obtain ⟨_, hv, _⟩ := qmg (qb := []) rfl (by rw [h])
  unfold qds at h
  rw [hv, show Qp [] = true from rfl] at h
  simp only [Bool.and_self, if_true] at h
  by_cases hl : (qb9 k f i lo hi s t l e b qc []).length > 65499
  ·rw [if_pos hl] at h; cases h
  ·rw [if_neg hl] at h
   have e : qb9 k f i lo hi s t l e b qc [] = bs := congrArg Prod.fst h
   rw [qhu, qqr] at e
   have hr : isB (ZW [] (-1) qc) := fun c hc => hb c (by
    rw [← e]
    unfold hd3
    exact List.mem_cons_of_mem _ (List.mem_append_right _ (List.mem_append_right _ (List.mem_cons_of_mem _ (List.mem_append_right _ (List.mem_append_right _ (List.mem_append_right _ (List.mem_append_right _ (List.mem_append_right _ (List.mem_append_right _ hc))))))))))
   exact qni qc (-1) (Ql hv).2.2.2.2.2.2.2.2.2.2.2.2.2 hr
 ·intro h1 h2 h3 h
  rw [qgD h1 h2 h3] at h
  cases h
theorem qqG {gen : Int} {k f i lo hi s t l e b : Int} {qc qb : LR} (h : (Qb gen k f i lo hi s t l e b qc qb).2 ≠ 0) : (Qb gen k f i lo hi s t l e b qc qb).1 = [] := by
 revert h
 refine qdZ (gen := gen) (fun gen => (Qb gen k f i lo hi s t l e b qc qb).2 ≠ 0 → (Qb gen k f i lo hi s t l e b qc qb).1 = []) ?_ ?_ ?_ ?_
 ·rw [qgC]
  unfold qen
  cases q0 k f i lo hi s t l e b qc <;> cases qbi k f i lo hi s t l e b qc <;> simp
 ·rw [qgB]
  unfold qeo
  cases q0 k f i lo hi s t l e b qc <;> cases qbG k f i lo hi s t l e b qc <;> simp
 ·rw [qeD]
  unfold qds
  split
  ·split
   ·intro _; rfl
   ·intro h; exact absurd rfl h
  ·intro _; rfl
 ·intro h1 h2 h3 _
  rw [qgD h1 h2 h3]
theorem qi2 {gen : Int} {k f i lo hi s t l e b : Int} {qc qb : LR} (QD : gen = 3 → Qp qb = true) (hb : qaI qc) : isB (Qb gen k f i lo hi s t l e b qc qb).1 ∧ (Qb gen k f i lo hi s t l e b qc qb).1.length ≤ 65499 := by
 by_cases h : (Qb gen k f i lo hi s t l e b qc qb).2 = 0
 ·obtain ⟨_, hv, hl, _⟩ := qg1 QD h
  refine ⟨?_, hl⟩
  have hv' := Ql hv
  revert h QD
  refine qdZ (gen := gen) (fun gen => (gen = 3 → Qp qb = true) → (Qb gen k f i lo hi s t l e b qc qb).2 = 0 → isB (Qb gen k f i lo hi s t l e b qc qb).1) ?_ ?_ ?_ ?_
  ·intro _ h
   rw [qgC] at h ⊢
   obtain ⟨_, _, _, _, _, he⟩ := qlG h
   rw [he]
   exact ((QY _).1 (qk4 k f i lo hi s t qc hv'.2.2.2.2.2.2.2.2.2.2.2.2.1)).2
  ·intro _ h
   rw [qgB] at h ⊢
   obtain ⟨_, _, _, _, _, _, _, he⟩ := qlF h
   rw [he]
   exact qnT hv'.2.2.2.2.2.2.2.2.2.2.2.2.2 hb
  ·intro hs h
   rw [qeD] at h ⊢
   unfold qds at h ⊢
   rw [hv, hs rfl] at h ⊢
   simp only [Bool.and_self, if_true] at h ⊢
   split
   ·exact qaB
   ·exact qnR hv (qbr (hs rfl)).1 hb
  ·intro h1 h2 h3 _ _
   rw [qgD h1 h2 h3]
   exact qaB
 ·rw [qqG h]
  exact ⟨qaB, by simp⟩
def qcD : Env := ⟨th, gam [(22, Q3), (38, qbf), (39, qco), (40, qaK), (41, qah), (42, qfv)], fun i => if i = 4 then ⟨[1, 3], [], [777777]⟩ else if i = 6 then ⟨[1, 3], [], [777777]⟩ else if i = 8 then ⟨[1, 3], [], [777777]⟩ else if i = 10 then ⟨[3], [], [777777]⟩ else ⟨[], [], []⟩⟩
def qJ.k (rs : List AV) (os : List Den.Obj) : Option ByteArray :=
 match rs, os with
 | [.d .str r0], [] => some r0
 | _, _ => none
def qJ.s10 (qj qs qH qe qf qG qg qr ql qq : Int) (qh : LR) (x14 : (List ByteArray)) : St := ⟨[dD, dD, dD, .row 64, dD, dD, dD, dD, dD, dD, dD, dD, dD, dD, dD, dD, dD, dD, dD, dD, dD, dD, dD, dD, dD, dD, dD, dD, dD, dD, dD, dD, dD, dD, dD, dD, dD, dD, dD, dD, dD, dD, dD, dD, dD, dD, dD, dD, dD, dD, dD, dD, dD, dD, dD, dD, dD, dD, dD, .dead], ofL [(64, .row 9 .str x14 false)], 0⟩
def qJ.p10 (qa : Nat) (qj qs qH qe qf qG qg qr ql qq : Int) (qh : LR) (k : Nat) := fun x14 => lp qcD qa Tryz.f23 [.raw] 0 qJ.k 10 [] k (qJ.s10 qj qs qH qe qf qG qg qr ql qq qh x14)
def qJ.b10 (qj qs qH qe qf qG qg qr ql qq : Int) (qh : LR) (A10 : (List ByteArray) → Option ByteArray) (x14 : (List ByteArray)) : Option ByteArray :=
 (if (joinFits x14 (⟨((32 :: ([] : List UInt8))).toArray⟩ : ByteArray)) then some ((joinB x14 (⟨((32 :: ([] : List UInt8))).toArray⟩ : ByteArray))) else none)
def qJ.l10 (qa : Nat) (qj qs qH qe qf qG qg qr ql qq : Int) (qh : LR) : Nat → (List ByteArray) → Option ByteArray
 | 0, _ => none
 | k + 1, x14 => qJ.b10 qj qs qH qe qf qG qg qr ql qq qh (qJ.l10 qa qj qs qH qe qf qG qg qr ql qq qh k) x14
def qJ.s8 (qj qs qH qe qf qG qg qr ql qq : Int) (qh : LR) (x12 : (List ByteArray)) : St := ⟨[.dead, .ptr 64 0, .dead, .row 65, dD, dD, dD, dD, dD, dD, dD, dD, dD, dD, dD, dD, dD, dD, dD, dD, dD, dD, dD, dD, dD, dD, dD, dD, dD, dD, dD, dD, dD, dD, dD, dD, dD, dD, dD, dD, dD, dD, dD, dD, dD, dD, dD, dD, dD, dD, dD, dD, dD, dD, dD, dD, dD, dD, dD, .dead], ofL [(64, .box [.d tQi (qj), .d tQi (qs), .d tQi (qH), .d tQi (qe), .d tQi (qf), .d tQi (qG), .d tQi (qg), .d tQi (qr), .d tQi (ql), .d tQi (qq), .d (.sl tQr) (qh)]), (65, .row 9 .str x12 false)], 0⟩
def qJ.p8 (qa : Nat) (qj qs qH qe qf qG qg qr ql qq : Int) (qh : LR) (k : Nat) := fun x12 => lp qcD qa Tryz.f23 [.raw] 0 qJ.k 8 [] k (qJ.s8 qj qs qH qe qf qG qg qr ql qq qh x12)
def qJ.b8 (qj qs qH qe qf qG qg qr ql qq : Int) (qh : LR) (A8 : (List ByteArray) → Option ByteArray) (E10 : (List ByteArray) → Option ByteArray) (x12 : (List ByteArray)) : Option ByteArray :=
 (if (qy qj (3 : Int)) then (match (veil (zl.f BIG qq)) with | none => none | some y13 => (if ((((List.length x12) + (List.length ((⟨((98 :: (97 :: (115 :: (101 :: ([] : List UInt8)))))).toArray⟩ : ByteArray) :: (y13 :: ([] : List ByteArray))))) * (16 : Nat)) ≤ lim) then E10 (x12 ++ ((⟨((98 :: (97 :: (115 :: (101 :: ([] : List UInt8)))))).toArray⟩ : ByteArray) :: (y13 :: ([] : List ByteArray)))) else none)) else E10 x12)
def qJ.l8 (qa : Nat) (qj qs qH qe qf qG qg qr ql qq : Int) (qh : LR) : Nat → (List ByteArray) → Option ByteArray
 | 0, _ => none
 | k + 1, x12 => qJ.b8 qj qs qH qe qf qG qg qr ql qq qh (qJ.l8 qa qj qs qH qe qf qG qg qr ql qq qh k) (qJ.l10 qa qj qs qH qe qf qG qg qr ql qq qh qa) x12
def qJ.s6 (qj qs qH qe qf qG qg qr ql qq : Int) (qh : LR) (x9 : (List ByteArray)) : St := ⟨[.dead, .ptr 64 0, .dead, .row 65, dD, dD, dD, dD, dD, dD, dD, dD, dD, dD, dD, dD, dD, dD, dD, dD, dD, dD, dD, dD, dD, dD, dD, dD, dD, dD, dD, dD, dD, dD, dD, dD, dD, dD, dD, dD, dD, dD, dD, dD, dD, dD, dD, dD, dD, dD, dD, dD, dD, dD, dD, dD, dD, dD, dD, .dead], ofL [(64, .box [.d tQi (qj), .d tQi (qs), .d tQi (qH), .d tQi (qe), .d tQi (qf), .d tQi (qG), .d tQi (qg), .d tQi (qr), .d tQi (ql), .d tQi (qq), .d (.sl tQr) (qh)]), (65, .row 9 .str x9 false)], 0⟩
def qJ.p6 (qa : Nat) (qj qs qH qe qf qG qg qr ql qq : Int) (qh : LR) (k : Nat) := fun x9 => lp qcD qa Tryz.f23 [.raw] 0 qJ.k 6 [] k (qJ.s6 qj qs qH qe qf qG qg qr ql qq qh x9)
def qJ.b6 (qj qs qH qe qf qG qg qr ql qq : Int) (qh : LR) (A6 : (List ByteArray) → Option ByteArray) (E8 : (List ByteArray) → Option ByteArray) (x9 : (List ByteArray)) : Option ByteArray :=
 (if (qy qj (2 : Int)) then (match (veil (zl.f BIG qr)) with | none => none | some y10 => (match (veil (zl.f BIG ql)) with | none => none | some y11 => (if ((((List.length x9) + (List.length ((⟨((108 :: (105 :: (102 :: (101 :: ([] : List UInt8)))))).toArray⟩ : ByteArray) :: (y10 :: ((⟨((101 :: (112 :: (111 :: (99 :: (104 :: ([] : List UInt8))))))).toArray⟩ : ByteArray) :: (y11 :: ([] : List ByteArray))))))) * (16 : Nat)) ≤ lim) then E8 (x9 ++ ((⟨((108 :: (105 :: (102 :: (101 :: ([] : List UInt8)))))).toArray⟩ : ByteArray) :: (y10 :: ((⟨((101 :: (112 :: (111 :: (99 :: (104 :: ([] : List UInt8))))))).toArray⟩ : ByteArray) :: (y11 :: ([] : List ByteArray)))))) else none))) else E8 x9)
def qJ.l6 (qa : Nat) (qj qs qH qe qf qG qg qr ql qq : Int) (qh : LR) : Nat → (List ByteArray) → Option ByteArray
 | 0, _ => none
 | k + 1, x9 => qJ.b6 qj qs qH qe qf qG qg qr ql qq qh (qJ.l6 qa qj qs qH qe qf qG qg qr ql qq qh k) (qJ.l8 qa qj qs qH qe qf qG qg qr ql qq qh qa) x9
def qJ.s4 (qj qs qH qe qf qG qg qr ql qq : Int) (qh : LR) (x7 : (List ByteArray)) : St := ⟨[.dead, .ptr 64 0, .dead, .row 65, dD, dD, dD, dD, dD, dD, dD, dD, dD, dD, dD, dD, dD, dD, dD, dD, dD, dD, dD, dD, dD, dD, dD, dD, dD, dD, dD, dD, dD, dD, dD, dD, dD, dD, dD, dD, dD, dD, dD, dD, dD, dD, dD, dD, dD, dD, dD, dD, dD, dD, dD, dD, dD, dD, dD, .dead], ofL [(64, .box [.d tQi (qj), .d tQi (qs), .d tQi (qH), .d tQi (qe), .d tQi (qf), .d tQi (qG), .d tQi (qg), .d tQi (qr), .d tQi (ql), .d tQi (qq), .d (.sl tQr) (qh)]), (65, .row 9 .str x7 false)], 0⟩
def qJ.p4 (qa : Nat) (qj qs qH qe qf qG qg qr ql qq : Int) (qh : LR) (k : Nat) := fun x7 => lp qcD qa Tryz.f23 [.raw] 0 qJ.k 4 [] k (qJ.s4 qj qs qH qe qf qG qg qr ql qq qh x7)
def qJ.b4 (qj qs qH qe qf qG qg qr ql qq : Int) (qh : LR) (A4 : (List ByteArray) → Option ByteArray) (E6 : (List ByteArray) → Option ByteArray) (x7 : (List ByteArray)) : Option ByteArray :=
 (if (qy qj (1 : Int)) then (match (veil (zl.f BIG qg)) with | none => none | some y8 => (if ((((List.length x7) + (List.length ((⟨((116 :: (97 :: (114 :: (103 :: (101 :: (116 :: ([] : List UInt8)))))))).toArray⟩ : ByteArray) :: (y8 :: ([] : List ByteArray))))) * (16 : Nat)) ≤ lim) then E6 (x7 ++ ((⟨((116 :: (97 :: (114 :: (103 :: (101 :: (116 :: ([] : List UInt8)))))))).toArray⟩ : ByteArray) :: (y8 :: ([] : List ByteArray)))) else none)) else E6 x7)
def qJ.l4 (qa : Nat) (qj qs qH qe qf qG qg qr ql qq : Int) (qh : LR) : Nat → (List ByteArray) → Option ByteArray
 | 0, _ => none
 | k + 1, x7 => qJ.b4 qj qs qH qe qf qG qg qr ql qq qh (qJ.l4 qa qj qs qH qe qf qG qg qr ql qq qh k) (qJ.l6 qa qj qs qH qe qf qG qg qr ql qq qh qa) x7
def qJ.b (qj qs qH qe qf qG qg qr ql qq : Int) (qh : LR) (E4 : (List ByteArray) → Option ByteArray) : Option ByteArray :=
 (match (veil (qbb.f BIG qj)) with | none => none | some y0 => (match (veil (Qu.f BIG y0)) with | none => none | some y1 => (match (veil (zl.f BIG qs)) with | none => none | some y2 => (match (veil (zl.f BIG qH)) with | none => none | some y3 => (match (veil (Zd.f BIG qe qf)) with | none => none | some y4 => (match (veil (Qu.f BIG y4)) with | none => none | some y5 => (if (qy qj (0 : Int)) then (match (veil (zl.f BIG qG)) with | none => none | some y6 => E4 ((y1 :: ((⟨((102 :: (114 :: (111 :: (109 :: ([] : List UInt8)))))).toArray⟩ : ByteArray) :: (y2 :: ((⟨((105 :: (110 :: (99 :: ([] : List UInt8))))).toArray⟩ : ByteArray) :: (y3 :: ((⟨((115 :: (112 :: (97 :: (110 :: ([] : List UInt8)))))).toArray⟩ : ByteArray) :: (y5 :: ([] : List ByteArray)))))))) ++ ((⟨((115 :: (101 :: (113 :: ([] : List UInt8))))).toArray⟩ : ByteArray) :: (y6 :: ([] : List ByteArray))))) else E4 (y1 :: ((⟨((102 :: (114 :: (111 :: (109 :: ([] : List UInt8)))))).toArray⟩ : ByteArray) :: (y2 :: ((⟨((105 :: (110 :: (99 :: ([] : List UInt8))))).toArray⟩ : ByteArray) :: (y3 :: ((⟨((115 :: (112 :: (97 :: (110 :: ([] : List UInt8)))))).toArray⟩ : ByteArray) :: (y5 :: ([] : List ByteArray)))))))))))))))
def qJ.f (qa : Nat) (qj qs qH qe qf qG qg qr ql qq : Int) (qh : LR) : Option ByteArray := qJ.b qj qs qH qe qf qG qg qr ql qq qh (qJ.l4 qa qj qs qH qe qf qG qg qr ql qq qh qa)
theorem qJ.l10_eq (qa : Nat) (qj qs qH qe qf qG qg qr ql qq : Int) (qh : LR) : ∀ k : Nat, qJ.p10 qa qj qs qH qe qf qG qg qr ql qq qh k = qJ.l10 qa qj qs qH qe qf qG qg qr ql qq qh k
 | 0 => by kernel_rfl
 | k + 1 => by
  refine Eq.trans (b := qJ.b10 qj qs qH qe qf qG qg qr ql qq qh (qJ.p10 qa qj qs qH qe qf qG qg qr ql qq qh k)) (by kernel_rfl) ?_
  rw [qJ.l10_eq qa qj qs qH qe qf qG qg qr ql qq qh k]
  kernel_rfl
theorem qJ.l8_eq (qa : Nat) (qj qs qH qe qf qG qg qr ql qq : Int) (qh : LR) : ∀ k : Nat, qJ.p8 qa qj qs qH qe qf qG qg qr ql qq qh k = qJ.l8 qa qj qs qH qe qf qG qg qr ql qq qh k
 | 0 => by kernel_rfl
 | k + 1 => by
  refine Eq.trans (b := qJ.b8 qj qs qH qe qf qG qg qr ql qq qh (qJ.p8 qa qj qs qH qe qf qG qg qr ql qq qh k) (qJ.p10 qa qj qs qH qe qf qG qg qr ql qq qh qa)) (by kernel_rfl) ?_
  rw [qJ.l8_eq qa qj qs qH qe qf qG qg qr ql qq qh k, qJ.l10_eq qa qj qs qH qe qf qG qg qr ql qq qh qa]
  kernel_rfl
theorem qJ.l6_eq (qa : Nat) (qj qs qH qe qf qG qg qr ql qq : Int) (qh : LR) : ∀ k : Nat, qJ.p6 qa qj qs qH qe qf qG qg qr ql qq qh k = qJ.l6 qa qj qs qH qe qf qG qg qr ql qq qh k
 | 0 => by kernel_rfl
 | k + 1 => by
  refine Eq.trans (b := qJ.b6 qj qs qH qe qf qG qg qr ql qq qh (qJ.p6 qa qj qs qH qe qf qG qg qr ql qq qh k) (qJ.p8 qa qj qs qH qe qf qG qg qr ql qq qh qa)) (by kernel_rfl) ?_
  rw [qJ.l6_eq qa qj qs qH qe qf qG qg qr ql qq qh k, qJ.l8_eq qa qj qs qH qe qf qG qg qr ql qq qh qa]
  kernel_rfl
theorem qJ.l4_eq (qa : Nat) (qj qs qH qe qf qG qg qr ql qq : Int) (qh : LR) : ∀ k : Nat, qJ.p4 qa qj qs qH qe qf qG qg qr ql qq qh k = qJ.l4 qa qj qs qH qe qf qG qg qr ql qq qh k
 | 0 => by kernel_rfl
 | k + 1 => by
  refine Eq.trans (b := qJ.b4 qj qs qH qe qf qG qg qr ql qq qh (qJ.p4 qa qj qs qH qe qf qG qg qr ql qq qh k) (qJ.p6 qa qj qs qH qe qf qG qg qr ql qq qh qa)) (by kernel_rfl) ?_
  rw [qJ.l4_eq qa qj qs qH qe qf qG qg qr ql qq qh k, qJ.l6_eq qa qj qs qH qe qf qG qg qr ql qq qh qa]
  kernel_rfl
theorem qJ.eq (qa : Nat) (qj qs qH qe qf qG qg qr ql qq : Int) (qh : LR) : (denF qcD loopN qa Tryz.f23 [.raw] [.agg [.d tQi qj, .d tQi qs, .d tQi qH, .d tQi qe, .d tQi qf, .d tQi qG, .d tQi qg, .d tQi qr, .d tQi ql, .d tQi qq, .d (.sl tQr) qh]] [] qJ.k) = qJ.f qa qj qs qH qe qf qG qg qr ql qq qh := by
 refine Eq.trans (b := qJ.b qj qs qH qe qf qG qg qr ql qq qh (qJ.p4 qa qj qs qH qe qf qG qg qr ql qq qh qa)) (by kernel_rfl) ?_
 rw [qJ.l4_eq qa qj qs qH qe qf qG qg qr ql qq qh qa]
 kernel_rfl
theorem qJ.l10_at (qa nN kK : Nat) (hN : nN = kK + 1) (qj : Int) (qs : Int) (qH : Int) (qe : Int) (qf : Int) (qG : Int) (qg : Int) (qr : Int) (ql : Int) (qq : Int) (qh : LR) (x14 : (List ByteArray)) : qJ.l10 qa qj qs qH qe qf qG qg qr ql qq qh nN x14 = qJ.b10 qj qs qH qe qf qG qg qr ql qq qh (qJ.l10 qa qj qs qH qe qf qG qg qr ql qq qh kK) x14 := by
 subst hN
 rfl
theorem qJ.l8_at (qa nN kK : Nat) (hN : nN = kK + 1) (qj : Int) (qs : Int) (qH : Int) (qe : Int) (qf : Int) (qG : Int) (qg : Int) (qr : Int) (ql : Int) (qq : Int) (qh : LR) (x12 : (List ByteArray)) : qJ.l8 qa qj qs qH qe qf qG qg qr ql qq qh nN x12 = qJ.b8 qj qs qH qe qf qG qg qr ql qq qh (qJ.l8 qa qj qs qH qe qf qG qg qr ql qq qh kK) (qJ.l10 qa qj qs qH qe qf qG qg qr ql qq qh qa) x12 := by
 subst hN
 rfl
theorem qJ.l6_at (qa nN kK : Nat) (hN : nN = kK + 1) (qj : Int) (qs : Int) (qH : Int) (qe : Int) (qf : Int) (qG : Int) (qg : Int) (qr : Int) (ql : Int) (qq : Int) (qh : LR) (x9 : (List ByteArray)) : qJ.l6 qa qj qs qH qe qf qG qg qr ql qq qh nN x9 = qJ.b6 qj qs qH qe qf qG qg qr ql qq qh (qJ.l6 qa qj qs qH qe qf qG qg qr ql qq qh kK) (qJ.l8 qa qj qs qH qe qf qG qg qr ql qq qh qa) x9 := by
 subst hN
 rfl
theorem qJ.l4_at (qa nN kK : Nat) (hN : nN = kK + 1) (qj : Int) (qs : Int) (qH : Int) (qe : Int) (qf : Int) (qG : Int) (qg : Int) (qr : Int) (ql : Int) (qq : Int) (qh : LR) (x7 : (List ByteArray)) : qJ.l4 qa qj qs qH qe qf qG qg qr ql qq qh nN x7 = qJ.b4 qj qs qH qe qf qG qg qr ql qq qh (qJ.l4 qa qj qs qH qe qf qG qg qr ql qq qh kK) (qJ.l6 qa qj qs qH qe qf qG qg qr ql qq qh qa) x7 := by
 subst hN
 rfl
def qaN : Den.Sum := ⟨[.dat (.pair tQi (.pair tQi (.pair tQi (.pair (.pair tQi tQi) (.pair tQi (.pair tQi (.pair tQi (.pair tQi (.pair tQi (.sl tQr)))))))))) true], fun qK qn κ => match qK, qn with
 | [.agg [.d (.int .i64) qj, .d (.int .i64) qs, .d (.int .i64) qH, .d (.int .i64) qe, .d (.int .i64) qf, .d (.int .i64) qG, .d (.int .i64) qg, .d (.int .i64) qr, .d (.int .i64) ql, .d (.int .i64) qq, .d (.sl (.pair (.int .i64) (.pair (.int .i64) (.pair (.int .i64) (.pair (.pair (.int .i64) (.int .i64)) (.pair .bool (.sl (.pair (.int .i64) (.sl (.int .u8)))))))))) qh]], [] => (match veil (qJ.f BIG qj qs qH qe qf qG qg qr ql qq qh) with | none => none | some y => κ [.d .str y] [])
 | _, _ => none⟩
theorem qf7 : SumDet qaN := zj fun _ _ _ _ => by
 unfold qaN
 simp only [veil_eq]
 split
 ·split <;> rfl
 ·rfl
theorem qgO : SumOk Tryz.prog 23 qaN := by
 have hE : EnvOk Tryz.prog qcD := env_ok (l := [(22, Q3), (38, qbf), (39, qco), (40, qaK), (41, qah), (42, qfv)]) th_ok qZ ⟨⟨qcd, qbQ⟩, ⟨qhN, qgM⟩, ⟨qmq, qlp⟩, ⟨qgJ, qf2⟩, ⟨qb0, qbl⟩, ⟨qkq, qjb⟩, trivial⟩ _
 refine sum_ok hE Tryz.func23 rfl (by kernel_rfl) qaN [.raw] qJ.k ?_
 intro R avs qn κ r h
 unfold qaN at h
 simp only [veil_eq] at h
 split at h
 ·rename_i qj qs qH qe qf qG qg qr ql qq qh
  split at h
  ·cases h
  ·rename_i y hy
   refine ⟨BIG, _, _, _, (qJ.eq BIG qj qs qH qe qf qG qg qr ql qq qh).trans hy, ?_, h⟩
   intro rs ros hk
   unfold qJ.k at hk
   split at hk
   ·rw [← sj hk]; exact ⟨rfl, rfl⟩
   ·cases hk
 ·cases h
def qfd : Env := ⟨th, gam [(22, Q3)], fun i => if i = 3 then ⟨[3, 12, 13, 14], [], []⟩ else ⟨[], [], []⟩⟩
def zo.k (rs : List AV) (os : List Den.Obj) : Option ByteArray :=
 match rs, os with
 | [.d .str r0], [] => some r0
 | _, _ => none
def zo.s3 (Zw : Int) (Qk : List Int) (x1 x2 : Int) (x3 : (List Int)) : St := ⟨[dD, dD, dD, .row 64, dD, dD, dD, dD, dD, dD, dD, dD, .d (.sl (.int .u8)) (Qk), .d tQi x1, .d tQi x2, dD, dD, dD, dD, dD, dD, dD, dD, dD, dD, dD, dD, dD, dD, .dead], ofL [(64, .row 5 (.int .u8) x3 false)], 0⟩
def zo.p3 (qa : Nat) (Zw : Int) (Qk : List Int) (k : Nat) := fun x1 x2 x3 => lp qfd qa Tryz.f44 [.raw] 0 zo.k 3 [] k (zo.s3 Zw Qk x1 x2 x3)
def zo.b3 (Zw : Int) (Qk : List Int) (A3 : Int → Int → (List Int) → Option ByteArray) (x1 : Int) (x2 : Int) (x3 : (List Int)) : Option ByteArray :=
 (if (decide (x2 < x1)) then (match (idx Qk x2) with | none => none | some y4 => (match (idx (Array.toList (ByteArray.data (⟨((48 :: (49 :: (50 :: (51 :: (52 :: (53 :: (54 :: (55 :: (56 :: (57 :: (97 :: (98 :: (99 :: (100 :: (101 :: (102 :: ([] : List UInt8)))))))))))))))))).toArray⟩ : ByteArray))) (Int.fdiv y4 ((2 : Int) ^ (Min.min (Int.toNat (4 : Int)) (IntKind.bits .u8))))) with | none => none | some y5 => (match (idx (Array.toList (ByteArray.data (⟨((48 :: (49 :: (50 :: (51 :: (52 :: (53 :: (54 :: (55 :: (56 :: (57 :: (97 :: (98 :: (99 :: (100 :: (101 :: (102 :: ([] : List UInt8)))))))))))))))))).toArray⟩ : ByteArray))) (bits BinOp.and .u8 y4 (15 : Int))) with | none => none | some y6 => (if ((((List.length x3) + (List.length (((((UInt8.toNat y5)) : Nat) : Int) :: (((((UInt8.toNat y6)) : Nat) : Int) :: ([] : List Int))))) * (1 : Nat)) ≤ lim) then A3 x1 (IntKind.wrap .i64 (x2 + (1 : Int))) (x3 ++ (((((UInt8.toNat y5)) : Nat) : Int) :: (((((UInt8.toNat y6)) : Nat) : Int) :: ([] : List Int)))) else none)))) else some ((strOf x3)))
def zo.l3 (qa : Nat) (Zw : Int) (Qk : List Int) : Nat → Int → Int → (List Int) → Option ByteArray
 | 0, _, _, _ => none
 | k + 1, x1, x2, x3 => zo.b3 Zw Qk (zo.l3 qa Zw Qk k) x1 x2 x3
def zo.b (Zw : Int) (Qk : List Int) (E3 : Int → Int → (List Int) → Option ByteArray) : Option ByteArray :=
 (match (veil (zl.f BIG Zw)) with | none => none | some y0 => (if (((ByteArray.size y0) + (ByteArray.size (⟨((58 :: ([] : List UInt8))).toArray⟩ : ByteArray))) ≤ (1099511627776 : Nat)) then (if ((ByteArray.size (y0 ++ (⟨((58 :: ([] : List UInt8))).toArray⟩ : ByteArray))) ≤ lim) then E3 ((((List.length Qk)) : Nat) : Int) (0 : Int) (bytesOf (y0 ++ (⟨((58 :: ([] : List UInt8))).toArray⟩ : ByteArray))) else none) else none))
def zo.f (qa : Nat) (Zw : Int) (Qk : List Int) : Option ByteArray := zo.b Zw Qk (zo.l3 qa Zw Qk qa)
theorem zo.l3_eq (qa : Nat) (Zw : Int) (Qk : List Int) : ∀ k : Nat, zo.p3 qa Zw Qk k = zo.l3 qa Zw Qk k
 | 0 => by kernel_rfl
 | k + 1 => by
  refine Eq.trans (b := zo.b3 Zw Qk (zo.p3 qa Zw Qk k)) (by kernel_rfl) ?_
  rw [zo.l3_eq qa Zw Qk k]
  kernel_rfl
theorem zo.eq (qa : Nat) (Zw : Int) (Qk : List Int) : (denF qfd loopN qa Tryz.f44 [.raw] [.agg [.d tQi Zw, .d (.sl (.int .u8)) Qk]] [] zo.k) = zo.f qa Zw Qk := by
 refine Eq.trans (b := zo.b Zw Qk (zo.p3 qa Zw Qk qa)) (by kernel_rfl) ?_
 rw [zo.l3_eq qa Zw Qk qa]
 kernel_rfl
def qa9 : Den.Sum := ⟨[.dat (.pair tQi (.sl (.int .u8))) true], fun qK qn κ => match qK, qn with
 | [.agg [.d (.int .i64) Zw, .d (.sl (.int .u8)) Qk]], [] => (match veil (zo.f BIG Zw Qk) with | none => none | some y => κ [.d .str y] [])
 | _, _ => none⟩
theorem qiZ : SumDet qa9 := zj fun _ _ _ _ => by
 unfold qa9
 simp only [veil_eq]
 split
 ·split <;> rfl
 ·rfl
theorem qjG : SumOk Tryz.prog 44 qa9 := by
 have hE : EnvOk Tryz.prog qfd := env_ok (l := [(22, Q3)]) th_ok qZ ⟨⟨qcd, qbQ⟩, trivial⟩ _
 refine sum_ok hE Tryz.func44 rfl (by kernel_rfl) qa9 [.raw] zo.k ?_
 intro R avs qn κ r h
 unfold qa9 at h
 simp only [veil_eq] at h
 split at h
 ·rename_i Zw Qk
  split at h
  ·cases h
  ·rename_i y hy
   refine ⟨BIG, _, _, _, (zo.eq BIG Zw Qk).trans hy, ?_, h⟩
   intro rs ros hk
   unfold zo.k at hk
   split at hk
   ·rw [← sj hk]; exact ⟨rfl, rfl⟩
   ·cases hk
 ·cases h
def qjl : Env := ⟨th, gam [(69, qa8)], fun i => ⟨[], [], []⟩⟩
def ZE.k (rs : List AV) (os : List Den.Obj) : Option ByteArray :=
 match rs, os with
 | [.d .str r0], [] => some r0
 | _, _ => none
def ZE.b (e : Int) : Option ByteArray :=
 (match (veil (Zb.f BIG ())) with | none => none | some y0 => (if (decide (e < (0 : Int))) then some ((⟨((63 :: ([] : List UInt8))).toArray⟩ : ByteArray)) else (if (decide (e ≥ (18 : Int))) then some ((⟨((63 :: ([] : List UInt8))).toArray⟩ : ByteArray)) else (match (idx y0 e) with | none => none | some y1 => (match (idx y0 e) with | none => none | some y2 => some (y2))))))
def ZE.f (qa : Nat) (e : Int) : Option ByteArray := ZE.b e
theorem ZE.eq (qa : Nat) (e : Int) : (denF qjl loopN qa Tryz.f45 [.raw] [.d tQi e] [] ZE.k) = ZE.f qa e := by
 kernel_rfl
def qaO : Den.Sum := ⟨[.raw], fun qK qn κ => match qK, qn with
 | [.d (.int .i64) e], [] => (match veil (ZE.f BIG e) with | none => none | some y => κ [.d .str y] [])
 | _, _ => none⟩
theorem qf8 : SumDet qaO := zj fun _ _ _ _ => by
 unfold qaO
 simp only [veil_eq]
 split
 ·split <;> rfl
 ·rfl
theorem qgP : SumOk Tryz.prog 45 qaO := by
 have hE : EnvOk Tryz.prog qjl := env_ok (l := [(69, qa8)]) th_ok qZ ⟨⟨qjF, qiY⟩, trivial⟩ _
 refine sum_ok hE Tryz.func45 rfl (by kernel_rfl) qaO [.raw] ZE.k ?_
 intro R avs qn κ r h
 unfold qaO at h
 simp only [veil_eq] at h
 split at h
 ·rename_i e
  split at h
  ·cases h
  ·rename_i y hy
   refine ⟨BIG, _, _, _, (ZE.eq BIG e).trans hy, ?_, h⟩
   intro rs ros hk
   unfold ZE.k at hk
   split at hk
   ·rw [← sj hk]; exact ⟨rfl, rfl⟩
   ·cases hk
 ·cases h
theorem qnx (bs : ByteArray) : ∀ (m i : Nat) (r : List UInt8), i + m = bs.size → ByteArray.toList.loop bs i r = r.reverse ++ bs.data.toList.drop i := by
 intro m
 induction m with
 | zero =>
  intro i r h
  rw [ByteArray.toList.loop, if_neg (by omega), List.drop_of_length_le (by simp; omega), List.append_nil]
 | succ m ih =>
  intro i r h
  have hlt : i < bs.data.toList.length := by simp; omega
  rw [ByteArray.toList.loop, if_pos (by omega), ih (i + 1) _ (by omega), List.drop_eq_getElem_cons hlt]
  have e : bs.get! i = bs.data.toList[i] := by
   have h2 : i < bs.data.size := by simpa using hlt
   simp only [ByteArray.get!, Array.getElem_toList]
   exact getElem!_pos bs.data i h2
  rw [e]
  simp
theorem qbk (bs : ByteArray) : bs.toList = bs.data.toList := by
 unfold ByteArray.toList
 rw [qnx bs bs.size 0 [] (by omega)]
 simp
def qip (d : Int) : Int := if d < 10 then 48 + d else 87 + d
def qjR (l : List Int) : List Int := l.flatMap fun c => [qip (c / 16), qip (c % 16)]
abbrev qmD : ByteArray := ⟨((58 :: ([] : List UInt8))).toArray⟩
abbrev qbT : ByteArray := ⟨((32 :: ([] : List UInt8))).toArray⟩
def qfV (x : Int × List Int) : ByteArray := strOf (bytesOf (ZG x.1 ++ qmD) ++ qjR x.2)
theorem qcE (s : ByteArray) : (bytesOf s).length = s.size := by simp [bytesOf]
theorem Qv (a b : ByteArray) : (a ++ b).size = a.size + b.size := ByteArray.size_append
theorem qm7 : ∀ l : List Int, (qjR l).length = 2 * l.length
 | [] => rfl
 | c :: l => by
  have := qm7 l
  unfold qjR at this ⊢
  simp only [List.flatMap_cons, List.length_append, List.length_cons, List.length_nil]
  omega
theorem qnQ (x : Int × List Int) : (qfV x).size ≤ 21 + 2 * x.2.length := by
 have := Z7 x.1
 unfold qfV
 rw [qfl, List.length_append, qcE, Qv, qm7]
 have : qmD.size = 1 := rfl
 omega
theorem qrY : (List.range 256).all (fun n => match idx (Array.toList (ByteArray.data (⟨((48 :: (49 :: (50 :: (51 :: (52 :: (53 :: (54 :: (55 :: (56 :: (57 :: (97 :: (98 :: (99 :: (100 :: (101 :: (102 :: ([] : List UInt8)))))))))))))))))).toArray⟩ : ByteArray))) (Int.fdiv (n : Int) ((2 : Int) ^ (Min.min (Int.toNat (4 : Int)) (IntKind.bits .u8)))), idx (Array.toList (ByteArray.data (⟨((48 :: (49 :: (50 :: (51 :: (52 :: (53 :: (54 :: (55 :: (56 :: (57 :: (97 :: (98 :: (99 :: (100 :: (101 :: (102 :: ([] : List UInt8)))))))))))))))))).toArray⟩ : ByteArray))) (bits BinOp.and .u8 (n : Int) (15 : Int)) with
  | some a, some b => ((a.toNat : Int) == qip ((n : Int) / 16)) && ((b.toNat : Int) == qip ((n : Int) % 16))
  | _, _ => false) = true := by kernel_rfl
theorem qsf (c : Int) (h0 : 0 ≤ c) (h1 : c ≤ 255) : ∃ a b : UInt8, idx (Array.toList (ByteArray.data (⟨((48 :: (49 :: (50 :: (51 :: (52 :: (53 :: (54 :: (55 :: (56 :: (57 :: (97 :: (98 :: (99 :: (100 :: (101 :: (102 :: ([] : List UInt8)))))))))))))))))).toArray⟩ : ByteArray))) (Int.fdiv c ((2 : Int) ^ (Min.min (Int.toNat (4 : Int)) (IntKind.bits .u8)))) = some a ∧ idx (Array.toList (ByteArray.data (⟨((48 :: (49 :: (50 :: (51 :: (52 :: (53 :: (54 :: (55 :: (56 :: (57 :: (97 :: (98 :: (99 :: (100 :: (101 :: (102 :: ([] : List UInt8)))))))))))))))))).toArray⟩ : ByteArray))) (bits BinOp.and .u8 c (15 : Int)) = some b ∧ (a.toNat : Int) = qip (c / 16) ∧ (b.toNat : Int) = qip (c % 16) := by
 have := List.all_eq_true.1 qrY c.toNat (by simp; omega)
 rw [show ((c.toNat : Nat) : Int) = c from by omega] at this
 revert this
 cases idx (Array.toList (ByteArray.data (⟨((48 :: (49 :: (50 :: (51 :: (52 :: (53 :: (54 :: (55 :: (56 :: (57 :: (97 :: (98 :: (99 :: (100 :: (101 :: (102 :: ([] : List UInt8)))))))))))))))))).toArray⟩ : ByteArray))) (Int.fdiv c ((2 : Int) ^ (Min.min (Int.toNat (4 : Int)) (IntKind.bits .u8)))) with
 | none => intro h; cases h
 | some a =>
  cases idx (Array.toList (ByteArray.data (⟨((48 :: (49 :: (50 :: (51 :: (52 :: (53 :: (54 :: (55 :: (56 :: (57 :: (97 :: (98 :: (99 :: (100 :: (101 :: (102 :: ([] : List UInt8)))))))))))))))))).toArray⟩ : ByteArray))) (bits BinOp.and .u8 c (15 : Int)) with
  | none => intro h; cases h
  | some b =>
   intro h
   simp only [Bool.and_eq_true, beq_iff_eq] at h
   exact ⟨a, b, rfl, rfl, h.1, h.2⟩
theorem qqc (l : List Int) (i : Nat) (h : i < l.length) : qjR (l.drop i) = [qip (l[i] / 16), qip (l[i] % 16)] ++ qjR (l.drop (i + 1)) := by
 rw [List.drop_eq_getElem_cons h]
 rfl
theorem qnq.loop (qa : Nat) (t : Int) (d : List Int) (hb : isB d) (hl : d.length ≤ 1000000) : ∀ (m k i : Nat) (acc : List Int), i + m = d.length → m < k → acc.length ≤ 1000 + 2 * i →
  zo.l3 qa t d k (d.length : Int) (i : Int) acc = some (strOf (acc ++ qjR (d.drop i))) := by
 intro m
 induction m with
 | zero =>
  intro k i acc hi hk ha
  obtain ⟨k, rfl⟩ : ∃ k', k = k' + 1 := ⟨k - 1, by omega⟩
  rw [zo.l3]
  unfold zo.b3
  rw [if_neg (c := decide ((i : Int) < (d.length : Int)) = true) (by simp; omega), List.drop_of_length_le (by omega)]
  unfold qjR
  rw [List.flatMap_nil, List.append_nil]
 | succ m ih =>
  intro k i acc hi hk ha
  obtain ⟨k, rfl⟩ : ∃ k', k = k' + 1 := ⟨k - 1, by omega⟩
  have hlt : i < d.length := by omega
  obtain ⟨c0, c1⟩ := hb _ (List.getElem_mem hlt)
  obtain ⟨a, b, h1, h2, h3, h4⟩ := qsf d[i] c0 c1
  rw [zo.l3]
  unfold zo.b3
  rw [if_pos (c := decide ((i : Int) < (d.length : Int)) = true) (by simp; omega), Qn, List.getElem?_eq_getElem hlt]
  dsimp only
  rw [h1]
  dsimp only
  rw [h2]
  dsimp only
  rw [if_pos (by simp [lim]; omega), qX _ (by omega) (by omega), show ((i : Int) + 1) = ((i + 1 : Nat) : Int) from by omega, ih k (i + 1) _ (by omega) (by omega) (by simp; omega), h3, h4, qqc d i hlt, List.append_assoc]
theorem qnq.pure (t : Int) (d : List Int) (t0 : -9223372036854775808 ≤ t) (t1 : t < 9223372036854775808) (hb : isB d) (hl : d.length ≤ 1000000) : zo.f BIG t d = some (qfV (t, d)) := by
 have hs := Z7 t
 have hc : qmD.size = 1 := rfl
 have hc2 : ({ data := #[58] } : ByteArray).size = 1 := rfl
 unfold zo.f zo.b
 simp only [veil_eq]
 rw [qfX.pure t t0 t1]
 dsimp only
 rw [if_pos (by omega), if_pos (by rw [Qv]; simp [lim]; omega)]
 have := qnq.loop BIG t d hb hl d.length BIG 0 (bytesOf (ZG t ++ qmD)) (by omega) (by rw [Zx]; omega) (by rw [qcE, Qv]; omega)
 rw [List.drop_zero] at this
 exact this
def spT (lo hi : Int) : ByteArray := if okS lo hi = true then strOf [48 + lo, 45, 48 + hi] else strOf [63]
theorem qrH.pure (lo hi : Int) : (match Zd.f BIG lo hi with
  | none => none
  | some y => Qu.f BIG y) = some (spT lo hi) := by
 unfold Zd.f Zd.b Qu.f Qu.b spT
 cases ho : okS lo hi with
 | false =>
  simp
  rfl
 | true =>
  have hs := (qaq _ _).1 ho
  have e : (strOf [48 + lo, 45, 48 + hi]).toList ≠ [] := by
   intro h
   rw [qbk] at h
   simp [strOf, strOfNums] at h
  simp only [Bool.not_true, Bool.false_eq_true, if_false, if_true]
  rw [qX _ (by omega) (by omega), qX _ (by omega) (by omega), qpo _ (by omega) (by omega), qpo _ (by omega) (by omega), if_neg]
  intro h
  have h := eq_of_beq h
  exact e (h.trans (by rw [qbk]))
def qeS (s : ByteArray) (r : List ByteArray) : ByteArray := ⟨(Lib.joinTail s.data.toList (r.map (·.data.toList))).toArray⟩
theorem qfr (x : ByteArray) (r : List ByteArray) (s : ByteArray) : joinB (x :: r) s = x ++ qeS s r := by
 apply ByteArray.ext
 rw [ByteArray.data_append]
 simp [joinB, qeS, Lib.join_cons]
theorem qoy (s : ByteArray) (r : List ByteArray) (y : ByteArray) : qeS s (r ++ [y]) = qeS s r ++ (s ++ y) := by
 apply ByteArray.ext
 rw [ByteArray.data_append, ByteArray.data_append]
 simp [qeS, Lib.joinTail]
theorem qhs (l : List ByteArray) (hl : l ≠ []) (y s : ByteArray) : joinB (l ++ [y]) s = joinB l s ++ (s ++ y) := by
 cases l with
 | nil => exact absurd rfl hl
 | cons x r => rw [List.cons_append, qfr, qfr, qoy, ByteArray.append_assoc]
theorem qqa (l : List ByteArray) (hl : l ≠ []) (w y s : ByteArray) : joinB (l ++ [w, y]) s = (joinB l s ++ (s ++ (w ++ s))) ++ y := by
 rw [show l ++ [w, y] = (l ++ [w]) ++ [y] from by simp, qhs _ (by simp), qhs _ hl]
 simp only [ByteArray.append_assoc]
theorem qpb (l : List ByteArray) (s : ByteArray) : (joinB l s).size = (Lib.join (l.map (·.data.toList)) s.data.toList).length := by simp [joinB, ByteArray.size]
theorem qjm {l : List ByteArray} {s : ByteArray} (hl : l ≠ []) (hn : l.length ≤ 1000000) (hs : (joinB l s).size ≤ 281474976710656) : joinFits l s = true := by
 unfold joinFits
 rw [qpb] at hs
 rw [decide_eq_true hs, decide_eq_true (by omega)]
 cases l with
 | nil => exact absurd rfl hl
 | cons x r => rfl
def qgq : Env := ⟨th, gam [(22, Q3), (38, qbf), (40, qaK), (42, qfv), (43, qcn), (44, qa9)], fun i => if i = 5 then ⟨[3, 27, 28, 29], [], []⟩ else ⟨[], [], []⟩⟩
def zy.k (rs : List AV) (os : List Den.Obj) : Option ByteArray :=
 match rs, os with
 | [.d .str r0], [] => some r0
 | _, _ => none
def zy.s5 (zb qR qw qu qv : Int) (qQ : Bool) (qO : LF) (x6 x7 : Int) (x8 : (List ByteArray)) : St := ⟨[dD, dD, dD, .row 64, dD, dD, dD, dD, dD, dD, dD, dD, dD, dD, dD, dD, dD, dD, dD, dD, dD, dD, dD, dD, dD, dD, dD, .d (.sl (.pair tQi (.sl (.int .u8)))) (qO), .d tQi x6, .d tQi x7, dD, dD, dD, dD, dD, dD, dD, dD, dD, dD, .dead], ofL [(64, .row 9 .str x8 false)], 0⟩
def zy.p5 (qa : Nat) (zb qR qw qu qv : Int) (qQ : Bool) (qO : LF) (k : Nat) := fun x6 x7 x8 => lp qgq qa Tryz.f24 [.raw] 0 zy.k 5 [] k (zy.s5 zb qR qw qu qv qQ qO x6 x7 x8)
def zy.b5 (zb qR qw qu qv : Int) (qQ : Bool) (qO : LF) (A5 : Int → Int → (List ByteArray) → Option ByteArray) (x6 : Int) (x7 : Int) (x8 : (List ByteArray)) : Option ByteArray :=
 (if (decide (x7 < x6)) then (match (idx qO x7) with | none => none | some y9 => (match (veil (zo.f BIG y9.1 y9.2)) with | none => none | some y10 => (if ((((List.length x8) + (List.length (y10 :: ([] : List ByteArray)))) * (16 : Nat)) ≤ lim) then A5 x6 (IntKind.wrap .i64 (x7 + (1 : Int))) (x8 ++ (y10 :: ([] : List ByteArray))) else none))) else (if (joinFits x8 (⟨((32 :: ([] : List UInt8))).toArray⟩ : ByteArray)) then some ((joinB x8 (⟨((32 :: ([] : List UInt8))).toArray⟩ : ByteArray))) else none))
def zy.l5 (qa : Nat) (zb qR qw qu qv : Int) (qQ : Bool) (qO : LF) : Nat → Int → Int → (List ByteArray) → Option ByteArray
 | 0, _, _, _ => none
 | k + 1, x6, x7, x8 => zy.b5 zb qR qw qu qv qQ qO (zy.l5 qa zb qR qw qu qv qQ qO k) x6 x7 x8
def zy.b (zb qR qw qu qv : Int) (qQ : Bool) (qO : LF) (E5 : Int → Int → (List ByteArray) → Option ByteArray) : Option ByteArray :=
 (match (veil (zl.f BIG zb)) with | none => none | some y0 => (match (veil (qak.f BIG qw)) with | none => none | some y1 => (match (veil (Qu.f BIG y1)) with | none => none | some y2 => (match (veil (Zd.f BIG qu qv)) with | none => none | some y3 => (match (veil (Qu.f BIG y3)) with | none => none | some y4 => (match (veil (zl.f BIG qR)) with | none => none | some y5 => (if qQ then E5 ((((List.length qO)) : Nat) : Int) (0 : Int) ((y0 :: (y2 :: (y4 :: ((⟨((105 :: (110 :: (99 :: ([] : List UInt8))))).toArray⟩ : ByteArray) :: (y5 :: ([] : List ByteArray)))))) ++ ((⟨((99 :: (117 :: (116 :: ([] : List UInt8))))).toArray⟩ : ByteArray) :: ([] : List ByteArray))) else E5 ((((List.length qO)) : Nat) : Int) (0 : Int) (y0 :: (y2 :: (y4 :: ((⟨((105 :: (110 :: (99 :: ([] : List UInt8))))).toArray⟩ : ByteArray) :: (y5 :: ([] : List ByteArray)))))))))))))
def zy.f (qa : Nat) (zb qR qw qu qv : Int) (qQ : Bool) (qO : LF) : Option ByteArray := zy.b zb qR qw qu qv qQ qO (zy.l5 qa zb qR qw qu qv qQ qO qa)
theorem zy.l5_eq (qa : Nat) (zb qR qw qu qv : Int) (qQ : Bool) (qO : LF) : ∀ k : Nat, zy.p5 qa zb qR qw qu qv qQ qO k = zy.l5 qa zb qR qw qu qv qQ qO k
 | 0 => by kernel_rfl
 | k + 1 => by
  refine Eq.trans (b := zy.b5 zb qR qw qu qv qQ qO (zy.p5 qa zb qR qw qu qv qQ qO k)) (by kernel_rfl) ?_
  rw [zy.l5_eq qa zb qR qw qu qv qQ qO k]
  kernel_rfl
theorem zy.eq (qa : Nat) (zb qR qw qu qv : Int) (qQ : Bool) (qO : LF) : (denF qgq loopN qa Tryz.f24 [.raw] [.agg [.d tQi zb, .d tQi qR, .d tQi qw, .d tQi qu, .d tQi qv, .d .bool qQ, .d (.sl (.pair tQi (.sl (.int .u8)))) qO]] [] zy.k) = zy.f qa zb qR qw qu qv qQ qO := by
 refine Eq.trans (b := zy.b zb qR qw qu qv qQ qO (zy.p5 qa zb qR qw qu qv qQ qO qa)) (by kernel_rfl) ?_
 rw [zy.l5_eq qa zb qR qw qu qv qQ qO qa]
 kernel_rfl
def qaM : Den.Sum := ⟨[.dat tQr true], fun qK qn κ => match qK, qn with
 | [.agg [.d (.int .i64) zb, .d (.int .i64) qR, .d (.int .i64) qw, .d (.int .i64) qu, .d (.int .i64) qv, .d .bool qQ, .d (.sl (.pair (.int .i64) (.sl (.int .u8)))) qO]], [] => (match veil (zy.f BIG zb qR qw qu qv qQ qO) with | none => none | some y => κ [.d .str y] [])
 | _, _ => none⟩
theorem qf6 : SumDet qaM := zj fun _ _ _ _ => by
 unfold qaM
 simp only [veil_eq]
 split
 ·split <;> rfl
 ·rfl
theorem qgN : SumOk Tryz.prog 24 qaM := by
 have hE : EnvOk Tryz.prog qgq := env_ok (l := [(22, Q3), (38, qbf), (40, qaK), (42, qfv), (43, qcn), (44, qa9)]) th_ok qZ ⟨⟨qcd, qbQ⟩, ⟨qhN, qgM⟩, ⟨qgJ, qf2⟩, ⟨qkq, qjb⟩, ⟨qmp, qln⟩, ⟨qjG, qiZ⟩, trivial⟩ _
 refine sum_ok hE Tryz.func24 rfl (by kernel_rfl) qaM [.raw] zy.k ?_
 intro R avs qn κ r h
 unfold qaM at h
 simp only [veil_eq] at h
 split at h
 ·rename_i zb qR qw qu qv qQ qO
  split at h
  ·cases h
  ·rename_i y hy
   refine ⟨BIG, _, _, _, (zy.eq BIG zb qR qw qu qv qQ qO).trans hy, ?_, h⟩
   intro rs ros hk
   unfold zy.k at hk
   split at hk
   ·rw [← sj hk]; exact ⟨rfl, rfl⟩
   ·cases hk
 ·cases h
abbrev qr8 : ByteArray := ⟨((97 :: (108 :: (105 :: (118 :: (101 :: ([] : List UInt8))))))).toArray⟩
abbrev qqI : ByteArray := ⟨((115 :: (117 :: (115 :: (112 :: (101 :: (99 :: (116 :: ([] : List UInt8))))))))).toArray⟩
abbrev qso : ByteArray := ⟨((100 :: (101 :: (97 :: (100 :: ([] : List UInt8)))))).toArray⟩
abbrev qsn : ByteArray := ⟨((108 :: (101 :: (102 :: (116 :: ([] : List UInt8)))))).toArray⟩
abbrev wQ : ByteArray := ⟨((63 :: ([] : List UInt8))).toArray⟩
abbrev qou : ByteArray := ⟨((105 :: (110 :: (99 :: ([] : List UInt8))))).toArray⟩
abbrev qr7 : ByteArray := ⟨((99 :: (117 :: (116 :: ([] : List UInt8))))).toArray⟩
def stT (st : Int) : ByteArray := if st = 0 then qr8 else if st = 1 then qqI else if st = 2 then qso else if st = 3 then qsn else wQ
theorem qm0 : Qu.f BIG (⟨(([] : List UInt8)).toArray⟩ : ByteArray) = some wQ := by
 unfold Qu.f Qu.b
 simp
theorem qrS (w : ByteArray) (h : 0 < w.size) : Qu.f BIG w = some w := by
 unfold Qu.f Qu.b
 rw [if_neg]
 intro e
 have e := eq_of_beq e
 rw [qbk, qbk] at e
 have := congrArg List.length e
 have hsz : w.data.toList.length = w.size := by simp
 rw [hsz] at this
 have this : w.size = 0 := this
 omega
theorem qqM (st : Int) : (stT st).size ≤ 7 ∧ 0 < (stT st).size := by
 unfold stT
 repeat' split
 all_goals exact ⟨by decide, by decide⟩
theorem qmJ (lo hi : Int) : (spT lo hi).size ≤ 3 := by
 unfold spT
 split <;> rw [qfl] <;> simp
theorem qr5.pure (st : Int) : (match qak.f BIG st with
  | none => none
  | some y => Qu.f BIG y) = some (stT st) := by
 unfold qak.f qak.b
 simp only [veil_eq]
 by_cases h0 : st < 0
 ·rw [if_pos (by simpa using h0)]
  dsimp only
  rw [qm0]
  unfold stT
  rw [if_neg (by omega), if_neg (by omega), if_neg (by omega), if_neg (by omega)]
 ·rw [if_neg (by simpa using h0)]
  by_cases h3 : st > 3
  ·rw [if_pos (by simpa using h3)]
   dsimp only
   rw [qm0]
   unfold stT
   rw [if_neg (by omega), if_neg (by omega), if_neg (by omega), if_neg (by omega)]
  ·rw [if_neg (by simpa using h3)]
   have : st = 0 ∨ st = 1 ∨ st = 2 ∨ st = 3 := by omega
   rcases this with rfl | rfl | rfl | rfl <;> exact qrS _ (by decide)
def qfb (r : REC) : List ByteArray := (ZG r.1 :: (stT r.2.2.1 :: (spT r.2.2.2.1.1 r.2.2.2.1.2 :: (qou :: (ZG r.2.1 :: []))))) ++ (if r.2.2.2.2.1 = true then [qr7] else [])
def qhj (r : REC) : ByteArray := joinB (qfb r ++ r.2.2.2.2.2.map qfV) qbT
theorem qlA (r : REC) : qfb r ≠ [] := by unfold qfb; simp
theorem qft : qbT.size = 1 := rfl
theorem qj9 (s y : ByteArray) (r : List ByteArray) : qeS s (y :: r) = s ++ (y ++ qeS s r) := by
 apply ByteArray.ext
 rw [ByteArray.data_append, ByteArray.data_append]
 simp [qeS, Lib.joinTail]
theorem qj8 (s : ByteArray) : (qeS s []).size = 0 := by simp [qeS, Lib.joinTail, ByteArray.size]
theorem ql5 (r : REC) : (joinB (qfb r) qbT).size ≤ 100 := by
 have h1 := Z7 r.1
 have h2 := Z7 r.2.1
 have h3 := (qqM r.2.2.1).1
 have h4 := qmJ r.2.2.2.1.1 r.2.2.2.1.2
 have h5 := qft
 have h6 : qou.size = 3 := rfl
 have h7 : qr7.size = 3 := rfl
 unfold qfb
 cases r.2.2.2.2.1 <;> simp only [if_true, Bool.false_eq_true, if_false, List.append_nil, List.cons_append, List.nil_append, qfr, qj9, Qv, qj8] <;> omega
def qpr (b : LF) : Prop := b.length ≤ 1000 ∧ ∀ x ∈ b, (-9223372036854775808 ≤ x.1 ∧ x.1 < 9223372036854775808) ∧ isB x.2 ∧ x.2.length ≤ 10000
theorem qh6 (W : List ByteArray) (hW : W ≠ []) (bag : LF) (hb : qpr bag) : ∀ i, i ≤ bag.length → (joinB (W ++ (bag.take i).map qfV) qbT).size ≤ (joinB W qbT).size + i * 20100
 | 0, _ => by simp
 | i + 1, h => by
  have ih := qh6 W hW bag hb i (by omega)
  have h1 := qnQ bag[i]
  have h2 := (hb.2 _ (List.getElem_mem (show i < bag.length by omega))).2.2
  have h3 := qft
  rw [List.take_succ_eq_append_getElem (by omega), List.map_append, List.map_cons, List.map_nil, ← List.append_assoc, qhs _ (by simp [hW]), Qv, Qv]
  omega
theorem qru.loop (r : REC) (hb : qpr r.2.2.2.2.2) (qa : Nat) : ∀ (m k i : Nat), i + m = r.2.2.2.2.2.length → m < k →
  zy.l5 qa r.1 r.2.1 r.2.2.1 r.2.2.2.1.1 r.2.2.2.1.2 r.2.2.2.2.1 r.2.2.2.2.2 k (r.2.2.2.2.2.length : Int) (i : Int) (qfb r ++ (r.2.2.2.2.2.take i).map qfV) = some (qhj r) := by
 have hw : (qfb r).length ≤ 6 := by unfold qfb; split <;> simp
 intro m
 induction m with
 | zero =>
  intro k i hi hk
  obtain ⟨k, rfl⟩ : ∃ k', k = k' + 1 := ⟨k - 1, by omega⟩
  have hs := qh6 (qfb r) (qlA r) r.2.2.2.2.2 hb i (by omega)
  have h0 := ql5 r
  have hn := hb.1
  rw [zy.l5]
  unfold zy.b5 qhj
  rw [if_neg (c := decide ((i : Int) < (r.2.2.2.2.2.length : Int)) = true) (by simp; omega)]
  rw [List.take_of_length_le (by omega)] at hs ⊢
  rw [if_pos (qjm (s := qbT) (by simp [qlA r]) (by simp; omega) (show (joinB (qfb r ++ r.2.2.2.2.2.map qfV) qbT).size ≤ _ from by omega))]
 | succ m ih =>
  intro k i hi hk
  obtain ⟨k, rfl⟩ : ∃ k', k = k' + 1 := ⟨k - 1, by omega⟩
  have hlt : i < r.2.2.2.2.2.length := by omega
  have hn := hb.1
  obtain ⟨ht, hB, hl⟩ := hb.2 _ (List.getElem_mem hlt)
  have ih1 := ih k (i + 1) (by omega) (by omega)
  rw [List.take_succ_eq_append_getElem hlt, List.map_append, List.map_cons, List.map_nil, ← List.append_assoc] at ih1
  rw [zy.l5]
  unfold zy.b5
  simp only [veil_eq]
  rw [if_pos (c := decide ((i : Int) < (r.2.2.2.2.2.length : Int)) = true) (by simp; omega), Qn, List.getElem?_eq_getElem hlt]
  dsimp only
  rw [qnq.pure _ _ ht.1 ht.2 hB (by omega)]
  dsimp only
  rw [if_pos (by simp [lim]; omega), qX _ (by omega) (by omega), show ((i : Int) + 1) = ((i + 1 : Nat) : Int) from by omega]
  exact ih1
theorem qru.pure (r : REC) (hid : -9223372036854775808 ≤ r.1 ∧ r.1 < 9223372036854775808) (hinc : -9223372036854775808 ≤ r.2.1 ∧ r.2.1 < 9223372036854775808) (hb : qpr r.2.2.2.2.2) :
  zy.f BIG r.1 r.2.1 r.2.2.1 r.2.2.2.1.1 r.2.2.2.1.2 r.2.2.2.2.1 r.2.2.2.2.2 = some (qhj r) := by
 have hlp := qru.loop r hb BIG r.2.2.2.2.2.length BIG 0 (by omega) (by rw [Zx]; have := hb.1; omega)
 rw [List.take_zero, List.map_nil, List.append_nil] at hlp
 have h1 := qr5.pure r.2.2.1
 have h2 := qrH.pure r.2.2.2.1.1 r.2.2.2.1.2
 unfold zy.f zy.b
 simp only [veil_eq]
 rw [qfX.pure r.1 hid.1 hid.2]
 dsimp only
 revert h1 h2
 cases qak.f BIG r.2.2.1 with
 | none => intro h1; cases h1
 | some y1 =>
  cases Zd.f BIG r.2.2.2.1.1 r.2.2.2.1.2 with
  | none => intro _ h2; cases h2
  | some y3 =>
   intro h1 h2
   dsimp only at h1 h2 ⊢
   rw [h1]
   dsimp only
   rw [h2]
   dsimp only
   rw [qfX.pure r.2.1 hinc.1 hinc.2]
   dsimp only
   unfold qfb at hlp
   cases hc : r.2.2.2.2.1 with
   | true =>
    rw [hc] at hlp
    rw [if_pos rfl] at hlp ⊢
    exact hlp
   | false =>
    rw [hc] at hlp
    rw [if_neg (by simp)] at hlp ⊢
    rw [List.append_nil] at hlp
    exact hlp
def qkM (k : Int) : ByteArray := if ((ofF k).1.toList == (⟨(([] : List UInt8)).toArray⟩ : ByteArray).toList) = true then wQ else (ofF k).1
abbrev qrz : ByteArray := ⟨((102 :: (114 :: (111 :: (109 :: ([] : List UInt8)))))).toArray⟩
abbrev qry : ByteArray := ⟨((115 :: (112 :: (97 :: (110 :: ([] : List UInt8)))))).toArray⟩
abbrev qr6 : ByteArray := ⟨((115 :: (101 :: (113 :: ([] : List UInt8))))).toArray⟩
abbrev qlf : ByteArray := ⟨((116 :: (97 :: (114 :: (103 :: (101 :: (116 :: ([] : List UInt8)))))))).toArray⟩
abbrev qj4 : ByteArray := ⟨((108 :: (105 :: (102 :: (101 :: ([] : List UInt8)))))).toArray⟩
abbrev qj5 : ByteArray := ⟨((101 :: (112 :: (111 :: (99 :: (104 :: ([] : List UInt8))))))).toArray⟩
abbrev qov : ByteArray := ⟨((98 :: (97 :: (115 :: (101 :: ([] : List UInt8)))))).toArray⟩
def qdC (k f i lo hi s : Int) : List ByteArray := (qkM k :: (qrz :: (ZG f :: (qou :: (ZG i :: (qry :: (spT lo hi :: []))))))) ++ (if qy k 0 = true then [qr6, ZG s] else [])
def qek (k f i lo hi s t : Int) : List ByteArray := qdC k f i lo hi s ++ (if qy k 1 = true then [qlf, ZG t] else [])
def qej (k f i lo hi s t l e : Int) : List ByteArray := qek k f i lo hi s t ++ (if qy k 2 = true then [qj4, ZG l, qj5, ZG e] else [])
def qjO (k f i lo hi s t l e b : Int) : List ByteArray := qej k f i lo hi s t l e ++ (if qy k 3 = true then [qov, ZG b] else [])
def qfS (k f i lo hi s t l e b : Int) : ByteArray := joinB (qjO k f i lo hi s t l e b) qbT
theorem qq3 : (List.range 11).all (fun n => decide ((ofF (n : Int)).1.size ≤ 7)) = true := by kernel_rfl
theorem qo8 (k : Int) : (qkM k).size ≤ 7 := by
 unfold qkM
 split
 ·decide
 ·by_cases h : k < 1 ∨ k > 9
  ·unfold ofF
   rw [if_pos (by simp; omega)]
   decide
  ·have := List.all_eq_true.1 qq3 k.toNat (by simp; omega)
   rw [show ((k.toNat : Nat) : Int) = k from by omega] at this
   simpa using this
def qio (v : Int) : Prop := -9223372036854775808 ≤ v ∧ v < 9223372036854775808
theorem qrV (k f i lo hi s t l e b : Int) : qjO k f i lo hi s t l e b ≠ [] := by unfold qjO qej qek qdC; simp
theorem qfA (X : List ByteArray) (hX : X ≠ []) (w y : ByteArray) (hw : w.size ≤ 7) (hy : y.size ≤ 20) (c : Bool) : (joinB (X ++ if c = true then [w, y] else []) qbT).size ≤ (joinB X qbT).size + 40 := by
 have b1 := qft
 cases c with
 | false => simp
 | true =>
  rw [if_pos rfl, qqa X hX, Qv, Qv, Qv, Qv]
  omega
theorem qo9 (k f i lo hi s : Int) : (joinB (qdC k f i lo hi s) qbT).size ≤ 200 := by
 have h1 := Z7 f
 have h2 := Z7 i
 have h3 := qo8 k
 have h4 := qmJ lo hi
 have h5 := Z7 s
 have b1 := qft
 have c1 : qrz.size = 4 := rfl
 have c2 : qou.size = 3 := rfl
 have c3 : qry.size = 4 := rfl
 unfold qdC
 refine Nat.le_trans (qfA _ (by simp) qr6 (ZG s) (by decide) h5 (qy k 0)) ?_
 simp only [qfr, qj9, Qv, qj8]
 omega
theorem qq4 (k f i lo hi s : Int) : qdC k f i lo hi s ≠ [] := by unfold qdC; simp
theorem qfq (k f i lo hi s t l e b : Int) : (qjO k f i lo hi s t l e b).length ≤ 20 ∧ (qfS k f i lo hi s t l e b).size ≤ 500 := by
 have h0 := qo9 k f i lo hi s
 have n0 := qq4 k f i lo hi s
 have h1 := qfA _ n0 qlf (ZG t) (by decide) (Z7 t) (qy k 1)
 have n1 : qek k f i lo hi s t ≠ [] := by unfold qek; simp [n0]
 have h2 := qfA _ n1 qj4 (ZG l) (by decide) (Z7 l) (qy k 2)
 have n2 : (qek k f i lo hi s t ++ if qy k 2 = true then [qj4, ZG l] else []) ≠ [] := by simp [n1]
 have h3 := qfA _ n2 qj5 (ZG e) (by decide) (Z7 e) (qy k 2)
 have e2 : qej k f i lo hi s t l e = (qek k f i lo hi s t ++ if qy k 2 = true then [qj4, ZG l] else []) ++ if qy k 2 = true then [qj5, ZG e] else [] := by
  unfold qej
  cases qy k 2 <;> simp
 have n3 : qej k f i lo hi s t l e ≠ [] := by unfold qej; simp [n1]
 rw [← e2] at h3
 have h4 := qfA _ n3 qov (ZG b) (by decide) (Z7 b) (qy k 3)
 have h1 : (joinB (qek k f i lo hi s t) qbT).size ≤ (joinB (qdC k f i lo hi s) qbT).size + 40 := h1
 have h4 : (joinB (qjO k f i lo hi s t l e b) qbT).size ≤ (joinB (qej k f i lo hi s t l e) qbT).size + 40 := h4
 constructor
 ·unfold qjO qej qek qdC
  cases qy k 0 <;> cases qy k 1 <;> cases qy k 2 <;> cases qy k 3 <;> simp
 ·unfold qfS
  omega
theorem qsL.pure (k f i lo hi s t l e b : Int) (qc : LR) (hf : qio f) (hi' : qio i) (hs : qio s) (ht : qio t) (hl : qio l) (he : qio e) (hb : qio b) :
  qJ.f BIG k f i lo hi s t l e b qc = some (qfS k f i lo hi s t l e b) := by
 have e10 : ∀ X : List ByteArray, qJ.l10 BIG k f i lo hi s t l e b qc BIG X = if joinFits X qbT = true then some (joinB X qbT) else none := by
  intro X
  rw [qJ.l10_at BIG BIG (BIG - 1) qaX]
  rfl
 have e8 : ∀ X : List ByteArray, X.length ≤ 50 → qJ.l8 BIG k f i lo hi s t l e b qc BIG X = qJ.l10 BIG k f i lo hi s t l e b qc BIG (X ++ if qy k 3 = true then [qov, ZG b] else []) := by
  intro X hX
  rw [qJ.l8_at BIG BIG (BIG - 1) qaX]
  unfold qJ.b8
  simp only [veil_eq]
  cases qy k 3 with
  | false => simp only [Bool.false_eq_true, if_false, List.append_nil]
  | true =>
   rw [if_pos rfl, if_pos rfl, qfX.pure b hb.1 hb.2]
   dsimp only
   rw [if_pos (by simp [lim]; omega)]
 have e6 : ∀ X : List ByteArray, X.length ≤ 40 → qJ.l6 BIG k f i lo hi s t l e b qc BIG X = qJ.l8 BIG k f i lo hi s t l e b qc BIG (X ++ if qy k 2 = true then [qj4, ZG l, qj5, ZG e] else []) := by
  intro X hX
  rw [qJ.l6_at BIG BIG (BIG - 1) qaX]
  unfold qJ.b6
  simp only [veil_eq]
  cases qy k 2 with
  | false => simp only [Bool.false_eq_true, if_false, List.append_nil]
  | true =>
   rw [if_pos rfl, if_pos rfl, qfX.pure l hl.1 hl.2]
   dsimp only
   rw [qfX.pure e he.1 he.2]
   dsimp only
   rw [if_pos (by simp [lim]; omega)]
 have e4 : ∀ X : List ByteArray, X.length ≤ 30 → qJ.l4 BIG k f i lo hi s t l e b qc BIG X = qJ.l6 BIG k f i lo hi s t l e b qc BIG (X ++ if qy k 1 = true then [qlf, ZG t] else []) := by
  intro X hX
  rw [qJ.l4_at BIG BIG (BIG - 1) qaX]
  unfold qJ.b4
  simp only [veil_eq]
  cases qy k 1 with
  | false => simp only [Bool.false_eq_true, if_false, List.append_nil]
  | true =>
   rw [if_pos rfl, if_pos rfl, qfX.pure t ht.1 ht.2]
   dsimp only
   rw [if_pos (by simp [lim]; omega)]
 have hW0 : (qdC k f i lo hi s).length ≤ 9 := by unfold qdC; split <;> simp
 have hW1 : (qek k f i lo hi s t).length ≤ 11 := by unfold qek; split <;> simp <;> omega
 have hW2 : (qej k f i lo hi s t l e).length ≤ 15 := by unfold qej; split <;> simp <;> omega
 have hfin : qJ.l4 BIG k f i lo hi s t l e b qc BIG (qdC k f i lo hi s) = some (qfS k f i lo hi s t l e b) := by
  rw [e4 _ (by omega)]
  show qJ.l6 BIG k f i lo hi s t l e b qc BIG (qek k f i lo hi s t) = _
  rw [e6 _ (by omega)]
  show qJ.l8 BIG k f i lo hi s t l e b qc BIG (qej k f i lo hi s t l e) = _
  rw [e8 _ (by omega)]
  show qJ.l10 BIG k f i lo hi s t l e b qc BIG (qjO k f i lo hi s t l e b) = _
  obtain ⟨w1, w2⟩ := qfq k f i lo hi s t l e b
  rw [e10, if_pos (qjm (qrV k f i lo hi s t l e b) (by omega) (by unfold qfS at w2; omega))]
  rfl
 have h2 := qrH.pure lo hi
 have hor : Qu.f BIG (ofF k).1 = some (qkM k) := by
  unfold Qu.f Qu.b qkM
  split <;> rfl
 unfold qJ.f qJ.b
 simp only [veil_eq]
 rw [show qbb.f BIG k = some (ofF k).1 from rfl]
 dsimp only
 rw [hor]
 dsimp only
 rw [qfX.pure f hf.1 hf.2]
 dsimp only
 rw [qfX.pure i hi'.1 hi'.2]
 dsimp only
 revert h2
 cases Zd.f BIG lo hi with
 | none => intro h2; cases h2
 | some y3 =>
  intro h2
  dsimp only at h2 ⊢
  rw [h2]
  dsimp only
  unfold qdC at hfin
  cases h0 : qy k 0 with
  | true =>
   rw [h0] at hfin
   rw [if_pos rfl] at hfin ⊢
   rw [qfX.pure s hs.1 hs.2]
   exact hfin
  | false =>
   rw [h0] at hfin
   rw [if_neg (by simp)] at hfin ⊢
   rw [List.append_nil] at hfin
   exact hfin
theorem qiQ (a b : ByteArray) (h : a.data.toList = b.data.toList) : a = b := by
 apply ByteArray.ext
 exact Array.ext' h
def hN (i : Nat) : Nat := (halves.getD i 0).toNat
def nib (r x : Nat) : Nat := (r * 16 % 4294967296) ^^^ hN ((r / 268435456) ^^^ x)
def qmB (r c : Nat) : Nat := nib (nib r (c / 16)) (c % 16)
theorem qpf (i : Nat) : hN i < 4294967296 := by
 unfold hN
 rcases Nat.lt_or_ge i 16 with h | h
 ·have : ∀ i, i < 16 → (halves.getD i 0).toNat < 4294967296 := by decide
  exact this i h
 ·have : halves.getD i 0 = 0 := by
   show (halves[i]?).getD 0 = 0
   rw [List.getElem?_eq_none (by simpa [halves] using h)]; rfl
  rw [this]; decide
theorem qj0 (a b n : Nat) (ha : a < 2 ^ n) (hb : b < 2 ^ n) : a ^^^ b < 2 ^ n := Nat.xor_lt_two_pow ha hb
theorem qm2 (r x : Nat) : nib r x < 4294967296 := by
 unfold nib
 exact qj0 _ _ 32 (by omega) (qpf _)
theorem qpy (r x : Nat) (hr : r < 4294967296) (hx : x < 16) : (r / 268435456) ^^^ x < 16 := qj0 _ _ 4 (by omega) hx
theorem qmH (r c : Nat) : qmB r c < 4294967296 := qm2 _ _
def qnf (r : Nat) : List Nat → Nat
 | [] => r
 | c :: b => qnf (qmB r c) b
theorem qoa (b : List Nat) : ∀ r, r < 4294967296 → qnf r b < 4294967296 := by
 induction b with
 | nil => intro r h; exact h
 | cons c b ih => intro r h; exact ih _ (qmH _ _)
def qcx : Env := ⟨th, gam [(98, zQ), (52, Zg), (84, qaP), (53, qcB)], fun i => if i = 4 then ⟨[0, 3, 4, 5], [(3, 86, (.pair tQi (.sl (.int .u8))))], []⟩ else ⟨[], [], []⟩⟩
def qS.k (rs : List AV) (os : List Den.Obj) : Option (Bool × (List Int) × Int × Bool × LF) :=
 match rs, os with
 | [.row 2], [.box [.ptr 1 0, .d .bool r0], .box [.d (.sl (.int .u8)) r1, .d (.int .i64) r2, .d .bool r3], .row 86 (.pair (.int .i64) (.sl (.int .u8))) r4 false] => some (r0, r1, r2, r3, r4)
 | _, _ => none
def qS.s4 (bs : List Int) (at0 : Int) (bad za : Bool) (x1 x2 : Int) (x3 : Bool) (x4 : (List Int)) (x5 : Int) (x6 : Bool) (x7 : LF) : St := ⟨[.ptr 0 0, .dead, .dead, .row 64, .d tQi x1, .d tQi x2, dD, dD, dD, dD, dD, dD, dD, dD, dD, dD, dD, dD, dD, dD, dD, dD, dD, dD, dD, dD, dD, dD, dD, dD, dD, dD, dD, dD, dD, dD, dD, dD, dD, dD, dD, dD, dD, dD, dD, dD, dD, .dead], ofL [(0, .box [.ptr 1 0, .d .bool x3]), (1, .box [.d (.sl (.int .u8)) x4, .d tQi x5, .d .bool x6]), (64, .row 86 (.pair tQi (.sl (.int .u8))) x7 false)], 2⟩
def qS.p4 (qa : Nat) (bs : List Int) (at0 : Int) (bad za : Bool) (k : Nat) := fun x1 x2 x3 x4 x5 x6 x7 => lp qcx qa Tryz.f124 [.own 86 (.pair tQi (.sl (.int .u8)))] 2 qS.k 4 [] k (qS.s4 bs at0 bad za x1 x2 x3 x4 x5 x6 x7)
def qS.b4 (bs : List Int) (at0 : Int) (bad za : Bool) (A4 : Int → Int → Bool → (List Int) → Int → Bool → LF → Option (Bool × (List Int) × Int × Bool × LF)) (x1 : Int) (x2 : Int) (x3 : Bool) (x4 : (List Int)) (x5 : Int) (x6 : Bool) (x7 : LF) : Option (Bool × (List Int) × Int × Bool × LF) :=
 (if (decide (x2 < x1)) then (if (!x3) then (if (zt x4 x5) then (match (veil (Option.some (qz x4 (1 : Int) x5 x6))) with | none => none | some y8 => (match (veil (qI.f BIG x4 y8.2.1 y8.2.2 x3 (4096 : Int))) with | none => none | some y9 => (if (zt y9.2.2.1 y9.2.2.2.1) then (match (veil (Option.some (zf y9.2.2.1 y9.1 y9.2.2.2.1 y9.2.2.2.2))) with | none => none | some y10 => (if y10.2.2.2 then (if ((((List.length x7) + (List.length ((y8.1, y10.1) :: ([] : LF)))) * (32 : Nat)) ≤ lim) then A4 x1 (IntKind.wrap .i64 (x2 + (1 : Int))) true y9.2.2.1 y10.2.2.1 y10.2.2.2 (x7 ++ ((y8.1, y10.1) :: ([] : LF))) else none) else (if ((((List.length x7) + (List.length ((y8.1, y10.1) :: ([] : LF)))) * (32 : Nat)) ≤ lim) then A4 x1 (IntKind.wrap .i64 (x2 + (1 : Int))) y9.2.1 y9.2.2.1 y10.2.2.1 y10.2.2.2 (x7 ++ ((y8.1, y10.1) :: ([] : LF))) else none))) else none))) else none) else some (x3, x4, x5, x6, x7)) else some (x3, x4, x5, x6, x7))
def qS.l4 (qa : Nat) (bs : List Int) (at0 : Int) (bad za : Bool) : Nat → Int → Int → Bool → (List Int) → Int → Bool → LF → Option (Bool × (List Int) × Int × Bool × LF)
 | 0, _, _, _, _, _, _, _ => none
 | k + 1, x1, x2, x3, x4, x5, x6, x7 => qS.b4 bs at0 bad za (qS.l4 qa bs at0 bad za k) x1 x2 x3 x4 x5 x6 x7
def qS.b (bs : List Int) (at0 : Int) (bad za : Bool) (E4 : Int → Int → Bool → (List Int) → Int → Bool → LF → Option (Bool × (List Int) × Int × Bool × LF)) : Option (Bool × (List Int) × Int × Bool × LF) :=
 (match (veil (qI.f BIG bs at0 bad za (32 : Int))) with | none => none | some y0 => E4 y0.1 (0 : Int) y0.2.1 y0.2.2.1 y0.2.2.2.1 y0.2.2.2.2 ([] : LF))
def qS.f (qa : Nat) (bs : List Int) (at0 : Int) (bad za : Bool) : Option (Bool × (List Int) × Int × Bool × LF) := qS.b bs at0 bad za (qS.l4 qa bs at0 bad za qa)
theorem qS.l4_eq (qa : Nat) (bs : List Int) (at0 : Int) (bad za : Bool) : ∀ k : Nat, qS.p4 qa bs at0 bad za k = qS.l4 qa bs at0 bad za k
 | 0 => by kernel_rfl
 | k + 1 => by
  refine Eq.trans (b := qS.b4 bs at0 bad za (qS.p4 qa bs at0 bad za k)) (by kernel_rfl) ?_
  rw [qS.l4_eq qa bs at0 bad za k]
  kernel_rfl
theorem qS.eq (qa : Nat) (bs : List Int) (at0 : Int) (bad za : Bool) : (denF qcx loopN qa Tryz.f124 [.own 86 (.pair tQi (.sl (.int .u8)))] [.ptr 0 0] [.box [.ptr 1 0, .d .bool za], .box [.d (.sl (.int .u8)) bs, .d tQi at0, .d .bool bad]] qS.k) = qS.f qa bs at0 bad za := by
 refine Eq.trans (b := qS.b bs at0 bad za (qS.p4 qa bs at0 bad za qa)) (by kernel_rfl) ?_
 rw [qS.l4_eq qa bs at0 bad za qa]
 kernel_rfl
def Zh : Den.Sum := ⟨[.pb [.frz none [0] 0 (.int .u8)]], fun qK qn κ => match qK, qn with
 | [.ptr 0 0], [.box [.ptr 1 0, .d .bool za], .box [.d (.sl (.int .u8)) bs, .d (.int .i64) at0, .d .bool bad]] => (match veil (qS.f BIG bs at0 bad za) with | none => none | some y => κ [.row 2] [.box [.ptr 1 0, .d .bool y.1], .box [.d (.sl (.int .u8)) y.2.1, .d (.int .i64) y.2.2.1, .d .bool y.2.2.2.1], .row 86 (.pair (.int .i64) (.sl (.int .u8))) y.2.2.2.2 false])
 | _, _ => none⟩
theorem qfK : SumDet Zh := zj fun _ _ _ _ => by
 unfold Zh
 simp only [veil_eq]
 split
 ·split <;> rfl
 ·rfl
theorem qf0 : SumOk Tryz.prog 124 Zh := by
 have hE : EnvOk Tryz.prog qcx := env_ok (l := [(98, zQ), (52, Zg), (84, qaP), (53, qcB)]) th_ok qZ ⟨⟨qap, qae⟩, ⟨qbd, qaL⟩, ⟨qcZ, qcj⟩, ⟨qg9, qgi⟩, trivial⟩ _
 refine sum_ok hE Tryz.func124 rfl (by kernel_rfl) Zh [.own 86 (.pair tQi (.sl (.int .u8)))] qS.k ?_
 intro R avs qn κ r h
 unfold Zh at h
 simp only [veil_eq] at h
 split at h
 ·rename_i za bs at0 bad
  split at h
  ·cases h
  ·rename_i y hy
   refine ⟨BIG, _, _, _, (qS.eq BIG bs at0 bad za).trans hy, ?_, h⟩
   intro rs ros hk
   unfold qS.k at hk
   split at hk
   ·rw [← sj hk]; exact ⟨rfl, rfl⟩
   ·cases hk
 ·cases h
def qb8 : Env := ⟨th, gam [(98, zQ), (122, qbe), (75, qdh), (52, Zg), (107, Qy), (123, qbu), (124, Zh)], fun i => if i = 8 then ⟨[0, 6, 7, 8, 9, 10], [], [777777]⟩ else if i = 12 then ⟨[0, 6, 7, 8, 9, 10], [], [777777]⟩ else ⟨[], [], []⟩⟩
def qE.k (rs : List AV) (os : List Den.Obj) : Option (Int × Int × Int × Int × Int × Bool × LF × Bool × (List Int) × Int × Bool) :=
 match rs, os with
 | [.agg [.d (.int .i64) r0, .d (.int .i64) r1, .d (.int .i64) r2, .d (.int .i64) r3, .d (.int .i64) r4, .d .bool r5, .d (.sl (.pair (.int .i64) (.sl (.int .u8)))) r6]], [.box [.ptr 1 0, .d .bool r7], .box [.d (.sl (.int .u8)) r8, .d (.int .i64) r9, .d .bool r10]] => some (r0, r1, r2, r3, r4, r5, r6, r7, r8, r9, r10)
 | _, _ => none
def qE.s12 (bs : List Int) (at0 : Int) (bad za : Bool) (qi : Int) (qb : LR) (x19 : Int) (x20 x21 : Bool) (x22 : (List Int)) (x23 : Int) (x24 : Bool) (x25 x26 x27 x28 : Int) (x29 : Bool) (x30 x31 x32 x33 x34 : Int) (x35 : Bool) (x36 : LF) : St := ⟨[.ptr 0 0, dD, dD, dD, dD, dD, .ptr 64 0, .ptr 65 0, .d tQi x19, .ptr 66 0, .d .bool x20, dD, dD, dD, dD, dD, dD, dD, dD, dD, dD, dD, dD, dD, dD, dD, dD, dD, dD, dD, dD, dD, dD, dD, dD, dD, dD, dD, dD, dD, dD, dD, dD, dD, dD, dD, dD, dD, dD, dD, dD, dD, dD, dD, dD, dD, dD, dD, dD, dD, dD, dD, dD, dD, dD, dD, dD, dD, dD, dD, dD, dD, dD, dD, dD, dD, dD, dD, dD, dD, dD, dD, dD, dD, dD, dD, dD, dD, dD, dD, dD, dD, dD, dD, dD, dD, dD, dD, dD, dD, dD, dD, dD, dD, dD, dD, dD, dD, dD, dD, dD, dD, dD, dD, dD, dD, dD, dD, dD, dD, dD, dD, .dead], ofL [(0, .box [.ptr 1 0, .d .bool x21]), (1, .box [.d (.sl (.int .u8)) x22, .d tQi x23, .d .bool x24]), (64, .box [.d tQi (0), .d tQi (0), .d tQi (0), .d tQi (0), .d tQi (0), .d .bool (false), .nilsl]), (65, .box [.d tQi x25, .d tQi (0), .d tQi x26, .d tQi x27, .d tQi x28, .d .bool x29, .nilsl]), (66, .box [.d tQi x30, .d tQi x31, .d tQi x32, .d tQi x33, .d tQi x34, .d .bool x35, .d (.sl (.pair tQi (.sl (.int .u8)))) x36])], 2⟩
def qE.p12 (qa : Nat) (bs : List Int) (at0 : Int) (bad za : Bool) (qi : Int) (qb : LR) (k : Nat) := fun x19 x20 x21 x22 x23 x24 x25 x26 x27 x28 x29 x30 x31 x32 x33 x34 x35 x36 => lp qb8 qa Tryz.f99 [.dat tQr true] 2 qE.k 12 [] k (qE.s12 bs at0 bad za qi qb x19 x20 x21 x22 x23 x24 x25 x26 x27 x28 x29 x30 x31 x32 x33 x34 x35 x36)
end
end Go.Proofs.YtneiiplppcjjlaaGreatDoor
