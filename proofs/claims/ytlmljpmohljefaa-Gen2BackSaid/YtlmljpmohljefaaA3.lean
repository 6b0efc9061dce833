/- Printed by auto.py: law13_Message, rec_where_api_Rec, gen3_writer_form, bag_Copy -/
import Derived.Test.YtlmljpmohljefaaTh
import Derived.Test.YtlmljpmohljefaaA0
import Derived.Test.YtlmljpmohljefaaA1
import Derived.Test.YtlmljpmohljefaaA2
import Derived.Test.YtlmljpmohljefaaP4
set_option linter.unusedVariables false
set_option linter.unusedSimpArgs false
set_option maxRecDepth 100000
namespace Go.Proofs.Ytlmljpmohljefaa
open Go.Den
noncomputable def law13_Message_E : Env := ⟨th, gam [(20, s_valid), (50, s_has), (73, s_law13_rows), (74, s_law13_num), (75, s_law13_record)], fun i => if i = 18 then ⟨[2, 5, 7, 10, 11], [(1650, 50, (.pair (.int .i64) (.pair (.int .i64) (.pair (.int .i64) (.pair (.pair (.int .i64) (.int .i64)) (.pair .bool (.sl (.pair (.int .i64) (.sl (.int .u8))))))))))], []⟩ else ⟨[], [], []⟩⟩
noncomputable def law13_Message.k (rs : List AV) (os : List Den.Obj) : Option (Int × Int × Int × Int × Int × Int × Int × Int × Int × Int × (List (Int × (Int × (Int × ((Int × Int) × (Bool × (List (Int × (List Int))))))))) × Bool) :=
  match rs, os with
  | [.agg [.d (.int .i64) r0, .d (.int .i64) r1, .d (.int .i64) r2, .d (.int .i64) r3, .d (.int .i64) r4, .d (.int .i64) r5, .d (.int .i64) r6, .d (.int .i64) r7, .d (.int .i64) r8, .d (.int .i64) r9, .d (.sl (.pair (.int .i64) (.pair (.int .i64) (.pair (.int .i64) (.pair (.pair (.int .i64) (.int .i64)) (.pair .bool (.sl (.pair (.int .i64) (.sl (.int .u8)))))))))) r10], .d .bool r11], [] => some (r0, r1, r2, r3, r4, r5, r6, r7, r8, r9, r10, r11)
  | _, _ => none
noncomputable def law13_Message.s18 (b : List Int) (x8 : (List (Int × (List Int)))) (x9 : Int) (x10 : (List Int)) (x11 : Int) (x12 : Int) (x13 : Int) (x14 : Int) (x15 : Int) (x16 : Int) (x17 : Int) (x18 : (List (Int × (Int × (Int × ((Int × Int) × (Bool × (List (Int × (List Int)))))))))) : St := ⟨[.dead, .dead, .ptr 64 0, .dead, .dead, .row 65, .dead, .d (.sl (.pair (.int .i64) (.sl (.int .u8)))) x8, .dead, .dead, .ptr 66 0, .d (.int .i64) x9, .dead, .dead, .dead, .dead, .dead, .dead, .dead, .dead, .dead, .dead, .dead, .dead, .dead, .dead, .dead, .dead, .dead, .dead, .dead, .dead, .dead, .dead, .dead, .dead, .dead, .dead, .dead, .dead, .dead, .dead, .dead, .dead, .dead, .dead, .dead, .dead, .dead, .dead, .dead, .dead, .dead, .dead, .dead, .dead, .dead, .dead, .dead, .dead, .dead, .dead, .dead, .dead, .dead, .dead, .dead, .dead, .dead, .dead, .dead, .dead, .dead, .dead, .dead, .dead, .dead, .dead, .dead, .dead, .dead, .dead, .dead, .dead, .dead, .dead, .dead, .dead, .dead, .dead, .dead, .dead, .dead, .dead, .dead, .dead, .dead, .dead, .dead, .dead, .dead, .dead, .dead, .dead, .dead, .dead, .dead, .dead, .dead, .dead, .dead, .dead, .dead, .dead, .dead, .dead, .dead, .dead, .dead, .dead, .dead, .dead, .dead, .dead, .dead, .dead, .dead, .dead, .dead, .dead, .dead, .dead, .dead, .dead, .dead, .dead, .dead, .dead, .dead, .dead, .dead, .dead, .dead, .dead, .dead, .dead, .dead, .dead], ofL [(64, .box [.d (.int .i64) (0), .d (.int .i64) (0), .d (.int .i64) (0), .d (.int .i64) (0), .d (.int .i64) (0), .d (.int .i64) (0), .d (.int .i64) (0), .d (.int .i64) (0), .d (.int .i64) (0), .d (.int .i64) (0), .nilsl]), (65, .row 3 (.int .i64) x10 true), (66, .box [.d (.int .i64) x11, .d (.int .i64) x12, .d (.int .i64) x13, .d (.int .i64) x14, .d (.int .i64) x15, .d (.int .i64) x16, .d (.int .i64) x17, .d (.int .i64) (0), .d (.int .i64) (0), .d (.int .i64) (0), .row 67]), (67, .row 50 (.pair (.int .i64) (.pair (.int .i64) (.pair (.int .i64) (.pair (.pair (.int .i64) (.int .i64)) (.pair .bool (.sl (.pair (.int .i64) (.sl (.int .u8))))))))) x18 false)], 0⟩
noncomputable def law13_Message.b18 (b : List Int) (A18 : (List (Int × (List Int))) → Int → (List Int) → Int → Int → Int → Int → Int → Int → Int → (List (Int × (Int × (Int × ((Int × Int) × (Bool × (List (Int × (List Int))))))))) → Option (Int × Int × Int × Int × Int × Int × Int × Int × Int × Int × (List (Int × (Int × (Int × ((Int × Int) × (Bool × (List (Int × (List Int))))))))) × Bool)) (x8 : (List (Int × (List Int)))) (x9 : Int) (x10 : (List Int)) (x11 : Int) (x12 : Int) (x13 : Int) (x14 : Int) (x15 : Int) (x16 : Int) (x17 : Int) (x18 : (List (Int × (Int × (Int × ((Int × Int) × (Bool × (List (Int × (List Int)))))))))) : Option (Int × Int × Int × Int × Int × Int × Int × Int × Int × Int × (List (Int × (Int × (Int × ((Int × Int) × (Bool × (List (Int × (List Int))))))))) × Bool) :=
  (if (decide (x9 < ((((List.length x8)) : Nat) : Int))) then (if (decide (x9 < ((((List.length x10)) : Nat) : Int))) then (match (idx x10 x9) with | none => none | some y19 => (match (idx x10 x9) with | none => none | some y20 => (if (y20 == (5 : Int)) then (match (idx x8 x9) with | none => none | some y21 => (match (veil (law13_num.f BIG y21.2)) with | none => none | some y22 => A18 x8 (Go.IntKind.wrap .i64 (x9 + (1 : Int))) x10 x11 x12 x13 x14 x15 y22 x17 x18)) else (if (decide (x9 < ((((List.length x10)) : Nat) : Int))) then (match (idx x8 x9) with | none => none | some y23 => (match (veil (law13_num.f BIG y23.2)) with | none => none | some y24 => A18 x8 (Go.IntKind.wrap .i64 (x9 + (1 : Int))) x10 x11 x12 x13 x14 x15 x16 y24 x18)) else (match (idx x8 x9) with | none => none | some y25 => (match (veil (law13_record.f BIG y25.2)) with | none => none | some y26 => (match (idx x8 x9) with | none => none | some y27 => (if (y27.1 != (7 : Int)) then some (0, 0, 0, 0, 0, 0, 0, 0, 0, 0, ([] : List (Int × (Int × (Int × ((Int × Int) × (Bool × (List (Int × (List Int))))))))), false) else (if (!y26.2.2.2.2.2.2.2) then some (0, 0, 0, 0, 0, 0, 0, 0, 0, 0, ([] : List (Int × (Int × (Int × ((Int × Int) × (Bool × (List (Int × (List Int))))))))), false) else (if ((((List.length x18) + (List.length ((y26.1, (y26.2.1, (y26.2.2.1, ((y26.2.2.2.1, y26.2.2.2.2.1), (y26.2.2.2.2.2.1, y26.2.2.2.2.2.2.1))))) :: ([] : List (Int × (Int × (Int × ((Int × Int) × (Bool × (List (Int × (List Int)))))))))))) * (72 : Nat)) ≤ lim) then A18 x8 (Go.IntKind.wrap .i64 (x9 + (1 : Int))) x10 x11 x12 x13 x14 x15 x16 x17 (x18 ++ ((y26.1, (y26.2.1, (y26.2.2.1, ((y26.2.2.2.1, y26.2.2.2.2.1), (y26.2.2.2.2.2.1, y26.2.2.2.2.2.2.1))))) :: ([] : List (Int × (Int × (Int × ((Int × Int) × (Bool × (List (Int × (List Int))))))))))) else none)))))))))) else (if (decide (x9 < ((((List.length x10)) : Nat) : Int))) then (match (idx x8 x9) with | none => none | some y28 => (match (veil (law13_num.f BIG y28.2)) with | none => none | some y29 => A18 x8 (Go.IntKind.wrap .i64 (x9 + (1 : Int))) x10 x11 x12 x13 x14 x15 x16 y29 x18)) else (match (idx x8 x9) with | none => none | some y30 => (match (veil (law13_record.f BIG y30.2)) with | none => none | some y31 => (match (idx x8 x9) with | none => none | some y32 => (if (y32.1 != (7 : Int)) then some (0, 0, 0, 0, 0, 0, 0, 0, 0, 0, ([] : List (Int × (Int × (Int × ((Int × Int) × (Bool × (List (Int × (List Int))))))))), false) else (if (!y31.2.2.2.2.2.2.2) then some (0, 0, 0, 0, 0, 0, 0, 0, 0, 0, ([] : List (Int × (Int × (Int × ((Int × Int) × (Bool × (List (Int × (List Int))))))))), false) else (if ((((List.length x18) + (List.length ((y31.1, (y31.2.1, (y31.2.2.1, ((y31.2.2.2.1, y31.2.2.2.2.1), (y31.2.2.2.2.2.1, y31.2.2.2.2.2.2.1))))) :: ([] : List (Int × (Int × (Int × ((Int × Int) × (Bool × (List (Int × (List Int)))))))))))) * (72 : Nat)) ≤ lim) then A18 x8 (Go.IntKind.wrap .i64 (x9 + (1 : Int))) x10 x11 x12 x13 x14 x15 x16 x17 (x18 ++ ((y31.1, (y31.2.1, (y31.2.2.1, ((y31.2.2.2.1, y31.2.2.2.2.1), (y31.2.2.2.2.2.1, y31.2.2.2.2.2.2.1))))) :: ([] : List (Int × (Int × (Int × ((Int × Int) × (Bool × (List (Int × (List Int))))))))))) else none)))))))) else (if (smallRecs x18) then (if (!(validF x11 x12 x13 x14 x15 x16 x17 0 0 0 x18)) then some (0, 0, 0, 0, 0, 0, 0, 0, 0, 0, ([] : List (Int × (Int × (Int × ((Int × Int) × (Bool × (List (Int × (List Int))))))))), false) else (if (x11 == (9 : Int)) then some (0, 0, 0, 0, 0, 0, 0, 0, 0, 0, ([] : List (Int × (Int × (Int × ((Int × Int) × (Bool × (List (Int × (List Int))))))))), false) else some (x11, x12, x13, x14, x15, x16, x17, 0, 0, 0, x18, true))) else none))
noncomputable def law13_Message.l18 (fuel : Nat) (b : List Int) : Nat → (List (Int × (List Int))) → Int → (List Int) → Int → Int → Int → Int → Int → Int → Int → (List (Int × (Int × (Int × ((Int × Int) × (Bool × (List (Int × (List Int))))))))) → Option (Int × Int × Int × Int × Int × Int × Int × Int × Int × Int × (List (Int × (Int × (Int × ((Int × Int) × (Bool × (List (Int × (List Int))))))))) × Bool)
  | 0, _, _, _, _, _, _, _, _, _, _, _ => none
  | k + 1, x8, x9, x10, x11, x12, x13, x14, x15, x16, x17, x18 => law13_Message.b18 b (law13_Message.l18 fuel b k) x8 x9 x10 x11 x12 x13 x14 x15 x16 x17 x18
noncomputable def law13_Message.b (b : List Int) (E18 : (List (Int × (List Int))) → Int → (List Int) → Int → Int → Int → Int → Int → Int → Int → (List (Int × (Int × (Int × ((Int × Int) × (Bool × (List (Int × (List Int))))))))) → Option (Int × Int × Int × Int × Int × Int × Int × Int × Int × Int × (List (Int × (Int × (Int × ((Int × Int) × (Bool × (List (Int × (List Int))))))))) × Bool)) : Option (Int × Int × Int × Int × Int × Int × Int × Int × Int × Int × (List (Int × (Int × (Int × ((Int × Int) × (Bool × (List (Int × (List Int))))))))) × Bool) :=
  (if (decide (((((List.length b)) : Nat) : Int) < (4 : Int))) then some (0, 0, 0, 0, 0, 0, 0, 0, 0, 0, ([] : List (Int × (Int × (Int × ((Int × Int) × (Bool × (List (Int × (List Int))))))))), false) else (if (decide (((((List.length b)) : Nat) : Int) > (65499 : Int))) then some (0, 0, 0, 0, 0, 0, 0, 0, 0, 0, ([] : List (Int × (Int × (Int × ((Int × Int) × (Bool × (List (Int × (List Int))))))))), false) else (match (idx b (3 : Int)) with | none => none | some y0 => (if (hasF (Go.IntKind.wrap .i64 y0) (0 : Int)) then (if (hasF (Go.IntKind.wrap .i64 y0) (1 : Int)) then (match (veil (law13_rows.f BIG b ((((1 : Int) :: ((2 : Int) :: ((3 : Int) :: ((4 : Int) :: ([] : List Int))))) ++ ((5 : Int) :: ([] : List Int))) ++ ((6 : Int) :: ([] : List Int))) ((((1 : Int) :: ((2 : Int) :: ((6 : Int) :: ((1 : Int) :: ([] : List Int))))) ++ ((2 : Int) :: ([] : List Int))) ++ ((2 : Int) :: ([] : List Int))))) with | none => none | some y1 => (if (!y1.2) then some (0, 0, 0, 0, 0, 0, 0, 0, 0, 0, ([] : List (Int × (Int × (Int × ((Int × Int) × (Bool × (List (Int × (List Int))))))))), false) else (match (idx y1.1 (3 : Int)) with | none => none | some y2 => (match (veil (law13_num.f BIG y2.2)) with | none => none | some y3 => (match (idx y1.1 (1 : Int)) with | none => none | some y4 => (match (veil (law13_num.f BIG y4.2)) with | none => none | some y5 => (match (idx y1.1 (2 : Int)) with | none => none | some y6 => (match (veil (law13_num.f BIG y6.2)) with | none => none | some y7 => E18 y1.1 (4 : Int) ((((1 : Int) :: ((2 : Int) :: ((3 : Int) :: ((4 : Int) :: ([] : List Int))))) ++ ((5 : Int) :: ([] : List Int))) ++ ((6 : Int) :: ([] : List Int))) (Go.IntKind.wrap .i64 y0) y5 y7 (Go.IntKind.wrap .i64 (Int.tdiv y3 (16 : Int))) (Int.tmod y3 (16 : Int)) 0 0 ([] : List (Int × (Int × (Int × ((Int × Int) × (Bool × (List (Int × (List Int))))))))))))))))) else (match (veil (law13_rows.f BIG b (((1 : Int) :: ((2 : Int) :: ((3 : Int) :: ((4 : Int) :: ([] : List Int))))) ++ ((5 : Int) :: ([] : List Int))) (((1 : Int) :: ((2 : Int) :: ((6 : Int) :: ((1 : Int) :: ([] : List Int))))) ++ ((2 : Int) :: ([] : List Int))))) with | none => none | some y33 => (if (!y33.2) then some (0, 0, 0, 0, 0, 0, 0, 0, 0, 0, ([] : List (Int × (Int × (Int × ((Int × Int) × (Bool × (List (Int × (List Int))))))))), false) else (match (idx y33.1 (3 : Int)) with | none => none | some y34 => (match (veil (law13_num.f BIG y34.2)) with | none => none | some y35 => (match (idx y33.1 (1 : Int)) with | none => none | some y36 => (match (veil (law13_num.f BIG y36.2)) with | none => none | some y37 => (match (idx y33.1 (2 : Int)) with | none => none | some y38 => (match (veil (law13_num.f BIG y38.2)) with | none => none | some y39 => E18 y33.1 (4 : Int) (((1 : Int) :: ((2 : Int) :: ((3 : Int) :: ((4 : Int) :: ([] : List Int))))) ++ ((5 : Int) :: ([] : List Int))) (Go.IntKind.wrap .i64 y0) y37 y39 (Go.IntKind.wrap .i64 (Int.tdiv y35 (16 : Int))) (Int.tmod y35 (16 : Int)) 0 0 ([] : List (Int × (Int × (Int × ((Int × Int) × (Bool × (List (Int × (List Int)))))))))))))))))) else (if (hasF (Go.IntKind.wrap .i64 y0) (1 : Int)) then (match (veil (law13_rows.f BIG b (((1 : Int) :: ((2 : Int) :: ((3 : Int) :: ((4 : Int) :: ([] : List Int))))) ++ ((6 : Int) :: ([] : List Int))) (((1 : Int) :: ((2 : Int) :: ((6 : Int) :: ((1 : Int) :: ([] : List Int))))) ++ ((2 : Int) :: ([] : List Int))))) with | none => none | some y40 => (if (!y40.2) then some (0, 0, 0, 0, 0, 0, 0, 0, 0, 0, ([] : List (Int × (Int × (Int × ((Int × Int) × (Bool × (List (Int × (List Int))))))))), false) else (match (idx y40.1 (3 : Int)) with | none => none | some y41 => (match (veil (law13_num.f BIG y41.2)) with | none => none | some y42 => (match (idx y40.1 (1 : Int)) with | none => none | some y43 => (match (veil (law13_num.f BIG y43.2)) with | none => none | some y44 => (match (idx y40.1 (2 : Int)) with | none => none | some y45 => (match (veil (law13_num.f BIG y45.2)) with | none => none | some y46 => E18 y40.1 (4 : Int) (((1 : Int) :: ((2 : Int) :: ((3 : Int) :: ((4 : Int) :: ([] : List Int))))) ++ ((6 : Int) :: ([] : List Int))) (Go.IntKind.wrap .i64 y0) y44 y46 (Go.IntKind.wrap .i64 (Int.tdiv y42 (16 : Int))) (Int.tmod y42 (16 : Int)) 0 0 ([] : List (Int × (Int × (Int × ((Int × Int) × (Bool × (List (Int × (List Int))))))))))))))))) else (match (veil (law13_rows.f BIG b ((1 : Int) :: ((2 : Int) :: ((3 : Int) :: ((4 : Int) :: ([] : List Int))))) ((1 : Int) :: ((2 : Int) :: ((6 : Int) :: ((1 : Int) :: ([] : List Int))))))) with | none => none | some y47 => (if (!y47.2) then some (0, 0, 0, 0, 0, 0, 0, 0, 0, 0, ([] : List (Int × (Int × (Int × ((Int × Int) × (Bool × (List (Int × (List Int))))))))), false) else (match (idx y47.1 (3 : Int)) with | none => none | some y48 => (match (veil (law13_num.f BIG y48.2)) with | none => none | some y49 => (match (idx y47.1 (1 : Int)) with | none => none | some y50 => (match (veil (law13_num.f BIG y50.2)) with | none => none | some y51 => (match (idx y47.1 (2 : Int)) with | none => none | some y52 => (match (veil (law13_num.f BIG y52.2)) with | none => none | some y53 => E18 y47.1 (4 : Int) ((1 : Int) :: ((2 : Int) :: ((3 : Int) :: ((4 : Int) :: ([] : List Int))))) (Go.IntKind.wrap .i64 y0) y51 y53 (Go.IntKind.wrap .i64 (Int.tdiv y49 (16 : Int))) (Int.tmod y49 (16 : Int)) 0 0 ([] : List (Int × (Int × (Int × ((Int × Int) × (Bool × (List (Int × (List Int))))))))))))))))))))))
noncomputable def law13_Message.f (fuel : Nat) (b : List Int) : Option (Int × Int × Int × Int × Int × Int × Int × Int × Int × Int × (List (Int × (Int × (Int × ((Int × Int) × (Bool × (List (Int × (List Int))))))))) × Bool) := law13_Message.b b (law13_Message.l18 fuel b fuel)
theorem law13_Message.l18_eq (fuel : Nat) (b : List Int) : ∀ (k : Nat) (x8 : (List (Int × (List Int)))) (x9 : Int) (x10 : (List Int)) (x11 : Int) (x12 : Int) (x13 : Int) (x14 : Int) (x15 : Int) (x16 : Int) (x17 : Int) (x18 : (List (Int × (Int × (Int × ((Int × Int) × (Bool × (List (Int × (List Int)))))))))), lp law13_Message_E fuel Try.f32 [.dat (.pair (.int .i64) (.pair (.int .i64) (.pair (.int .i64) (.pair (.pair (.int .i64) (.int .i64)) (.pair (.int .i64) (.pair (.int .i64) (.pair (.int .i64) (.pair (.int .i64) (.pair (.int .i64) (.sl (.pair (.int .i64) (.pair (.int .i64) (.pair (.int .i64) (.pair (.pair (.int .i64) (.int .i64)) (.pair .bool (.sl (.pair (.int .i64) (.sl (.int .u8))))))))))))))))))) true, .raw] 0 law13_Message.k 18 [] k (law13_Message.s18 b x8 x9 x10 x11 x12 x13 x14 x15 x16 x17 x18) = law13_Message.l18 fuel b k x8 x9 x10 x11 x12 x13 x14 x15 x16 x17 x18 := by
  intro k
  induction k with
  | zero => intro x8 x9 x10 x11 x12 x13 x14 x15 x16 x17 x18; rfl
  | succ k ih =>
    intro x8 x9 x10 x11 x12 x13 x14 x15 x16 x17 x18
    have h : lp law13_Message_E fuel Try.f32 [.dat (.pair (.int .i64) (.pair (.int .i64) (.pair (.int .i64) (.pair (.pair (.int .i64) (.int .i64)) (.pair (.int .i64) (.pair (.int .i64) (.pair (.int .i64) (.pair (.int .i64) (.pair (.int .i64) (.sl (.pair (.int .i64) (.pair (.int .i64) (.pair (.int .i64) (.pair (.pair (.int .i64) (.int .i64)) (.pair .bool (.sl (.pair (.int .i64) (.sl (.int .u8))))))))))))))))))) true, .raw] 0 law13_Message.k 18 [] (k + 1) (law13_Message.s18 b x8 x9 x10 x11 x12 x13 x14 x15 x16 x17 x18) = law13_Message.b18 b (fun x8 x9 x10 x11 x12 x13 x14 x15 x16 x17 x18 => lp law13_Message_E fuel Try.f32 [.dat (.pair (.int .i64) (.pair (.int .i64) (.pair (.int .i64) (.pair (.pair (.int .i64) (.int .i64)) (.pair (.int .i64) (.pair (.int .i64) (.pair (.int .i64) (.pair (.int .i64) (.pair (.int .i64) (.sl (.pair (.int .i64) (.pair (.int .i64) (.pair (.int .i64) (.pair (.pair (.int .i64) (.int .i64)) (.pair .bool (.sl (.pair (.int .i64) (.sl (.int .u8))))))))))))))))))) true, .raw] 0 law13_Message.k 18 [] k (law13_Message.s18 b x8 x9 x10 x11 x12 x13 x14 x15 x16 x17 x18)) x8 x9 x10 x11 x12 x13 x14 x15 x16 x17 x18 := by kernel_rfl
    rw [h]
    have e18 : (fun x8 x9 x10 x11 x12 x13 x14 x15 x16 x17 x18 => lp law13_Message_E fuel Try.f32 [.dat (.pair (.int .i64) (.pair (.int .i64) (.pair (.int .i64) (.pair (.pair (.int .i64) (.int .i64)) (.pair (.int .i64) (.pair (.int .i64) (.pair (.int .i64) (.pair (.int .i64) (.pair (.int .i64) (.sl (.pair (.int .i64) (.pair (.int .i64) (.pair (.int .i64) (.pair (.pair (.int .i64) (.int .i64)) (.pair .bool (.sl (.pair (.int .i64) (.sl (.int .u8))))))))))))))))))) true, .raw] 0 law13_Message.k 18 [] k (law13_Message.s18 b x8 x9 x10 x11 x12 x13 x14 x15 x16 x17 x18)) = law13_Message.l18 fuel b k := (funext fun x8 => (funext fun x9 => (funext fun x10 => (funext fun x11 => (funext fun x12 => (funext fun x13 => (funext fun x14 => (funext fun x15 => (funext fun x16 => (funext fun x17 => (funext fun x18 => ih x8 x9 x10 x11 x12 x13 x14 x15 x16 x17 x18)))))))))))
    rw [e18]
    rfl
theorem law13_Message.eq (fuel : Nat) (b : List Int) : (denF law13_Message_E loopN fuel Try.f32 [.dat (.pair (.int .i64) (.pair (.int .i64) (.pair (.int .i64) (.pair (.pair (.int .i64) (.int .i64)) (.pair (.int .i64) (.pair (.int .i64) (.pair (.int .i64) (.pair (.int .i64) (.pair (.int .i64) (.sl (.pair (.int .i64) (.pair (.int .i64) (.pair (.int .i64) (.pair (.pair (.int .i64) (.int .i64)) (.pair .bool (.sl (.pair (.int .i64) (.sl (.int .u8))))))))))))))))))) true, .raw] [.d (.sl (.int .u8)) b] [] law13_Message.k) = law13_Message.f fuel b := by
  have h : (denF law13_Message_E loopN fuel Try.f32 [.dat (.pair (.int .i64) (.pair (.int .i64) (.pair (.int .i64) (.pair (.pair (.int .i64) (.int .i64)) (.pair (.int .i64) (.pair (.int .i64) (.pair (.int .i64) (.pair (.int .i64) (.pair (.int .i64) (.sl (.pair (.int .i64) (.pair (.int .i64) (.pair (.int .i64) (.pair (.pair (.int .i64) (.int .i64)) (.pair .bool (.sl (.pair (.int .i64) (.sl (.int .u8))))))))))))))))))) true, .raw] [.d (.sl (.int .u8)) b] [] law13_Message.k) = law13_Message.b b (fun x8 x9 x10 x11 x12 x13 x14 x15 x16 x17 x18 => lp law13_Message_E fuel Try.f32 [.dat (.pair (.int .i64) (.pair (.int .i64) (.pair (.int .i64) (.pair (.pair (.int .i64) (.int .i64)) (.pair (.int .i64) (.pair (.int .i64) (.pair (.int .i64) (.pair (.int .i64) (.pair (.int .i64) (.sl (.pair (.int .i64) (.pair (.int .i64) (.pair (.int .i64) (.pair (.pair (.int .i64) (.int .i64)) (.pair .bool (.sl (.pair (.int .i64) (.sl (.int .u8))))))))))))))))))) true, .raw] 0 law13_Message.k 18 [] fuel (law13_Message.s18 b x8 x9 x10 x11 x12 x13 x14 x15 x16 x17 x18)) := by kernel_rfl
  rw [h]
  have e18 : (fun x8 x9 x10 x11 x12 x13 x14 x15 x16 x17 x18 => lp law13_Message_E fuel Try.f32 [.dat (.pair (.int .i64) (.pair (.int .i64) (.pair (.int .i64) (.pair (.pair (.int .i64) (.int .i64)) (.pair (.int .i64) (.pair (.int .i64) (.pair (.int .i64) (.pair (.int .i64) (.pair (.int .i64) (.sl (.pair (.int .i64) (.pair (.int .i64) (.pair (.int .i64) (.pair (.pair (.int .i64) (.int .i64)) (.pair .bool (.sl (.pair (.int .i64) (.sl (.int .u8))))))))))))))))))) true, .raw] 0 law13_Message.k 18 [] fuel (law13_Message.s18 b x8 x9 x10 x11 x12 x13 x14 x15 x16 x17 x18)) = law13_Message.l18 fuel b fuel := (funext fun x8 => (funext fun x9 => (funext fun x10 => (funext fun x11 => (funext fun x12 => (funext fun x13 => (funext fun x14 => (funext fun x15 => (funext fun x16 => (funext fun x17 => (funext fun x18 => law13_Message.l18_eq fuel b fuel x8 x9 x10 x11 x12 x13 x14 x15 x16 x17 x18)))))))))))
  rw [e18]
  rfl

noncomputable def s_law13_Message : Den.Sum := ⟨[.dat (.sl (.int .u8)) false], fun args objs κ => match args, objs with
  | [.d (.sl (.int .u8)) b], [] => (match veil (law13_Message.f BIG b) with | none => none | some y => κ [.agg [.d (.int .i64) y.1, .d (.int .i64) y.2.1, .d (.int .i64) y.2.2.1, .d (.int .i64) y.2.2.2.1, .d (.int .i64) y.2.2.2.2.1, .d (.int .i64) y.2.2.2.2.2.1, .d (.int .i64) y.2.2.2.2.2.2.1, .d (.int .i64) y.2.2.2.2.2.2.2.1, .d (.int .i64) y.2.2.2.2.2.2.2.2.1, .d (.int .i64) y.2.2.2.2.2.2.2.2.2.1, .d (.sl (.pair (.int .i64) (.pair (.int .i64) (.pair (.int .i64) (.pair (.pair (.int .i64) (.int .i64)) (.pair .bool (.sl (.pair (.int .i64) (.sl (.int .u8)))))))))) y.2.2.2.2.2.2.2.2.2.2.1], .d .bool y.2.2.2.2.2.2.2.2.2.2.2] [])
  | _, _ => none⟩
theorem s_law13_Message_det : SumDet s_law13_Message := fun avs objs R κ => by
  show s_law13_Message.run avs objs (two κ) = (s_law13_Message.run avs objs (two some)).bind κ
  unfold s_law13_Message
  simp only [veil_eq]
  split
  · split <;> rfl
  · rfl
theorem s_law13_Message_ok : SumOk Try.prog 32 s_law13_Message := by
  have hE : EnvOk Try.prog law13_Message_E := env_ok (l := [(20, s_valid), (50, s_has), (73, s_law13_rows), (74, s_law13_num), (75, s_law13_record)]) th_ok any_ok ⟨⟨s_valid_ok, s_valid_det⟩, ⟨s_has_ok, s_has_det⟩, ⟨s_law13_rows_ok, s_law13_rows_det⟩, ⟨s_law13_num_ok, s_law13_num_det⟩, ⟨s_law13_record_ok, s_law13_record_det⟩, trivial⟩ _
  refine sum_ok hE Try.func32 rfl (by kernel_rfl) s_law13_Message [.dat (.pair (.int .i64) (.pair (.int .i64) (.pair (.int .i64) (.pair (.pair (.int .i64) (.int .i64)) (.pair (.int .i64) (.pair (.int .i64) (.pair (.int .i64) (.pair (.int .i64) (.pair (.int .i64) (.sl (.pair (.int .i64) (.pair (.int .i64) (.pair (.int .i64) (.pair (.pair (.int .i64) (.int .i64)) (.pair .bool (.sl (.pair (.int .i64) (.sl (.int .u8))))))))))))))))))) true, .raw] law13_Message.k ?_
  intro R avs objs κ r h
  unfold s_law13_Message at h
  simp only [veil_eq] at h
  split at h
  · rename_i b
    split at h
    · cases h
    · rename_i y hy
      refine ⟨BIG, _, _, _, (law13_Message.eq BIG b).trans hy, ?_, h⟩
      intro rs ros hk
      unfold law13_Message.k at hk
      split at hk
      · first | (cases hk; exact ⟨rfl, rfl⟩) | (have e := Option.some.inj hk; rw [← e]; exact ⟨rfl, rfl⟩)
      · cases hk
  · cases h
noncomputable def rec_where_api_Rec_find_E : Env := ⟨th, gam [(102, s_rec_Find_c1)], fun i => if i = 2 then ⟨[0, 1, 7, 8, 9], [], []⟩ else ⟨[], [], []⟩⟩
noncomputable def rec_where_api_Rec_find.k (rs : List AV) (os : List Den.Obj) : Option (Int × Int) :=
  match rs, os with
  | [.d (.int .i64) r0], [.box [.d (.int .i64) r1]] => some (r0, r1)
  | _, _ => none
noncomputable def rec_where_api_Rec_find.s2 (l : List (Int × Int × Int × (Int × Int) × Bool × List (Int × List Int))) (id0 : Int) (x0 : Int) (x1 : Int) (x2 : Int) : St := ⟨[.d (.sl (.pair (.int .i64) (.pair (.int .i64) (.pair (.int .i64) (.pair (.pair (.int .i64) (.int .i64)) (.pair .bool (.sl (.pair (.int .i64) (.sl (.int .u8)))))))))) (l), .fn (.func 102) [] [.ptr 0 0], .dead, .dead, .dead, .dead, .dead, .d (.sl (.pair (.int .i64) (.pair (.int .i64) (.pair (.int .i64) (.pair (.pair (.int .i64) (.int .i64)) (.pair .bool (.sl (.pair (.int .i64) (.sl (.int .u8)))))))))) (l), .d (.int .i64) x0, .d (.int .i64) x1, .dead, .dead, .dead, .dead, .dead, .dead, .dead, .dead, .dead, .dead, .dead], ofL [(0, .box [.d (.int .i64) x2])], 1⟩
noncomputable def rec_where_api_Rec_find.b2 (l : List (Int × Int × Int × (Int × Int) × Bool × List (Int × List Int))) (id0 : Int) (A2 : Int → Int → Int → Option (Int × Int)) (x0 : Int) (x1 : Int) (x2 : Int) : Option (Int × Int) :=
  (if (decide (x1 < x0)) then (match (idx l x1) with | none => none | some y3 => (match (veil (rec_Find_c1.f BIG y3.1 y3.2.1 y3.2.2.1 y3.2.2.2.1.1 y3.2.2.2.1.2 y3.2.2.2.2.1 y3.2.2.2.2.2 x2)) with | none => none | some y4 => (if y4.1 then some (x1, y4.2) else A2 x0 (Go.IntKind.wrap .i64 (x1 + (1 : Int))) y4.2))) else some (((((List.length l)) : Nat) : Int), x2))
noncomputable def rec_where_api_Rec_find.l2 (fuel : Nat) (l : List (Int × Int × Int × (Int × Int) × Bool × List (Int × List Int))) (id0 : Int) : Nat → Int → Int → Int → Option (Int × Int)
  | 0, _, _, _ => none
  | k + 1, x0, x1, x2 => rec_where_api_Rec_find.b2 l id0 (rec_where_api_Rec_find.l2 fuel l id0 k) x0 x1 x2
noncomputable def rec_where_api_Rec_find.b (l : List (Int × Int × Int × (Int × Int) × Bool × List (Int × List Int))) (id0 : Int) (E2 : Int → Int → Int → Option (Int × Int)) : Option (Int × Int) :=
  E2 ((((List.length l)) : Nat) : Int) (0 : Int) id0
noncomputable def rec_where_api_Rec_find.f (fuel : Nat) (l : List (Int × Int × Int × (Int × Int) × Bool × List (Int × List Int))) (id0 : Int) : Option (Int × Int) := rec_where_api_Rec_find.b l id0 (rec_where_api_Rec_find.l2 fuel l id0 fuel)
theorem rec_where_api_Rec_find.l2_eq (fuel : Nat) (l : List (Int × Int × Int × (Int × Int) × Bool × List (Int × List Int))) (id0 : Int) : ∀ (k : Nat) (x0 : Int) (x1 : Int) (x2 : Int), lp rec_where_api_Rec_find_E fuel Try.f84 [.raw] 1 rec_where_api_Rec_find.k 2 [] k (rec_where_api_Rec_find.s2 l id0 x0 x1 x2) = rec_where_api_Rec_find.l2 fuel l id0 k x0 x1 x2 := by
  intro k
  induction k with
  | zero => intro x0 x1 x2; rfl
  | succ k ih =>
    intro x0 x1 x2
    have h : lp rec_where_api_Rec_find_E fuel Try.f84 [.raw] 1 rec_where_api_Rec_find.k 2 [] (k + 1) (rec_where_api_Rec_find.s2 l id0 x0 x1 x2) = rec_where_api_Rec_find.b2 l id0 (fun x0 x1 x2 => lp rec_where_api_Rec_find_E fuel Try.f84 [.raw] 1 rec_where_api_Rec_find.k 2 [] k (rec_where_api_Rec_find.s2 l id0 x0 x1 x2)) x0 x1 x2 := by kernel_rfl
    rw [h]
    have e2 : (fun x0 x1 x2 => lp rec_where_api_Rec_find_E fuel Try.f84 [.raw] 1 rec_where_api_Rec_find.k 2 [] k (rec_where_api_Rec_find.s2 l id0 x0 x1 x2)) = rec_where_api_Rec_find.l2 fuel l id0 k := (funext fun x0 => (funext fun x1 => (funext fun x2 => ih x0 x1 x2)))
    rw [e2]
    rfl
theorem rec_where_api_Rec_find.eq (fuel : Nat) (l : List (Int × Int × Int × (Int × Int) × Bool × List (Int × List Int))) (id0 : Int) : (denF rec_where_api_Rec_find_E loopN fuel Try.f84 [.raw] [.d (.sl (.pair (.int .i64) (.pair (.int .i64) (.pair (.int .i64) (.pair (.pair (.int .i64) (.int .i64)) (.pair .bool (.sl (.pair (.int .i64) (.sl (.int .u8)))))))))) l, .fn (.func 102) [] [.ptr 0 0]] [.box [.d (.int .i64) id0]] rec_where_api_Rec_find.k) = rec_where_api_Rec_find.f fuel l id0 := by
  have h : (denF rec_where_api_Rec_find_E loopN fuel Try.f84 [.raw] [.d (.sl (.pair (.int .i64) (.pair (.int .i64) (.pair (.int .i64) (.pair (.pair (.int .i64) (.int .i64)) (.pair .bool (.sl (.pair (.int .i64) (.sl (.int .u8)))))))))) l, .fn (.func 102) [] [.ptr 0 0]] [.box [.d (.int .i64) id0]] rec_where_api_Rec_find.k) = rec_where_api_Rec_find.b l id0 (fun x0 x1 x2 => lp rec_where_api_Rec_find_E fuel Try.f84 [.raw] 1 rec_where_api_Rec_find.k 2 [] fuel (rec_where_api_Rec_find.s2 l id0 x0 x1 x2)) := by kernel_rfl
  rw [h]
  have e2 : (fun x0 x1 x2 => lp rec_where_api_Rec_find_E fuel Try.f84 [.raw] 1 rec_where_api_Rec_find.k 2 [] fuel (rec_where_api_Rec_find.s2 l id0 x0 x1 x2)) = rec_where_api_Rec_find.l2 fuel l id0 fuel := (funext fun x0 => (funext fun x1 => (funext fun x2 => rec_where_api_Rec_find.l2_eq fuel l id0 fuel x0 x1 x2)))
  rw [e2]
  rfl

noncomputable def s_rec_where_api_Rec_find : Den.Sum := ⟨[.dat (.sl (.pair (.int .i64) (.pair (.int .i64) (.pair (.int .i64) (.pair (.pair (.int .i64) (.int .i64)) (.pair .bool (.sl (.pair (.int .i64) (.sl (.int .u8)))))))))) false, .raw], fun args objs κ => match args, objs with
  | [.d (.sl (.pair (.int .i64) (.pair (.int .i64) (.pair (.int .i64) (.pair (.pair (.int .i64) (.int .i64)) (.pair .bool (.sl (.pair (.int .i64) (.sl (.int .u8)))))))))) l, .fn (.func 102) [] [.ptr 0 0]], [.box [.d (.int .i64) id0]] => (match veil (rec_where_api_Rec_find.f BIG l id0) with | none => none | some y => κ [.d (.int .i64) y.1] [.box [.d (.int .i64) y.2]])
  | _, _ => none⟩
theorem s_rec_where_api_Rec_find_det : SumDet s_rec_where_api_Rec_find := fun avs objs R κ => by
  show s_rec_where_api_Rec_find.run avs objs (two κ) = (s_rec_where_api_Rec_find.run avs objs (two some)).bind κ
  unfold s_rec_where_api_Rec_find
  simp only [veil_eq]
  split
  · split <;> rfl
  · rfl
theorem s_rec_where_api_Rec_find_ok : SumOk Try.prog 84 s_rec_where_api_Rec_find := by
  have hE : EnvOk Try.prog rec_where_api_Rec_find_E := env_ok (l := [(102, s_rec_Find_c1)]) th_ok any_ok ⟨⟨s_rec_Find_c1_ok, s_rec_Find_c1_det⟩, trivial⟩ _
  refine sum_ok hE Try.func84 rfl (by kernel_rfl) s_rec_where_api_Rec_find [.raw] rec_where_api_Rec_find.k ?_
  intro R avs objs κ r h
  unfold s_rec_where_api_Rec_find at h
  simp only [veil_eq] at h
  split at h
  · rename_i l id0
    split at h
    · cases h
    · rename_i y hy
      refine ⟨BIG, _, _, _, (rec_where_api_Rec_find.eq BIG l id0).trans hy, ?_, h⟩
      intro rs ros hk
      unfold rec_where_api_Rec_find.k at hk
      split at hk
      · first | (cases hk; exact ⟨rfl, rfl⟩) | (have e := Option.some.inj hk; rw [← e]; exact ⟨rfl, rfl⟩)
      · cases hk
  · cases h
noncomputable def s_rec_where_api_Rec : Den.Sum := ⟨[.dat (.sl (.pair (.int .i64) (.pair (.int .i64) (.pair (.int .i64) (.pair (.pair (.int .i64) (.int .i64)) (.pair .bool (.sl (.pair (.int .i64) (.sl (.int .u8)))))))))) false, .raw], fun args objs κ => match args, objs with
  | [.d (.sl (.pair (.int .i64) (.pair (.int .i64) (.pair (.int .i64) (.pair (.pair (.int .i64) (.int .i64)) (.pair .bool (.sl (.pair (.int .i64) (.sl (.int .u8)))))))))) l, .fn (.func 85) [] [.ptr 0 0]], [.box [.d (.int .i64) last]] => s_where.run [.d (.sl (.pair (.int .i64) (.pair (.int .i64) (.pair (.int .i64) (.pair (.pair (.int .i64) (.int .i64)) (.pair .bool (.sl (.pair (.int .i64) (.sl (.int .u8)))))))))) l, .fn (.func 85) [] [.ptr 0 0]] [.box [.d (.int .i64) last]] κ
  | [.d (.sl (.pair (.int .i64) (.pair (.int .i64) (.pair (.int .i64) (.pair (.pair (.int .i64) (.int .i64)) (.pair .bool (.sl (.pair (.int .i64) (.sl (.int .u8)))))))))) l, .fn (.func 102) [] [.ptr 0 0]], [.box [.d (.int .i64) id0]] => s_rec_where_api_Rec_find.run [.d (.sl (.pair (.int .i64) (.pair (.int .i64) (.pair (.int .i64) (.pair (.pair (.int .i64) (.int .i64)) (.pair .bool (.sl (.pair (.int .i64) (.sl (.int .u8)))))))))) l, .fn (.func 102) [] [.ptr 0 0]] [.box [.d (.int .i64) id0]] κ
  | _, _ => none⟩
theorem s_rec_where_api_Rec_det : SumDet s_rec_where_api_Rec := fun avs objs R κ => by
  show s_rec_where_api_Rec.run avs objs (two κ) = (s_rec_where_api_Rec.run avs objs (two some)).bind κ
  unfold s_rec_where_api_Rec
  simp only
  split
  · exact s_where_det _ _ R κ
  · exact s_rec_where_api_Rec_find_det _ _ R κ
  · rfl
theorem s_rec_where_api_Rec_ok : SumOk Try.prog 84 s_rec_where_api_Rec := by
  refine ⟨s_where_ok.1, ?_⟩
  intro R avs objs κ r h
  unfold s_rec_where_api_Rec at h
  simp only at h
  split at h
  · exact s_where_ok.2 _ _ κ r h
  · exact s_rec_where_api_Rec_find_ok.2 _ _ κ r h
  · cases h
noncomputable def gen3_writer_form_E : Env := ⟨th, gam [(97, s_octet_Writer_Raw), (98, s_varint_Of)], fun i => if i = 2 then ⟨[2, 6, 7, 8], [], [1001]⟩ else ⟨[], [], []⟩⟩
noncomputable def gen3_writer_form.k (rs : List AV) (os : List Den.Obj) : Option (List Int) :=
  match rs, os with
  | [], [.box [.row 2, .d .bool false], .gone, .row 5 (.int .u8) r0 false] => some r0
  | _, _ => none
noncomputable def gen3_writer_form.s2 (l : List Int) (lq : List Int) (x0 : Int) (x1 : Int) (x2 : (List Int)) : St := ⟨[.dead, .dead, .ptr 65 0, .dead, .dead, .dead, .d (.sl (.int .i64)) (lq), .d (.int .i64) x0, .d (.int .i64) x1, .dead, .dead, .dead, .dead, .dead, .dead, .dead, .dead, .dead, .dead], ofL [(0, .box [.row 64, .d .bool (false)]), (1, .gone), (64, .row 5 (.int .u8) x2 false), (65, .box [.ptr 0 0])], 2⟩
noncomputable def gen3_writer_form.b2 (l : List Int) (lq : List Int) (A2 : Int → Int → (List Int) → Option (List Int)) (x0 : Int) (x1 : Int) (x2 : (List Int)) : Option (List Int) :=
  (if (decide (x1 < x0)) then (match (idx lq x1) with | none => none | some y3 => (match (veil (varint_Of.f BIG (Go.IntKind.wrap .u64 y3))) with | none => none | some y4 => (match (veil (octet_Writer_Raw.f BIG x2 y4)) with | none => none | some y5 => A2 x0 (Go.IntKind.wrap .i64 (x1 + (1 : Int))) y5))) else some (x2))
noncomputable def gen3_writer_form.l2 (fuel : Nat) (l : List Int) (lq : List Int) : Nat → Int → Int → (List Int) → Option (List Int)
  | 0, _, _, _ => none
  | k + 1, x0, x1, x2 => gen3_writer_form.b2 l lq (gen3_writer_form.l2 fuel l lq k) x0 x1 x2
noncomputable def gen3_writer_form.b (l : List Int) (lq : List Int) (E2 : Int → Int → (List Int) → Option (List Int)) : Option (List Int) :=
  E2 ((((List.length lq)) : Nat) : Int) (0 : Int) l
noncomputable def gen3_writer_form.f (fuel : Nat) (l : List Int) (lq : List Int) : Option (List Int) := gen3_writer_form.b l lq (gen3_writer_form.l2 fuel l lq fuel)
theorem gen3_writer_form.l2_eq (fuel : Nat) (l : List Int) (lq : List Int) : ∀ (k : Nat) (x0 : Int) (x1 : Int) (x2 : (List Int)), lp gen3_writer_form_E fuel Try.f93 [.pb [.own (some 0) [] 0 5 (.int .u8) true, .kill 1]] 2 gen3_writer_form.k 2 [] k (gen3_writer_form.s2 l lq x0 x1 x2) = gen3_writer_form.l2 fuel l lq k x0 x1 x2 := by
  intro k
  induction k with
  | zero => intro x0 x1 x2; rfl
  | succ k ih =>
    intro x0 x1 x2
    have h : lp gen3_writer_form_E fuel Try.f93 [.pb [.own (some 0) [] 0 5 (.int .u8) true, .kill 1]] 2 gen3_writer_form.k 2 [] (k + 1) (gen3_writer_form.s2 l lq x0 x1 x2) = gen3_writer_form.b2 l lq (fun x0 x1 x2 => lp gen3_writer_form_E fuel Try.f93 [.pb [.own (some 0) [] 0 5 (.int .u8) true, .kill 1]] 2 gen3_writer_form.k 2 [] k (gen3_writer_form.s2 l lq x0 x1 x2)) x0 x1 x2 := by kernel_rfl
    rw [h]
    have e2 : (fun x0 x1 x2 => lp gen3_writer_form_E fuel Try.f93 [.pb [.own (some 0) [] 0 5 (.int .u8) true, .kill 1]] 2 gen3_writer_form.k 2 [] k (gen3_writer_form.s2 l lq x0 x1 x2)) = gen3_writer_form.l2 fuel l lq k := (funext fun x0 => (funext fun x1 => (funext fun x2 => ih x0 x1 x2)))
    rw [e2]
    rfl
theorem gen3_writer_form.eq (fuel : Nat) (l : List Int) (lq : List Int) : (denF gen3_writer_form_E loopN fuel Try.f93 [.pb [.own (some 0) [] 0 5 (.int .u8) true, .kill 1]] [.agg [.ptr 0 0], .d (.sl (.int .i64)) lq] [.box [.row 1, .d .bool false], .row 5 (.int .u8) l false] gen3_writer_form.k) = gen3_writer_form.f fuel l lq := by
  have h : (denF gen3_writer_form_E loopN fuel Try.f93 [.pb [.own (some 0) [] 0 5 (.int .u8) true, .kill 1]] [.agg [.ptr 0 0], .d (.sl (.int .i64)) lq] [.box [.row 1, .d .bool false], .row 5 (.int .u8) l false] gen3_writer_form.k) = gen3_writer_form.b l lq (fun x0 x1 x2 => lp gen3_writer_form_E fuel Try.f93 [.pb [.own (some 0) [] 0 5 (.int .u8) true, .kill 1]] 2 gen3_writer_form.k 2 [] fuel (gen3_writer_form.s2 l lq x0 x1 x2)) := by kernel_rfl
  rw [h]
  have e2 : (fun x0 x1 x2 => lp gen3_writer_form_E fuel Try.f93 [.pb [.own (some 0) [] 0 5 (.int .u8) true, .kill 1]] 2 gen3_writer_form.k 2 [] fuel (gen3_writer_form.s2 l lq x0 x1 x2)) = gen3_writer_form.l2 fuel l lq fuel := (funext fun x0 => (funext fun x1 => (funext fun x2 => gen3_writer_form.l2_eq fuel l lq fuel x0 x1 x2)))
  rw [e2]
  rfl

noncomputable def s_gen3_writer_form : Den.Sum := ⟨[.pb [.own none [0] 0 5 (.int .u8) false], .dat (.sl (.int .i64)) false], fun args objs κ => match args, objs with
  | [.agg [.ptr 0 0], .d (.sl (.int .i64)) lq], [.box [.row 1, .d .bool false], .row 5 (.int .u8) l false] => (match veil (gen3_writer_form.f BIG l lq) with | none => none | some y => κ [] [.box [.row 2, .d .bool false], .gone, .row 5 (.int .u8) y false])
  | _, _ => none⟩
theorem s_gen3_writer_form_det : SumDet s_gen3_writer_form := fun avs objs R κ => by
  show s_gen3_writer_form.run avs objs (two κ) = (s_gen3_writer_form.run avs objs (two some)).bind κ
  unfold s_gen3_writer_form
  simp only [veil_eq]
  split
  · split <;> rfl
  · rfl
theorem s_gen3_writer_form_ok : SumOk Try.prog 93 s_gen3_writer_form := by
  have hE : EnvOk Try.prog gen3_writer_form_E := env_ok (l := [(97, s_octet_Writer_Raw), (98, s_varint_Of)]) th_ok any_ok ⟨⟨s_octet_Writer_Raw_ok, s_octet_Writer_Raw_det⟩, ⟨s_varint_Of_ok, s_varint_Of_det⟩, trivial⟩ _
  refine sum_ok hE Try.func93 rfl (by kernel_rfl) s_gen3_writer_form [.pb [.own (some 0) [] 0 5 (.int .u8) true, .kill 1]] gen3_writer_form.k ?_
  intro R avs objs κ r h
  unfold s_gen3_writer_form at h
  simp only [veil_eq] at h
  split at h
  · rename_i lq l
    split at h
    · cases h
    · rename_i y hy
      refine ⟨BIG, _, _, _, (gen3_writer_form.eq BIG l lq).trans hy, ?_, h⟩
      intro rs ros hk
      unfold gen3_writer_form.k at hk
      split at hk
      · first | (cases hk; exact ⟨rfl, rfl⟩) | (have e := Option.some.inj hk; rw [← e]; exact ⟨rfl, rfl⟩)
      · cases hk
  · cases h
noncomputable def bag_Copy_E : Env := ⟨th, gam [(107, s_bag_one)], fun i => if i = 3 then ⟨[3, 6, 7, 8], [(3, 78, (.pair (.int .i64) (.sl (.int .u8))))], []⟩ else ⟨[], [], []⟩⟩
noncomputable def bag_Copy.k (rs : List AV) (os : List Den.Obj) : Option (List (Int × (List Int))) :=
  match rs, os with
  | [.row 0], [.row 78 (.pair (.int .i64) (.sl (.int .u8))) r0 false] => some r0
  | _, _ => none
noncomputable def bag_Copy.s3 (b : List (Int × List Int)) (x0 : Int) (x1 : Int) (x2 : (List (Int × (List Int)))) : St := ⟨[.dead, .dead, .dead, .row 64, .dead, .dead, .d (.sl (.pair (.int .i64) (.sl (.int .u8)))) (b), .d (.int .i64) x0, .d (.int .i64) x1, .dead, .dead, .dead, .dead, .dead, .dead, .dead, .dead, .dead, .dead], ofL [(64, .row 78 (.pair (.int .i64) (.sl (.int .u8))) x2 false)], 0⟩
noncomputable def bag_Copy.b3 (b : List (Int × List Int)) (A3 : Int → Int → (List (Int × (List Int))) → Option (List (Int × (List Int)))) (x0 : Int) (x1 : Int) (x2 : (List (Int × (List Int)))) : Option (List (Int × (List Int))) :=
  (if (decide (x1 < x0)) then (match (idx b x1) with | none => none | some y3 => (match (veil (bag_one.f BIG y3.1 y3.2)) with | none => none | some y4 => (if ((((List.length x2) + (List.length ((y4.1, y4.2) :: ([] : List (Int × (List Int)))))) * (32 : Nat)) ≤ lim) then A3 x0 (Go.IntKind.wrap .i64 (x1 + (1 : Int))) (x2 ++ ((y4.1, y4.2) :: ([] : List (Int × (List Int))))) else none))) else some (x2))
noncomputable def bag_Copy.l3 (fuel : Nat) (b : List (Int × List Int)) : Nat → Int → Int → (List (Int × (List Int))) → Option (List (Int × (List Int)))
  | 0, _, _, _ => none
  | k + 1, x0, x1, x2 => bag_Copy.b3 b (bag_Copy.l3 fuel b k) x0 x1 x2
noncomputable def bag_Copy.b (b : List (Int × List Int)) (E3 : Int → Int → (List (Int × (List Int))) → Option (List (Int × (List Int)))) : Option (List (Int × (List Int))) :=
  E3 ((((List.length b)) : Nat) : Int) (0 : Int) ([] : List (Int × (List Int)))
noncomputable def bag_Copy.f (fuel : Nat) (b : List (Int × List Int)) : Option (List (Int × (List Int))) := bag_Copy.b b (bag_Copy.l3 fuel b fuel)
theorem bag_Copy.l3_eq (fuel : Nat) (b : List (Int × List Int)) : ∀ (k : Nat) (x0 : Int) (x1 : Int) (x2 : (List (Int × (List Int)))), lp bag_Copy_E fuel Try.f105 [.own 78 (.pair (.int .i64) (.sl (.int .u8)))] 0 bag_Copy.k 3 [] k (bag_Copy.s3 b x0 x1 x2) = bag_Copy.l3 fuel b k x0 x1 x2 := by
  intro k
  induction k with
  | zero => intro x0 x1 x2; rfl
  | succ k ih =>
    intro x0 x1 x2
    have h : lp bag_Copy_E fuel Try.f105 [.own 78 (.pair (.int .i64) (.sl (.int .u8)))] 0 bag_Copy.k 3 [] (k + 1) (bag_Copy.s3 b x0 x1 x2) = bag_Copy.b3 b (fun x0 x1 x2 => lp bag_Copy_E fuel Try.f105 [.own 78 (.pair (.int .i64) (.sl (.int .u8)))] 0 bag_Copy.k 3 [] k (bag_Copy.s3 b x0 x1 x2)) x0 x1 x2 := by kernel_rfl
    rw [h]
    have e3 : (fun x0 x1 x2 => lp bag_Copy_E fuel Try.f105 [.own 78 (.pair (.int .i64) (.sl (.int .u8)))] 0 bag_Copy.k 3 [] k (bag_Copy.s3 b x0 x1 x2)) = bag_Copy.l3 fuel b k := (funext fun x0 => (funext fun x1 => (funext fun x2 => ih x0 x1 x2)))
    rw [e3]
    rfl
theorem bag_Copy.eq (fuel : Nat) (b : List (Int × List Int)) : (denF bag_Copy_E loopN fuel Try.f105 [.own 78 (.pair (.int .i64) (.sl (.int .u8)))] [.d (.sl (.pair (.int .i64) (.sl (.int .u8)))) b] [] bag_Copy.k) = bag_Copy.f fuel b := by
  have h : (denF bag_Copy_E loopN fuel Try.f105 [.own 78 (.pair (.int .i64) (.sl (.int .u8)))] [.d (.sl (.pair (.int .i64) (.sl (.int .u8)))) b] [] bag_Copy.k) = bag_Copy.b b (fun x0 x1 x2 => lp bag_Copy_E fuel Try.f105 [.own 78 (.pair (.int .i64) (.sl (.int .u8)))] 0 bag_Copy.k 3 [] fuel (bag_Copy.s3 b x0 x1 x2)) := by kernel_rfl
  rw [h]
  have e3 : (fun x0 x1 x2 => lp bag_Copy_E fuel Try.f105 [.own 78 (.pair (.int .i64) (.sl (.int .u8)))] 0 bag_Copy.k 3 [] fuel (bag_Copy.s3 b x0 x1 x2)) = bag_Copy.l3 fuel b fuel := (funext fun x0 => (funext fun x1 => (funext fun x2 => bag_Copy.l3_eq fuel b fuel x0 x1 x2)))
  rw [e3]
  rfl

noncomputable def s_bag_Copy : Den.Sum := ⟨[.dat (.sl (.pair (.int .i64) (.sl (.int .u8)))) false], fun args objs κ => match args, objs with
  | [.d (.sl (.pair (.int .i64) (.sl (.int .u8)))) b], [] => (match veil (bag_Copy.f BIG b) with | none => none | some y => κ [.row 0] [.row 78 (.pair (.int .i64) (.sl (.int .u8))) y false])
  | _, _ => none⟩
theorem s_bag_Copy_det : SumDet s_bag_Copy := fun avs objs R κ => by
  show s_bag_Copy.run avs objs (two κ) = (s_bag_Copy.run avs objs (two some)).bind κ
  unfold s_bag_Copy
  simp only [veil_eq]
  split
  · split <;> rfl
  · rfl
theorem s_bag_Copy_ok : SumOk Try.prog 105 s_bag_Copy := by
  have hE : EnvOk Try.prog bag_Copy_E := env_ok (l := [(107, s_bag_one)]) th_ok any_ok ⟨⟨s_bag_one_ok, s_bag_one_det⟩, trivial⟩ _
  refine sum_ok hE Try.func105 rfl (by kernel_rfl) s_bag_Copy [.own 78 (.pair (.int .i64) (.sl (.int .u8)))] bag_Copy.k ?_
  intro R avs objs κ r h
  unfold s_bag_Copy at h
  simp only [veil_eq] at h
  split at h
  · rename_i b
    split at h
    · cases h
    · rename_i y hy
      refine ⟨BIG, _, _, _, (bag_Copy.eq BIG b).trans hy, ?_, h⟩
      intro rs ros hk
      unfold bag_Copy.k at hk
      split at hk
      · first | (cases hk; exact ⟨rfl, rfl⟩) | (have e := Option.some.inj hk; rw [← e]; exact ⟨rfl, rfl⟩)
      · cases hk
  · cases h
end Go.Proofs.Ytlmljpmohljefaa
