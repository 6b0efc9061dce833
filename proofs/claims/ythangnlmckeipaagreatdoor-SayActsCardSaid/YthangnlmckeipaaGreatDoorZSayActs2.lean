/- SayActs: whatever text is given, the law returns true, and the input reads as it did; the listed tables are tied to the text of the program. -/
import Derived.Test.YthangnlmckeipaaGreatDoorZSayActs1
set_option linter.unusedVariables false
set_option linter.unusedSimpArgs false
set_option maxRecDepth 100000
namespace Go.Proofs.YthangnlmckeipaaGreatDoor
open Go.Den
open Go.Den Go.RowKit
open Go.Say (Word)
open Go.Say (Word Deed mv1 zero names partsOf)
noncomputable def law39_SayActs.s8 (t : ByteArray) (x2 : Int) (x3 : Int) (x4 : Int) (x5 : Int) (x6 : Int) (x7 : Int) (x8 : (List (Int × (Int × (Int × (Int × (Int × ((Int × Int) × ((List (Int × (List Int))) × (List Int)))))))))) : St := ⟨[.d .str (t), .dead, .dead, .row 64, .d (.int .i64) x2, .d (.int .i64) x3, .d (.int .i64) x4, .d (.int .i64) x5, .d (.int .i64) x6, .d (.int .i64) x7, .dead, .dead, .dead, .dead, .dead, .dead, .dead, .dead, .dead, .dead, .dead, .dead, .dead, .dead, .dead, .dead, .dead, .dead, .dead, .dead, .dead, .dead, .dead, .dead, .dead, .dead, .dead, .dead, .dead, .dead, .dead, .dead, .dead, .dead, .dead, .dead, .dead, .dead, .dead, .dead, .dead, .dead, .dead, .dead, .dead, .dead, .dead, .dead, .dead, .dead, .dead, .dead, .dead, .dead, .dead, .dead, .dead, .dead, .dead, .dead, .dead, .dead, .dead, .dead, .dead, .dead, .dead, .dead, .dead, .dead, .dead, .dead, .dead, .dead, .dead, .dead, .dead, .dead, .dead, .dead, .dead, .dead, .dead, .dead, .dead, .dead, .dead, .dead, .dead, .dead, .dead, .dead, .dead, .dead, .dead, .dead, .dead, .dead, .dead, .dead], ofL [(64, .row 28 (.pair (.int .i64) (.pair (.int .i64) (.pair (.int .i64) (.pair (.int .i64) (.pair (.int .i64) (.pair (.pair (.int .i64) (.int .i64)) (.pair (.sl (.pair (.int .i64) (.sl (.int .u8)))) (.sl (.int .i64))))))))) x8 false)], 0⟩
noncomputable def law39_SayActs.b8 (t : ByteArray) (A8 : Int → Int → Int → Int → Int → Int → (List (Int × (Int × (Int × (Int × (Int × ((Int × Int) × ((List (Int × (List Int))) × (List Int))))))))) → Option Bool) (E9 : Int → Int → Int → Int → Int → Int → (List (Int × (Int × (Int × (Int × (Int × ((Int × Int) × ((List (Int × (List Int))) × (List Int))))))))) → Option Bool) (E11 : Int → Int → Int → Int → Int → Int → (List (Int × (Int × (Int × (Int × (Int × ((Int × Int) × ((List (Int × (List Int))) × (List Int))))))))) → Option Bool) (x2 : Int) (x3 : Int) (x4 : Int) (x5 : Int) (x6 : Int) (x7 : Int) (x8 : (List (Int × (Int × (Int × (Int × (Int × ((Int × Int) × ((List (Int × (List Int))) × (List Int)))))))))) : Option Bool :=
  (if (decide (x7 ≤ ((((ByteArray.size t)) : Nat) : Int))) then (if (decide (x7 < ((((ByteArray.size t)) : Nat) : Int))) then (match (idx (Array.toList (ByteArray.data t)) x7) with | none => none | some y9 => (if (((((UInt8.toNat y9)) : Nat) : Int) != (10 : Int)) then E9 x2 x3 x4 x5 x6 x7 x8 else E11 x2 x3 x4 x5 x6 x7 x8)) else E11 x2 x3 x4 x5 x6 x7 x8) else (if (x3 == (0 : Int)) then (if (x2 == (0 : Int)) then (if (((((List.length x8)) : Nat) : Int) == x4) then (match (veil (law39_awake.f BIG ())) with | none => none | some y45 => some (y45)) else some (false)) else some (false)) else some (false)))
noncomputable def law39_SayActs.l8 (fuel : Nat) (t : ByteArray) : Nat → Int → Int → Int → Int → Int → Int → (List (Int × (Int × (Int × (Int × (Int × ((Int × Int) × ((List (Int × (List Int))) × (List Int))))))))) → Option Bool
  | 0, _, _, _, _, _, _, _ => none
  | k + 1, x2, x3, x4, x5, x6, x7, x8 => law39_SayActs.b8 t (law39_SayActs.l8 fuel t k) (law39_SayActs.l9 fuel t (law39_SayActs.l8 fuel t k) fuel) (law39_SayActs.l11 fuel t (law39_SayActs.l8 fuel t k) fuel) x2 x3 x4 x5 x6 x7 x8
noncomputable def law39_SayActs.b (t : ByteArray) (E8 : Int → Int → Int → Int → Int → Int → (List (Int × (Int × (Int × (Int × (Int × ((Int × Int) × ((List (Int × (List Int))) × (List Int))))))))) → Option Bool) : Option Bool :=
  (if (decide (((((ByteArray.size t)) : Nat) : Int) > (600 : Int))) then (match (veil (law39_awake.f BIG ())) with | none => none | some y0 => some (y0)) else (match (veil (say_Acts.f BIG t)) with | none => none | some y1 => E8 y1.1 y1.2.1 (0 : Int) (0 : Int) (0 : Int) (0 : Int) y1.2.2))
noncomputable def law39_SayActs.f (fuel : Nat) (t : ByteArray) : Option Bool := law39_SayActs.b t (law39_SayActs.l8 fuel t fuel)
theorem law39_SayActs.l9_eq (fuel : Nat) (t : ByteArray) (k8 : Nat) : ∀ (k : Nat) (x10 : Int) (x11 : Int) (x12 : Int) (x13 : Int) (x14 : Int) (x15 : Int) (x16 : (List (Int × (Int × (Int × (Int × (Int × ((Int × Int) × ((List (Int × (List Int))) × (List Int)))))))))), lp law39_SayActs_E fuel Tryz.f4 [.raw] 0 law39_SayActs.k 9 [k8] k (law39_SayActs.s9 t x10 x11 x12 x13 x14 x15 x16) = law39_SayActs.l9 fuel t (fun x2 x3 x4 x5 x6 x7 x8 => lp law39_SayActs_E fuel Tryz.f4 [.raw] 0 law39_SayActs.k 8 [] k8 (law39_SayActs.s8 t x2 x3 x4 x5 x6 x7 x8)) k x10 x11 x12 x13 x14 x15 x16 := by
  intro k
  induction k with
  | zero => intro x10 x11 x12 x13 x14 x15 x16; rfl
  | succ k ih =>
    intro x10 x11 x12 x13 x14 x15 x16
    have h : lp law39_SayActs_E fuel Tryz.f4 [.raw] 0 law39_SayActs.k 9 [k8] (k + 1) (law39_SayActs.s9 t x10 x11 x12 x13 x14 x15 x16) = law39_SayActs.b9 t (fun x2 x3 x4 x5 x6 x7 x8 => lp law39_SayActs_E fuel Tryz.f4 [.raw] 0 law39_SayActs.k 8 [] k8 (law39_SayActs.s8 t x2 x3 x4 x5 x6 x7 x8)) (fun x10 x11 x12 x13 x14 x15 x16 => lp law39_SayActs_E fuel Tryz.f4 [.raw] 0 law39_SayActs.k 9 [k8] k (law39_SayActs.s9 t x10 x11 x12 x13 x14 x15 x16)) x10 x11 x12 x13 x14 x15 x16 := by kernel_rfl
    rw [h]
    have e9 : (fun x10 x11 x12 x13 x14 x15 x16 => lp law39_SayActs_E fuel Tryz.f4 [.raw] 0 law39_SayActs.k 9 [k8] k (law39_SayActs.s9 t x10 x11 x12 x13 x14 x15 x16)) = law39_SayActs.l9 fuel t (fun x2 x3 x4 x5 x6 x7 x8 => lp law39_SayActs_E fuel Tryz.f4 [.raw] 0 law39_SayActs.k 8 [] k8 (law39_SayActs.s8 t x2 x3 x4 x5 x6 x7 x8)) k := (funext fun x10 => (funext fun x11 => (funext fun x12 => (funext fun x13 => (funext fun x14 => (funext fun x15 => (funext fun x16 => ih x10 x11 x12 x13 x14 x15 x16)))))))
    rw [e9]
    rfl
theorem law39_SayActs.l20_eq (fuel : Nat) (t : ByteArray) (k8 : Nat) : ∀ (k : Nat) (x38 : Int) (x39 : Int) (x40 : Int) (x41 : Int) (x42 : Int) (x43 : Int) (x44 : (List (Int × (Int × (Int × (Int × (Int × ((Int × Int) × ((List (Int × (List Int))) × (List Int)))))))))), lp law39_SayActs_E fuel Tryz.f4 [.raw] 0 law39_SayActs.k 20 [k8] k (law39_SayActs.s20 t x38 x39 x40 x41 x42 x43 x44) = law39_SayActs.l20 fuel t (fun x2 x3 x4 x5 x6 x7 x8 => lp law39_SayActs_E fuel Tryz.f4 [.raw] 0 law39_SayActs.k 8 [] k8 (law39_SayActs.s8 t x2 x3 x4 x5 x6 x7 x8)) k x38 x39 x40 x41 x42 x43 x44 := by
  intro k
  induction k with
  | zero => intro x38 x39 x40 x41 x42 x43 x44; rfl
  | succ k ih =>
    intro x38 x39 x40 x41 x42 x43 x44
    have h : lp law39_SayActs_E fuel Tryz.f4 [.raw] 0 law39_SayActs.k 20 [k8] (k + 1) (law39_SayActs.s20 t x38 x39 x40 x41 x42 x43 x44) = law39_SayActs.b20 t (fun x2 x3 x4 x5 x6 x7 x8 => lp law39_SayActs_E fuel Tryz.f4 [.raw] 0 law39_SayActs.k 8 [] k8 (law39_SayActs.s8 t x2 x3 x4 x5 x6 x7 x8)) (fun x38 x39 x40 x41 x42 x43 x44 => lp law39_SayActs_E fuel Tryz.f4 [.raw] 0 law39_SayActs.k 20 [k8] k (law39_SayActs.s20 t x38 x39 x40 x41 x42 x43 x44)) (fun x10 x11 x12 x13 x14 x15 x16 => lp law39_SayActs_E fuel Tryz.f4 [.raw] 0 law39_SayActs.k 9 [k8] fuel (law39_SayActs.s9 t x10 x11 x12 x13 x14 x15 x16)) x38 x39 x40 x41 x42 x43 x44 := by kernel_rfl
    rw [h]
    have e20 : (fun x38 x39 x40 x41 x42 x43 x44 => lp law39_SayActs_E fuel Tryz.f4 [.raw] 0 law39_SayActs.k 20 [k8] k (law39_SayActs.s20 t x38 x39 x40 x41 x42 x43 x44)) = law39_SayActs.l20 fuel t (fun x2 x3 x4 x5 x6 x7 x8 => lp law39_SayActs_E fuel Tryz.f4 [.raw] 0 law39_SayActs.k 8 [] k8 (law39_SayActs.s8 t x2 x3 x4 x5 x6 x7 x8)) k := (funext fun x38 => (funext fun x39 => (funext fun x40 => (funext fun x41 => (funext fun x42 => (funext fun x43 => (funext fun x44 => ih x38 x39 x40 x41 x42 x43 x44)))))))
    rw [e20]
    have e9 : (fun x10 x11 x12 x13 x14 x15 x16 => lp law39_SayActs_E fuel Tryz.f4 [.raw] 0 law39_SayActs.k 9 [k8] fuel (law39_SayActs.s9 t x10 x11 x12 x13 x14 x15 x16)) = law39_SayActs.l9 fuel t (fun x2 x3 x4 x5 x6 x7 x8 => lp law39_SayActs_E fuel Tryz.f4 [.raw] 0 law39_SayActs.k 8 [] k8 (law39_SayActs.s8 t x2 x3 x4 x5 x6 x7 x8)) fuel := (funext fun x10 => (funext fun x11 => (funext fun x12 => (funext fun x13 => (funext fun x14 => (funext fun x15 => (funext fun x16 => law39_SayActs.l9_eq fuel t k8 fuel x10 x11 x12 x13 x14 x15 x16)))))))
    rw [e9]
    rfl
theorem law39_SayActs.l15_eq (fuel : Nat) (t : ByteArray) (k8 : Nat) : ∀ (k : Nat) (x25 : Int) (x26 : Int) (x27 : Int) (x28 : Int) (x29 : Int) (x30 : Int) (x31 : ByteArray) (x32 : (List (Int × (Int × (Int × (Int × (Int × ((Int × Int) × ((List (Int × (List Int))) × (List Int)))))))))), lp law39_SayActs_E fuel Tryz.f4 [.raw] 0 law39_SayActs.k 15 [k8] k (law39_SayActs.s15 t x25 x26 x27 x28 x29 x30 x31 x32) = law39_SayActs.l15 fuel t (fun x2 x3 x4 x5 x6 x7 x8 => lp law39_SayActs_E fuel Tryz.f4 [.raw] 0 law39_SayActs.k 8 [] k8 (law39_SayActs.s8 t x2 x3 x4 x5 x6 x7 x8)) k x25 x26 x27 x28 x29 x30 x31 x32 := by
  intro k
  induction k with
  | zero => intro x25 x26 x27 x28 x29 x30 x31 x32; rfl
  | succ k ih =>
    intro x25 x26 x27 x28 x29 x30 x31 x32
    have h : lp law39_SayActs_E fuel Tryz.f4 [.raw] 0 law39_SayActs.k 15 [k8] (k + 1) (law39_SayActs.s15 t x25 x26 x27 x28 x29 x30 x31 x32) = law39_SayActs.b15 t (fun x2 x3 x4 x5 x6 x7 x8 => lp law39_SayActs_E fuel Tryz.f4 [.raw] 0 law39_SayActs.k 8 [] k8 (law39_SayActs.s8 t x2 x3 x4 x5 x6 x7 x8)) (fun x25 x26 x27 x28 x29 x30 x31 x32 => lp law39_SayActs_E fuel Tryz.f4 [.raw] 0 law39_SayActs.k 15 [k8] k (law39_SayActs.s15 t x25 x26 x27 x28 x29 x30 x31 x32)) (fun x38 x39 x40 x41 x42 x43 x44 => lp law39_SayActs_E fuel Tryz.f4 [.raw] 0 law39_SayActs.k 20 [k8] fuel (law39_SayActs.s20 t x38 x39 x40 x41 x42 x43 x44)) x25 x26 x27 x28 x29 x30 x31 x32 := by kernel_rfl
    rw [h]
    have e15 : (fun x25 x26 x27 x28 x29 x30 x31 x32 => lp law39_SayActs_E fuel Tryz.f4 [.raw] 0 law39_SayActs.k 15 [k8] k (law39_SayActs.s15 t x25 x26 x27 x28 x29 x30 x31 x32)) = law39_SayActs.l15 fuel t (fun x2 x3 x4 x5 x6 x7 x8 => lp law39_SayActs_E fuel Tryz.f4 [.raw] 0 law39_SayActs.k 8 [] k8 (law39_SayActs.s8 t x2 x3 x4 x5 x6 x7 x8)) k := (funext fun x25 => (funext fun x26 => (funext fun x27 => (funext fun x28 => (funext fun x29 => (funext fun x30 => (funext fun x31 => (funext fun x32 => ih x25 x26 x27 x28 x29 x30 x31 x32))))))))
    rw [e15]
    have e20 : (fun x38 x39 x40 x41 x42 x43 x44 => lp law39_SayActs_E fuel Tryz.f4 [.raw] 0 law39_SayActs.k 20 [k8] fuel (law39_SayActs.s20 t x38 x39 x40 x41 x42 x43 x44)) = law39_SayActs.l20 fuel t (fun x2 x3 x4 x5 x6 x7 x8 => lp law39_SayActs_E fuel Tryz.f4 [.raw] 0 law39_SayActs.k 8 [] k8 (law39_SayActs.s8 t x2 x3 x4 x5 x6 x7 x8)) fuel := (funext fun x38 => (funext fun x39 => (funext fun x40 => (funext fun x41 => (funext fun x42 => (funext fun x43 => (funext fun x44 => law39_SayActs.l20_eq fuel t k8 fuel x38 x39 x40 x41 x42 x43 x44)))))))
    rw [e20]
    rfl
theorem law39_SayActs.l11_eq (fuel : Nat) (t : ByteArray) (k8 : Nat) : ∀ (k : Nat) (x17 : Int) (x18 : Int) (x19 : Int) (x20 : Int) (x21 : Int) (x22 : Int) (x23 : (List (Int × (Int × (Int × (Int × (Int × ((Int × Int) × ((List (Int × (List Int))) × (List Int)))))))))), lp law39_SayActs_E fuel Tryz.f4 [.raw] 0 law39_SayActs.k 11 [k8] k (law39_SayActs.s11 t x17 x18 x19 x20 x21 x22 x23) = law39_SayActs.l11 fuel t (fun x2 x3 x4 x5 x6 x7 x8 => lp law39_SayActs_E fuel Tryz.f4 [.raw] 0 law39_SayActs.k 8 [] k8 (law39_SayActs.s8 t x2 x3 x4 x5 x6 x7 x8)) k x17 x18 x19 x20 x21 x22 x23 := by
  intro k
  induction k with
  | zero => intro x17 x18 x19 x20 x21 x22 x23; rfl
  | succ k ih =>
    intro x17 x18 x19 x20 x21 x22 x23
    have h : lp law39_SayActs_E fuel Tryz.f4 [.raw] 0 law39_SayActs.k 11 [k8] (k + 1) (law39_SayActs.s11 t x17 x18 x19 x20 x21 x22 x23) = law39_SayActs.b11 t (fun x2 x3 x4 x5 x6 x7 x8 => lp law39_SayActs_E fuel Tryz.f4 [.raw] 0 law39_SayActs.k 8 [] k8 (law39_SayActs.s8 t x2 x3 x4 x5 x6 x7 x8)) (fun x17 x18 x19 x20 x21 x22 x23 => lp law39_SayActs_E fuel Tryz.f4 [.raw] 0 law39_SayActs.k 11 [k8] k (law39_SayActs.s11 t x17 x18 x19 x20 x21 x22 x23)) (fun x10 x11 x12 x13 x14 x15 x16 => lp law39_SayActs_E fuel Tryz.f4 [.raw] 0 law39_SayActs.k 9 [k8] fuel (law39_SayActs.s9 t x10 x11 x12 x13 x14 x15 x16)) (fun x25 x26 x27 x28 x29 x30 x31 x32 => lp law39_SayActs_E fuel Tryz.f4 [.raw] 0 law39_SayActs.k 15 [k8] fuel (law39_SayActs.s15 t x25 x26 x27 x28 x29 x30 x31 x32)) x17 x18 x19 x20 x21 x22 x23 := by kernel_rfl
    rw [h]
    have e11 : (fun x17 x18 x19 x20 x21 x22 x23 => lp law39_SayActs_E fuel Tryz.f4 [.raw] 0 law39_SayActs.k 11 [k8] k (law39_SayActs.s11 t x17 x18 x19 x20 x21 x22 x23)) = law39_SayActs.l11 fuel t (fun x2 x3 x4 x5 x6 x7 x8 => lp law39_SayActs_E fuel Tryz.f4 [.raw] 0 law39_SayActs.k 8 [] k8 (law39_SayActs.s8 t x2 x3 x4 x5 x6 x7 x8)) k := (funext fun x17 => (funext fun x18 => (funext fun x19 => (funext fun x20 => (funext fun x21 => (funext fun x22 => (funext fun x23 => ih x17 x18 x19 x20 x21 x22 x23)))))))
    rw [e11]
    have e9 : (fun x10 x11 x12 x13 x14 x15 x16 => lp law39_SayActs_E fuel Tryz.f4 [.raw] 0 law39_SayActs.k 9 [k8] fuel (law39_SayActs.s9 t x10 x11 x12 x13 x14 x15 x16)) = law39_SayActs.l9 fuel t (fun x2 x3 x4 x5 x6 x7 x8 => lp law39_SayActs_E fuel Tryz.f4 [.raw] 0 law39_SayActs.k 8 [] k8 (law39_SayActs.s8 t x2 x3 x4 x5 x6 x7 x8)) fuel := (funext fun x10 => (funext fun x11 => (funext fun x12 => (funext fun x13 => (funext fun x14 => (funext fun x15 => (funext fun x16 => law39_SayActs.l9_eq fuel t k8 fuel x10 x11 x12 x13 x14 x15 x16)))))))
    rw [e9]
    have e15 : (fun x25 x26 x27 x28 x29 x30 x31 x32 => lp law39_SayActs_E fuel Tryz.f4 [.raw] 0 law39_SayActs.k 15 [k8] fuel (law39_SayActs.s15 t x25 x26 x27 x28 x29 x30 x31 x32)) = law39_SayActs.l15 fuel t (fun x2 x3 x4 x5 x6 x7 x8 => lp law39_SayActs_E fuel Tryz.f4 [.raw] 0 law39_SayActs.k 8 [] k8 (law39_SayActs.s8 t x2 x3 x4 x5 x6 x7 x8)) fuel := (funext fun x25 => (funext fun x26 => (funext fun x27 => (funext fun x28 => (funext fun x29 => (funext fun x30 => (funext fun x31 => (funext fun x32 => law39_SayActs.l15_eq fuel t k8 fuel x25 x26 x27 x28 x29 x30 x31 x32))))))))
    rw [e15]
    rfl
theorem law39_SayActs.l8_eq (fuel : Nat) (t : ByteArray) : ∀ (k : Nat) (x2 : Int) (x3 : Int) (x4 : Int) (x5 : Int) (x6 : Int) (x7 : Int) (x8 : (List (Int × (Int × (Int × (Int × (Int × ((Int × Int) × ((List (Int × (List Int))) × (List Int)))))))))), lp law39_SayActs_E fuel Tryz.f4 [.raw] 0 law39_SayActs.k 8 [] k (law39_SayActs.s8 t x2 x3 x4 x5 x6 x7 x8) = law39_SayActs.l8 fuel t k x2 x3 x4 x5 x6 x7 x8 := by
  intro k
  induction k with
  | zero => intro x2 x3 x4 x5 x6 x7 x8; rfl
  | succ k ih =>
    intro x2 x3 x4 x5 x6 x7 x8
    have h : lp law39_SayActs_E fuel Tryz.f4 [.raw] 0 law39_SayActs.k 8 [] (k + 1) (law39_SayActs.s8 t x2 x3 x4 x5 x6 x7 x8) = law39_SayActs.b8 t (fun x2 x3 x4 x5 x6 x7 x8 => lp law39_SayActs_E fuel Tryz.f4 [.raw] 0 law39_SayActs.k 8 [] k (law39_SayActs.s8 t x2 x3 x4 x5 x6 x7 x8)) (fun x10 x11 x12 x13 x14 x15 x16 => lp law39_SayActs_E fuel Tryz.f4 [.raw] 0 law39_SayActs.k 9 [k] fuel (law39_SayActs.s9 t x10 x11 x12 x13 x14 x15 x16)) (fun x17 x18 x19 x20 x21 x22 x23 => lp law39_SayActs_E fuel Tryz.f4 [.raw] 0 law39_SayActs.k 11 [k] fuel (law39_SayActs.s11 t x17 x18 x19 x20 x21 x22 x23)) x2 x3 x4 x5 x6 x7 x8 := by kernel_rfl
    rw [h]
    have e8 : (fun x2 x3 x4 x5 x6 x7 x8 => lp law39_SayActs_E fuel Tryz.f4 [.raw] 0 law39_SayActs.k 8 [] k (law39_SayActs.s8 t x2 x3 x4 x5 x6 x7 x8)) = law39_SayActs.l8 fuel t k := (funext fun x2 => (funext fun x3 => (funext fun x4 => (funext fun x5 => (funext fun x6 => (funext fun x7 => (funext fun x8 => ih x2 x3 x4 x5 x6 x7 x8)))))))
    rw [e8]
    have e9 : (fun x10 x11 x12 x13 x14 x15 x16 => lp law39_SayActs_E fuel Tryz.f4 [.raw] 0 law39_SayActs.k 9 [k] fuel (law39_SayActs.s9 t x10 x11 x12 x13 x14 x15 x16)) = law39_SayActs.l9 fuel t (fun x2 x3 x4 x5 x6 x7 x8 => lp law39_SayActs_E fuel Tryz.f4 [.raw] 0 law39_SayActs.k 8 [] k (law39_SayActs.s8 t x2 x3 x4 x5 x6 x7 x8)) fuel := (funext fun x10 => (funext fun x11 => (funext fun x12 => (funext fun x13 => (funext fun x14 => (funext fun x15 => (funext fun x16 => law39_SayActs.l9_eq fuel t k fuel x10 x11 x12 x13 x14 x15 x16)))))))
    rw [e9]
    rw [e8]
    have e11 : (fun x17 x18 x19 x20 x21 x22 x23 => lp law39_SayActs_E fuel Tryz.f4 [.raw] 0 law39_SayActs.k 11 [k] fuel (law39_SayActs.s11 t x17 x18 x19 x20 x21 x22 x23)) = law39_SayActs.l11 fuel t (fun x2 x3 x4 x5 x6 x7 x8 => lp law39_SayActs_E fuel Tryz.f4 [.raw] 0 law39_SayActs.k 8 [] k (law39_SayActs.s8 t x2 x3 x4 x5 x6 x7 x8)) fuel := (funext fun x17 => (funext fun x18 => (funext fun x19 => (funext fun x20 => (funext fun x21 => (funext fun x22 => (funext fun x23 => law39_SayActs.l11_eq fuel t k fuel x17 x18 x19 x20 x21 x22 x23)))))))
    rw [e11]
    rw [e8]
    rfl
theorem law39_SayActs.eq (fuel : Nat) (t : ByteArray) : (denF law39_SayActs_E loopN fuel Tryz.f4 [.raw] [.d .str t] [] law39_SayActs.k) = law39_SayActs.f fuel t := by
  have h : (denF law39_SayActs_E loopN fuel Tryz.f4 [.raw] [.d .str t] [] law39_SayActs.k) = law39_SayActs.b t (fun x2 x3 x4 x5 x6 x7 x8 => lp law39_SayActs_E fuel Tryz.f4 [.raw] 0 law39_SayActs.k 8 [] fuel (law39_SayActs.s8 t x2 x3 x4 x5 x6 x7 x8)) := by kernel_rfl
  rw [h]
  have e8 : (fun x2 x3 x4 x5 x6 x7 x8 => lp law39_SayActs_E fuel Tryz.f4 [.raw] 0 law39_SayActs.k 8 [] fuel (law39_SayActs.s8 t x2 x3 x4 x5 x6 x7 x8)) = law39_SayActs.l8 fuel t fuel := (funext fun x2 => (funext fun x3 => (funext fun x4 => (funext fun x5 => (funext fun x6 => (funext fun x7 => (funext fun x8 => law39_SayActs.l8_eq fuel t fuel x2 x3 x4 x5 x6 x7 x8)))))))
  rw [e8]
  rfl
theorem law39_SayActs.l9_at (fuel nN kK : Nat) (hN : nN = kK + 1) (t : ByteArray) (A8 : Int → Int → Int → Int → Int → Int → (List (Int × (Int × (Int × (Int × (Int × ((Int × Int) × ((List (Int × (List Int))) × (List Int))))))))) → Option Bool) (x10 : Int) (x11 : Int) (x12 : Int) (x13 : Int) (x14 : Int) (x15 : Int) (x16 : (List (Int × (Int × (Int × (Int × (Int × ((Int × Int) × ((List (Int × (List Int))) × (List Int)))))))))) : law39_SayActs.l9 fuel t A8 nN x10 x11 x12 x13 x14 x15 x16 = law39_SayActs.b9 t A8 (law39_SayActs.l9 fuel t A8 kK) x10 x11 x12 x13 x14 x15 x16 := by
  subst hN
  rfl
theorem law39_SayActs.l20_at (fuel nN kK : Nat) (hN : nN = kK + 1) (t : ByteArray) (A8 : Int → Int → Int → Int → Int → Int → (List (Int × (Int × (Int × (Int × (Int × ((Int × Int) × ((List (Int × (List Int))) × (List Int))))))))) → Option Bool) (x38 : Int) (x39 : Int) (x40 : Int) (x41 : Int) (x42 : Int) (x43 : Int) (x44 : (List (Int × (Int × (Int × (Int × (Int × ((Int × Int) × ((List (Int × (List Int))) × (List Int)))))))))) : law39_SayActs.l20 fuel t A8 nN x38 x39 x40 x41 x42 x43 x44 = law39_SayActs.b20 t A8 (law39_SayActs.l20 fuel t A8 kK) (law39_SayActs.l9 fuel t A8 fuel) x38 x39 x40 x41 x42 x43 x44 := by
  subst hN
  rfl
theorem law39_SayActs.l15_at (fuel nN kK : Nat) (hN : nN = kK + 1) (t : ByteArray) (A8 : Int → Int → Int → Int → Int → Int → (List (Int × (Int × (Int × (Int × (Int × ((Int × Int) × ((List (Int × (List Int))) × (List Int))))))))) → Option Bool) (x25 : Int) (x26 : Int) (x27 : Int) (x28 : Int) (x29 : Int) (x30 : Int) (x31 : ByteArray) (x32 : (List (Int × (Int × (Int × (Int × (Int × ((Int × Int) × ((List (Int × (List Int))) × (List Int)))))))))) : law39_SayActs.l15 fuel t A8 nN x25 x26 x27 x28 x29 x30 x31 x32 = law39_SayActs.b15 t A8 (law39_SayActs.l15 fuel t A8 kK) (law39_SayActs.l20 fuel t A8 fuel) x25 x26 x27 x28 x29 x30 x31 x32 := by
  subst hN
  rfl
theorem law39_SayActs.l11_at (fuel nN kK : Nat) (hN : nN = kK + 1) (t : ByteArray) (A8 : Int → Int → Int → Int → Int → Int → (List (Int × (Int × (Int × (Int × (Int × ((Int × Int) × ((List (Int × (List Int))) × (List Int))))))))) → Option Bool) (x17 : Int) (x18 : Int) (x19 : Int) (x20 : Int) (x21 : Int) (x22 : Int) (x23 : (List (Int × (Int × (Int × (Int × (Int × ((Int × Int) × ((List (Int × (List Int))) × (List Int)))))))))) : law39_SayActs.l11 fuel t A8 nN x17 x18 x19 x20 x21 x22 x23 = law39_SayActs.b11 t A8 (law39_SayActs.l11 fuel t A8 kK) (law39_SayActs.l9 fuel t A8 fuel) (law39_SayActs.l15 fuel t A8 fuel) x17 x18 x19 x20 x21 x22 x23 := by
  subst hN
  rfl
theorem law39_SayActs.l8_at (fuel nN kK : Nat) (hN : nN = kK + 1) (t : ByteArray) (x2 : Int) (x3 : Int) (x4 : Int) (x5 : Int) (x6 : Int) (x7 : Int) (x8 : (List (Int × (Int × (Int × (Int × (Int × ((Int × Int) × ((List (Int × (List Int))) × (List Int)))))))))) : law39_SayActs.l8 fuel t nN x2 x3 x4 x5 x6 x7 x8 = law39_SayActs.b8 t (law39_SayActs.l8 fuel t kK) (law39_SayActs.l9 fuel t (law39_SayActs.l8 fuel t kK) fuel) (law39_SayActs.l11 fuel t (law39_SayActs.l8 fuel t kK) fuel) x2 x3 x4 x5 x6 x7 x8 := by
  subst hN
  rfl
theorem wrap_small (n : Int) (h0 : -9223372036854775808 ≤ n) (h1 : n < 9223372036854775808) : Go.IntKind.wrap .i64 n = n := by
  rw [Go.IntKind.wrap_i64]; omega
theorem wrap_u8 (n : Int) : Go.IntKind.wrap .u8 n = n % 256 := by simp [Go.IntKind.wrap, Go.IntKind.bits, Go.IntKind.signed]
theorem idx_at {α : Type} (l : List α) (i : Nat) : idx l (i : Int) = l[i]? := by
  unfold idx
  rw [if_pos (by omega)]
  simp
theorem strOf_app (l m : List Int) : strOf l ++ strOf m = strOf (l ++ m) := by
  apply ByteArray.ext
  simp [strOf, strOfNums]
theorem lit_ext (a b : ByteArray) (h : a.data.toList = b.data.toList) : a = b := by
  apply ByteArray.ext
  exact Array.ext' h
theorem bytesOf_len (s : ByteArray) : (bytesOf s).length = s.size := by simp [bytesOf]
theorem strOf_bytes (w : ByteArray) : strOf (bytesOf w) = w := by
  apply lit_ext
  have e : ((fun n : Int => UInt8.ofNat n.toNat) ∘ fun b : UInt8 => (b.toNat : Int)) = id := funext fun b => by simp
  simp [strOf, strOfNums, bytesOf, e]
def i64R (v : Int) : Prop := -9223372036854775808 ≤ v ∧ v ≤ 9223372036854775807
theorem dig_len (n : Nat) (h : n ≤ 9223372036854775808) : (Lib.decDigits n).length ≤ 19 := by
  rw [Lib.decDigits_length]
  rcases Nat.eq_zero_or_pos n with rfl | hp
  · rw [Lib.nDigits_small (by omega)]; omega
  · apply Decidable.byContradiction
    intro hc
    have key : ∀ (k u : Nat), u < 10 ^ k → 0 < k → Lib.nDigits u ≤ k := by
      intro k
      induction k with
      | zero => intro u _ h; omega
      | succ k ih =>
        intro u hu _
        by_cases h10 : u < 10
        · rw [Lib.nDigits_small h10]; omega
        · rw [Lib.nDigits_big h10]
          have hk : 0 < k := by
            rcases Nat.eq_zero_or_pos k with rfl | hk
            · simp at hu; omega
            · exact hk
          have := ih (u / 10) (by rw [Nat.pow_succ] at hu; omega) hk
          omega
    exact hc (key 19 n (by omega) (by omega))
def bOf (w : Word) : ByteArray := ⟨w.toArray⟩
def tOf (b : ByteArray) : Word := b.data.toList
theorem bOf_size (w : Word) : (bOf w).size = w.length := rfl
theorem itoaT_eq (v : Int) : itoaT v = bOf (Lib.itoa v) := rfl
theorem itoaT_size (v : Int) (h : i64R v) : (itoaT v).size ≤ 20 := by
  obtain ⟨h0, h1⟩ := h
  rw [itoaT_eq, bOf_size]
  unfold Lib.itoa
  split
  · have := dig_len v.natAbs (by omega)
    simp
    omega
  · have := dig_len v.toNat (by omega)
    omega
theorem sayDraws_loop (fuel : Nat) (aKind aI aK aAt aBy aSpanLo aSpanHi : Int) (aBag : List (Int × List Int)) (l : List Int) (hl : l.length ≤ 1000000) (hr : ∀ d ∈ l, i64R d) : ∀ (n i k : Nat) (acc : List ByteArray), i + n = l.length → n < k → acc.length ≤ i →
    say_sayDraws.l3 fuel aKind aI aK aAt aBy aSpanLo aSpanHi aBag l k (l.length : Int) (i : Int) acc = some (acc ++ (l.drop i).map itoaT) := by
  intro n
  induction n with
  | zero =>
    intro i k acc hi hk ha
    obtain ⟨k, rfl⟩ : ∃ k', k = k' + 1 := ⟨k - 1, by omega⟩
    rw [say_sayDraws.l3]
    unfold say_sayDraws.b3
    rw [if_neg (by rw [decide_eq_true_eq]; omega), List.drop_of_length_le (by omega)]
    simp
  | succ n ih =>
    intro i k acc hi hk ha
    obtain ⟨k, rfl⟩ : ∃ k', k = k' + 1 := ⟨k - 1, by omega⟩
    rw [say_sayDraws.l3]
    unfold say_sayDraws.b3
    have hil : i < l.length := by omega
    rw [if_pos (by rw [decide_eq_true_eq]; omega), idx_at, List.getElem?_eq_getElem hil]
    simp only
    rw [if_pos (show -9223372036854775808 ≤ l[i] ∧ l[i] ≤ 9223372036854775807 from hr _ (List.getElem_mem hil)), if_pos (by simp [lim]; omega), wrap_small _ (by omega) (by omega)]
    rw [show ((i : Int) + 1) = ((i + 1 : Nat) : Int) by omega, ih (i + 1) k _ (by omega) (by omega) (by simp; omega), List.drop_eq_getElem_cons hil, List.map_cons, List.append_assoc]
    rfl
theorem SayDraws.pure (aKind aI aK aAt aBy aSpanLo aSpanHi : Int) (aBag : List (Int × List Int)) (l : List Int) (hl : l.length ≤ 1000000) (hr : ∀ d ∈ l, i64R d) : say_sayDraws.f BIG aKind aI aK aAt aBy aSpanLo aSpanHi aBag l = some (l.map itoaT) := by
  have := sayDraws_loop BIG aKind aI aK aAt aBy aSpanLo aSpanHi aBag l hl hr l.length 0 BIG [] (by omega) (by rw [BIG_eq]; omega) (by simp)
  rw [List.nil_append, List.drop_zero] at this
  exact this
theorem hex_at (d : Nat) (h : d < 16) : idx Go.Say.digits (d : Int) = some (Go.Say.hexD d) := by
  rw [idx_at]
  have : d < Go.Say.digits.length := h
  unfold Go.Say.hexD
  rw [List.getD_eq_getElem?_getD, List.getElem?_eq_getElem this]
  rfl
theorem shr4 (c : Nat) : Int.fdiv (c : Int) (2 ^ (Min.min (Int.toNat 4) (Go.IntKind.bits .u8))) = ((c / 16 : Nat) : Int) := by
  have e : (2 : Int) ^ (Min.min (Int.toNat 4) (Go.IntKind.bits .u8)) = 16 := by decide
  rw [e, Int.fdiv_eq_ediv_of_nonneg _ (by omega)]
  rfl
theorem and15 (c : Nat) (h : c < 256) : bits Go.BinOp.and .u8 (c : Int) (15 : Int) = ((c % 16 : Nat) : Int) := by
  have key : ∀ c : Fin 256, bits Go.BinOp.and .u8 ((c : Nat) : Int) (15 : Int) = (((c : Nat) % 16 : Nat) : Int) := by decide +kernel
  exact key ⟨c, h⟩
theorem or16 (h l : Nat) (h1 : h < 16) (h2 : l < 16) : Go.IntKind.wrap .u8 (bits Go.BinOp.or .i64 (Go.IntKind.wrap .i64 ((h : Int) * (2 ^ (Min.min (Int.toNat 4) (Go.IntKind.bits .i64))))) (l : Int)) = (h : Int) * 16 + l := by
  have key : ∀ h l : Fin 16, Go.IntKind.wrap .u8 (bits Go.BinOp.or .i64 (Go.IntKind.wrap .i64 (((h : Nat) : Int) * (2 ^ (Min.min (Int.toNat 4) (Go.IntKind.bits .i64))))) ((l : Nat) : Int)) = ((h : Nat) : Int) * 16 + ((l : Nat) : Int) := by decide +kernel
  exact key ⟨h, h1⟩ ⟨l, h2⟩
noncomputable def hexI (l : List Int) : List Int := (Go.Say.hexs l).map fun c => (c.toNat : Int)
theorem hexs_cons (c : Int) (l : List Int) : Go.Say.hexs (c :: l) = Go.Say.hexD (c.toNat / 16) :: Go.Say.hexD (c.toNat % 16) :: Go.Say.hexs l := rfl
noncomputable def fieldT (f : Int × List Int) : ByteArray := bOf (Go.Say.fieldW f)
theorem bagIn_loop (fuel : Nat) (aKind aI aK aAt aBy aSpanLo aSpanHi : Int) (aBag : List (Int × List Int)) (aDraws : List Int) (A3 : Int → Int → (List ByteArray) → Option (List ByteArray)) (x4 x5 : Int) (d : List Int) (x9 : List ByteArray) (hx9 : x9.length ≤ 1000000) (hd : d.length ≤ 1000000) (hb : ∀ c ∈ d, 0 ≤ c ∧ c ≤ 255) : ∀ (n i k : Nat) (acc : List Int), i + n = d.length → n < k → acc.length ≤ 100 + 2 * i →
    say_sayBag.l7 fuel aKind aI aK aAt aBy aSpanLo aSpanHi aBag aDraws A3 k x4 x5 d (d.length : Int) (i : Int) x9 acc = A3 x4 (Go.IntKind.wrap .i64 (x5 + 1)) (x9 ++ [strOf (acc ++ hexI (d.drop i))]) := by
  intro n
  induction n with
  | zero =>
    intro i k acc hi hk ha
    obtain ⟨k, rfl⟩ : ∃ k', k = k' + 1 := ⟨k - 1, by omega⟩
    rw [say_sayBag.l7]
    unfold say_sayBag.b7
    rw [if_neg (by rw [decide_eq_true_eq]; omega), List.drop_of_length_le (by omega), if_pos (by simp [lim]; omega)]
    simp [hexI, Go.Say.hexs]
  | succ n ih =>
    intro i k acc hi hk ha
    obtain ⟨k, rfl⟩ : ∃ k', k = k' + 1 := ⟨k - 1, by omega⟩
    rw [say_sayBag.l7]
    unfold say_sayBag.b7
    have hil : i < d.length := by omega
    have hc := hb _ (List.getElem_mem hil)
    obtain ⟨c, hce⟩ : ∃ c : Nat, d[i] = (c : Int) := ⟨d[i].toNat, by omega⟩
    rw [if_pos (by rw [decide_eq_true_eq]; omega), idx_at, List.getElem?_eq_getElem hil]
    simp only
    rw [hce, shr4, and15 c (by omega)]
    have e1 := hex_at (c / 16) (by omega)
    have e2 := hex_at (c % 16) (by omega)
    rw [show ([48, 49, 50, 51, 52, 53, 54, 55, 56, 57, 97, 98, 99, 100, 101, 102] : List UInt8) = Go.Say.digits from rfl, e1]
    simp only
    rw [e2]
    simp only
    rw [if_pos (by simp [lim]; omega), wrap_small _ (by omega) (by omega)]
    rw [show ((i : Int) + 1) = ((i + 1 : Nat) : Int) by omega, ih (i + 1) k _ (by omega) (by omega) (by simp; omega), List.drop_eq_getElem_cons hil, hce]
    simp [hexI, hexs_cons]
theorem fieldT_eq (f : Int × List Int) : strOf (bytesOf (itoaT f.1 ++ (⟨((58 :: ([] : List UInt8))).toArray⟩ : ByteArray)) ++ hexI f.2) = fieldT f := by
  rw [← strOf_app, strOf_bytes]
  apply lit_ext
  have e : ((fun n : Int => UInt8.ofNat n.toNat) ∘ fun b : UInt8 => (b.toNat : Int)) = id := funext fun b => by simp
  simp [fieldT, bOf, Go.Say.fieldW, itoaT, hexI, strOf, strOfNums, e]
structure SmallBag (b : List (Int × List Int)) : Prop where
  len : b.length ≤ 1000000
  data : ∀ f ∈ b, f.2.length ≤ 1000000
  ok : ∀ f ∈ b, Go.Say.fieldOk f
theorem sayBag_loop (fuel : Nat) (hf : 2000000 ≤ fuel) (aKind aI aK aAt aBy aSpanLo aSpanHi : Int) (aBag : List (Int × List Int)) (aDraws : List Int) (hb : SmallBag aBag) : ∀ (n i k : Nat) (acc : List ByteArray), i + n = aBag.length → n < k → acc.length ≤ i →
    say_sayBag.l3 fuel aKind aI aK aAt aBy aSpanLo aSpanHi aBag aDraws k (aBag.length : Int) (i : Int) acc = some (acc ++ (aBag.drop i).map fieldT) := by
  have hlen := hb.len
  intro n
  induction n with
  | zero =>
    intro i k acc hi hk ha
    rw [say_sayBag.l3_at fuel k (k - 1) (by omega)]
    unfold say_sayBag.b3
    rw [if_neg (by rw [decide_eq_true_eq]; omega), List.drop_of_length_le (by omega)]
    simp
  | succ n ih =>
    intro i k acc hi hk ha
    rw [say_sayBag.l3_at fuel k (k - 1) (by omega)]
    unfold say_sayBag.b3
    have hil : i < aBag.length := by omega
    have hm := List.getElem_mem hil
    have hok := hb.ok _ hm
    have hd := hb.data _ hm
    have hsz := itoaT_size aBag[i].1 hok.1
    have h1 : ByteArray.size (⟨((58 :: ([] : List UInt8))).toArray⟩ : ByteArray) = 1 := rfl
    rw [if_pos (by rw [decide_eq_true_eq]; omega), idx_at, List.getElem?_eq_getElem hil]
    simp only
    rw [if_pos (show -9223372036854775808 ≤ aBag[i].1 ∧ aBag[i].1 ≤ 9223372036854775807 from hok.1), if_pos (by omega), if_pos (by rw [ByteArray.size_append]; unfold lim; omega)]
    rw [show (0 : Int) = ((0 : Nat) : Int) from rfl, bagIn_loop fuel aKind aI aK aAt aBy aSpanLo aSpanHi aBag aDraws _ _ _ aBag[i].2 acc (by omega) hd hok.2 aBag[i].2.length 0 fuel _ (by omega) (by omega) (by rw [bytesOf_len, ByteArray.size_append]; omega)]
    rw [wrap_small _ (by omega) (by omega), show ((i : Int) + 1) = ((i + 1 : Nat) : Int) by omega, ih (i + 1) (k - 1) _ (by omega) (by omega) (by simp; omega), List.drop_eq_getElem_cons hil, List.drop_zero, fieldT_eq, List.map_cons, List.append_assoc]
    rfl
theorem SayBag.pure (aKind aI aK aAt aBy aSpanLo aSpanHi : Int) (aBag : List (Int × List Int)) (aDraws : List Int) (hb : SmallBag aBag) : say_sayBag.f BIG aKind aI aK aAt aBy aSpanLo aSpanHi aBag aDraws = some (aBag.map fieldT) := by
  have := sayBag_loop BIG (by rw [BIG_eq]; omega) aKind aI aK aAt aBy aSpanLo aSpanHi aBag aDraws hb aBag.length 0 BIG [] (by omega) (by rw [BIG_eq]; have := hb.len; omega) (by simp)
  rw [List.nil_append, List.drop_zero] at this
  exact this
theorem parseB_none {s : ByteArray} (h : Go.Say.parseN (tOf s) = none) : parseB s = (0, false) := by
  unfold parseB
  unfold Go.Say.parseN tOf at h
  cases hA : Lib.atoiAll s.data.toList with
  | ok v =>
    rw [hA] at h
    simp only at h ⊢
    split at h
    · cases h
    · rename_i hne
      rw [if_neg hne]
  | _ => rfl
theorem parseB_some {s : ByteArray} {v : Int} (h : Go.Say.parseN (tOf s) = some v) : parseB s = (v, true) := by
  unfold parseB
  unfold Go.Say.parseN tOf at h
  cases hA : Lib.atoiAll s.data.toList with
  | ok u =>
    rw [hA] at h
    simp only at h ⊢
    split at h
    · rename_i he
      cases h
      rw [if_pos he]
    · cases h
  | _ => rw [hA] at h; cases h
theorem readDraws_loop (fuel : Nat) (aKind aI aK aAt aBy aLo aHi : Int) (aBag : List (Int × List Int)) (aDraws : List Int) (ws : List ByteArray) (hl : ws.length ≤ 1000000) (hs : ∀ w ∈ ws, w.size ≤ 281474976710656) : ∀ (n i k : Nat) (acc : List Int), i + n = ws.length → n < k → acc.length ≤ 1000000 + i →
    (∀ l, Go.Say.readAll Go.Say.parseN ((ws.drop i).map tOf) = some l → say_readDraws.l2 fuel aKind aI aK aAt aBy aLo aHi aBag aDraws ws k (ws.length : Int) (i : Int) acc = some (true, aKind, aI, aK, aAt, aBy, aLo, aHi, aBag, acc ++ l, ([] : List ByteArray))) ∧
    (Go.Say.readAll Go.Say.parseN ((ws.drop i).map tOf) = none → ∃ b, say_readDraws.l2 fuel aKind aI aK aAt aBy aLo aHi aBag aDraws ws k (ws.length : Int) (i : Int) acc = some (false, aKind, aI, aK, aAt, aBy, aLo, aHi, aBag, b, ([] : List ByteArray))) := by
  intro n
  induction n with
  | zero =>
    intro i k acc hi hk ha
    rw [say_readDraws.l2_at fuel k (k - 1) (by omega)]
    unfold say_readDraws.b2
    rw [if_neg (by rw [decide_eq_true_eq]; omega), List.drop_of_length_le (by omega)]
    refine ⟨fun l h => ?_, fun h => by cases h⟩
    cases h
    simp
  | succ n ih =>
    intro i k acc hi hk ha
    rw [say_readDraws.l2_at fuel k (k - 1) (by omega)]
    unfold say_readDraws.b2
    have hil : i < ws.length := by omega
    rw [if_pos (by rw [decide_eq_true_eq]; omega), idx_at, List.getElem?_eq_getElem hil]
    simp only
    rw [if_pos (hs _ (List.getElem_mem hil)), List.drop_eq_getElem_cons hil, List.map_cons, Go.Say.readAll]
    cases hp : Go.Say.parseN (tOf ws[i]) with
    | none =>
      rw [parseB_none hp]
      exact ⟨fun l h => (by cases h), fun _ => ⟨acc, rfl⟩⟩
    | some v =>
      rw [parseB_some hp]
      simp only [Bool.not_true, Bool.false_eq_true, if_false]
      rw [if_pos (by simp [lim]; omega), wrap_small _ (by omega) (by omega), show ((i : Int) + 1) = ((i + 1 : Nat) : Int) by omega]
      obtain ⟨i1, i2⟩ := ih (i + 1) (k - 1) (acc ++ [v]) (by omega) (by omega) (by simp; omega)
      cases hr : Go.Say.readAll Go.Say.parseN ((ws.drop (i + 1)).map tOf) with
      | none =>
        obtain ⟨b, hb⟩ := i2 hr
        exact ⟨fun l h => (by cases h), fun _ => ⟨b, hb⟩⟩
      | some l' =>
        refine ⟨fun l h => ?_, fun h => (by cases h)⟩
        cases h
        rw [i1 l' hr]
        simp
theorem ReadDraws.pure (aKind aI aK aAt aBy aLo aHi : Int) (aBag : List (Int × List Int)) (aDraws : List Int) (ws : List ByteArray) (hd : aDraws.length ≤ 1000000) (hl : ws.length ≤ 1000000) (hs : ∀ w ∈ ws, w.size ≤ 281474976710656) :
    (∀ l, Go.Say.readAll Go.Say.parseN (ws.map tOf) = some l → say_readDraws.f BIG aKind aI aK aAt aBy aLo aHi aBag aDraws ws = some (true, aKind, aI, aK, aAt, aBy, aLo, aHi, aBag, aDraws ++ l, ([] : List ByteArray))) ∧
    (Go.Say.readAll Go.Say.parseN (ws.map tOf) = none → ∃ b, say_readDraws.f BIG aKind aI aK aAt aBy aLo aHi aBag aDraws ws = some (false, aKind, aI, aK, aAt, aBy, aLo, aHi, aBag, b, ([] : List ByteArray))) :=
  readDraws_loop BIG aKind aI aK aAt aBy aLo aHi aBag aDraws ws hl hs ws.length 0 BIG aDraws (by omega) (by rw [BIG_eq]; omega) (by omega)
theorem field_loop (fuel : Nat) (w : ByteArray) (x : Word) (hx : (cutL w (⟨((58 :: ([] : List UInt8))).toArray⟩ : ByteArray)).2.1 = bOf x) (hl : x.length ≤ 10000000000) : ∀ (n i k : Nat) (acc : List Int), i + 2 * n = x.length → n < k → acc.length ≤ i →
    say_readField.l7 fuel w k (i : Int) acc = some (match Go.Say.unhex (x.drop i) with
      | none => (0, ([] : List Int), false)
      | some d => ((parseB (cutL w (⟨((58 :: ([] : List UInt8))).toArray⟩ : ByteArray)).1).1, acc ++ d, true)) := by
  intro n
  induction n with
  | zero =>
    intro i k acc hi hk ha
    obtain ⟨k, rfl⟩ : ∃ k', k = k' + 1 := ⟨k - 1, by omega⟩
    rw [say_readField.l7]
    unfold say_readField.b7
    rw [hx, bOf_size, if_neg (by rw [decide_eq_true_eq]; omega), List.drop_of_length_le (by omega)]
    simp [Go.Say.unhex]
  | succ n ih =>
    intro i k acc hi hk ha
    obtain ⟨k, rfl⟩ : ∃ k', k = k' + 1 := ⟨k - 1, by omega⟩
    rw [say_readField.l7]
    unfold say_readField.b7
    have h1 : i < x.length := by omega
    have h2 : i + 1 < x.length := by omega
    rw [hx, bOf_size, if_pos (by rw [decide_eq_true_eq]; omega)]
    rw [show Array.toList (ByteArray.data (bOf x)) = x from rfl, idx_at, List.getElem?_eq_getElem h1, wrap_small _ (by omega) (by omega), show ((i : Int) + 1) = ((i + 1 : Nat) : Int) by omega, idx_at, List.getElem?_eq_getElem h2]
    simp only
    have ed : ([48, 49, 50, 51, 52, 53, 54, 55, 56, 57, 97, 98, 99, 100, 101, 102] : List UInt8) = Go.Say.digits := rfl
    have eb : ∀ b : UInt8, Nat.toUInt8 (Int.toNat ((((UInt8.toNat b)) : Nat) : Int)) = b := fun b => by simp
    simp only [ed, eb]
    rw [List.drop_eq_getElem_cons h1, List.drop_eq_getElem_cons h2, Go.Say.unhex]
    by_cases ha1 : Lib.indexByte Go.Say.digits x[i] < 0
    · rw [if_pos (by rw [decide_eq_true_eq]; exact ha1), if_pos (.inl ha1)]
    · rw [if_neg (by rw [decide_eq_true_eq]; exact ha1)]
      by_cases hb1 : Lib.indexByte Go.Say.digits x[i + 1] < 0
      · rw [if_pos (by rw [decide_eq_true_eq]; exact hb1), if_pos (.inr hb1)]
      · rw [if_neg (by rw [decide_eq_true_eq]; exact hb1)]
        obtain ⟨p, hp⟩ : ∃ p : Nat, Lib.indexByte Go.Say.digits x[i] = p := ⟨(Lib.indexByte Go.Say.digits x[i]).toNat, by omega⟩
        obtain ⟨q, hq⟩ : ∃ q : Nat, Lib.indexByte Go.Say.digits x[i + 1] = q := ⟨(Lib.indexByte Go.Say.digits x[i + 1]).toNat, by omega⟩
        have hp1 := (Go.Say.hexD_of hp).1
        have hq1 := (Go.Say.hexD_of hq).1
        rw [hp, hq, or16 p q hp1 hq1, if_pos (by simp [lim]; omega), if_neg (by omega), wrap_small _ (by omega) (by omega), show ((i : Int) + 2) = ((i + 2 : Nat) : Int) by omega, ih (i + 2) k _ (by omega) (by omega) (by simp; omega)]
        cases Go.Say.unhex (x.drop (i + 1 + 1)) with
        | none => rfl
        | some d => simp
theorem cutL_eq (w : ByteArray) : cutL w (⟨((58 :: ([] : List UInt8))).toArray⟩ : ByteArray) = (bOf (Lib.cut (tOf w) [58]).1, bOf (Lib.cut (tOf w) [58]).2.1, (Lib.cut (tOf w) [58]).2.2) := rfl
theorem cut_size (w : Word) (c : UInt8) : (Lib.cut w [c]).1.length ≤ w.length ∧ (Lib.cut w [c]).2.1.length ≤ w.length := by
  unfold Lib.cut
  split <;> simp <;> omega
theorem ReadField.pure (w : ByteArray) (hw : w.size ≤ 4000000000) : say_readField.f BIG w = some (match Go.Say.readW (tOf w) with
    | none => (0, ([] : List Int), false)
    | some f => (f.1, f.2, true)) := by
  have hsz : (tOf w).length = w.size := by simp [tOf]
  obtain ⟨hc1, hc2⟩ := cut_size (tOf w) 58
  unfold say_readField.f say_readField.b Go.Say.readW
  rw [cutL_eq]
  rw [if_pos (show ByteArray.size w < 4294967281 by omega), if_pos (show (bOf (Lib.cut (tOf w) [58]).1).size ≤ 281474976710656 by rw [bOf_size]; omega)]
  simp only [bOf_size]
  generalize hcut : Lib.cut (tOf w) [58] = C at *
  obtain ⟨A, X, ok⟩ := C
  simp only at *
  cases hp : Go.Say.parseN A with
  | none =>
    rw [parseB_none (s := bOf A) hp]
    cases ok <;> rfl
  | some t =>
    rw [parseB_some (s := bOf A) hp]
    cases ok with
    | false => simp
    | true =>
      simp only [Bool.not_true, Bool.false_eq_true, if_false, false_or]
      have em : Int.tmod (X.length : Int) 2 = ((X.length % 2 : Nat) : Int) := rfl
      have key : (if (Int.tmod (X.length : Int) 2 != 0) = true then some ((0 : Int), ([] : List Int), false) else say_readField.l7 BIG w BIG 0 []) =
          some (match (if true = false ∨ X.length % 2 ≠ 0 then none else (Go.Say.unhex X).map fun d => (t, d)) with
            | none => (0, ([] : List Int), false)
            | some f => (f.1, f.2, true)) := by
        by_cases ho : X.length % 2 = 0
        · rw [if_neg (show ¬ ((Int.tmod (X.length : Int) 2 != 0) = true) by rw [em, ho]; simp), if_neg (by rintro (h | h); cases h; exact h ho)]
          have g1 : 0 + 2 * (X.length / 2) = X.length := by omega
          have g3 : X.length / 2 < 1099511627776 := by omega
          have g2 : X.length / 2 < BIG := by rw [BIG_eq]; exact g3
          have := field_loop BIG w X (by rw [cutL_eq, hcut]) (by omega) (X.length / 2) 0 BIG [] g1 g2 (by simp)
          rw [show ((0 : Nat) : Int) = 0 from rfl] at this
          rw [this, cutL_eq, hcut, List.drop_zero]
          simp only
          rw [parseB_some (s := bOf A) hp]
          cases Go.Say.unhex X with
          | none => rfl
          | some d => simp
        · rw [if_pos (show (Int.tmod (X.length : Int) 2 != 0) = true by rw [em, show X.length % 2 = 1 by omega]; rfl), if_pos (.inr ho)]
      exact key
theorem readBag_loop (fuel : Nat) (aKind aI aK aAt aBy aLo aHi : Int) (aBag : List (Int × List Int)) (aDraws : List Int) (ws : List ByteArray) (hl : ws.length ≤ 1000000) (hs : ∀ w ∈ ws, w.size ≤ 4000000000) : ∀ (n i k : Nat) (acc : List (Int × List Int)), i + n = ws.length → n < k → acc.length ≤ 1000000 + i →
    (∀ l, Go.Say.readAll Go.Say.readW ((ws.drop i).map tOf) = some l → say_readBag.l2 fuel aKind aI aK aAt aBy aLo aHi aBag aDraws ws k (ws.length : Int) (i : Int) acc = some (true, aKind, aI, aK, aAt, aBy, aLo, aHi, acc ++ l, aDraws, ([] : List ByteArray))) ∧
    (Go.Say.readAll Go.Say.readW ((ws.drop i).map tOf) = none → ∃ b, say_readBag.l2 fuel aKind aI aK aAt aBy aLo aHi aBag aDraws ws k (ws.length : Int) (i : Int) acc = some (false, aKind, aI, aK, aAt, aBy, aLo, aHi, b, aDraws, ([] : List ByteArray))) := by
  intro n
  induction n with
  | zero =>
    intro i k acc hi hk ha
    rw [say_readBag.l2_at fuel k (k - 1) (by omega)]
    unfold say_readBag.b2
    rw [if_neg (by rw [decide_eq_true_eq]; omega), List.drop_of_length_le (by omega)]
    refine ⟨fun l h => ?_, fun h => by cases h⟩
    cases h
    simp
  | succ n ih =>
    intro i k acc hi hk ha
    rw [say_readBag.l2_at fuel k (k - 1) (by omega)]
    unfold say_readBag.b2
    have hil : i < ws.length := by omega
    rw [if_pos (by rw [decide_eq_true_eq]; omega), idx_at, List.getElem?_eq_getElem hil]
    simp only [veil_eq]
    rw [ReadField.pure _ (hs _ (List.getElem_mem hil)), List.drop_eq_getElem_cons hil, List.map_cons, Go.Say.readAll]
    cases hp : Go.Say.readW (tOf ws[i]) with
    | none => exact ⟨fun l h => (by cases h), fun _ => ⟨acc, rfl⟩⟩
    | some v =>
      simp only [Bool.not_true, Bool.false_eq_true, if_false]
      rw [if_pos (by simp [lim]; omega), wrap_small _ (by omega) (by omega), show ((i : Int) + 1) = ((i + 1 : Nat) : Int) by omega]
      obtain ⟨i1, i2⟩ := ih (i + 1) (k - 1) (acc ++ [(v.1, v.2)]) (by omega) (by omega) (by simp; omega)
      cases hr : Go.Say.readAll Go.Say.readW ((ws.drop (i + 1)).map tOf) with
      | none =>
        obtain ⟨b, hb⟩ := i2 hr
        exact ⟨fun l h => (by cases h), fun _ => ⟨b, hb⟩⟩
      | some l' =>
        refine ⟨fun l h => ?_, fun h => (by cases h)⟩
        cases h
        rw [i1 l' hr, List.append_assoc]
        rfl
theorem ReadBag.pure (aKind aI aK aAt aBy aLo aHi : Int) (aBag : List (Int × List Int)) (aDraws : List Int) (ws : List ByteArray) (hd : aBag.length ≤ 1000000) (hl : ws.length ≤ 1000000) (hs : ∀ w ∈ ws, w.size ≤ 4000000000) :
    (∀ l, Go.Say.readAll Go.Say.readW (ws.map tOf) = some l → say_readBag.f BIG aKind aI aK aAt aBy aLo aHi aBag aDraws ws = some (true, aKind, aI, aK, aAt, aBy, aLo, aHi, aBag ++ l, aDraws, ([] : List ByteArray))) ∧
    (Go.Say.readAll Go.Say.readW (ws.map tOf) = none → ∃ b, say_readBag.f BIG aKind aI aK aAt aBy aLo aHi aBag aDraws ws = some (false, aKind, aI, aK, aAt, aBy, aLo, aHi, b, aDraws, ([] : List ByteArray))) :=
  readBag_loop BIG aKind aI aK aAt aBy aLo aHi aBag aDraws ws hl hs ws.length 0 BIG aBag (by omega) (by rw [BIG_eq]; omega) (by omega)
theorem Valid.pure (lo hi : Int) : span_Valid.f BIG lo hi = some (Go.Say.spanOk lo hi) := by
  unfold span_Valid.f span_Valid.b Go.Say.spanOk
  by_cases h1 : lo ≥ 1
  · rw [if_pos (by simpa using h1)]
    by_cases h2 : lo ≤ hi
    · rw [if_pos (by simpa using h2)]
      congr 1
      apply decide_eq_decide.2
      omega
    · rw [if_neg (by simpa using h2), decide_eq_false (by omega)]
  · rw [if_neg (by simpa using h1), decide_eq_false (by omega)]
theorem SpanText.pure (lo hi : Int) (h : Go.Say.spanOk lo hi = true) : span_Text.f BIG lo hi = some (bOf (Go.Say.spanT lo hi)) := by
  have h' := of_decide_eq_true h
  unfold span_Text.f span_Text.b
  simp only [veil_eq, Valid.pure, h, Bool.not_true, Bool.false_eq_true, if_false]
  rw [wrap_small _ (by omega) (by omega), wrap_small _ (by omega) (by omega), wrap_u8, wrap_u8]
  congr 1
  apply lit_ext
  have e1 : (48 + lo) % 256 = ((48 + lo.toNat : Nat) : Int) := by omega
  have e2 : (48 + hi) % 256 = ((48 + hi.toNat : Nat) : Int) := by omega
  rw [e1, e2]
  have q : ∀ n : Nat, UInt8.ofNat ((n : Int).toNat) = UInt8.ofNat n := fun n => by simp
  simp only [strOf, strOfNums, bOf, Go.Say.spanT, List.map_cons, List.map_nil, q]
  rfl
def allSpans : List (Int × Int) := [(1, 1), (1, 2), (1, 3), (2, 2), (2, 3), (3, 3)]
theorem All.pure : span_All.f BIG () = some allSpans := by
  rw [BIG_eq]
  kernel_rfl
theorem Index.pure (lo hi : Int) : slices_Index_api_Span_api_Span.f BIG allSpans lo hi = some (if lo = 1 ∧ hi = 1 then 0 else if lo = 1 ∧ hi = 2 then 1 else if lo = 1 ∧ hi = 3 then 2 else if lo = 2 ∧ hi = 2 then 3 else if lo = 2 ∧ hi = 3 then 4 else if lo = 3 ∧ hi = 3 then 5 else -1) := by
  obtain ⟨m, hm⟩ : ∃ m, BIG = m + 10 := ⟨BIG - 10, by rw [BIG_eq]⟩
  unfold slices_Index_api_Span_api_Span.f slices_Index_api_Span_api_Span.b
  rw [hm]
  have w1 : ∀ x : Int, 0 ≤ x → x < 10 → Go.IntKind.wrap .i64 (x + 1) = x + 1 := fun x h1 h2 => wrap_small _ (by omega) (by omega)
  have step : ∀ (k i : Nat) (q : Int × Int), allSpans[i]? = some q → i < 6 → slices_Index_api_Span_api_Span.l2 (m + 10) allSpans lo hi (k + 1) (allSpans.length : Int) (i : Int) = (if lo = q.1 ∧ hi = q.2 then some (i : Int) else slices_Index_api_Span_api_Span.l2 (m + 10) allSpans lo hi k (allSpans.length : Int) ((i + 1 : Nat) : Int)) := by
    intro k i q hq hi6
    rw [slices_Index_api_Span_api_Span.l2]
    unfold slices_Index_api_Span_api_Span.b2
    rw [if_pos (by rw [decide_eq_true_eq]; exact Int.ofNat_lt.2 hi6), idx_at, hq, w1 _ (by omega) (by omega)]
    simp only
    by_cases h1 : lo = q.1
    · by_cases h2 : hi = q.2
      · simp [h1, h2]
      · simp [h1, h2]
    · simp [h1]
  rw [show (0 : Int) = ((0 : Nat) : Int) from rfl]
  rw [step (m + 9) 0 _ rfl (by decide), step (m + 8) 1 _ rfl (by decide), step (m + 7) 2 _ rfl (by decide), step (m + 6) 3 _ rfl (by decide), step (m + 5) 4 _ rfl (by decide), step (m + 4) 5 _ rfl (by decide)]
  rw [show m + 4 = (m + 3) + 1 from rfl, slices_Index_api_Span_api_Span.l2]
  unfold slices_Index_api_Span_api_Span.b2
  rw [if_neg (show ¬ (decide (((5 + 1 : Nat) : Int) < (allSpans.length : Int)) = true) by decide)]
  simp only
  by_cases c0 : lo = 1 ∧ hi = 1
  · rw [if_pos c0, if_pos c0] <;> rfl
  rw [if_neg c0, if_neg c0]
  by_cases c1 : lo = 1 ∧ hi = 2
  · rw [if_pos c1, if_pos c1] <;> rfl
  rw [if_neg c1, if_neg c1]
  by_cases c2 : lo = 1 ∧ hi = 3
  · rw [if_pos c2, if_pos c2] <;> rfl
  rw [if_neg c2, if_neg c2]
  by_cases c3 : lo = 2 ∧ hi = 2
  · rw [if_pos c3, if_pos c3] <;> rfl
  rw [if_neg c3, if_neg c3]
  by_cases c4 : lo = 2 ∧ hi = 3
  · rw [if_pos c4, if_pos c4] <;> rfl
  rw [if_neg c4, if_neg c4]
  by_cases c5 : lo = 3 ∧ hi = 3
  · rw [if_pos c5, if_pos c5] <;> rfl
  rw [if_neg c5, if_neg c5]
theorem Contains.pure (lo hi : Int) : slices_Contains_api_Span_api_Span.f BIG allSpans lo hi = some (Go.Say.spanOk lo hi) := by
  unfold slices_Contains_api_Span_api_Span.f slices_Contains_api_Span_api_Span.b
  simp only [veil_eq, Index.pure]
  congr 1
  unfold Go.Say.spanOk
  apply decide_eq_decide.2
  constructor
  · intro h
    split at h
    · omega
    split at h
    · omega
    split at h
    · omega
    split at h
    · omega
    split at h
    · omega
    split at h
    · omega
    · omega
  · intro h
    have : (lo = 1 ∧ hi = 1) ∨ (lo = 1 ∧ hi = 2) ∨ (lo = 1 ∧ hi = 3) ∨ (lo = 2 ∧ hi = 2) ∨ (lo = 2 ∧ hi = 3) ∨ (lo = 3 ∧ hi = 3) := by omega
    rcases this with ⟨rfl, rfl⟩ | ⟨rfl, rfl⟩ | ⟨rfl, rfl⟩ | ⟨rfl, rfl⟩ | ⟨rfl, rfl⟩ | ⟨rfl, rfl⟩ <;> simp
theorem SpanParse.pure (w : ByteArray) : span_Parse.f BIG w = some (match Go.Say.spanR (tOf w) with
    | none => (0, 0, 4)
    | some s => (s.1, s.2, 0)) := by
  have hsz : (tOf w).length = w.size := by simp [tOf]
  unfold span_Parse.f span_Parse.b
  rw [show Array.toList (ByteArray.data w) = tOf w from rfl]
  by_cases h3 : w.size = 3
  · rw [if_neg (by rw [h3]; decide)]
    rw [h3] at hsz
    match hw : tOf w, hsz with
    | [a, m, b], _ =>
      simp only [veil_eq, All.pure, Contains.pure, Go.Say.spanR, idx, List.getElem?_cons_zero]
      have e : ∀ c : UInt8, Go.IntKind.wrap .i64 ((c.toNat : Nat) : Int) = (c.toNat : Int) := fun c => by have := c.toNat_lt; exact wrap_small _ (by omega) (by omega)
      have e2 : ∀ c : UInt8, Go.IntKind.wrap .i64 (((c.toNat : Nat) : Int) - 48) = (c.toNat : Int) - 48 := fun c => by have := c.toNat_lt; exact wrap_small _ (by omega) (by omega)
      have i0 : ([a, m, b] : List UInt8)[Int.toNat 0]? = some a := rfl
      have i1 : ([a, m, b] : List UInt8)[Int.toNat 1]? = some m := rfl
      have i2 : ([a, m, b] : List UInt8)[Int.toNat 2]? = some b := rfl
      rw [if_pos (by decide), if_pos (by decide), if_pos (by decide), i0, i1, i2]
      simp only [e, e2]
      by_cases hm : m = 45
      · subst hm
        rw [if_neg (by decide)]
        by_cases hs : Go.Say.spanOk ((a.toNat : Int) - 48) ((b.toNat : Int) - 48) = true
        · rw [if_neg (by simp [hs]), if_pos ⟨rfl, hs⟩]
        · rw [if_pos (by simp [hs]), if_neg (fun h => hs h.2)]
      · rw [if_pos (by simp only [bne_iff_ne, ne_eq]; intro h; apply hm; apply UInt8.toNat_inj.1; have e : (45 : UInt8).toNat = 45 := rfl; omega), if_neg (fun h => hm h.1)]
  · rw [if_pos (by simp only [bne_iff_ne, ne_eq]; omega)]
    have : Go.Say.spanR (tOf w) = none := by
      unfold Go.Say.spanR
      split
      · rename_i a m b he
        rw [he] at hsz
        exact absurd hsz.symm h3
      · rfl
    rw [this]
def bitsL : List Int := [0, 49, 1, 65, 2, 2, 2, 14, 6, 3, 1, 33]
def masks : List Int := [1, 2, 4, 8, 16, 32, 64]
noncomputable def rowsT : List (ByteArray × Int) := (names.map bOf).zip bitsL
theorem Rows.pure : say_rows.f BIG () = some rowsT := rfl
theorem rows_at (k : Nat) (h : k < 12) : idx rowsT (k : Int) = some (bOf (names.getD k []), bitsL.getD k 0) := by
  rw [idx_at]
  have : k = 0 ∨ k = 1 ∨ k = 2 ∨ k = 3 ∨ k = 4 ∨ k = 5 ∨ k = 6 ∨ k = 7 ∨ k = 8 ∨ k = 9 ∨ k = 10 ∨ k = 11 := by omega
  rcases this with rfl | rfl | rfl | rfl | rfl | rfl | rfl | rfl | rfl | rfl | rfl | rfl <;> rfl
def has (b : Int) (j : Nat) : Bool := bits Go.BinOp.and .i64 b (masks.getD j 0) != 0
def partsB (b : Int) (j : Nat) : List Nat := ((List.range 7).drop j).filter fun j => has b j
theorem parts_step (b : Int) (j : Nat) (hj : j < 7) : partsB b j = if has b j = true then j :: partsB b (j + 1) else partsB b (j + 1) := by
  have e : (List.range 7).drop j = j :: (List.range 7).drop (j + 1) := by
    have : j = 0 ∨ j = 1 ∨ j = 2 ∨ j = 3 ∨ j = 4 ∨ j = 5 ∨ j = 6 := by omega
    rcases this with rfl | rfl | rfl | rfl | rfl | rfl | rfl <;> rfl
  unfold partsB
  rw [e, List.filter_cons]
theorem parts_end (b : Int) : partsB b 7 = [] := rfl
theorem parts_kind (k : Nat) (h : k < 12) : partsB (bitsL.getD k 0) 0 = partsOf.getD k [] := by
  have key : ∀ k : Fin 12, partsB (bitsL.getD k 0) 0 = partsOf.getD k [] := by decide +kernel
  exact key ⟨k, h⟩
theorem Of.pure (kind : Int) : say_of.f BIG kind = some (if 1 ≤ kind ∧ kind ≤ 11 then (bOf (names.getD kind.toNat []), bitsL.getD kind.toNat 0, true) else (bOf [], 0, false)) := by
  unfold say_of.f say_of.b
  by_cases h1 : kind < 1
  · rw [if_pos (by simpa using h1), if_neg (by omega)]
    rfl
  · rw [if_neg (by simpa using h1)]
    by_cases h2 : kind > 11
    · rw [if_pos (by simpa using h2), if_neg (by omega)]
      rfl
    · rw [if_neg (by simpa using h2), if_pos (by omega)]
      obtain ⟨k, rfl⟩ : ∃ k : Nat, kind = k := ⟨kind.toNat, by omega⟩
      simp only [veil_eq, Rows.pure]
      rw [rows_at k (by omega)]
      rfl
structure Small (a : Deed) : Prop where
  bag : SmallBag a.bag
  draws : a.draws.length ≤ 1000000
  ok : Go.Say.Ok a
abbrev Tup := Int × Int × Int × Int × Int × Int × Int × List (Int × List Int) × List Int
def tup (a : Deed) : Tup := (a.kind, a.i, a.k, a.at', a.by', a.lo, a.hi, a.bag, a.draws)
noncomputable def sayT (a : Deed) (j : Nat) : List ByteArray := (Go.Say.say a j).map bOf
theorem say_len (a : Deed) (ha : Small a) (j : Nat) : (sayT a j).length ≤ 1000000 := by
  unfold sayT
  rw [List.length_map]
  match j with
  | 0 | 1 | 2 | 3 | 4 => exact Nat.le_trans (Nat.le_refl 1) (by omega)
  | 5 => show (a.bag.map Go.Say.fieldW).length ≤ _; rw [List.length_map]; exact ha.bag.len
  | 6 => show (a.draws.map Go.Lib.itoa).length ≤ _; rw [List.length_map]; exact ha.draws
  | j + 7 => exact Nat.zero_le _
theorem text_step (a : Deed) (ha : Small a) (A8 : Int → ByteArray → Int → (List ByteArray) → Option (ByteArray × Int)) (j : Nat) (hj : j < 7) (name : ByteArray) (b : Int) (ws : List ByteArray) (hw : ws.length ≤ 10000000) (hsp : has b 4 = true → Go.Say.spanOk a.lo a.hi = true) :
    say_Text.b8 a.kind a.i a.k a.at' a.by' a.lo a.hi a.bag a.draws A8 (j : Int) name b ws =
      if has b j = true then A8 ((j + 1 : Nat) : Int) name b (ws ++ sayT a j) else A8 ((j + 1 : Nat) : Int) name b ws := by
  unfold say_Text.b8
  have : j = 0 ∨ j = 1 ∨ j = 2 ∨ j = 3 ∨ j = 4 ∨ j = 5 ∨ j = 6 := by omega
  have hok := ha.ok
  rcases this with rfl | rfl | rfl | rfl | rfl | rfl | rfl
  · rw [show ((0 : Nat) : Int) = 0 from rfl, if_pos (by decide), if_pos (by decide)]
    have w : Go.IntKind.wrap .i64 ((0 : Int) + 1) = ((0 + 1 : Nat) : Int) := wrap_small _ (by omega) (by omega)
    rw [w]
    by_cases h : has b 0 = true
    · rw [if_pos (show (bits Go.BinOp.and .i64 b (1 : Int) != (0 : Int)) = true from h), if_pos h]
      rw [if_pos (show -9223372036854775808 ≤ a.i ∧ a.i ≤ 9223372036854775807 from hok.i), if_pos (by simp [lim]; omega)]
      rfl
    · rw [if_neg (show ¬ (bits Go.BinOp.and .i64 b (1 : Int) != (0 : Int)) = true from h), if_neg h]
  · rw [show ((1 : Nat) : Int) = 1 from rfl, if_pos (by decide), if_neg (by decide), if_pos (by decide)]
    have w : Go.IntKind.wrap .i64 ((1 : Int) + 1) = ((1 + 1 : Nat) : Int) := wrap_small _ (by omega) (by omega)
    rw [w]
    by_cases h : has b 1 = true
    · rw [if_pos (show (bits Go.BinOp.and .i64 b (2 : Int) != (0 : Int)) = true from h), if_pos h]
      rw [if_pos (show -9223372036854775808 ≤ a.k ∧ a.k ≤ 9223372036854775807 from hok.k), if_pos (by simp [lim]; omega)]
      rfl
    · rw [if_neg (show ¬ (bits Go.BinOp.and .i64 b (2 : Int) != (0 : Int)) = true from h), if_neg h]
  · rw [show ((2 : Nat) : Int) = 2 from rfl, if_pos (by decide), if_neg (by decide), if_neg (by decide), if_pos (by decide)]
    have w : Go.IntKind.wrap .i64 ((2 : Int) + 1) = ((2 + 1 : Nat) : Int) := wrap_small _ (by omega) (by omega)
    rw [w]
    by_cases h : has b 2 = true
    · rw [if_pos (show (bits Go.BinOp.and .i64 b (4 : Int) != (0 : Int)) = true from h), if_pos h]
      rw [if_pos (show -9223372036854775808 ≤ a.at' ∧ a.at' ≤ 9223372036854775807 from hok.at'), if_pos (by simp [lim]; omega)]
      rfl
    · rw [if_neg (show ¬ (bits Go.BinOp.and .i64 b (4 : Int) != (0 : Int)) = true from h), if_neg h]
  · rw [show ((3 : Nat) : Int) = 3 from rfl, if_pos (by decide), if_neg (by decide), if_neg (by decide), if_neg (by decide), if_pos (by decide)]
    have w : Go.IntKind.wrap .i64 ((3 : Int) + 1) = ((3 + 1 : Nat) : Int) := wrap_small _ (by omega) (by omega)
    rw [w]
    by_cases h : has b 3 = true
    · rw [if_pos (show (bits Go.BinOp.and .i64 b (8 : Int) != (0 : Int)) = true from h), if_pos h]
      rw [if_pos (show -9223372036854775808 ≤ a.by' ∧ a.by' ≤ 9223372036854775807 from hok.by'), if_pos (by simp [lim]; omega)]
      rfl
    · rw [if_neg (show ¬ (bits Go.BinOp.and .i64 b (8 : Int) != (0 : Int)) = true from h), if_neg h]
  · rw [show ((4 : Nat) : Int) = 4 from rfl, if_pos (by decide), if_neg (by decide), if_neg (by decide), if_neg (by decide), if_neg (by decide), if_pos (by decide)]
    have w : Go.IntKind.wrap .i64 ((4 : Int) + 1) = ((4 + 1 : Nat) : Int) := wrap_small _ (by omega) (by omega)
    rw [w]
    by_cases h : has b 4 = true
    · rw [if_pos (show (bits Go.BinOp.and .i64 b (16 : Int) != (0 : Int)) = true from h), if_pos h]
      simp only [veil_eq, SpanText.pure a.lo a.hi (hsp h)]
      rw [if_pos (by simp [lim]; omega)]
      rfl
    · rw [if_neg (show ¬ (bits Go.BinOp.and .i64 b (16 : Int) != (0 : Int)) = true from h), if_neg h]
  · rw [show ((5 : Nat) : Int) = 5 from rfl, if_pos (by decide), if_neg (by decide), if_neg (by decide), if_neg (by decide), if_neg (by decide), if_neg (by decide), if_pos (by decide)]
    have w : Go.IntKind.wrap .i64 ((5 : Int) + 1) = ((5 + 1 : Nat) : Int) := wrap_small _ (by omega) (by omega)
    rw [w]
    by_cases h : has b 5 = true
    · rw [if_pos (show (bits Go.BinOp.and .i64 b (32 : Int) != (0 : Int)) = true from h), if_pos h]
      simp only [veil_eq, SayBag.pure _ _ _ _ _ _ _ a.bag a.draws ha.bag]
      have hl := ha.bag.len
      rw [if_pos (by simp [lim]; omega)]
      simp only [sayT, Go.Say.say, List.map_map]
      rfl
    · rw [if_neg (show ¬ (bits Go.BinOp.and .i64 b (32 : Int) != (0 : Int)) = true from h), if_neg h]
  · rw [show ((6 : Nat) : Int) = 6 from rfl, if_pos (by decide), if_neg (by decide), if_neg (by decide), if_neg (by decide), if_neg (by decide), if_neg (by decide), if_neg (by decide), if_pos (by decide)]
    have w : Go.IntKind.wrap .i64 ((6 : Int) + 1) = ((6 + 1 : Nat) : Int) := wrap_small _ (by omega) (by omega)
    rw [w]
    by_cases h : has b 6 = true
    · rw [if_pos (show (bits Go.BinOp.and .i64 b (64 : Int) != (0 : Int)) = true from h), if_pos h]
      simp only [veil_eq, SayDraws.pure _ _ _ _ _ _ _ a.bag a.draws ha.draws hok.draws]
      have hl := ha.draws
      rw [if_pos (by simp [lim]; omega)]
      simp only [sayT, Go.Say.say, List.map_map]
      rfl
    · rw [if_neg (show ¬ (bits Go.BinOp.and .i64 b (64 : Int) != (0 : Int)) = true from h), if_neg h]
theorem text_loop (fuel : Nat) (a : Deed) (ha : Small a) (name : ByteArray) (b : Int) (hsp : has b 4 = true → Go.Say.spanOk a.lo a.hi = true) : ∀ (m j k : Nat) (ws : List ByteArray), j + m = 7 → m < k → ws.length ≤ 1 + 1000000 * j →
    say_Text.l8 fuel a.kind a.i a.k a.at' a.by' a.lo a.hi a.bag a.draws k (j : Int) name b ws = (if joinFits (ws ++ (partsB b j).flatMap (sayT a)) (⟨((32 :: ([] : List UInt8))).toArray⟩ : ByteArray) then some (joinB (ws ++ (partsB b j).flatMap (sayT a)) (⟨((32 :: ([] : List UInt8))).toArray⟩ : ByteArray), 0) else none) := by
  intro m
  induction m with
  | zero =>
    intro j k ws hj hk hw
    obtain rfl : j = 7 := by omega
    rw [say_Text.l8_at fuel k (k - 1) (by omega)]
    unfold say_Text.b8
    rw [if_neg (by decide), parts_end, List.flatMap_nil, List.append_nil]
  | succ m ih =>
    intro j k ws hj hk hw
    rw [say_Text.l8_at fuel k (k - 1) (by omega), text_step a ha _ j (by omega) name b ws (by omega) hsp, parts_step b j (by omega)]
    have hl := say_len a ha j
    by_cases h : has b j = true
    · rw [if_pos h, if_pos h, ih (j + 1) (k - 1) (ws ++ sayT a j) (by omega) (by omega) (by rw [List.length_append]; omega), List.flatMap_cons, List.append_assoc]
    · rw [if_neg h, if_neg h, ih (j + 1) (k - 1) ws (by omega) (by omega) (by omega)]
theorem span_bit (k : Nat) (h : k < 12) : has (bitsL.getD k 0) 4 = decide (k = 1) := by
  have key : ∀ k : Fin 12, has (bitsL.getD k 0) 4 = decide ((k : Nat) = 1) := by decide +kernel
  exact key ⟨k, h⟩
theorem joinB_words (ws : List Word) : joinB (ws.map bOf) (⟨((32 :: ([] : List UInt8))).toArray⟩ : ByteArray) = bOf (Go.Lib.join ws [32]) := by
  unfold joinB
  rw [List.map_map, show ((fun x : ByteArray => x.data.toList) ∘ bOf) = id from rfl, List.map_id]
  rfl
theorem joinFits_words (ws : List Word) (h0 : ws ≠ []) (hl : ws.length ≤ 100000000) (h : (Go.Lib.join ws [32]).length ≤ 100000000000) : joinFits (ws.map bOf) (⟨((32 :: ([] : List UInt8))).toArray⟩ : ByteArray) = true := by
  unfold joinFits
  rw [List.map_map, show ((fun x : ByteArray => x.data.toList) ∘ bOf) = id from rfl, List.map_id]
  have e : (List.map bOf ws).isEmpty = false := by cases ws with
    | nil => exact absurd rfl h0
    | cons _ _ => rfl
  rw [e, List.length_map]
  simp only [Bool.not_false, Bool.true_and, Bool.and_eq_true, decide_eq_true_eq]
  exact ⟨by omega, Nat.le_trans h (by omega)⟩
theorem Text.pure_ok (a : Deed) (ha : Small a) (k : Nat) (hk : a.kind = k) (h : 1 ≤ k ∧ k ≤ 11) (hs : k = 1 → Go.Say.spanOk a.lo a.hi = true) (hlen : (Go.Say.lineW k a).length ≤ 100000000000) (hwl : (Go.Say.words k a).length ≤ 100000000) :
    say_Text.f BIG a.kind a.i a.k a.at' a.by' a.lo a.hi a.bag a.draws = some (bOf (Go.Say.lineW k a), 0) := by
  unfold say_Text.f say_Text.b
  have ek : a.kind.toNat = k := by omega
  have eo : say_of.f BIG a.kind = some (bOf (names.getD k []), bitsL.getD k 0, true) := by rw [Of.pure, if_pos (by omega), ek]
  simp only [veil_eq, eo, Bool.not_true, Bool.false_eq_true, if_false]
  have hb := span_bit k (by omega)
  have main : say_Text.l8 BIG a.kind a.i a.k a.at' a.by' a.lo a.hi a.bag a.draws BIG 0 (bOf (names.getD k [])) (bitsL.getD k 0) (bOf (names.getD k []) :: []) = some (bOf (Go.Say.lineW k a), 0) := by
    have := text_loop BIG a ha (bOf (names.getD k [])) (bitsL.getD k 0) (fun h4 => hs (by rw [hb] at h4; exact of_decide_eq_true h4)) 7 0 BIG [bOf (names.getD k [])] (by omega) (by rw [BIG_eq]; omega) (by simp)
    rw [show ((0 : Nat) : Int) = 0 from rfl] at this
    rw [this, parts_kind k (by omega)]
    have ew : [bOf (names.getD k [])] ++ (partsOf.getD k []).flatMap (sayT a) = (Go.Say.words k a).map bOf := by
      unfold Go.Say.words sayT
      rw [List.map_cons, List.map_flatMap]
      rfl
    rw [ew, joinFits_words _ (by unfold Go.Say.words; simp) hwl hlen, if_pos rfl, joinB_words]
    rfl
  by_cases h4 : has (bitsL.getD k 0) 4 = true
  · rw [if_pos (show (bits Go.BinOp.and .i64 (bitsL.getD k 0) (16 : Int) != (0 : Int)) = true from h4), Valid.pure, hs (by rw [hb] at h4; exact of_decide_eq_true h4)]
    exact main
  · rw [if_neg (show ¬ (bits Go.BinOp.and .i64 (bitsL.getD k 0) (16 : Int) != (0 : Int)) = true from h4)]
    exact main
theorem spl_len (c : UInt8) : ∀ (l : List UInt8), (Go.Say.spl c l).length ≤ l.length + 1 ∧ ∀ w ∈ Go.Say.spl c l, w.length ≤ l.length
  | [] => by simp [Go.Say.spl]
  | x :: l => by
    obtain ⟨h1, h2⟩ := spl_len c l
    by_cases hx : x = c
    · rw [Go.Say.spl, if_pos hx]
      refine ⟨by simp; omega, fun w hw => ?_⟩
      rcases List.mem_cons.1 hw with rfl | hw
      · simp
      · have := h2 w hw; simp; omega
    · rw [Go.Say.spl, if_neg hx]
      cases hs : Go.Say.spl c l with
      | nil => exact absurd hs (Go.Say.spl_ne c l)
      | cons v r =>
        rw [hs] at h1 h2
        simp only
        refine ⟨by simp at h1 ⊢; omega, fun w hw => ?_⟩
        rcases List.mem_cons.1 hw with rfl | hw
        · have := h2 v List.mem_cons_self; simp; omega
        · have := h2 w (List.mem_cons_of_mem _ hw); simp; omega
theorem readAll_len {α : Type} (f : Word → Option α) : ∀ (ws : List Word) (l : List α), Go.Say.readAll f ws = some l → l.length = ws.length
  | [], l, h => by cases h; rfl
  | w :: ws, l, h => by
    rw [Go.Say.readAll] at h
    split at h
    · cases h
    · split at h
      · cases h
      · rename_i l' hl
        cases h
        have := readAll_len f ws l' hl
        simp [this]
abbrev Tup10 := Int × Int × Int × Int × Int × Int × Int × List (Int × List Int) × List Int × Int
def tup10 (a : Deed) (e : Int) : Tup10 := (a.kind, a.i, a.k, a.at', a.by', a.lo, a.hi, a.bag, a.draws, e)
abbrev Rows3 := List (ByteArray × Int) → Int → Option Tup10
abbrev Rest8 := (List ByteArray) → Bool → (List (ByteArray × Int)) → Int → Int → ByteArray → Int → Int → Int → Int → Int → Int → Int → Int → (List (Int × (List Int))) → (List Int) → Option Tup10
theorem parse_fail_step (line : ByteArray) (A3 : Rows3) (A8 : Rest8) (j : Nat) (hj : j < 7) (rest : List ByteArray) (rows : List (ByteArray × Int)) (kk : Int) (name : ByteArray) (b x12 x13 x14 x15 x16 x17 x18 : Int) (x19 : List (Int × List Int)) (x20 : List Int) :
    say_Parse.b8 line A3 A8 rest false rows kk (j : Int) name b x12 x13 x14 x15 x16 x17 x18 x19 x20 = A8 rest false rows kk ((j + 1 : Nat) : Int) name b x12 x13 x14 x15 x16 x17 x18 x19 x20 := by
  unfold say_Parse.b8
  have : j = 0 ∨ j = 1 ∨ j = 2 ∨ j = 3 ∨ j = 4 ∨ j = 5 ∨ j = 6 := by omega
  rcases this with rfl | rfl | rfl | rfl | rfl | rfl | rfl
  · rw [show ((0 : Nat) : Int) = 0 from rfl, if_pos (by decide), if_pos (by decide), if_neg (by decide)]
    rw [show Go.IntKind.wrap .i64 ((0 : Int) + 1) = ((0 + 1 : Nat) : Int) from wrap_small _ (by omega) (by omega)]
  · rw [show ((1 : Nat) : Int) = 1 from rfl, if_pos (by decide), if_neg (by decide), if_pos (by decide), if_neg (by decide)]
    rw [show Go.IntKind.wrap .i64 ((1 : Int) + 1) = ((1 + 1 : Nat) : Int) from wrap_small _ (by omega) (by omega)]
  · rw [show ((2 : Nat) : Int) = 2 from rfl, if_pos (by decide), if_neg (by decide), if_neg (by decide), if_pos (by decide), if_neg (by decide)]
    rw [show Go.IntKind.wrap .i64 ((2 : Int) + 1) = ((2 + 1 : Nat) : Int) from wrap_small _ (by omega) (by omega)]
  · rw [show ((3 : Nat) : Int) = 3 from rfl, if_pos (by decide), if_neg (by decide), if_neg (by decide), if_neg (by decide), if_pos (by decide), if_neg (by decide)]
    rw [show Go.IntKind.wrap .i64 ((3 : Int) + 1) = ((3 + 1 : Nat) : Int) from wrap_small _ (by omega) (by omega)]
  · rw [show ((4 : Nat) : Int) = 4 from rfl, if_pos (by decide), if_neg (by decide), if_neg (by decide), if_neg (by decide), if_neg (by decide), if_pos (by decide), if_neg (by decide)]
    rw [show Go.IntKind.wrap .i64 ((4 : Int) + 1) = ((4 + 1 : Nat) : Int) from wrap_small _ (by omega) (by omega)]
  · rw [show ((5 : Nat) : Int) = 5 from rfl, if_pos (by decide), if_neg (by decide), if_neg (by decide), if_neg (by decide), if_neg (by decide), if_neg (by decide), if_pos (by decide), if_neg (by decide)]
    rw [show Go.IntKind.wrap .i64 ((5 : Int) + 1) = ((5 + 1 : Nat) : Int) from wrap_small _ (by omega) (by omega)]
  · rw [show ((6 : Nat) : Int) = 6 from rfl, if_pos (by decide), if_neg (by decide), if_neg (by decide), if_neg (by decide), if_neg (by decide), if_neg (by decide), if_neg (by decide), if_pos (by decide), if_neg (by decide)]
    rw [show Go.IntKind.wrap .i64 ((6 : Int) + 1) = ((6 + 1 : Nat) : Int) from wrap_small _ (by omega) (by omega)]
theorem parse_fail (fuel : Nat) (line : ByteArray) (A3 : Rows3) : ∀ (m j k : Nat) (rest : List ByteArray) (rows : List (ByteArray × Int)) (kk : Int) (name : ByteArray) (b x12 x13 x14 x15 x16 x17 x18 : Int) (x19 : List (Int × List Int)) (x20 : List Int), j + m = 7 → m < k →
    say_Parse.l8 fuel line A3 k rest false rows kk (j : Int) name b x12 x13 x14 x15 x16 x17 x18 x19 x20 = A3 rows (Go.IntKind.wrap .i64 (kk + 1)) := by
  intro m
  induction m with
  | zero =>
    intro j k rest rows kk name b x12 x13 x14 x15 x16 x17 x18 x19 x20 hj hk
    obtain rfl : j = 7 := by omega
    rw [say_Parse.l8_at fuel k (k - 1) (by omega)]
    unfold say_Parse.b8
    rw [if_neg (by decide), if_neg (by decide)]
  | succ m ih =>
    intro j k rest rows kk name b x12 x13 x14 x15 x16 x17 x18 x19 x20 hj hk
    rw [say_Parse.l8_at fuel k (k - 1) (by omega), parse_fail_step line A3 _ j (by omega), ih (j + 1) (k - 1) _ _ _ _ _ _ _ _ _ _ _ _ _ _ (by omega) (by omega)]
structure Room (rest : List ByteArray) (a : Deed) : Prop where
  bag : a.bag.length + rest.length ≤ 1000000
  draws : a.draws.length + rest.length ≤ 1000000
  size : ∀ w ∈ rest, w.size ≤ 4000000000
theorem parse_skip (line : ByteArray) (A3 : Rows3) (A8 : Rest8) (j : Nat) (hj : j < 7) (rest : List ByteArray) (rows : List (ByteArray × Int)) (kk : Int) (name : ByteArray) (b x12 x13 x14 x15 x16 x17 x18 : Int) (x19 : List (Int × List Int)) (x20 : List Int) (h : ¬ has b j = true) :
    say_Parse.b8 line A3 A8 rest true rows kk (j : Int) name b x12 x13 x14 x15 x16 x17 x18 x19 x20 = A8 rest true rows kk ((j + 1 : Nat) : Int) name b x12 x13 x14 x15 x16 x17 x18 x19 x20 := by
  unfold say_Parse.b8
  have : j = 0 ∨ j = 1 ∨ j = 2 ∨ j = 3 ∨ j = 4 ∨ j = 5 ∨ j = 6 := by omega
  rcases this with rfl | rfl | rfl | rfl | rfl | rfl | rfl
  · rw [show ((0 : Nat) : Int) = 0 from rfl, if_pos (by decide), if_pos (by decide), if_pos rfl, if_neg (show ¬ (bits Go.BinOp.and .i64 b (1 : Int) != (0 : Int)) = true from h)]
    rw [show Go.IntKind.wrap .i64 ((0 : Int) + 1) = ((0 + 1 : Nat) : Int) from wrap_small _ (by omega) (by omega)]
  · rw [show ((1 : Nat) : Int) = 1 from rfl, if_pos (by decide), if_neg (by decide), if_pos (by decide), if_pos rfl, if_neg (show ¬ (bits Go.BinOp.and .i64 b (2 : Int) != (0 : Int)) = true from h)]
    rw [show Go.IntKind.wrap .i64 ((1 : Int) + 1) = ((1 + 1 : Nat) : Int) from wrap_small _ (by omega) (by omega)]
  · rw [show ((2 : Nat) : Int) = 2 from rfl, if_pos (by decide), if_neg (by decide), if_neg (by decide), if_pos (by decide), if_pos rfl, if_neg (show ¬ (bits Go.BinOp.and .i64 b (4 : Int) != (0 : Int)) = true from h)]
    rw [show Go.IntKind.wrap .i64 ((2 : Int) + 1) = ((2 + 1 : Nat) : Int) from wrap_small _ (by omega) (by omega)]
  · rw [show ((3 : Nat) : Int) = 3 from rfl, if_pos (by decide), if_neg (by decide), if_neg (by decide), if_neg (by decide), if_pos (by decide), if_pos rfl, if_neg (show ¬ (bits Go.BinOp.and .i64 b (8 : Int) != (0 : Int)) = true from h)]
    rw [show Go.IntKind.wrap .i64 ((3 : Int) + 1) = ((3 + 1 : Nat) : Int) from wrap_small _ (by omega) (by omega)]
  · rw [show ((4 : Nat) : Int) = 4 from rfl, if_pos (by decide), if_neg (by decide), if_neg (by decide), if_neg (by decide), if_neg (by decide), if_pos (by decide), if_pos rfl, if_neg (show ¬ (bits Go.BinOp.and .i64 b (16 : Int) != (0 : Int)) = true from h)]
    rw [show Go.IntKind.wrap .i64 ((4 : Int) + 1) = ((4 + 1 : Nat) : Int) from wrap_small _ (by omega) (by omega)]
  · rw [show ((5 : Nat) : Int) = 5 from rfl, if_pos (by decide), if_neg (by decide), if_neg (by decide), if_neg (by decide), if_neg (by decide), if_neg (by decide), if_pos (by decide), if_pos rfl, if_neg (show ¬ (bits Go.BinOp.and .i64 b (32 : Int) != (0 : Int)) = true from h)]
    rw [show Go.IntKind.wrap .i64 ((5 : Int) + 1) = ((5 + 1 : Nat) : Int) from wrap_small _ (by omega) (by omega)]
  · rw [show ((6 : Nat) : Int) = 6 from rfl, if_pos (by decide), if_neg (by decide), if_neg (by decide), if_neg (by decide), if_neg (by decide), if_neg (by decide), if_neg (by decide), if_pos (by decide), if_pos rfl, if_neg (show ¬ (bits Go.BinOp.and .i64 b (64 : Int) != (0 : Int)) = true from h)]
    rw [show Go.IntKind.wrap .i64 ((6 : Int) + 1) = ((6 + 1 : Nat) : Int) from wrap_small _ (by omega) (by omega)]
theorem parse_read (line : ByteArray) (A3 : Rows3) (A8 : Rest8) (j : Nat) (hj : j < 7) (rest : List ByteArray) (rows : List (ByteArray × Int)) (kk : Int) (name : ByteArray) (b : Int) (a : Deed) (hr : Room rest a) (h : has b j = true) :
    (∀ a' ws', Go.Say.read j a (rest.map tOf) = some (a', ws') → ∃ rest', rest'.map tOf = ws' ∧ Room rest' a' ∧ say_Parse.b8 line A3 A8 rest true rows kk (j : Int) name b a.kind a.i a.k a.at' a.by' a.lo a.hi a.bag a.draws = A8 rest' true rows kk ((j + 1 : Nat) : Int) name b a'.kind a'.i a'.k a'.at' a'.by' a'.lo a'.hi a'.bag a'.draws) ∧
    (Go.Say.read j a (rest.map tOf) = none → ∃ rest' x12 x13 x14 x15 x16 x17 x18 x19 x20, say_Parse.b8 line A3 A8 rest true rows kk (j : Int) name b a.kind a.i a.k a.at' a.by' a.lo a.hi a.bag a.draws = A8 rest' false rows kk ((j + 1 : Nat) : Int) name b x12 x13 x14 x15 x16 x17 x18 x19 x20) := by
  unfold say_Parse.b8
  have hb := hr.bag
  have hd := hr.draws
  have hs := hr.size
  have : j = 0 ∨ j = 1 ∨ j = 2 ∨ j = 3 ∨ j = 4 ∨ j = 5 ∨ j = 6 := by omega
  rcases this with rfl | rfl | rfl | rfl | rfl | rfl | rfl
  · rw [show ((0 : Nat) : Int) = 0 from rfl, if_pos (by decide), if_pos (by decide), if_pos rfl, if_pos (show (bits Go.BinOp.and .i64 b (1 : Int) != (0 : Int)) = true from h)]
    rw [show Go.IntKind.wrap .i64 ((0 : Int) + 1) = ((0 + 1 : Nat) : Int) from wrap_small _ (by omega) (by omega)]
    cases rest with
    | nil =>
      rw [if_pos (by decide)]
      exact ⟨fun a' ws' h => (by cases h), fun _ => ⟨_, _, _, _, _, _, _, _, _, _, rfl⟩⟩
    | cons w r =>
      have hw := hs w List.mem_cons_self
      rw [if_neg (by simp; omega), show idx (w :: r) (0 : Int) = some w from rfl]
      simp only [veil_eq]
      rw [if_pos (by omega), if_pos ⟨by omega, by simp; omega⟩]
      have et : List.drop (Int.toNat (1 : Int)) (List.take (List.length (w :: r)) (w :: r)) = r := by rw [List.take_length]; rfl
      rw [et]
      have er : Go.Say.read 0 a ((w :: r).map tOf) = (Go.Say.parseN (tOf w)).map fun v => ({ a with i := v }, r.map tOf) := rfl
      rw [er]
      cases hp : Go.Say.parseN (tOf w) with
      | none =>
        rw [parseB_none hp]
        exact ⟨fun a' ws' h => (by cases h), fun _ => ⟨_, _, _, _, _, _, _, _, _, _, rfl⟩⟩
      | some v =>
        rw [parseB_some hp]
        refine ⟨fun a' ws' h => ?_, fun h => (by cases h)⟩
        cases h
        exact ⟨r, rfl, ⟨by simp at hb ⊢; omega, by simp at hd ⊢; omega, fun x hx => hs x (List.mem_cons_of_mem _ hx)⟩, rfl⟩
  · rw [show ((1 : Nat) : Int) = 1 from rfl, if_pos (by decide), if_neg (by decide), if_pos (by decide), if_pos rfl, if_pos (show (bits Go.BinOp.and .i64 b (2 : Int) != (0 : Int)) = true from h)]
    rw [show Go.IntKind.wrap .i64 ((1 : Int) + 1) = ((1 + 1 : Nat) : Int) from wrap_small _ (by omega) (by omega)]
    cases rest with
    | nil =>
      rw [if_pos (by decide)]
      exact ⟨fun a' ws' h => (by cases h), fun _ => ⟨_, _, _, _, _, _, _, _, _, _, rfl⟩⟩
    | cons w r =>
      have hw := hs w List.mem_cons_self
      rw [if_neg (by simp; omega), show idx (w :: r) (0 : Int) = some w from rfl]
      simp only [veil_eq]
      rw [if_pos (by omega), if_pos ⟨by omega, by simp; omega⟩]
      have et : List.drop (Int.toNat (1 : Int)) (List.take (List.length (w :: r)) (w :: r)) = r := by rw [List.take_length]; rfl
      rw [et]
      have er : Go.Say.read 1 a ((w :: r).map tOf) = (Go.Say.parseN (tOf w)).map fun v => ({ a with k := v }, r.map tOf) := rfl
      rw [er]
      cases hp : Go.Say.parseN (tOf w) with
      | none =>
        rw [parseB_none hp]
        exact ⟨fun a' ws' h => (by cases h), fun _ => ⟨_, _, _, _, _, _, _, _, _, _, rfl⟩⟩
      | some v =>
        rw [parseB_some hp]
        refine ⟨fun a' ws' h => ?_, fun h => (by cases h)⟩
        cases h
        exact ⟨r, rfl, ⟨by simp at hb ⊢; omega, by simp at hd ⊢; omega, fun x hx => hs x (List.mem_cons_of_mem _ hx)⟩, rfl⟩
  · rw [show ((2 : Nat) : Int) = 2 from rfl, if_pos (by decide), if_neg (by decide), if_neg (by decide), if_pos (by decide), if_pos rfl, if_pos (show (bits Go.BinOp.and .i64 b (4 : Int) != (0 : Int)) = true from h)]
    rw [show Go.IntKind.wrap .i64 ((2 : Int) + 1) = ((2 + 1 : Nat) : Int) from wrap_small _ (by omega) (by omega)]
    cases rest with
    | nil =>
      rw [if_pos (by decide)]
      exact ⟨fun a' ws' h => (by cases h), fun _ => ⟨_, _, _, _, _, _, _, _, _, _, rfl⟩⟩
    | cons w r =>
      have hw := hs w List.mem_cons_self
      rw [if_neg (by simp; omega), show idx (w :: r) (0 : Int) = some w from rfl]
      simp only [veil_eq]
      rw [if_pos (by omega), if_pos ⟨by omega, by simp; omega⟩]
      have et : List.drop (Int.toNat (1 : Int)) (List.take (List.length (w :: r)) (w :: r)) = r := by rw [List.take_length]; rfl
      rw [et]
      have er : Go.Say.read 2 a ((w :: r).map tOf) = (Go.Say.parseN (tOf w)).map fun v => ({ a with at' := v }, r.map tOf) := rfl
      rw [er]
      cases hp : Go.Say.parseN (tOf w) with
      | none =>
        rw [parseB_none hp]
        exact ⟨fun a' ws' h => (by cases h), fun _ => ⟨_, _, _, _, _, _, _, _, _, _, rfl⟩⟩
      | some v =>
        rw [parseB_some hp]
        refine ⟨fun a' ws' h => ?_, fun h => (by cases h)⟩
        cases h
        exact ⟨r, rfl, ⟨by simp at hb ⊢; omega, by simp at hd ⊢; omega, fun x hx => hs x (List.mem_cons_of_mem _ hx)⟩, rfl⟩
  · rw [show ((3 : Nat) : Int) = 3 from rfl, if_pos (by decide), if_neg (by decide), if_neg (by decide), if_neg (by decide), if_pos (by decide), if_pos rfl, if_pos (show (bits Go.BinOp.and .i64 b (8 : Int) != (0 : Int)) = true from h)]
    rw [show Go.IntKind.wrap .i64 ((3 : Int) + 1) = ((3 + 1 : Nat) : Int) from wrap_small _ (by omega) (by omega)]
    cases rest with
    | nil =>
      rw [if_pos (by decide)]
      exact ⟨fun a' ws' h => (by cases h), fun _ => ⟨_, _, _, _, _, _, _, _, _, _, rfl⟩⟩
    | cons w r =>
      have hw := hs w List.mem_cons_self
      rw [if_neg (by simp; omega), show idx (w :: r) (0 : Int) = some w from rfl]
      simp only [veil_eq]
      rw [if_pos (by omega), if_pos ⟨by omega, by simp; omega⟩]
      have et : List.drop (Int.toNat (1 : Int)) (List.take (List.length (w :: r)) (w :: r)) = r := by rw [List.take_length]; rfl
      rw [et]
      have er : Go.Say.read 3 a ((w :: r).map tOf) = (Go.Say.parseN (tOf w)).map fun v => ({ a with by' := v }, r.map tOf) := rfl
      rw [er]
      cases hp : Go.Say.parseN (tOf w) with
      | none =>
        rw [parseB_none hp]
        exact ⟨fun a' ws' h => (by cases h), fun _ => ⟨_, _, _, _, _, _, _, _, _, _, rfl⟩⟩
      | some v =>
        rw [parseB_some hp]
        refine ⟨fun a' ws' h => ?_, fun h => (by cases h)⟩
        cases h
        exact ⟨r, rfl, ⟨by simp at hb ⊢; omega, by simp at hd ⊢; omega, fun x hx => hs x (List.mem_cons_of_mem _ hx)⟩, rfl⟩
  · rw [show ((4 : Nat) : Int) = 4 from rfl, if_pos (by decide), if_neg (by decide), if_neg (by decide), if_neg (by decide), if_neg (by decide), if_pos (by decide), if_pos rfl, if_pos (show (bits Go.BinOp.and .i64 b (16 : Int) != (0 : Int)) = true from h)]
    rw [show Go.IntKind.wrap .i64 ((4 : Int) + 1) = ((4 + 1 : Nat) : Int) from wrap_small _ (by omega) (by omega)]
    cases rest with
    | nil =>
      rw [if_pos (by decide)]
      exact ⟨fun a' ws' h => (by cases h), fun _ => ⟨_, _, _, _, _, _, _, _, _, _, rfl⟩⟩
    | cons w r =>
      have hw := hs w List.mem_cons_self
      rw [if_neg (by simp; omega), show idx (w :: r) (0 : Int) = some w from rfl]
      simp only [veil_eq]
      rw [SpanParse.pure]
      simp only
      rw [if_pos ⟨by omega, by simp; omega⟩]
      have et : List.drop (Int.toNat (1 : Int)) (List.take (List.length (w :: r)) (w :: r)) = r := by rw [List.take_length]; rfl
      rw [et]
      have er : Go.Say.read 4 a ((w :: r).map tOf) = (Go.Say.spanR (tOf w)).map fun s => ({ a with lo := s.1, hi := s.2 }, r.map tOf) := rfl
      rw [er]
      cases hp : Go.Say.spanR (tOf w) with
      | none => exact ⟨fun a' ws' h => (by cases h), fun _ => ⟨_, _, _, _, _, _, _, _, _, _, rfl⟩⟩
      | some v =>
        refine ⟨fun a' ws' h => ?_, fun h => (by cases h)⟩
        cases h
        exact ⟨r, rfl, ⟨by simp at hb ⊢; omega, by simp at hd ⊢; omega, fun x hx => hs x (List.mem_cons_of_mem _ hx)⟩, rfl⟩
  · rw [show ((5 : Nat) : Int) = 5 from rfl, if_pos (by decide), if_neg (by decide), if_neg (by decide), if_neg (by decide), if_neg (by decide), if_neg (by decide), if_pos (by decide), if_pos rfl, if_pos (show (bits Go.BinOp.and .i64 b (32 : Int) != (0 : Int)) = true from h)]
    rw [show Go.IntKind.wrap .i64 ((5 : Int) + 1) = ((5 + 1 : Nat) : Int) from wrap_small _ (by omega) (by omega)]
    obtain ⟨p1, p2⟩ := ReadBag.pure a.kind a.i a.k a.at' a.by' a.lo a.hi a.bag a.draws rest (by omega) (by omega) hs
    have er : Go.Say.read 5 a (rest.map tOf) = (Go.Say.readAll Go.Say.readW (rest.map tOf)).map fun l => ({ a with bag := a.bag ++ l }, []) := rfl
    rw [er]
    simp only [veil_eq]
    cases hp : Go.Say.readAll Go.Say.readW (rest.map tOf) with
    | none =>
      obtain ⟨x, hx⟩ := p2 hp
      rw [hx]
      exact ⟨fun a' ws' h => (by cases h), fun _ => ⟨_, _, _, _, _, _, _, _, _, _, rfl⟩⟩
    | some l =>
      have hlen := readAll_len _ _ _ hp
      rw [List.length_map] at hlen
      rw [p1 l hp]
      refine ⟨fun a' ws' h => ?_, fun h => (by cases h)⟩
      cases h
      exact ⟨[], rfl, ⟨by simp; omega, by simp; omega, by simp⟩, rfl⟩
  · rw [show ((6 : Nat) : Int) = 6 from rfl, if_pos (by decide), if_neg (by decide), if_neg (by decide), if_neg (by decide), if_neg (by decide), if_neg (by decide), if_neg (by decide), if_pos (by decide), if_pos rfl, if_pos (show (bits Go.BinOp.and .i64 b (64 : Int) != (0 : Int)) = true from h)]
    rw [show Go.IntKind.wrap .i64 ((6 : Int) + 1) = ((6 + 1 : Nat) : Int) from wrap_small _ (by omega) (by omega)]
    obtain ⟨p1, p2⟩ := ReadDraws.pure a.kind a.i a.k a.at' a.by' a.lo a.hi a.bag a.draws rest (by omega) (by omega) (fun w hw => by have := hs w hw; omega)
    have er : Go.Say.read 6 a (rest.map tOf) = (Go.Say.readAll Go.Say.parseN (rest.map tOf)).map fun l => ({ a with draws := a.draws ++ l }, []) := rfl
    rw [er]
    simp only [veil_eq]
    cases hp : Go.Say.readAll Go.Say.parseN (rest.map tOf) with
    | none =>
      obtain ⟨x, hx⟩ := p2 hp
      rw [hx]
      exact ⟨fun a' ws' h => (by cases h), fun _ => ⟨_, _, _, _, _, _, _, _, _, _, rfl⟩⟩
    | some l =>
      have hlen := readAll_len _ _ _ hp
      rw [List.length_map] at hlen
      rw [p1 l hp]
      refine ⟨fun a' ws' h => ?_, fun h => (by cases h)⟩
      cases h
      exact ⟨[], rfl, ⟨by simp; omega, by simp; omega, by simp⟩, rfl⟩
theorem parse_loop (fuel : Nat) (line : ByteArray) (A3 : Rows3) (rows : List (ByteArray × Int)) (kk : Int) (name : ByteArray) (b : Int) : ∀ (m j k : Nat) (rest : List ByteArray) (a : Deed), j + m = 7 → m < k → Room rest a →
    say_Parse.l8 fuel line A3 k rest true rows kk (j : Int) name b a.kind a.i a.k a.at' a.by' a.lo a.hi a.bag a.draws = match Go.Say.fin (Go.Say.reads (partsB b j) a (rest.map tOf)) with
      | some a' => some (tup10 a' 0)
      | none => A3 rows (Go.IntKind.wrap .i64 (kk + 1)) := by
  intro m
  induction m with
  | zero =>
    intro j k rest a hj hk hr
    obtain rfl : j = 7 := by omega
    rw [say_Parse.l8_at fuel k (k - 1) (by omega)]
    unfold say_Parse.b8
    rw [if_neg (by decide), if_pos rfl, parts_end, Go.Say.reads]
    cases rest with
    | nil => rfl
    | cons w r =>
      rw [if_neg (by simp; omega)]
      rfl
  | succ m ih =>
    intro j k rest a hj hk hr
    rw [say_Parse.l8_at fuel k (k - 1) (by omega), parts_step b j (by omega)]
    by_cases h : has b j = true
    · rw [if_pos h]
      obtain ⟨p1, p2⟩ := parse_read line A3 (say_Parse.l8 fuel line A3 (k - 1)) j (by omega) rest rows kk name b a hr h
      rw [Go.Say.reads]
      cases hrd : Go.Say.read j a (rest.map tOf) with
      | none =>
        obtain ⟨rest', x12, x13, x14, x15, x16, x17, x18, x19, x20, e⟩ := p2 hrd
        rw [e, parse_fail fuel line A3 m (j + 1) (k - 1) _ _ _ _ _ _ _ _ _ _ _ _ _ _ (by omega) (by omega)]
        rfl
      | some p =>
        obtain ⟨a', ws'⟩ := p
        obtain ⟨rest', e1, e2, e3⟩ := p1 a' ws' hrd
        rw [e3, ih (j + 1) (k - 1) rest' a' (by omega) (by omega) e2, e1]
    · rw [if_neg h, parse_skip line A3 _ j (by omega) rest rows kk name b _ _ _ _ _ _ _ _ _ h, ih (j + 1) (k - 1) rest a (by omega) (by omega) hr]
def tryK (h : Word) (t : List Word) : List Nat → Option Deed
  | [] => none
  | k :: ks => if names.getD k [] = h then (match Go.Say.parseK k t with | some a => some a | none => tryK h t ks) else tryK h t ks
theorem tryK_none (h : Word) (t : List Word) : ∀ ks : List Nat, (∀ k ∈ ks, names.getD k [] ≠ h) → tryK h t ks = none
  | [], _ => rfl
  | k :: ks, hk => by rw [tryK, if_neg (hk k List.mem_cons_self)]; exact tryK_none h t ks fun x hx => hk x (List.mem_cons_of_mem _ hx)
theorem tryK_one (h : Word) (t : List Word) (k : Nat) (hk : names.getD k [] = h) : ∀ l m : List Nat, (∀ j ∈ l, names.getD j [] ≠ h) → (∀ j ∈ m, names.getD j [] ≠ h) → tryK h t (l ++ k :: m) = Go.Say.parseK k t
  | [], m, _, hm => by
    rw [List.nil_append, tryK, if_pos hk]
    cases Go.Say.parseK k t with
    | none => exact tryK_none h t m hm
    | some a => rfl
  | j :: l, m, hl, hm => by
    rw [List.cons_append, tryK, if_neg (hl j List.mem_cons_self)]
    exact tryK_one h t k hk l m (fun x hx => hl x (List.mem_cons_of_mem _ hx)) hm
theorem tryK_all (h : Word) (t : List Word) : tryK h t ((List.range 12).drop 1) = Go.Say.parseW (h :: t) := by
  rw [Go.Say.parseW]
  cases hk : Go.Say.kindOf h with
  | none =>
    refine tryK_none h t _ fun k hm e => ?_
    unfold Go.Say.kindOf at hk
    have h1 := List.find?_eq_none.1 hk k (List.mem_of_mem_drop hm)
    have h0 : k ≠ 0 := by
      intro e0
      subst e0
      revert hm
      decide
    apply h1
    rw [e]
    simp [h0]
  | some k =>
    obtain ⟨⟨h1, h2⟩, rfl⟩ := Go.Say.name_kind hk
    have : k = 1 ∨ k = 2 ∨ k = 3 ∨ k = 4 ∨ k = 5 ∨ k = 6 ∨ k = 7 ∨ k = 8 ∨ k = 9 ∨ k = 10 ∨ k = 11 := by omega
    rcases this with rfl | rfl | rfl | rfl | rfl | rfl | rfl | rfl | rfl | rfl | rfl
    · exact tryK_one _ t 1 rfl [] [2, 3, 4, 5, 6, 7, 8, 9, 10, 11] (by decide) (by decide)
    · exact tryK_one _ t 2 rfl [1] [3, 4, 5, 6, 7, 8, 9, 10, 11] (by decide) (by decide)
    · exact tryK_one _ t 3 rfl [1, 2] [4, 5, 6, 7, 8, 9, 10, 11] (by decide) (by decide)
    · exact tryK_one _ t 4 rfl [1, 2, 3] [5, 6, 7, 8, 9, 10, 11] (by decide) (by decide)
    · exact tryK_one _ t 5 rfl [1, 2, 3, 4] [6, 7, 8, 9, 10, 11] (by decide) (by decide)
    · exact tryK_one _ t 6 rfl [1, 2, 3, 4, 5] [7, 8, 9, 10, 11] (by decide) (by decide)
    · exact tryK_one _ t 7 rfl [1, 2, 3, 4, 5, 6] [8, 9, 10, 11] (by decide) (by decide)
    · exact tryK_one _ t 8 rfl [1, 2, 3, 4, 5, 6, 7] [9, 10, 11] (by decide) (by decide)
    · exact tryK_one _ t 9 rfl [1, 2, 3, 4, 5, 6, 7, 8] [10, 11] (by decide) (by decide)
    · exact tryK_one _ t 10 rfl [1, 2, 3, 4, 5, 6, 7, 8, 9] [11] (by decide) (by decide)
    · exact tryK_one _ t 11 rfl [1, 2, 3, 4, 5, 6, 7, 8, 9, 10] [] (by decide) (by decide)
theorem split_words (line : ByteArray) : (splitL line (⟨((32 :: ([] : List UInt8))).toArray⟩ : ByteArray)).map tOf = Go.Say.spl 32 (tOf line) := Go.Say.split_eq line _ 32 rfl
theorem rows_loop (fuel : Nat) (hf : 100 ≤ fuel) (line : ByteArray) (hl : line.size ≤ 900000) (w0 : ByteArray) (r0 : List ByteArray) (hw : splitL line (⟨((32 :: ([] : List UInt8))).toArray⟩ : ByteArray) = w0 :: r0) : ∀ (m kk k : Nat), kk + m = 12 → 1 ≤ kk → m < k →
    say_Parse.l3 fuel line k rowsT (kk : Int) = some (match tryK (tOf w0) (r0.map tOf) ((List.range 12).drop kk) with
      | some a => tup10 a 0
      | none => tup10 (zero 0) 16) := by
  have hsz : (tOf line).length = line.size := by simp [tOf]
  have hsp := split_words line
  rw [hw] at hsp
  obtain ⟨hl1, hl2⟩ := spl_len 32 (tOf line)
  rw [← hsp] at hl1 hl2
  have hroom : ∀ kk : Nat, Room r0 (zero kk) := fun kk => ⟨by simp [zero] at hl1 ⊢; omega, by simp [zero] at hl1 ⊢; omega, fun w hm => by
    have := hl2 (tOf w) (List.mem_map_of_mem (List.mem_cons_of_mem _ hm))
    have e : (tOf w).length = w.size := by simp [tOf]
    omega⟩
  intro m
  induction m with
  | zero =>
    intro kk k hk h1 hm
    obtain rfl : kk = 12 := by omega
    rw [say_Parse.l3_at fuel k (k - 1) (by omega)]
    unfold say_Parse.b3
    rw [if_neg (by decide), show (List.range 12).drop 12 = [] from rfl, tryK]
    rfl
  | succ m ih =>
    intro kk k hk h1 hm
    rw [say_Parse.l3_at fuel k (k - 1) (by omega)]
    unfold say_Parse.b3
    rw [if_pos (by rw [decide_eq_true_eq]; omega), rows_at kk (by omega)]
    have ed : (List.range 12).drop kk = kk :: (List.range 12).drop (kk + 1) := by
      rw [List.drop_eq_getElem_cons (by simp; omega)]
      simp
    simp only
    rw [if_neg (by simp; omega), hw, show idx (w0 :: r0) (0 : Int) = some w0 from rfl]
    simp only
    rw [toList_data, toList_data, ed, tryK]
    have wk : Go.IntKind.wrap .i64 ((kk : Int) + 1) = ((kk + 1 : Nat) : Int) := wrap_small _ (by omega) (by omega)
    by_cases hn : names.getD kk [] = tOf w0
    · rw [if_neg (by rw [show (bOf (names.getD kk [])).data.toList = names.getD kk [] from rfl, hn]; simp [tOf]), if_pos ⟨by omega, by simp; omega⟩, if_pos hn]
      have et : List.drop (Int.toNat (1 : Int)) (List.take (List.length (w0 :: r0)) (w0 :: r0)) = r0 := by rw [List.take_length]; rfl
      rw [et]
      have := parse_loop fuel line (say_Parse.l3 fuel line (k - 1)) rowsT kk (bOf (names.getD kk [])) (bitsL.getD kk 0) 7 0 fuel r0 (zero kk) (by omega) (by omega) (hroom kk)
      rw [show ((0 : Nat) : Int) = 0 from rfl] at this
      rw [show say_Parse.l8 fuel line (say_Parse.l3 fuel line (k - 1)) fuel r0 true rowsT (kk : Int) 0 (bOf (names.getD kk [])) (bitsL.getD kk 0) (kk : Int) 0 0 0 0 0 0 [] [] = _ from this, parts_kind kk (by omega), wk, ih (kk + 1) (k - 1) (by omega) (by omega) (by omega)]
      show _ = some (match (match Go.Say.fin (Go.Say.reads (partsOf.getD kk []) (zero kk) (r0.map tOf)) with | some a => some a | none => _) with | some a => tup10 a 0 | none => tup10 (zero 0) 16)
      cases Go.Say.fin (Go.Say.reads (partsOf.getD kk []) (zero kk) (r0.map tOf)) with
      | none => rfl
      | some a => rfl
    · rw [if_pos (by rw [show (bOf (names.getD kk [])).data.toList = names.getD kk [] from rfl]; simpa [tOf] using hn), if_neg hn, wk, ih (kk + 1) (k - 1) (by omega) (by omega) (by omega)]
theorem Parse.pure (line : ByteArray) (hl : line.size ≤ 900000) : say_Parse.f BIG line = some (match Go.Say.parseL (tOf line) with
    | some a => tup10 a 0
    | none => tup10 (zero 0) 16) := by
  unfold say_Parse.f say_Parse.b
  rw [if_pos ⟨by omega, by decide⟩]
  simp only [veil_eq, Rows.pure]
  have hsp := split_words line
  cases hw : splitL line (⟨((32 :: ([] : List UInt8))).toArray⟩ : ByteArray) with
  | nil =>
    rw [hw] at hsp
    exact absurd hsp.symm (Go.Say.spl_ne 32 _)
  | cons w0 r0 =>
    have := rows_loop BIG (by rw [BIG_eq]; omega) line hl w0 r0 hw 11 1 (BIG - 1) (by omega) (by omega) (by rw [BIG_eq]; omega)
    rw [say_Parse.l3_at BIG BIG (BIG - 1) (by rw [BIG_eq])]
    unfold say_Parse.b3
    rw [if_pos (by decide), show idx rowsT (0 : Int) = some (bOf (names.getD 0 []), bitsL.getD 0 0) from rows_at 0 (by omega)]
    simp only
    rw [if_pos (by decide), show Go.IntKind.wrap .i64 ((0 : Int) + 1) = ((1 : Nat) : Int) from wrap_small _ (by omega) (by omega), this, tryK_all]
    unfold Go.Say.parseL
    rw [← hsp, hw]
    rfl
theorem Nan.pure (x : Int) : cmp_isNaN_byte.f BIG x = some false := by unfold cmp_isNaN_byte.f cmp_isNaN_byte.b; simp
theorem Cmp8.pure (x y : Int) : cmp_Compare_byte.f BIG x y = some (if x < y then -1 else if x > y then 1 else 0) := by
  unfold cmp_Compare_byte.f cmp_Compare_byte.b
  simp only [veil_eq, Nan.pure, Bool.false_eq_true, if_false, decide_eq_true_eq]
  split
  · rfl
  · split <;> rfl
theorem scmp_loop (fuel : Nat) (a b : List Int) (ha : a.length < 4611686018427387904) (hb : b.length < 4611686018427387904) : ∀ (n i k : Nat), i + n = a.length → n < k → i ≤ b.length →
    ∃ c, slices_Compare_byte_byte.l2 fuel a b k (a.length : Int) (i : Int) = some c ∧ (c = 0 ↔ a.drop i = b.drop i) := by
  intro n
  induction n with
  | zero =>
    intro i k hi hk hib
    obtain ⟨k, rfl⟩ : ∃ k', k = k' + 1 := ⟨k - 1, by omega⟩
    rw [slices_Compare_byte_byte.l2]
    unfold slices_Compare_byte_byte.b2
    rw [if_neg (by rw [decide_eq_true_eq]; omega)]
    have e1 : a.drop i = [] := List.drop_of_length_le (by omega)
    by_cases h : a.length < b.length
    · rw [if_pos (by rw [decide_eq_true_eq]; omega)]
      refine ⟨_, rfl, ⟨fun h => by omega, fun h2 => ?_⟩⟩
      rw [e1] at h2
      have := congrArg List.length h2
      simp at this
      omega
    · rw [if_neg (by rw [decide_eq_true_eq]; omega)]
      refine ⟨_, rfl, ⟨fun _ => ?_, fun _ => rfl⟩⟩
      rw [e1, List.drop_of_length_le (by omega)]
  | succ n ih =>
    intro i k hi hk hib
    obtain ⟨k, rfl⟩ : ∃ k', k = k' + 1 := ⟨k - 1, by omega⟩
    rw [slices_Compare_byte_byte.l2]
    unfold slices_Compare_byte_byte.b2
    have hia : i < a.length := by omega
    rw [if_pos (by rw [decide_eq_true_eq]; omega), idx_at, List.getElem?_eq_getElem hia]
    simp only [veil_eq]
    by_cases h : i = b.length
    · rw [if_pos (by rw [decide_eq_true_eq]; omega)]
      refine ⟨_, rfl, ⟨fun h => by omega, fun h2 => ?_⟩⟩
      rw [show b.drop i = [] from List.drop_of_length_le (by omega)] at h2
      have := congrArg List.length h2
      simp at this
      omega
    · have hib' : i < b.length := by omega
      rw [if_neg (by rw [decide_eq_true_eq]; omega), idx_at, List.getElem?_eq_getElem hib']
      simp only [Cmp8.pure]
      rw [List.drop_eq_getElem_cons hia, List.drop_eq_getElem_cons hib']
      by_cases hlt : a[i] < b[i]
      · rw [if_pos hlt]
        refine ⟨-1, by simp, ⟨fun h => by omega, fun h2 => ?_⟩⟩
        have := (List.cons.inj h2).1
        omega
      · rw [if_neg hlt]
        by_cases hgt : a[i] > b[i]
        · rw [if_pos hgt]
          refine ⟨1, by simp, ⟨fun h => by omega, fun h2 => ?_⟩⟩
          have := (List.cons.inj h2).1
          omega
        · rw [if_neg hgt]
          obtain ⟨c, h1, h2⟩ := ih (i + 1) k (by omega) (by omega) (by omega)
          refine ⟨c, ?_, ?_⟩
          · rw [if_neg (by simp), wrap_small _ (by omega) (by omega)]
            exact h1
          · rw [h2]
            have : a[i] = b[i] := by omega
            rw [this]
            exact ⟨fun h => by rw [h], fun h => (List.cons.inj h).2⟩
theorem SCmp.pure (a b : List Int) (ha : a.length < 1000000000000) (hb : b.length < 1000000000000) : ∃ c, slices_Compare_byte_byte.f BIG a b = some c ∧ (c = 0 ↔ a = b) := by
  have := scmp_loop BIG a b (by omega) (by omega) a.length 0 BIG (by omega) (by rw [BIG_eq]; omega) (by omega)
  exact this
theorem Sign.pure (f g : Int × List Int) (ha : f.2.length < 1000000000000) (hb : g.2.length < 1000000000000) : ∃ c, bag_sign.f BIG f.1 f.2 g.1 g.2 = some c ∧ (c = 0 ↔ f = g) := by
  obtain ⟨t, d⟩ := f
  obtain ⟨u, e⟩ := g
  unfold bag_sign.f bag_sign.b
  by_cases h : t = u
  · subst h
    obtain ⟨c, h1, h2⟩ := SCmp.pure d e ha hb
    rw [if_neg (by simp)]
    simp only [veil_eq, h1]
    exact ⟨c, rfl, by rw [h2]; simp⟩
  · rw [if_pos (by simpa using h)]
    by_cases hlt : t < u
    · rw [if_pos (by simpa using hlt)]
      exact ⟨_, rfl, ⟨fun h => by omega, fun h2 => absurd (congrArg Prod.fst h2) h⟩⟩
    · rw [if_neg (by simpa using hlt)]
      exact ⟨_, rfl, ⟨fun h => by omega, fun h2 => absurd (congrArg Prod.fst h2) h⟩⟩
theorem bcmp_loop (fuel : Nat) (a b : List (Int × List Int)) (ha : a.length < 1000000000000) (hb : b.length < 1000000000000) (ha2 : ∀ f ∈ a, f.2.length < 1000000000000) (hb2 : ∀ f ∈ b, f.2.length < 1000000000000) : ∀ (n i k : Nat), i + n = a.length → n < k → i ≤ b.length →
    ∃ c, bag_Compare.l2 fuel a b k (i : Int) = some c ∧ (c = 0 ↔ a.drop i = b.drop i) := by
  have hend : ∀ i : Nat, i ≤ a.length → i ≤ b.length → (i = a.length ∨ i = b.length) → ∃ c, (if (decide (((((List.length a)) : Nat) : Int) < ((((List.length b)) : Nat) : Int))) then some (-(1 : Int)) else (if (decide (((((List.length a)) : Nat) : Int) > ((((List.length b)) : Nat) : Int))) then some (1 : Int) else some (0 : Int))) = some c ∧ (c = 0 ↔ a.drop i = b.drop i) := by
    intro i hia hib h
    have hl : a.drop i = b.drop i ↔ a.length = b.length := by
      constructor
      · intro h2
        have := congrArg List.length h2
        simp at this
        omega
      · intro h2
        rw [List.drop_of_length_le (by omega), List.drop_of_length_le (by omega)]
    by_cases h1 : a.length < b.length
    · rw [if_pos (by rw [decide_eq_true_eq]; omega)]
      exact ⟨_, rfl, by rw [hl]; omega⟩
    · rw [if_neg (by rw [decide_eq_true_eq]; omega)]
      by_cases h2 : a.length > b.length
      · rw [if_pos (by rw [decide_eq_true_eq]; omega)]
        exact ⟨_, rfl, by rw [hl]; omega⟩
      · rw [if_neg (by rw [decide_eq_true_eq]; omega)]
        exact ⟨_, rfl, by rw [hl]; omega⟩
  intro n
  induction n with
  | zero =>
    intro i k hi hk hib
    obtain ⟨k, rfl⟩ : ∃ k', k = k' + 1 := ⟨k - 1, by omega⟩
    rw [bag_Compare.l2]
    unfold bag_Compare.b2
    rw [if_neg (by rw [decide_eq_true_eq]; omega)]
    exact hend i (by omega) hib (.inl (by omega))
  | succ n ih =>
    intro i k hi hk hib
    obtain ⟨k, rfl⟩ : ∃ k', k = k' + 1 := ⟨k - 1, by omega⟩
    rw [bag_Compare.l2]
    unfold bag_Compare.b2
    have hia : i < a.length := by omega
    rw [if_pos (by rw [decide_eq_true_eq]; omega)]
    by_cases h : i = b.length
    · rw [if_neg (by rw [decide_eq_true_eq]; omega)]
      exact hend i (by omega) hib (.inr h)
    · have hib' : i < b.length := by omega
      rw [if_pos (by rw [decide_eq_true_eq]; omega), idx_at, idx_at, List.getElem?_eq_getElem hia, List.getElem?_eq_getElem hib']
      simp only [veil_eq]
      obtain ⟨c, h1, h2⟩ := Sign.pure a[i] b[i] (ha2 _ (List.getElem_mem hia)) (hb2 _ (List.getElem_mem hib'))
      rw [h1, List.drop_eq_getElem_cons hia, List.drop_eq_getElem_cons hib']
      simp only
      by_cases hc : c = 0
      · rw [if_neg (by simp [hc])]
        obtain ⟨c', h3, h4⟩ := ih (i + 1) k (by omega) (by omega) (by omega)
        refine ⟨c', ?_, ?_⟩
        · rw [wrap_small _ (by omega) (by omega)]
          exact h3
        · rw [h4, h2.1 hc]
          exact ⟨fun h => by rw [h], fun h => (List.cons.inj h).2⟩
      · rw [if_pos (by simpa using hc)]
        refine ⟨c, rfl, ⟨fun h => absurd h hc, fun h3 => ?_⟩⟩
        exact h2.2 (List.cons.inj h3).1
def smallBag (b : List (Int × List Int)) : Prop := b.length < 1000000000000 ∧ ∀ f ∈ b, f.2.length < 1000000000000
theorem BCmp.pure (a b : List (Int × List Int)) (ha : smallBag a) (hb : smallBag b) : ∃ c, bag_Compare.f BIG a b = some c ∧ (c = 0 ↔ a = b) := by
  have := bcmp_loop BIG a b ha.1 hb.1 ha.2 hb.2 a.length 0 BIG (by omega) (by rw [BIG_eq]; have := ha.1; omega) (by omega)
  exact this
/-- few fields, small ones -/
structure Tiny (a : Deed) : Prop where
  ok : Go.Say.Ok a
  lo : i64R a.lo
  hi : i64R a.hi
  bag : a.bag.length ≤ 1000
  data : ∀ f ∈ a.bag, f.2.length ≤ 10000
  draws : a.draws.length ≤ 1000
theorem BSame.pure (a b : List (Int × List Int)) (ha : smallBag a) (hb : smallBag b) : bag_Same.f BIG a b = some (decide (a = b)) := by
  obtain ⟨c, h1, h2⟩ := BCmp.pure a b ha hb
  unfold bag_Same.f bag_Same.b
  simp only [veil_eq, h1]
  congr 1
  by_cases h : a = b
  · rw [decide_eq_true h, h2.2 h]; rfl
  · rw [decide_eq_false h]
    have : c ≠ 0 := fun e => h (h2.1 e)
    simpa using this
theorem Tiny.sb {a : Deed} (h : Tiny a) : smallBag a.bag := ⟨by have := h.bag; omega, fun f hf => by have := h.data f hf; omega⟩
theorem alike_loop (fuel : Nat) (x1 x2 x3 x4 x5 x6 x7 y1 y2 y3 y4 y5 y6 y7 : Int) (xb yb : List (Int × List Int)) (a b : List Int) (hl : a.length = b.length) (ha : a.length ≤ 1000000) : ∀ (n i k : Nat), i + n = a.length → n < k →
    law39_alike.l4 fuel x1 x2 x3 x4 x5 x6 x7 xb a y1 y2 y3 y4 y5 y6 y7 yb b k (i : Int) = some (decide (a.drop i = b.drop i)) := by
  intro n
  induction n with
  | zero =>
    intro i k hi hk
    rw [law39_alike.l4_at fuel k (k - 1) (by omega)]
    unfold law39_alike.b4
    rw [if_neg (by rw [decide_eq_true_eq]; omega), List.drop_of_length_le (by omega), List.drop_of_length_le (by omega)]
    simp
  | succ n ih =>
    intro i k hi hk
    rw [law39_alike.l4_at fuel k (k - 1) (by omega)]
    unfold law39_alike.b4
    have h1 : i < a.length := by omega
    have h2 : i < b.length := by omega
    rw [if_pos (by rw [decide_eq_true_eq]; omega), idx_at, idx_at, List.getElem?_eq_getElem h1, List.getElem?_eq_getElem h2]
    simp only
    rw [List.drop_eq_getElem_cons h1, List.drop_eq_getElem_cons h2]
    by_cases h : a[i] = b[i]
    · rw [if_neg (by simpa using h), wrap_small _ (by omega) (by omega), show ((i : Int) + 1) = ((i + 1 : Nat) : Int) by omega, ih (i + 1) (k - 1) (by omega) (by omega)]
      congr 1
      apply decide_eq_decide.2
      rw [h]
      exact ⟨fun e => by rw [e], fun e => (List.cons.inj e).2⟩
    · rw [if_pos (by simpa using h)]
      congr 1
      rw [eq_comm, decide_eq_false_iff_not]
      exact fun e => h (List.cons.inj e).1
noncomputable instance tupDec (a b : Deed) : Decidable (tup a = tup b) := Classical.propDecidable _
theorem Alike.pure (a b : Deed) (ha : smallBag a.bag) (hb : smallBag b.bag) (hd : a.draws.length ≤ 1000000) : law39_alike.f BIG a.kind a.i a.k a.at' a.by' a.lo a.hi a.bag a.draws b.kind b.i b.k b.at' b.by' b.lo b.hi b.bag b.draws = some (decide (tup a = tup b)) := by
  unfold law39_alike.f law39_alike.b
  simp only [veil_eq, BSame.pure _ _ ha hb]
  rw [law39_alike.l3_at BIG BIG (BIG - 1) big_eq]
  unfold law39_alike.b3
  have key : ∀ p : Prop, ∀ [Decidable p], (p → tup a ≠ tup b) → p → some false = some (decide (tup a = tup b)) := fun p _ h1 h2 => by rw [decide_eq_false (h1 h2)]
  by_cases h1 : a.kind = b.kind
  case neg => rw [if_pos (by simpa using h1)]; exact key _ (fun h e => h (congrArg (·.1) e)) h1
  rw [if_neg (by simpa using h1)]
  by_cases h2 : a.i = b.i
  case neg => rw [if_pos (by simpa using h2)]; exact key _ (fun h e => h (congrArg (·.2.1) e)) h2
  rw [if_neg (by simpa using h2)]
  by_cases h3 : a.k = b.k
  case neg => rw [if_pos (by simpa using h3)]; exact key _ (fun h e => h (congrArg (·.2.2.1) e)) h3
  rw [if_neg (by simpa using h3)]
  by_cases h4 : a.at' = b.at'
  case neg => rw [if_pos (by simpa using h4)]; exact key _ (fun h e => h (congrArg (·.2.2.2.1) e)) h4
  rw [if_neg (by simpa using h4)]
  by_cases h5 : a.by' = b.by'
  case neg => rw [if_pos (by simpa using h5)]; exact key _ (fun h e => h (congrArg (·.2.2.2.2.1) e)) h5
  rw [if_neg (by simpa using h5)]
  by_cases h6 : a.lo = b.lo
  case neg => rw [if_pos (by simpa using h6)]; exact key _ (fun h e => h (congrArg (·.2.2.2.2.2.1) e)) h6
  rw [if_neg (by simpa using h6)]
  by_cases h7 : a.hi = b.hi
  case neg => rw [if_pos (by simpa using h7)]; exact key _ (fun h e => h (congrArg (·.2.2.2.2.2.2.1) e)) h7
  rw [if_neg (by simpa using h7)]
  by_cases h8 : a.bag = b.bag
  case neg => rw [if_pos (by simpa using h8)]; exact key _ (fun h e => h (congrArg (·.2.2.2.2.2.2.2.1) e)) h8
  rw [if_neg (by simpa using h8)]
  by_cases h9 : a.draws.length = b.draws.length
  case neg => rw [if_pos (by simp only [bne_iff_ne, ne_eq]; omega)]; exact key _ (fun h e => h (congrArg List.length (congrArg (·.2.2.2.2.2.2.2.2) e))) h9
  rw [if_neg (by simp only [bne_iff_ne, ne_eq]; omega), show (0 : Int) = ((0 : Nat) : Int) from rfl, alike_loop BIG _ _ _ _ _ _ _ _ _ _ _ _ _ _ _ _ a.draws b.draws h9 hd a.draws.length 0 BIG (by omega) (by rw [BIG_eq]; omega)]
  congr 1
  apply decide_eq_decide.2
  unfold tup
  rw [h1, h2, h3, h4, h5, h6, h7, h8]
  simp
def spw (w : Word) : Word := 32 :: w
theorem join_flat (w : Word) (ws : List Word) : Go.Lib.join (w :: ws) [32] = w ++ ws.flatMap spw := by
  rw [Go.Lib.join_cons]
  rfl
theorem itoa_dig (n : Nat) (h : n < 10) : Go.Lib.itoa (n : Int) = [UInt8.ofNat (48 + n)] := by
  unfold Go.Lib.itoa
  rw [if_neg (by omega), show ((n : Int)).toNat = n from rfl, Go.Lib.decDigits_one h]
def sayable (a : Deed) : Prop := (1 ≤ a.kind ∧ a.kind ≤ 11) ∧ (a.kind = 1 → Go.Say.spanOk a.lo a.hi = true)
noncomputable instance sayDec (a : Deed) : Decidable (sayable a) := Classical.propDecidable _
structure Parsed (t : Word) (a : Deed) (k : Nat) : Prop where
  rng : 1 ≤ k ∧ k ≤ 11
  line : t = Go.Say.lineW k a
  kind : a.kind = k
  bare : Go.Say.bare k a = a
  span : k = 1 → Go.Say.spanOk a.lo a.hi = true
  tiny : Tiny a
theorem parsed_tiny {t : Word} {a : Deed} (ht : t.length ≤ 900) (h : Go.Say.parseL t = some a) : ∃ k, Parsed t a k := by
  obtain ⟨k, hk, hl, hok, hkind, hb, hs⟩ := Go.Say.line_parse h
  refine ⟨k, hk, hl, hkind, hb, hs, ?_⟩
  have hw : Go.Say.spl 32 t = Go.Say.words k a := by
    rw [hl]
    unfold Go.Say.lineW
    exact Go.Say.spl_join 32 (names.getD k []) (Go.Say.words k a).tail (Go.Say.words_no (.inl rfl) hk a hs)
  obtain ⟨l1, l2⟩ := spl_len 32 t
  rw [hw] at l1 l2
  have z : i64R 0 := by unfold i64R; omega
  have hlo : i64R a.lo ∧ i64R a.hi := by
    by_cases h1 : k = 1
    · have := of_decide_eq_true (hs h1)
      unfold i64R
      omega
    · have e1 := congrArg Deed.lo hb
      have e2 := congrArg Deed.hi hb
      have : k = 2 ∨ k = 3 ∨ k = 4 ∨ k = 5 ∨ k = 6 ∨ k = 7 ∨ k = 8 ∨ k = 9 ∨ k = 10 ∨ k = 11 := by omega
      rcases this with rfl | rfl | rfl | rfl | rfl | rfl | rfl | rfl | rfl | rfl <;> exact ⟨(show (0 : Int) = a.lo from e1) ▸ z, (show (0 : Int) = a.hi from e2) ▸ z⟩
  have hbag : a.bag = [] ∨ ∀ w ∈ a.bag.map Go.Say.fieldW, w ∈ Go.Say.words k a := by
    have e1 := congrArg Deed.bag hb
    have : k = 1 ∨ k = 2 ∨ k = 3 ∨ k = 4 ∨ k = 5 ∨ k = 6 ∨ k = 7 ∨ k = 8 ∨ k = 9 ∨ k = 10 ∨ k = 11 := by omega
    rcases this with rfl | rfl | rfl | rfl | rfl | rfl | rfl | rfl | rfl | rfl | rfl
    · exact .inr fun w hw => List.mem_cons_of_mem _ (List.mem_flatMap.2 ⟨5, by decide, hw⟩)
    all_goals first
      | exact .inl (show ([] : List (Int × List Int)) = a.bag from e1).symm
      | exact .inr fun w hw => List.mem_cons_of_mem _ (List.mem_flatMap.2 ⟨5, by decide, hw⟩)
  have hbl : a.bag.length ≤ (Go.Say.words k a).length ∧ a.draws.length ≤ (Go.Say.words k a).length := by
    have e1 := congrArg Deed.bag hb
    have e2 := congrArg Deed.draws hb
    have : k = 1 ∨ k = 2 ∨ k = 3 ∨ k = 4 ∨ k = 5 ∨ k = 6 ∨ k = 7 ∨ k = 8 ∨ k = 9 ∨ k = 10 ∨ k = 11 := by omega
    have b0 : ∀ (l : List (Int × List Int)), l = [] → l.length ≤ (Go.Say.words k a).length := fun l h => by rw [h]; exact Nat.zero_le _
    have d0 : ∀ (l : List Int), l = [] → l.length ≤ (Go.Say.words k a).length := fun l h => by rw [h]; exact Nat.zero_le _
    rcases this with rfl | rfl | rfl | rfl | rfl | rfl | rfl | rfl | rfl | rfl | rfl
    · exact ⟨by simp [Go.Say.words, partsOf, Go.Say.say]; omega, d0 _ (show ([] : List Int) = a.draws from e2).symm⟩
    · exact ⟨b0 _ (show ([] : List (Int × List Int)) = a.bag from e1).symm, d0 _ (show ([] : List Int) = a.draws from e2).symm⟩
    · exact ⟨b0 _ (show ([] : List (Int × List Int)) = a.bag from e1).symm, by simp [Go.Say.words, partsOf, Go.Say.say]; omega⟩
    · exact ⟨b0 _ (show ([] : List (Int × List Int)) = a.bag from e1).symm, d0 _ (show ([] : List Int) = a.draws from e2).symm⟩
    · exact ⟨b0 _ (show ([] : List (Int × List Int)) = a.bag from e1).symm, d0 _ (show ([] : List Int) = a.draws from e2).symm⟩
    · exact ⟨b0 _ (show ([] : List (Int × List Int)) = a.bag from e1).symm, d0 _ (show ([] : List Int) = a.draws from e2).symm⟩
    · exact ⟨b0 _ (show ([] : List (Int × List Int)) = a.bag from e1).symm, d0 _ (show ([] : List Int) = a.draws from e2).symm⟩
    · exact ⟨b0 _ (show ([] : List (Int × List Int)) = a.bag from e1).symm, d0 _ (show ([] : List Int) = a.draws from e2).symm⟩
    · exact ⟨b0 _ (show ([] : List (Int × List Int)) = a.bag from e1).symm, d0 _ (show ([] : List Int) = a.draws from e2).symm⟩
    · exact ⟨b0 _ (show ([] : List (Int × List Int)) = a.bag from e1).symm, d0 _ (show ([] : List Int) = a.draws from e2).symm⟩
    · exact ⟨by simp [Go.Say.words, partsOf, Go.Say.say]; omega, d0 _ (show ([] : List Int) = a.draws from e2).symm⟩
  refine ⟨hok, hlo.1, hlo.2, by omega, ?_, by omega⟩
  intro f hf
  rcases hbag with h0 | h0
  · rw [h0] at hf; cases hf
  · have h1 := l2 _ (h0 _ (List.mem_map_of_mem hf))
    have h2 := Go.Say.hexs_len f.2
    have h3 : (Go.Say.fieldW f).length = (Go.Lib.itoa f.1).length + (1 + (Go.Say.hexs f.2).length) := by
      unfold Go.Say.fieldW
      simp
      omega
    omega
theorem i64_small (v : Int) (h : -1000 ≤ v ∧ v ≤ 1000) : i64R v := by unfold i64R; omega
def ex1 : Deed := ⟨1, 3, 0, 0, 0, 1, 2, [(40, [10, 255])], []⟩
theorem itoa40 : Go.Lib.itoa 40 = [52, 48] := by
  unfold Go.Lib.itoa
  rw [if_neg (by omega), show Int.toNat 40 = 40 from rfl, Go.Lib.decDigits_two (by omega) (by omega)]
  rfl
theorem itoa_neg1 : Go.Lib.itoa (-1) = [45, 49] := by
  unfold Go.Lib.itoa
  rw [if_pos (by omega), show Int.natAbs (-1) = 1 from rfl, Go.Lib.decDigits_one (by omega)]
  rfl
theorem ex1_line : Go.Say.lineW 1 ex1 = [115, 116, 97, 114, 116, 32, 51, 32, 49, 45, 50, 32, 52, 48, 58, 48, 97, 102, 102] := by
  unfold Go.Say.lineW Go.Say.words
  rw [join_flat]
  show [115, 116, 97, 114, 116] ++ (([Go.Lib.itoa (3 : Nat)] ++ ([Go.Say.spanT 1 2] ++ ([Go.Lib.itoa 40 ++ 58 :: Go.Say.hexs [10, 255]] ++ []))) : List Word).flatMap spw = _
  rw [itoa_dig 3 (by omega), itoa40]
  rfl
theorem ex1_ok : Go.Say.Ok ex1 := by
  refine ⟨i64_small _ (by decide), i64_small _ (by decide), i64_small _ (by decide), i64_small _ (by decide), ?_, by simp [ex1]⟩
  intro f hf
  rw [List.mem_singleton.1 hf]
  refine ⟨i64_small _ (by decide), ?_⟩
  intro c hc
  rcases List.mem_cons.1 hc with rfl | hc
  · omega
  · rw [List.mem_singleton.1 hc]; omega
def ex3 : Deed := ⟨3, 0, 0, 0, 0, 0, 0, [], [5, -1]⟩
theorem ex3_line : Go.Say.lineW 3 ex3 = [116, 105, 99, 107, 32, 48, 32, 53, 32, 45, 49] := by
  unfold Go.Say.lineW Go.Say.words
  rw [join_flat]
  show [116, 105, 99, 107] ++ (([Go.Lib.itoa (0 : Nat)] ++ ([Go.Lib.itoa (5 : Nat), Go.Lib.itoa (-1)] ++ [])) : List Word).flatMap spw = _
  rw [itoa_dig 0 (by omega), itoa_dig 5 (by omega), itoa_neg1]
  rfl
theorem ex3_small : Small ex3 := by
  refine ⟨⟨by decide, by simp [ex3], by simp [ex3]⟩, by decide, ⟨i64_small _ (by decide), i64_small _ (by decide), i64_small _ (by decide), i64_small _ (by decide), by simp [ex3], ?_⟩⟩
  intro d hd
  rcases List.mem_cons.1 hd with rfl | hd
  · exact i64_small _ (by decide)
  · rw [List.mem_singleton.1 hd]; exact i64_small _ (by decide)
theorem stop03 : Go.Say.parseL [115, 116, 111, 112, 32, 48, 51] = none := by
  cases h : Go.Say.parseL [115, 116, 111, 112, 32, 48, 51] with
  | none => rfl
  | some a =>
    exfalso
    unfold Go.Say.parseL at h
    rw [show Go.Say.spl 32 [115, 116, 111, 112, 32, 48, 51] = [[115, 116, 111, 112], [48, 51]] by decide, Go.Say.parseW, show Go.Say.kindOf [115, 116, 111, 112] = some 2 by decide] at h
    have h := Go.Say.fin_some (show Go.Say.fin (Go.Say.reads [0] (zero 2) [[48, 51]]) = some a from h)
    obtain ⟨a', ws', e, _⟩ := Go.Say.reads_cons h
    obtain ⟨v, e2, hv, _⟩ := Go.Say.read_0 e
    have e3 : Go.Lib.itoa v = [48, 51] := (List.cons.inj e2).1.symm
    have e4 := Go.Say.atoi_itoa v hv.1 hv.2
    rw [e3] at e4
    have e5 : Go.Lib.atoiAll [48, 51] = .ok 3 := by first | rfl | decide
    rw [e5] at e4
    injection e4 with e6
    rw [← e6, show (3 : Int) = ((3 : Nat) : Int) from rfl, itoa_dig 3 (by omega)] at e3
    revert e3
    decide
theorem Awake.pure : law39_awake.f BIG () = some true := by
  unfold law39_awake.f law39_awake.b
  have p1 := Parse.pure (⟨((115 :: (116 :: (97 :: (114 :: (116 :: (32 :: (51 :: (32 :: (49 :: (45 :: (50 :: (32 :: (52 :: (48 :: (58 :: (48 :: (97 :: (102 :: (102 :: ([] : List UInt8))))))))))))))))))))).toArray⟩ : ByteArray) (by decide)
  have q1 : Go.Say.parseL (tOf (⟨((115 :: (116 :: (97 :: (114 :: (116 :: (32 :: (51 :: (32 :: (49 :: (45 :: (50 :: (32 :: (52 :: (48 :: (58 :: (48 :: (97 :: (102 :: (102 :: ([] : List UInt8))))))))))))))))))))).toArray⟩ : ByteArray)) = some (Go.Say.bare 1 ex1) := by
    have := Go.Say.parse_line (k := 1) (by omega) ex1_ok rfl (fun _ => rfl)
    rw [ex1_line] at this
    exact this
  rw [q1] at p1
  have p2 := Text.pure_ok ex3 ex3_small 3 rfl (by omega) (by omega) (by rw [ex3_line]; decide) (by decide)
  rw [ex3_line] at p2
  have p3 := Parse.pure (⟨((115 :: (116 :: (111 :: (112 :: (32 :: (48 :: (51 :: ([] : List UInt8))))))))).toArray⟩ : ByteArray) (by decide)
  rw [show Go.Say.parseL (tOf (⟨((115 :: (116 :: (111 :: (112 :: (32 :: (48 :: (51 :: ([] : List UInt8))))))))).toArray⟩ : ByteArray)) = none from stop03] at p3
  simp only [veil_eq, p1, p3]
  rw [show say_Text.f BIG (3 : Int) 0 0 0 0 0 0 [] (5 :: -(1 : Int) :: []) = _ from p2]
  simp only [toList_data]
  decide +kernel
abbrev Elem := Int × (Int × (Int × (Int × (Int × ((Int × Int) × ((List (Int × (List Int))) × (List Int)))))))
def tup2 (a : Deed) : Elem := (a.kind, (a.i, (a.k, (a.at', (a.by', ((a.lo, a.hi), (a.bag, a.draws)))))))
def skipW (w : Word) : Bool := match w with
  | [] => true
  | c :: _ => c == 35
/-- what the acts of lines are: at which line there is none, its error, the acts -/
def actsF : List Word → Nat → List Deed → Nat × Int × List Deed
  | [], _, acc => (0, 0, acc)
  | w :: ws, n, acc => if skipW w = true then actsF ws (n + 1) acc else match Go.Say.parseL w with
    | none => (n + 1, 16, [])
    | some a => actsF ws (n + 1) (acc ++ [a])
def outA (r : Nat × Int × List Deed) : Int × Int × List Elem := ((r.1 : Int), r.2.1, r.2.2.map tup2)
theorem hash_iff (c : UInt8) : ((((UInt8.toNat c) : Nat) : Int) == (35 : Int)) = (c == 35) := by
  by_cases h : c = 35
  · rw [h]; rfl
  · have : c.toNat ≠ 35 := fun e => h (UInt8.toNat_inj.1 e)
    rw [show (c == 35) = false from by simpa using h]
    simp only [beq_eq_false_iff_ne, ne_eq]
    omega
theorem acts_loop (fuel : Nat) (text : ByteArray) (L : List ByteArray) (hL : splitL text (⟨((10 :: ([] : List UInt8))).toArray⟩ : ByteArray) = L) (hl : L.length ≤ 1000000000) (hw : ∀ w ∈ L, w.size ≤ 900000) : ∀ (n i k : Nat) (acc : List Deed), i + n = L.length → n < k → acc.length ≤ i →
    say_Acts.l3 fuel text k (L.length : Int) (i : Int) (acc.map tup2) = some (outA (actsF ((L.drop i).map tOf) i acc)) := by
  intro n
  induction n with
  | zero =>
    intro i k acc hi hk ha
    obtain ⟨k, rfl⟩ : ∃ k', k = k' + 1 := ⟨k - 1, by omega⟩
    rw [say_Acts.l3]
    unfold say_Acts.b3
    rw [if_neg (by rw [decide_eq_true_eq]; omega), List.drop_of_length_le (by omega)]
    rfl
  | succ n ih =>
    intro i k acc hi hk ha
    obtain ⟨k, rfl⟩ : ∃ k', k = k' + 1 := ⟨k - 1, by omega⟩
    rw [say_Acts.l3]
    unfold say_Acts.b3
    have hil : i < L.length := by omega
    have hsz := hw _ (List.getElem_mem hil)
    rw [if_pos (by rw [decide_eq_true_eq]; omega), hL, idx_at, List.getElem?_eq_getElem hil]
    simp only [veil_eq, toList_data]
    rw [Parse.pure _ hsz, wrap_small _ (by omega) (by omega), show ((i : Int) + 1) = ((i + 1 : Nat) : Int) by omega, List.drop_eq_getElem_cons hil, List.map_cons, show L[i].data.toList = tOf L[i] from rfl]
    have next := fun (acc' : List Deed) (h : acc'.length ≤ i + 1) => ih (i + 1) k acc' (by omega) (by omega) h
    generalize tOf L[i] = w
    generalize (L.drop (i + 1)).map tOf = ws at next
    cases w with
    | nil =>
      rw [if_pos (by rfl), next acc (by omega), actsF, if_pos (by rfl)]
    | cons c cs =>
      have e0 : idx (c :: cs) (0 : Int) = some c := (idx_at (c :: cs) 0).trans rfl
      rw [if_neg (by simp), e0, actsF]
      simp only
      rw [hash_iff]
      by_cases h35 : (c == 35) = true
      · rw [if_pos h35, if_pos (show skipW (c :: cs) = true from h35), next acc (by omega)]
      · rw [if_neg h35, if_neg (show ¬ skipW (c :: cs) = true from h35)]
        cases hp : Go.Say.parseL (c :: cs) with
        | none =>
          simp only
          rw [if_pos (show ((tup10 (zero 0) 16).2.2.2.2.2.2.2.2.2 != (0 : Int)) = true by decide)]
          rfl
        | some a =>
          simp only
          rw [if_neg (show ¬ ((tup10 a 0).2.2.2.2.2.2.2.2.2 != (0 : Int)) = true from (show ¬ ((0 : Int) != 0) = true by decide)), if_pos (by simp [lim]; omega)]
          have := next (acc ++ [a]) (by simp; omega)
          rw [List.map_append] at this
          exact this
theorem Acts.pure (text : ByteArray) (hs : text.size ≤ 100000000) (hw : ∀ w ∈ Go.Say.spl 10 (tOf text), w.length ≤ 900000) : say_Acts.f BIG text = some (outA (actsF (Go.Say.spl 10 (tOf text)) 0 [])) := by
  have e : (splitL text (⟨((10 :: ([] : List UInt8))).toArray⟩ : ByteArray)).map tOf = Go.Say.spl 10 (tOf text) := Go.Say.split_eq text _ 10 rfl
  obtain ⟨l1, _⟩ := spl_len 10 (tOf text)
  have htl : (tOf text).length = text.size := by simp [tOf]
  have hl : (splitL text (⟨((10 :: ([] : List UInt8))).toArray⟩ : ByteArray)).length ≤ text.size + 1 := by
    have := congrArg List.length e
    rw [List.length_map] at this
    omega
  have := acts_loop BIG text _ rfl (by omega) (fun w h => hw (tOf w) (by rw [← e]; exact List.mem_map_of_mem h)) (splitL text (⟨((10 :: ([] : List UInt8))).toArray⟩ : ByteArray)).length 0 BIG [] (by omega) (by rw [BIG_eq]; omega) (by simp)
  rw [List.drop_zero, e] at this
  unfold say_Acts.f say_Acts.b
  rw [if_pos ⟨by omega, by decide⟩]
  exact this
theorem acts_more : ∀ (ws : List Word) (n : Nat) (acc : List Deed), ((actsF ws n acc).2.1 = 0 ∧ (actsF ws n acc).1 = 0 ∧ ∃ more, (actsF ws n acc).2.2 = acc ++ more) ∨ ((actsF ws n acc).2.1 = 16 ∧ (actsF ws n acc).2.2 = [])
  | [], n, acc => .inl ⟨rfl, rfl, [], by simp [actsF]⟩
  | w :: ws, n, acc => by
    rw [actsF]
    split
    · exact acts_more ws (n + 1) acc
    · split
      · exact .inr ⟨rfl, rfl⟩
      · rename_i a _
        rcases acts_more ws (n + 1) (acc ++ [a]) with ⟨h1, h2, m, h3⟩ | h
        · exact .inl ⟨h1, h2, a :: m, by rw [h3]; simp⟩
        · exact .inr h
abbrev LoopA := Int → Int → Int → Int → Int → Int → List Elem → Option Bool
theorem l9_eq (t : ByteArray) (A8 : LoopA) (x0 x1 x2 x3 x4 : Int) (i : Nat) (hi : i ≤ 1000) (g : List Elem) : law39_SayActs.l9 BIG t A8 BIG x0 x1 x2 x3 x4 (i : Int) g = A8 x0 x1 x2 x3 x4 ((i + 1 : Nat) : Int) g := by
  rw [law39_SayActs.l9_at BIG BIG (BIG - 1) big_eq]
  unfold law39_SayActs.b9
  rw [wrap_small _ (by omega) (by omega)]
  rfl
/-- a line's step -/
theorem line_step (t : ByteArray) (A8 : LoopA) (r : Nat × Int × List Deed) (acc : List Deed) (frm row i : Nat) (w : Word) (ws : List Word) (hfi : frm ≤ i) (hit : i ≤ t.size) (ht : t.size ≤ 600) (hrow : row ≤ 700) (hacc : acc.length ≤ 700)
    (hw : tOf (t.extract frm i) = w) (hr : actsF (w :: ws) row acc = r)
    (hc : ∀ acc', acc'.length ≤ acc.length + 1 → actsF ws (row + 1) acc' = r → A8 (r.1 : Int) r.2.1 (acc'.length : Int) ((i + 1 : Nat) : Int) ((row + 1 : Nat) : Int) ((i + 1 : Nat) : Int) (r.2.2.map tup2) = some true) :
    law39_SayActs.l11 BIG t A8 BIG (r.1 : Int) r.2.1 (acc.length : Int) (frm : Int) (row : Int) (i : Int) (r.2.2.map tup2) = some true := by
  rw [law39_SayActs.l11_at BIG BIG (BIG - 1) big_eq]
  unfold law39_SayActs.b11
  have hwl : w.length ≤ 600 := by
    rw [← hw]
    simp [tOf]
    omega
  rw [if_pos ⟨by omega, by omega, by omega⟩, wrap_small ((i : Int) + 1) (by omega) (by omega), wrap_small ((row : Int) + 1) (by omega) (by omega), Int.toNat_natCast, Int.toNat_natCast, show ((i : Int) + 1) = ((i + 1 : Nat) : Int) by omega, show ((row : Int) + 1) = ((row + 1 : Nat) : Int) by omega]
  simp only [toList_data]
  rw [show (t.extract frm i).data.toList = w from hw]
  rw [actsF] at hr
  have skip : skipW w = true → law39_SayActs.l9 BIG t A8 BIG (r.1 : Int) r.2.1 (acc.length : Int) ((i + 1 : Nat) : Int) ((row + 1 : Nat) : Int) (i : Int) (r.2.2.map tup2) = some true := fun h => by
    rw [if_pos h] at hr
    rw [l9_eq t A8 _ _ _ _ _ i (by omega)]
    exact hc acc (by omega) hr
  cases w with
  | nil =>
    rw [if_pos (by rfl)]
    exact skip rfl
  | cons c cs =>
    have e0 : idx (c :: cs) (0 : Int) = some c := (idx_at (c :: cs) 0).trans rfl
    rw [if_neg (by simp), e0]
    simp only
    rw [hash_iff]
    by_cases h35 : (c == 35) = true
    · rw [if_pos h35]
      exact skip h35
    rw [if_neg h35]
    rw [if_neg (show ¬ skipW (c :: cs) = true from h35)] at hr
    rw [law39_SayActs.l15_at BIG BIG (BIG - 1) big_eq]
    unfold law39_SayActs.b15
    have hsz : (t.extract frm i).size ≤ 900000 := by
      have := congrArg List.length hw
      simp only [tOf, Array.length_toList] at this
      have : (t.extract frm i).size = (c :: cs).length := this
      omega
    simp only [veil_eq]
    rw [Parse.pure _ hsz, hw]
    cases hp : Go.Say.parseL (c :: cs) with
    | none =>
      rw [hp] at hr
      simp only at hr
      simp only
      rw [if_pos (show ((tup10 (zero 0) 16).2.2.2.2.2.2.2.2.2 != (0 : Int)) = true by decide), ← hr, Awake.pure]
      simp
    | some a =>
      rw [hp] at hr
      simp only at hr
      simp only
      rw [if_neg (show ¬ ((tup10 a 0).2.2.2.2.2.2.2.2.2 != (0 : Int)) = true from (show ¬ ((0 : Int) != 0) = true by decide))]
      have E20 : law39_SayActs.l20 BIG t A8 BIG (r.1 : Int) r.2.1 (acc.length : Int) ((i + 1 : Nat) : Int) ((row + 1 : Nat) : Int) (i : Int) (r.2.2.map tup2) = some true := by
        rw [law39_SayActs.l20_at BIG BIG (BIG - 1) big_eq]
        unfold law39_SayActs.b20
        rw [wrap_small _ (by omega) (by omega), l9_eq t A8 _ _ _ _ _ i (by omega)]
        have := hc (acc ++ [a]) (by simp) hr
        rw [List.length_append, List.length_singleton] at this
        exact this
      by_cases he : r.2.1 = 0
      · rw [if_pos (by rw [he]; rfl)]
        have hm := acts_more ws (row + 1) (acc ++ [a])
        rw [hr] at hm
        rcases hm with ⟨_, _, m, hm⟩ | ⟨h16, _⟩
        case inr => rw [he] at h16; cases h16
        have hn : acc.length < (r.2.2.map tup2).length := by rw [hm]; simp
        have hg : (r.2.2.map tup2)[acc.length]? = some (tup2 a) := by rw [hm]; simp
        rw [if_neg (by rw [decide_eq_true_eq]; omega), idx_at, hg]
        obtain ⟨k, P⟩ := parsed_tiny (by omega) hp
        have h1 := Alike.pure a a (Tiny.sb P.tiny) (Tiny.sb P.tiny) (by have := P.tiny.draws; omega)
        rw [decide_eq_true rfl] at h1
        simp only [tup2, tup10]
        rw [h1]
        simp only
        rw [if_neg (by decide)]
        exact E20
      · rw [if_neg (by simpa using he)]
        exact E20
theorem take_ext (l : List UInt8) (f i : Nat) (h : f ≤ i) (hi : i < l.length) : (l.drop f).take (i + 1 - f) = (l.drop f).take (i - f) ++ [l[i]] := by
  rw [show i + 1 - f = (i - f) + 1 by omega, List.take_succ_eq_append_getElem (by rw [List.length_drop]; omega), List.getElem_drop]
  congr 3
  omega
theorem ext_take (t : ByteArray) (f i : Nat) : tOf (t.extract f i) = ((tOf t).drop f).take (i - f) := by
  simp only [tOf, ByteArray.data_extract, Array.toList_extract, List.extract]
theorem sayActs_loop (t : ByteArray) (ht : t.size ≤ 600) (r : Nat × Int × List Deed) : ∀ (n i k frm row : Nat) (acc : List Deed), i + n = t.size + 1 → n < k → row ≤ i → acc.length ≤ row →
    (i ≤ t.size → frm ≤ i ∧ (10 : UInt8) ∉ ((tOf t).drop frm).take (i - frm) ∧ actsF (Go.Say.spl 10 ((tOf t).drop frm)) row acc = r) → (i = t.size + 1 → actsF [] row acc = r) →
    law39_SayActs.l8 BIG t k (r.1 : Int) r.2.1 (acc.length : Int) (frm : Int) (row : Int) (i : Int) (r.2.2.map tup2) = some true := by
  intro n
  have htl : (tOf t).length = t.size := by simp [tOf]
  induction n with
  | zero =>
    intro i k frm row acc hi hk hrow hacc _ h2
    rw [law39_SayActs.l8_at BIG k (k - 1) (by omega)]
    unfold law39_SayActs.b8
    rw [if_neg (by rw [decide_eq_true_eq]; omega), ← h2 (by omega)]
    simp only [actsF, veil_eq, Awake.pure]
    simp
  | succ n ih =>
    intro i k frm row acc hi hk hrow hacc h1 _
    obtain ⟨hf, hno, hr⟩ := h1 (by omega)
    rw [law39_SayActs.l8_at BIG k (k - 1) (by omega)]
    unfold law39_SayActs.b8
    rw [if_pos (by rw [decide_eq_true_eq]; omega)]
    by_cases hlt : i < t.size
    · have hlt2 : i < (tOf t).length := by omega
      rw [if_pos (by rw [decide_eq_true_eq]; omega), show Array.toList (ByteArray.data t) = tOf t from rfl, idx_at, List.getElem?_eq_getElem hlt2]
      simp only
      by_cases h10 : (tOf t)[i] = 10
      · rw [if_neg (by rw [h10]; decide)]
        have es : (tOf t).drop frm = ((tOf t).drop frm).take (i - frm) ++ 10 :: (tOf t).drop (i + 1) := by
          have e1 := (List.take_append_drop (i - frm) ((tOf t).drop frm)).symm
          rw [List.drop_drop, show frm + (i - frm) = i by omega, List.drop_eq_getElem_cons hlt2, h10] at e1
          exact e1
        rw [es, Go.Say.spl_app _ hno] at hr
        refine line_step t _ r acc frm row i _ _ hf (by omega) ht (by omega) (by omega) (ext_take t frm i) hr ?_
        intro acc' hl ha
        exact ih (i + 1) (k - 1) (i + 1) (row + 1) acc' (by omega) (by omega) (by omega) (by omega) (fun _ => ⟨by omega, by rw [Nat.sub_self]; simp, ha⟩) (fun e => absurd e (by omega))
      · have hne : (tOf t)[i].toNat ≠ 10 := fun e => h10 (UInt8.toNat_inj.1 e)
        rw [if_pos (by simp only [bne_iff_ne, ne_eq]; omega), l9_eq t _ _ _ _ _ _ i (by omega)]
        refine ih (i + 1) (k - 1) frm row acc (by omega) (by omega) (by omega) hacc (fun _ => ⟨by omega, ?_, hr⟩) (fun e => absurd e (by omega))
        rw [take_ext _ _ _ hf hlt2]
        intro hm
        rcases List.mem_append.1 hm with hm | hm
        · exact hno hm
        · exact h10 (List.mem_singleton.1 hm).symm
    · have hie : i = t.size := by omega
      rw [if_neg (by rw [decide_eq_true_eq]; omega)]
      have es : ((tOf t).drop frm).take (i - frm) = (tOf t).drop frm := List.take_of_length_le (by rw [List.length_drop]; omega)
      rw [es] at hno
      rw [Go.Say.spl_none hno] at hr
      refine line_step t _ r acc frm row i _ _ hf (by omega) ht (by omega) (by omega) ((ext_take t frm i).trans es) hr ?_
      intro acc' hl ha
      exact ih (i + 1) (k - 1) (i + 1) (row + 1) acc' (by omega) (by omega) (by omega) (by omega) (fun h => absurd h (by omega)) (fun _ => ha)
theorem SayActs.pure (t : ByteArray) : law39_SayActs.f BIG t = some true := by
  unfold law39_SayActs.f law39_SayActs.b
  by_cases h : t.size > 600
  · rw [if_pos (by rw [decide_eq_true_eq]; omega)]
    simp only [veil_eq, Awake.pure]
  rw [if_neg (by rw [decide_eq_true_eq]; omega)]
  have htl : (tOf t).length = t.size := by simp [tOf]
  obtain ⟨l1, l2⟩ := spl_len 10 (tOf t)
  simp only [veil_eq, Acts.pure t (by omega) (fun w hw => by have := l2 w hw; omega)]
  exact sayActs_loop t (by omega) (actsF (Go.Say.spl 10 (tOf t)) 0 []) (t.size + 1) 0 BIG 0 0 [] (by omega) (by rw [BIG_eq]; omega) (by omega) (by simp) (fun _ => ⟨by omega, by simp, by rw [List.drop_zero]⟩) (fun e => absurd e (by omega))
theorem sayActs_envOk : EnvOk Tryz.prog law39_SayActs_E := env_ok (l := [(7, s_law39_awake), (8, s_say_Parse), (9, s_law39_alike), (12, s_say_Acts)]) th_ok any_ok ⟨⟨s_law39_awake_ok, s_law39_awake_det⟩, ⟨s_say_Parse_ok, s_say_Parse_det⟩, ⟨s_law39_alike_ok, s_law39_alike_det⟩, ⟨s_say_Acts_ok, s_say_Acts_det⟩, trivial⟩ _
theorem sayActs_tells (t : ByteArray)  : denF law39_SayActs_E loopN BIG Tryz.f4 [.raw] [.d .str t] [] isTrue = some () := by
  rw [denF_any sayActs_envOk.D ((law39_SayActs.eq BIG t).trans (SayActs.pure t)) (out := [.d .bool true]) (os := []) (fun rs ros hk => by
    unfold law39_SayActs.k at hk
    split at hk
    · first | (cases hk; exact ⟨rfl, rfl⟩) | (have e := Option.some.inj hk; rw [← e]; exact ⟨rfl, rfl⟩)
    · cases hk)]
  rfl
set_option maxRecDepth 100000 in
theorem sayActs_lifted (os : Os) (started : os.Started) (H : Type) (enc : TypeId × Value → H) :
    ReturnsInHanded {} Tryz.checked os 4 .any (fun w args => (Rows.sayActsSpec.pre enc Tryz.prog Tryz.f4 [] false w args ∧ laidMetH Tryz.prog laidL w) ∧ sizedMet enc Tryz.prog Tryz.f4 (OpenSpec.ofChange Rows.sayActsSpec) false w args)
      (Rows.sayActsSpec.post enc Tryz.prog Tryz.f4 false true false false) := by
  refine handed_and_shaped (C := Tryz.checked) (X := fun w _ => laidMetH Tryz.prog laidL w) (fun _ _ _ hh h => h.of_heap hh) Tryz.own started (by kernel_rfl) Tryz.func4
    (ChangeSpec.witness_shaped (enc := enc) (C := Tryz.checked) (os := os) (X := fun w _ => laidMetH Tryz.prog laidL w) false (World.laidAll Tryz.prog os laidL) #[.string ⟨#[]⟩] 8 (World.laidAll_os _ _ _) (World.shaped_of_ZipB (by kernel_rfl) (by kernel_rfl)) (by kernel_rfl) (by kernel_rfl) (by kernel_rfl) (door_met os _)) ?_
  intro W base args ds gs before hval hW hwt hL hsh
  exact law_contract sayActs_envOk Tryz.func4 rfl [(.str, false)] (tb := 4) (by kernel_rfl) (by kernel_rfl) (by kernel_rfl) rfl
    (fun ds h => by match ds, h with | [_], _ => rfl) Tryz.laidOut Tryz.mapsRow Tryz.slicesSize (fun y hg => ⟨BIG, sayActs_tells y.1⟩) W base args ds gs before hval hW hwt (laid_glob hL hsh)
theorem sayActs_row : Rows.SayActsSaid :=
  OpenClaim.holds_of_wide 4 Tryz.f4 rfl rfl rfl rfl rfl rfl rfl ⟨rfl, rfl, rfl, rfl, rfl⟩ rfl rfl rfl rfl rfl (by kernel_rfl) Tryz.func4 (by kernel_rfl)
    (of_decide_eq_true (by kernel_rfl)) (by unfold Func.isWrapper; first | (rw [if_pos (by decide +kernel)]; kernel_rfl) | (rw [if_neg (by decide +kernel)]; exact ⟨rfl, rfl⟩))
    (fun os started H enc _ => sayActs_lifted os started H enc)
theorem sayActs_holds : Rows.SayActsCardSaid :=
  Claim7.holds_tied_plain_at .later [] [.data, .data, .data, .data, .sentinel, .sentinel, .pinned] true (true, "acceacf41988f24c40d8fbda90477dcb0669e49302460bda22ef914b14c1da6e") true
    sayActs_row (fun _ h => by cases h) (by kernel_rfl) (fun _ h => by cases h) sayActs_row_tie rfl ⟨rfl, rfl⟩ (by kernel_rfl) rfl
    (fun f fn hf hfn => by
      obtain rfl : f = 4 := Option.some.inj ((show Tryz.prog.funcNamed "polyglot/polyglotlaw39.SayActs" = some 4 by kernel_rfl).symm.trans hf) |>.symm
      obtain rfl : fn = Tryz.f4 := (Option.some.inj (Tryz.func4.symm.trans hfn)).symm
      exact ⟨by kernel_rfl, fun j t ht => by
        have hm : t ∈ Tryz.f4.params.toList := by simpa using Array.mem_of_getElem? ht
        have hall : (Tryz.f4.params.toList.all fun u => !Tryz.prog.wantsStandIn u) = true := by kernel_rfl
        exact (show Tryz.prog.wantsStandIn t = false by simpa using List.all_eq_true.1 hall t hm)⟩)
    (by kernel_rfl)
end Go.Proofs.YthangnlmckeipaaGreatDoor
