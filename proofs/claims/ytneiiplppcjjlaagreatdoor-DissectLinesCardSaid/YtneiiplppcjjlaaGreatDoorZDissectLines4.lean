/- DissectLines, part 4: what the row leans on. -/
import Derived.Test.YtneiiplppcjjlaaGreatDoorZDissectLines3
set_option linter.unusedVariables false
set_option linter.unusedSimpArgs false
set_option maxRecDepth 100000
namespace Go.Proofs.YtneiiplppcjjlaaGreatDoor
open Go.Den
noncomputable section
def qE.b12 (bs : List Int) (at0 : Int) (bad za : Bool) (qi : Int) (qb : LR) (A12 : Int → Bool → Bool → (List Int) → Int → Bool → Int → Int → Int → Int → Bool → Int → Int → Int → Int → Int → Bool → LF → Option (Int × Int × Int × Int × Int × Bool × LF × Bool × (List Int) × Int × Bool)) (x19 : Int) (x20 : Bool) (x21 : Bool) (x22 : (List Int)) (x23 : Int) (x24 : Bool) (x25 : Int) (x26 : Int) (x27 : Int) (x28 : Int) (x29 : Bool) (x30 : Int) (x31 : Int) (x32 : Int) (x33 : Int) (x34 : Int) (x35 : Bool) (x36 : LF) : Option (Int × Int × Int × Int × Int × Bool × LF × Bool × (List Int) × Int × Bool) :=
 (match (veil (qI.f BIG x22 x23 x24 x21 (veil (562949953421310 : Int)))) with | none => none | some y37 => (match (veil (Q7.f BIG (IntKind.wrap .u64 y37.1))) with | none => none | some y38 => (if x29 then some (x25, (IntKind.wrap .i64 (x31 + y38)), x26, x27, x28, x29, ([] : LF), y37.2.1, y37.2.2.1, y37.2.2.2.1, y37.2.2.2.2) else (if ((bits BinOp.and .i64 x19 (16 : Int)) != (0 : Int)) then some (x25, (IntKind.wrap .i64 (x31 + y38)), x26, x27, x28, x29, x36, y37.2.1, y37.2.2.1, y37.2.2.2.1, y37.2.2.2.2) else (match (veil (qS.f BIG y37.2.2.1 y37.2.2.2.1 y37.2.2.2.2 y37.2.1)) with | none => none | some y39 => (if y39.1 then some (x25, (IntKind.wrap .i64 (x31 + y38)), x26, x27, x28, x29, y39.2.2.2.2, true, y39.2.1, y39.2.2.1, y39.2.2.2.1) else (if x20 then (if ((zx y39.2.2.2.2) && (zx x36)) then some (x25, (IntKind.wrap .i64 (x31 + y38)), x26, x27, x28, x29, y39.2.2.2.2, ((ZP y39.2.2.2.2 x36) == (0 : Int)), y39.2.1, y39.2.2.1, y39.2.2.2.1) else none) else some (x25, (IntKind.wrap .i64 (x31 + y38)), x26, x27, x28, x29, y39.2.2.2.2, false, y39.2.1, y39.2.2.1, y39.2.2.2.1))))))))
def qE.l12 (qa : Nat) (bs : List Int) (at0 : Int) (bad za : Bool) (qi : Int) (qb : LR) : Nat → Int → Bool → Bool → (List Int) → Int → Bool → Int → Int → Int → Int → Bool → Int → Int → Int → Int → Int → Bool → LF → Option (Int × Int × Int × Int × Int × Bool × LF × Bool × (List Int) × Int × Bool)
 | 0, _, _, _, _, _, _, _, _, _, _, _, _, _, _, _, _, _, _ => none
 | k + 1, x19, x20, x21, x22, x23, x24, x25, x26, x27, x28, x29, x30, x31, x32, x33, x34, x35, x36 => qE.b12 bs at0 bad za qi qb (qE.l12 qa bs at0 bad za qi qb k) x19 x20 x21 x22 x23 x24 x25 x26 x27 x28 x29 x30 x31 x32 x33 x34 x35 x36
def qE.s8 (bs : List Int) (at0 : Int) (bad za : Bool) (qi : Int) (qb : LR) (x3 : Int) (x4 x5 : Bool) (x6 : (List Int)) (x7 : Int) (x8 : Bool) (x9 x10 : Int) (x11 : Bool) (x12 x13 x14 x15 x16 : Int) (x17 : Bool) (x18 : LF) : St := ⟨[.ptr 0 0, dD, dD, dD, dD, dD, .ptr 64 0, .ptr 65 0, .d tQi x3, .ptr 66 0, .d .bool x4, dD, dD, dD, dD, dD, dD, dD, dD, dD, dD, dD, dD, dD, dD, dD, dD, dD, dD, dD, dD, dD, dD, dD, dD, dD, dD, dD, dD, dD, dD, dD, dD, dD, dD, dD, dD, dD, dD, dD, dD, dD, dD, dD, dD, dD, dD, dD, dD, dD, dD, dD, dD, dD, dD, dD, dD, dD, dD, dD, dD, dD, dD, dD, dD, dD, dD, dD, dD, dD, dD, dD, dD, dD, dD, dD, dD, dD, dD, dD, dD, dD, dD, dD, dD, dD, dD, dD, dD, dD, dD, dD, dD, dD, dD, dD, dD, dD, dD, dD, dD, dD, dD, dD, dD, dD, dD, dD, dD, dD, dD, dD, .dead], ofL [(0, .box [.ptr 1 0, .d .bool x5]), (1, .box [.d (.sl (.int .u8)) x6, .d tQi x7, .d .bool x8]), (64, .box [.d tQi (0), .d tQi (0), .d tQi (0), .d tQi (0), .d tQi (0), .d .bool (false), .nilsl]), (65, .box [.d tQi x9, .d tQi (0), .d tQi x10, .d tQi (0), .d tQi (0), .d .bool x11, .nilsl]), (66, .box [.d tQi x12, .d tQi x13, .d tQi x14, .d tQi x15, .d tQi x16, .d .bool x17, .d (.sl (.pair tQi (.sl (.int .u8)))) x18])], 2⟩
def qE.p8 (qa : Nat) (bs : List Int) (at0 : Int) (bad za : Bool) (qi : Int) (qb : LR) (k : Nat) := fun x3 x4 x5 x6 x7 x8 x9 x10 x11 x12 x13 x14 x15 x16 x17 x18 => lp qb8 qa Tryz.f99 [.dat tQr true] 2 qE.k 8 [] k (qE.s8 bs at0 bad za qi qb x3 x4 x5 x6 x7 x8 x9 x10 x11 x12 x13 x14 x15 x16 x17 x18)
def qE.b8 (bs : List Int) (at0 : Int) (bad za : Bool) (qi : Int) (qb : LR) (A8 : Int → Bool → Bool → (List Int) → Int → Bool → Int → Int → Bool → Int → Int → Int → Int → Int → Bool → LF → Option (Int × Int × Int × Int × Int × Bool × LF × Bool × (List Int) × Int × Bool)) (E12 : Int → Bool → Bool → (List Int) → Int → Bool → Int → Int → Int → Int → Bool → Int → Int → Int → Int → Int → Bool → LF → Option (Int × Int × Int × Int × Int × Bool × LF × Bool × (List Int) × Int × Bool)) (x3 : Int) (x4 : Bool) (x5 : Bool) (x6 : (List Int)) (x7 : Int) (x8 : Bool) (x9 : Int) (x10 : Int) (x11 : Bool) (x12 : Int) (x13 : Int) (x14 : Int) (x15 : Int) (x16 : Int) (x17 : Bool) (x18 : LF) : Option (Int × Int × Int × Int × Int × Bool × LF × Bool × (List Int) × Int × Bool) :=
 (if ((bits BinOp.and .i64 x3 (8 : Int)) != (0 : Int)) then E12 x3 x4 x5 x6 x7 x8 x9 x10 x15 x16 x11 x12 x13 x14 x15 x16 x17 x18 else (match (veil (zp.f BIG x6 x7 x8 x5)) with | none => none | some y40 => (if y40.2.2.1 then E12 x3 x4 true y40.2.2.2.1 y40.2.2.2.2.1 y40.2.2.2.2.2 x9 x10 y40.1 y40.2.1 x11 x12 x13 x14 x15 x16 x17 x18 else (if x4 then E12 x3 x4 (if (y40.1 == x15) then (if (y40.2.1 == x16) then true else false) else false) y40.2.2.2.1 y40.2.2.2.2.1 y40.2.2.2.2.2 x9 x10 y40.1 y40.2.1 x11 x12 x13 x14 x15 x16 x17 x18 else E12 x3 x4 false y40.2.2.2.1 y40.2.2.2.2.1 y40.2.2.2.2.2 x9 x10 y40.1 y40.2.1 x11 x12 x13 x14 x15 x16 x17 x18))))
def qE.l8 (qa : Nat) (bs : List Int) (at0 : Int) (bad za : Bool) (qi : Int) (qb : LR) : Nat → Int → Bool → Bool → (List Int) → Int → Bool → Int → Int → Bool → Int → Int → Int → Int → Int → Bool → LF → Option (Int × Int × Int × Int × Int × Bool × LF × Bool × (List Int) × Int × Bool)
 | 0, _, _, _, _, _, _, _, _, _, _, _, _, _, _, _, _ => none
 | k + 1, x3, x4, x5, x6, x7, x8, x9, x10, x11, x12, x13, x14, x15, x16, x17, x18 => qE.b8 bs at0 bad za qi qb (qE.l8 qa bs at0 bad za qi qb k) (qE.l12 qa bs at0 bad za qi qb qa) x3 x4 x5 x6 x7 x8 x9 x10 x11 x12 x13 x14 x15 x16 x17 x18
def qE.b (bs : List Int) (at0 : Int) (bad za : Bool) (qi : Int) (qb : LR) (E8 : Int → Bool → Bool → (List Int) → Int → Bool → Int → Int → Bool → Int → Int → Int → Int → Int → Bool → LF → Option (Int × Int × Int × Int × Int × Bool × LF × Bool × (List Int) × Int × Bool)) : Option (Int × Int × Int × Int × Int × Bool × LF × Bool × (List Int) × Int × Bool) :=
 (match (veil (qI.f BIG bs at0 bad za (4095 : Int))) with | none => none | some y0 => (if (zt y0.2.2.1 y0.2.2.2.1) then (match (veil (Option.some (qz y0.2.2.1 (1 : Int) y0.2.2.2.1 y0.2.2.2.2))) with | none => none | some y1 => (match (veil (qal.f BIG qb (IntKind.wrap .i64 ((IntKind.wrap .i64 (qi + (1 : Int))) + y0.1)))) with | none => none | some y2 => (if (decide (y1.1 ≥ (32 : Int))) then some ((IntKind.wrap .i64 ((IntKind.wrap .i64 (qi + (1 : Int))) + y0.1)), 0, (bits BinOp.and .i64 y1.1 (3 : Int)), 0, 0, ((bits BinOp.and .i64 y1.1 (4 : Int)) != (0 : Int)), ([] : LF), true, y0.2.2.1, y1.2.1, y1.2.2) else (if (!y2.2.2.2.2.2.2.2) then (if (decide (y1.1 ≥ (8 : Int))) then some ((IntKind.wrap .i64 ((IntKind.wrap .i64 (qi + (1 : Int))) + y0.1)), 0, (bits BinOp.and .i64 y1.1 (3 : Int)), 0, 0, ((bits BinOp.and .i64 y1.1 (4 : Int)) != (0 : Int)), ([] : LF), true, y0.2.2.1, y1.2.1, y1.2.2) else (if ((bits BinOp.and .i64 y1.1 (4 : Int)) != (0 : Int)) then (if (decide (y1.1 ≥ (16 : Int))) then some ((IntKind.wrap .i64 ((IntKind.wrap .i64 (qi + (1 : Int))) + y0.1)), 0, (bits BinOp.and .i64 y1.1 (3 : Int)), 0, 0, ((bits BinOp.and .i64 y1.1 (4 : Int)) != (0 : Int)), ([] : LF), true, y0.2.2.1, y1.2.1, y1.2.2) else E8 y1.1 y2.2.2.2.2.2.2.2 y0.2.1 y0.2.2.1 y1.2.1 y1.2.2 (IntKind.wrap .i64 ((IntKind.wrap .i64 (qi + (1 : Int))) + y0.1)) (bits BinOp.and .i64 y1.1 (3 : Int)) ((bits BinOp.and .i64 y1.1 (4 : Int)) != (0 : Int)) y2.1 y2.2.1 y2.2.2.1 y2.2.2.2.1 y2.2.2.2.2.1 y2.2.2.2.2.2.1 y2.2.2.2.2.2.2.1) else E8 y1.1 y2.2.2.2.2.2.2.2 y0.2.1 y0.2.2.1 y1.2.1 y1.2.2 (IntKind.wrap .i64 ((IntKind.wrap .i64 (qi + (1 : Int))) + y0.1)) (bits BinOp.and .i64 y1.1 (3 : Int)) ((bits BinOp.and .i64 y1.1 (4 : Int)) != (0 : Int)) y2.1 y2.2.1 y2.2.2.1 y2.2.2.2.1 y2.2.2.2.2.1 y2.2.2.2.2.2.1 y2.2.2.2.2.2.2.1)) else (if ((bits BinOp.and .i64 y1.1 (4 : Int)) != (0 : Int)) then (if (decide (y1.1 ≥ (16 : Int))) then some ((IntKind.wrap .i64 ((IntKind.wrap .i64 (qi + (1 : Int))) + y0.1)), 0, (bits BinOp.and .i64 y1.1 (3 : Int)), 0, 0, ((bits BinOp.and .i64 y1.1 (4 : Int)) != (0 : Int)), ([] : LF), true, y0.2.2.1, y1.2.1, y1.2.2) else E8 y1.1 y2.2.2.2.2.2.2.2 y0.2.1 y0.2.2.1 y1.2.1 y1.2.2 (IntKind.wrap .i64 ((IntKind.wrap .i64 (qi + (1 : Int))) + y0.1)) (bits BinOp.and .i64 y1.1 (3 : Int)) ((bits BinOp.and .i64 y1.1 (4 : Int)) != (0 : Int)) y2.1 y2.2.1 y2.2.2.1 y2.2.2.2.1 y2.2.2.2.2.1 y2.2.2.2.2.2.1 y2.2.2.2.2.2.2.1) else E8 y1.1 y2.2.2.2.2.2.2.2 y0.2.1 y0.2.2.1 y1.2.1 y1.2.2 (IntKind.wrap .i64 ((IntKind.wrap .i64 (qi + (1 : Int))) + y0.1)) (bits BinOp.and .i64 y1.1 (3 : Int)) ((bits BinOp.and .i64 y1.1 (4 : Int)) != (0 : Int)) y2.1 y2.2.1 y2.2.2.1 y2.2.2.2.1 y2.2.2.2.2.1 y2.2.2.2.2.2.1 y2.2.2.2.2.2.2.1))))) else none))
def qE.f (qa : Nat) (bs : List Int) (at0 : Int) (bad za : Bool) (qi : Int) (qb : LR) : Option (Int × Int × Int × Int × Int × Bool × LF × Bool × (List Int) × Int × Bool) := qE.b bs at0 bad za qi qb (qE.l8 qa bs at0 bad za qi qb qa)
theorem qE.l12_eq (qa : Nat) (bs : List Int) (at0 : Int) (bad za : Bool) (qi : Int) (qb : LR) : ∀ k : Nat, qE.p12 qa bs at0 bad za qi qb k = qE.l12 qa bs at0 bad za qi qb k
 | 0 => by kernel_rfl
 | k + 1 => by
  refine Eq.trans (b := qE.b12 bs at0 bad za qi qb (qE.p12 qa bs at0 bad za qi qb k)) (by kernel_rfl) ?_
  rw [qE.l12_eq qa bs at0 bad za qi qb k]
  kernel_rfl
theorem qE.l8_eq (qa : Nat) (bs : List Int) (at0 : Int) (bad za : Bool) (qi : Int) (qb : LR) : ∀ k : Nat, qE.p8 qa bs at0 bad za qi qb k = qE.l8 qa bs at0 bad za qi qb k
 | 0 => by kernel_rfl
 | k + 1 => by
  refine Eq.trans (b := qE.b8 bs at0 bad za qi qb (qE.p8 qa bs at0 bad za qi qb k) (qE.p12 qa bs at0 bad za qi qb qa)) (by kernel_rfl) ?_
  rw [qE.l8_eq qa bs at0 bad za qi qb k, qE.l12_eq qa bs at0 bad za qi qb qa]
  kernel_rfl
theorem qE.eq (qa : Nat) (bs : List Int) (at0 : Int) (bad za : Bool) (qi : Int) (qb : LR) : (denF qb8 loopN qa Tryz.f99 [.dat tQr true] [.ptr 0 0, .d tQi qi, .d (.sl tQr) qb] [.box [.ptr 1 0, .d .bool za], .box [.d (.sl (.int .u8)) bs, .d tQi at0, .d .bool bad]] qE.k) = qE.f qa bs at0 bad za qi qb := by
 refine Eq.trans (b := qE.b bs at0 bad za qi qb (qE.p8 qa bs at0 bad za qi qb qa)) (by kernel_rfl) ?_
 rw [qE.l8_eq qa bs at0 bad za qi qb qa]
 kernel_rfl
theorem qE.l12_at (qa nN kK : Nat) (hN : nN = kK + 1) (bs : List Int) (at0 : Int) (bad : Bool) (za : Bool) (qi : Int) (qb : LR) (x19 : Int) (x20 : Bool) (x21 : Bool) (x22 : (List Int)) (x23 : Int) (x24 : Bool) (x25 : Int) (x26 : Int) (x27 : Int) (x28 : Int) (x29 : Bool) (x30 : Int) (x31 : Int) (x32 : Int) (x33 : Int) (x34 : Int) (x35 : Bool) (x36 : LF) : qE.l12 qa bs at0 bad za qi qb nN x19 x20 x21 x22 x23 x24 x25 x26 x27 x28 x29 x30 x31 x32 x33 x34 x35 x36 = qE.b12 bs at0 bad za qi qb (qE.l12 qa bs at0 bad za qi qb kK) x19 x20 x21 x22 x23 x24 x25 x26 x27 x28 x29 x30 x31 x32 x33 x34 x35 x36 := by
 subst hN
 rfl
theorem qE.l8_at (qa nN kK : Nat) (hN : nN = kK + 1) (bs : List Int) (at0 : Int) (bad : Bool) (za : Bool) (qi : Int) (qb : LR) (x3 : Int) (x4 : Bool) (x5 : Bool) (x6 : (List Int)) (x7 : Int) (x8 : Bool) (x9 : Int) (x10 : Int) (x11 : Bool) (x12 : Int) (x13 : Int) (x14 : Int) (x15 : Int) (x16 : Int) (x17 : Bool) (x18 : LF) : qE.l8 qa bs at0 bad za qi qb nN x3 x4 x5 x6 x7 x8 x9 x10 x11 x12 x13 x14 x15 x16 x17 x18 = qE.b8 bs at0 bad za qi qb (qE.l8 qa bs at0 bad za qi qb kK) (qE.l12 qa bs at0 bad za qi qb qa) x3 x4 x5 x6 x7 x8 x9 x10 x11 x12 x13 x14 x15 x16 x17 x18 := by
 subst hN
 rfl
def Z3 : Den.Sum := ⟨[.pb [.frz none [0] 0 (.int .u8)], .raw, .dat (.sl tQr) false], fun qK qn κ => match qK, qn with
 | [.ptr 0 0, .d (.int .i64) qi, .d (.sl (.pair (.int .i64) (.pair (.int .i64) (.pair (.int .i64) (.pair (.pair (.int .i64) (.int .i64)) (.pair .bool (.sl (.pair (.int .i64) (.sl (.int .u8)))))))))) qb], [.box [.ptr 1 0, .d .bool za], .box [.d (.sl (.int .u8)) bs, .d (.int .i64) at0, .d .bool bad]] => (match veil (qE.f BIG bs at0 bad za qi qb) with | none => none | some y => κ [.agg [.d (.int .i64) y.1, .d (.int .i64) y.2.1, .d (.int .i64) y.2.2.1, .d (.int .i64) y.2.2.2.1, .d (.int .i64) y.2.2.2.2.1, .d .bool y.2.2.2.2.2.1, .d (.sl (.pair (.int .i64) (.sl (.int .u8)))) y.2.2.2.2.2.2.1]] [.box [.ptr 1 0, .d .bool y.2.2.2.2.2.2.2.1], .box [.d (.sl (.int .u8)) y.2.2.2.2.2.2.2.2.1, .d (.int .i64) y.2.2.2.2.2.2.2.2.2.1, .d .bool y.2.2.2.2.2.2.2.2.2.2]])
 | _, _ => none⟩
theorem qgR : SumDet Z3 := zj fun _ _ _ _ => by
 unfold Z3
 simp only [veil_eq]
 split
 ·split <;> rfl
 ·rfl
theorem qhd : SumOk Tryz.prog 99 Z3 := by
 have hE : EnvOk Tryz.prog qb8 := env_ok (l := [(98, zQ), (122, qbe), (75, qdh), (52, Zg), (107, Qy), (123, qbu), (124, Zh)]) th_ok qZ ⟨⟨qap, qae⟩, ⟨qhM, qgK⟩, ⟨qkA, qjg⟩, ⟨qbd, qaL⟩, ⟨qce, qb1⟩, ⟨qkf, qjy⟩, ⟨qf0, qfK⟩, trivial⟩ _
 refine sum_ok hE Tryz.func99 rfl (by kernel_rfl) Z3 [.dat tQr true] qE.k ?_
 intro R avs qn κ r h
 unfold Z3 at h
 simp only [veil_eq] at h
 split at h
 ·rename_i qi qb za bs at0 bad
  split at h
  ·cases h
  ·rename_i y hy
   refine ⟨BIG, _, _, _, (qE.eq BIG bs at0 bad za qi qb).trans hy, ?_, h⟩
   intro rs ros hk
   unfold qE.k at hk
   split at hk
   ·rw [← sj hk]; exact ⟨rfl, rfl⟩
   ·cases hk
 ·cases h
def qfe : Env := ⟨th, gam [(76, QK), (96, qaF), (41, qah), (51, qaS), (74, ZF), (98, zQ), (99, Z3), (86, qcX)], fun i => if i = 11 then ⟨[0, 1, 4, 6, 7, 8, 9, 10], [(1458, 54, tQr), (1, 53, tQr)], [1]⟩ else ⟨[], [], []⟩⟩
def zi.k (rs : List AV) (os : List Den.Obj) : Option (Int × Int × Int × Int × Int × Int × Int × Int × Int × Int × LR × Int) :=
 match rs, os with
 | [.agg [.d (.int .i64) r0, .d (.int .i64) r1, .d (.int .i64) r2, .d (.int .i64) r3, .d (.int .i64) r4, .d (.int .i64) r5, .d (.int .i64) r6, .d (.int .i64) r7, .d (.int .i64) r8, .d (.int .i64) r9, .d (.sl (.pair (.int .i64) (.pair (.int .i64) (.pair (.int .i64) (.pair (.pair (.int .i64) (.int .i64)) (.pair .bool (.sl (.pair (.int .i64) (.sl (.int .u8)))))))))) r10], .d (.int .i64) r11], [] => some (r0, r1, r2, r3, r4, r5, r6, r7, r8, r9, r10, r11)
 | _, _ => none
def zi.s11 (b : List Int) (qb x2 : LR) (x3 x4 x5 : Int) (x6 : Bool) (x7 : (List Int)) (x8 : Int) (x9 : Bool) (x10 x11 x12 x13 x14 x15 x16 x17 x18 x19 : Int) (x20 : LR) : St := ⟨[.d (.sl (.int .u8)) (b), .d (.sl tQr) x2, .dead, .dead, .ptr 64 0, .dead, .ptr 65 0, .ptr 67 0, .d tQi x3, .d tQi x4, .d tQi x5, dD, dD, dD, dD, dD, dD, dD, dD, dD, dD, dD, dD, dD, dD, dD, dD, dD, dD, dD, dD, dD, dD, dD, dD, dD, dD, dD, dD, dD, dD, dD, dD, dD, dD, dD, dD, dD, dD, dD, dD, dD, dD, dD, dD, dD, dD, dD, dD, dD, dD, dD, dD, dD, dD, dD, dD, dD, dD, dD, dD, dD, dD, dD, dD, dD, dD, .dead], ofL [(64, .box [.d tQi (0), .d tQi (0), .d tQi (0), .d tQi (0), .d tQi (0), .d tQi (0), .d tQi (0), .d tQi (0), .d tQi (0), .d tQi (0), .nilsl]), (65, .box [.ptr 66 0, .d .bool x6]), (66, .box [.d (.sl (.int .u8)) x7, .d tQi x8, .d .bool x9]), (67, .box [.d tQi x10, .d tQi x11, .d tQi x12, .d tQi x13, .d tQi x14, .d tQi x15, .d tQi x16, .d tQi x17, .d tQi x18, .d tQi x19, .row 68]), (68, .row 54 tQr x20 false)], 0⟩
def zi.p11 (qa : Nat) (b : List Int) (qb : LR) (k : Nat) := fun x2 x3 x4 x5 x6 x7 x8 x9 x10 x11 x12 x13 x14 x15 x16 x17 x18 x19 x20 => lp qfe qa Tryz.f65 [.dat (.pair tQi (.pair tQi (.pair tQi (.pair (.pair tQi tQi) (.pair tQi (.pair tQi (.pair tQi (.pair tQi (.pair tQi (.sl tQr)))))))))) true, .raw] 0 zi.k 11 [] k (zi.s11 b qb x2 x3 x4 x5 x6 x7 x8 x9 x10 x11 x12 x13 x14 x15 x16 x17 x18 x19 x20)
def zi.b11 (b : List Int) (qb : LR) (A11 : LR → Int → Int → Int → Bool → (List Int) → Int → Bool → Int → Int → Int → Int → Int → Int → Int → Int → Int → Int → LR → Option (Int × Int × Int × Int × Int × Int × Int × Int × Int × Int × LR × Int)) (x2 : LR) (x3 : Int) (x4 : Int) (x5 : Int) (x6 : Bool) (x7 : (List Int)) (x8 : Int) (x9 : Bool) (x10 : Int) (x11 : Int) (x12 : Int) (x13 : Int) (x14 : Int) (x15 : Int) (x16 : Int) (x17 : Int) (x18 : Int) (x19 : Int) (x20 : LR) : Option (Int × Int × Int × Int × Int × Int × Int × Int × Int × Int × LR × Int) :=
 (if (decide (x5 < x3)) then (if (!x6) then (match (veil (qE.f BIG x7 x8 x9 x6 x4 x2)) with | none => none | some y21 => (if ((((List.length x20) + (List.length ((y21.1, (y21.2.1, (y21.2.2.1, ((y21.2.2.2.1, y21.2.2.2.2.1), (y21.2.2.2.2.2.1, y21.2.2.2.2.2.2.1))))) :: ([] : LR)))) * (72 : Nat)) ≤ lim) then A11 x2 x3 y21.1 (IntKind.wrap .i64 (x5 + (1 : Int))) y21.2.2.2.2.2.2.2.1 y21.2.2.2.2.2.2.2.2.1 y21.2.2.2.2.2.2.2.2.2.1 y21.2.2.2.2.2.2.2.2.2.2 x10 x11 x12 x13 x14 x15 x16 x17 x18 x19 (x20 ++ ((y21.1, (y21.2.1, (y21.2.2.1, ((y21.2.2.2.1, y21.2.2.2.2.1), (y21.2.2.2.2.2.1, y21.2.2.2.2.2.2.1))))) :: ([] : LR))) else none)) else (if x6 then some (0, 0, 0, 0, 0, 0, 0, 0, 0, 0, ([] : LR), (4 : Int)) else (if (zt x7 x8) then (if (!((!x9) && ((ZZ x7 x8 x9) == (0 : Int)))) then some (0, 0, 0, 0, 0, 0, 0, 0, 0, 0, ([] : LR), (4 : Int)) else (if (decide (((((List.length b)) : Nat) : Int) > (65499 : Int))) then some (0, 0, 0, 0, 0, 0, 0, 0, 0, 0, ([] : LR), (4 : Int)) else (if (q9 x20) then (if (!(q0 x10 x11 x12 x13 x14 x15 x16 x17 x18 x19 x20)) then some (0, 0, 0, 0, 0, 0, 0, 0, 0, 0, ([] : LR), (4 : Int)) else some (x10, x11, x12, x13, x14, x15, x16, x17, x18, x19, x20, (0 : Int))) else none))) else none))) else (if x6 then some (0, 0, 0, 0, 0, 0, 0, 0, 0, 0, ([] : LR), (4 : Int)) else (if (zt x7 x8) then (if (!((!x9) && ((ZZ x7 x8 x9) == (0 : Int)))) then some (0, 0, 0, 0, 0, 0, 0, 0, 0, 0, ([] : LR), (4 : Int)) else (if (decide (((((List.length b)) : Nat) : Int) > (65499 : Int))) then some (0, 0, 0, 0, 0, 0, 0, 0, 0, 0, ([] : LR), (4 : Int)) else (if (q9 x20) then (if (!(q0 x10 x11 x12 x13 x14 x15 x16 x17 x18 x19 x20)) then some (0, 0, 0, 0, 0, 0, 0, 0, 0, 0, ([] : LR), (4 : Int)) else some (x10, x11, x12, x13, x14, x15, x16, x17, x18, x19, x20, (0 : Int))) else none))) else none)))
def zi.l11 (qa : Nat) (b : List Int) (qb : LR) : Nat → LR → Int → Int → Int → Bool → (List Int) → Int → Bool → Int → Int → Int → Int → Int → Int → Int → Int → Int → Int → LR → Option (Int × Int × Int × Int × Int × Int × Int × Int × Int × Int × LR × Int)
 | 0, _, _, _, _, _, _, _, _, _, _, _, _, _, _, _, _, _, _, _ => none
 | k + 1, x2, x3, x4, x5, x6, x7, x8, x9, x10, x11, x12, x13, x14, x15, x16, x17, x18, x19, x20 => zi.b11 b qb (zi.l11 qa b qb k) x2 x3 x4 x5 x6 x7 x8 x9 x10 x11 x12 x13 x14 x15 x16 x17 x18 x19 x20
def zi.b (b : List Int) (qb : LR) (E11 : LR → Int → Int → Int → Bool → (List Int) → Int → Bool → Int → Int → Int → Int → Int → Int → Int → Int → Int → Int → LR → Option (Int × Int × Int × Int × Int × Int × Int × Int × Int × Int × LR × Int)) : Option (Int × Int × Int × Int × Int × Int × Int × Int × Int × Int × LR × Int) :=
 (if (q9 qb) then (if (!(Qp qb)) then some (0, 0, 0, 0, 0, 0, 0, 0, 0, 0, ([] : LR), (1 : Int)) else (if (inB b) then (match (veil (zO.f BIG b 0 false false)) with | none => none | some y0 => (if (y0.2.2.2.2.2.2.2.2.2.1 == (0 : Int)) then (if (qy y0.1 (4 : Int)) then (match (veil (qI.f BIG y0.2.2.2.2.2.2.2.2.2.2.2.1 y0.2.2.2.2.2.2.2.2.2.2.2.2.1 y0.2.2.2.2.2.2.2.2.2.2.2.2.2 y0.2.2.2.2.2.2.2.2.2.2.1 (255 : Int))) with | none => none | some y1 => E11 ([] : LR) y1.1 (-(1 : Int)) (0 : Int) y1.2.1 y1.2.2.1 y1.2.2.2.1 y1.2.2.2.2 y0.1 y0.2.1 y0.2.2.1 y0.2.2.2.1 y0.2.2.2.2.1 y0.2.2.2.2.2.1 y0.2.2.2.2.2.2.1 y0.2.2.2.2.2.2.2.1 y0.2.2.2.2.2.2.2.2.1 y0.2.2.2.2.2.2.2.2.2.1 ([] : LR)) else (if y0.2.2.2.2.2.2.2.2.2.2.1 then some (0, 0, 0, 0, 0, 0, 0, 0, 0, 0, ([] : LR), (4 : Int)) else (if (zt y0.2.2.2.2.2.2.2.2.2.2.2.1 y0.2.2.2.2.2.2.2.2.2.2.2.2.1) then (if (!((!y0.2.2.2.2.2.2.2.2.2.2.2.2.2) && ((ZZ y0.2.2.2.2.2.2.2.2.2.2.2.1 y0.2.2.2.2.2.2.2.2.2.2.2.2.1 y0.2.2.2.2.2.2.2.2.2.2.2.2.2) == (0 : Int)))) then some (0, 0, 0, 0, 0, 0, 0, 0, 0, 0, ([] : LR), (4 : Int)) else (if (decide (((((List.length b)) : Nat) : Int) > (65499 : Int))) then some (0, 0, 0, 0, 0, 0, 0, 0, 0, 0, ([] : LR), (4 : Int)) else (if (!(q0 y0.1 y0.2.1 y0.2.2.1 y0.2.2.2.1 y0.2.2.2.2.1 y0.2.2.2.2.2.1 y0.2.2.2.2.2.2.1 y0.2.2.2.2.2.2.2.1 y0.2.2.2.2.2.2.2.2.1 y0.2.2.2.2.2.2.2.2.2.1 ([] : LR))) then some (0, 0, 0, 0, 0, 0, 0, 0, 0, 0, ([] : LR), (4 : Int)) else some (y0.1, y0.2.1, y0.2.2.1, y0.2.2.2.1, y0.2.2.2.2.1, y0.2.2.2.2.2.1, y0.2.2.2.2.2.2.1, y0.2.2.2.2.2.2.2.1, y0.2.2.2.2.2.2.2.2.1, y0.2.2.2.2.2.2.2.2.2.1, ([] : LR), (0 : Int))))) else none))) else (if (qy y0.1 (4 : Int)) then (match (veil (qI.f BIG y0.2.2.2.2.2.2.2.2.2.2.2.1 y0.2.2.2.2.2.2.2.2.2.2.2.2.1 y0.2.2.2.2.2.2.2.2.2.2.2.2.2 y0.2.2.2.2.2.2.2.2.2.2.1 (255 : Int))) with | none => none | some y22 => E11 qb y22.1 (-(1 : Int)) (0 : Int) y22.2.1 y22.2.2.1 y22.2.2.2.1 y22.2.2.2.2 y0.1 y0.2.1 y0.2.2.1 y0.2.2.2.1 y0.2.2.2.2.1 y0.2.2.2.2.2.1 y0.2.2.2.2.2.2.1 y0.2.2.2.2.2.2.2.1 y0.2.2.2.2.2.2.2.2.1 y0.2.2.2.2.2.2.2.2.2.1 ([] : LR)) else (if y0.2.2.2.2.2.2.2.2.2.2.1 then some (0, 0, 0, 0, 0, 0, 0, 0, 0, 0, ([] : LR), (4 : Int)) else (if (zt y0.2.2.2.2.2.2.2.2.2.2.2.1 y0.2.2.2.2.2.2.2.2.2.2.2.2.1) then (if (!((!y0.2.2.2.2.2.2.2.2.2.2.2.2.2) && ((ZZ y0.2.2.2.2.2.2.2.2.2.2.2.1 y0.2.2.2.2.2.2.2.2.2.2.2.2.1 y0.2.2.2.2.2.2.2.2.2.2.2.2.2) == (0 : Int)))) then some (0, 0, 0, 0, 0, 0, 0, 0, 0, 0, ([] : LR), (4 : Int)) else (if (decide (((((List.length b)) : Nat) : Int) > (65499 : Int))) then some (0, 0, 0, 0, 0, 0, 0, 0, 0, 0, ([] : LR), (4 : Int)) else (if (!(q0 y0.1 y0.2.1 y0.2.2.1 y0.2.2.2.1 y0.2.2.2.2.1 y0.2.2.2.2.2.1 y0.2.2.2.2.2.2.1 y0.2.2.2.2.2.2.2.1 y0.2.2.2.2.2.2.2.2.1 y0.2.2.2.2.2.2.2.2.2.1 ([] : LR))) then some (0, 0, 0, 0, 0, 0, 0, 0, 0, 0, ([] : LR), (4 : Int)) else some (y0.1, y0.2.1, y0.2.2.1, y0.2.2.2.1, y0.2.2.2.2.1, y0.2.2.2.2.2.1, y0.2.2.2.2.2.2.1, y0.2.2.2.2.2.2.2.1, y0.2.2.2.2.2.2.2.2.1, y0.2.2.2.2.2.2.2.2.2.1, ([] : LR), (0 : Int))))) else none))))) else none)) else none)
def zi.f (qa : Nat) (b : List Int) (qb : LR) : Option (Int × Int × Int × Int × Int × Int × Int × Int × Int × Int × LR × Int) := zi.b b qb (zi.l11 qa b qb qa)
theorem zi.l11_eq (qa : Nat) (b : List Int) (qb : LR) : ∀ k : Nat, zi.p11 qa b qb k = zi.l11 qa b qb k
 | 0 => by kernel_rfl
 | k + 1 => by
  refine Eq.trans (b := zi.b11 b qb (zi.p11 qa b qb k)) (by kernel_rfl) ?_
  rw [zi.l11_eq qa b qb k]
  kernel_rfl
theorem zi.eq (qa : Nat) (b : List Int) (qb : LR) : (denF qfe loopN qa Tryz.f65 [.dat (.pair tQi (.pair tQi (.pair tQi (.pair (.pair tQi tQi) (.pair tQi (.pair tQi (.pair tQi (.pair tQi (.pair tQi (.sl tQr)))))))))) true, .raw] [.d (.sl (.int .u8)) b, .d (.sl tQr) qb] [] zi.k) = zi.f qa b qb := by
 refine Eq.trans (b := zi.b b qb (zi.p11 qa b qb qa)) (by kernel_rfl) ?_
 rw [zi.l11_eq qa b qb qa]
 kernel_rfl
def Zv : Den.Sum := ⟨[.dat (.sl (.int .u8)) false, .dat (.sl tQr) false], fun qK qn κ => match qK, qn with
 | [.d (.sl (.int .u8)) b, .d (.sl (.pair (.int .i64) (.pair (.int .i64) (.pair (.int .i64) (.pair (.pair (.int .i64) (.int .i64)) (.pair .bool (.sl (.pair (.int .i64) (.sl (.int .u8)))))))))) qb], [] => (match veil (zi.f BIG b qb) with | none => none | some y => κ [.agg [.d (.int .i64) y.1, .d (.int .i64) y.2.1, .d (.int .i64) y.2.2.1, .d (.int .i64) y.2.2.2.1, .d (.int .i64) y.2.2.2.2.1, .d (.int .i64) y.2.2.2.2.2.1, .d (.int .i64) y.2.2.2.2.2.2.1, .d (.int .i64) y.2.2.2.2.2.2.2.1, .d (.int .i64) y.2.2.2.2.2.2.2.2.1, .d (.int .i64) y.2.2.2.2.2.2.2.2.2.1, .d (.sl (.pair (.int .i64) (.pair (.int .i64) (.pair (.int .i64) (.pair (.pair (.int .i64) (.int .i64)) (.pair .bool (.sl (.pair (.int .i64) (.sl (.int .u8)))))))))) y.2.2.2.2.2.2.2.2.2.2.1], .d (.int .i64) y.2.2.2.2.2.2.2.2.2.2.2] [])
 | _, _ => none⟩
theorem qdq : SumDet Zv := zj fun _ _ _ _ => by
 unfold Zv
 simp only [veil_eq]
 split
 ·split <;> rfl
 ·rfl
theorem qdN : SumOk Tryz.prog 65 Zv := by
 have hE : EnvOk Tryz.prog qfe := env_ok (l := [(76, QK), (96, qaF), (41, qah), (51, qaS), (74, ZF), (98, zQ), (99, Z3), (86, qcX)]) th_ok qZ ⟨⟨qat, qad⟩, ⟨qeU, qeb⟩, ⟨qb0, qbl⟩, ⟨qdR, qdb⟩, ⟨qgl, qfZ⟩, ⟨qap, qae⟩, ⟨qhd, qgR⟩, ⟨qih, qhf⟩, trivial⟩ _
 refine sum_ok hE Tryz.func65 rfl (by kernel_rfl) Zv [.dat (.pair tQi (.pair tQi (.pair tQi (.pair (.pair tQi tQi) (.pair tQi (.pair tQi (.pair tQi (.pair tQi (.pair tQi (.sl tQr)))))))))) true, .raw] zi.k ?_
 intro R avs qn κ r h
 unfold Zv at h
 simp only [veil_eq] at h
 split at h
 ·rename_i b qb
  split at h
  ·cases h
  ·rename_i y hy
   refine ⟨BIG, _, _, _, (zi.eq BIG b qb).trans hy, ?_, h⟩
   intro rs ros hk
   unfold zi.k at hk
   split at hk
   ·rw [← sj hk]; exact ⟨rfl, rfl⟩
   ·cases hk
 ·cases h
def qj1 : Env := ⟨th, gam [(64, Zu), (65, Zv), (56, Zs), (58, Zr), (60, Zq), (62, Zp)], fun i => ⟨[], [], []⟩⟩
def qc9 : Den.Sum := inl qj1 BIG Tryz.f35 [.raw] [.raw, .raw]
theorem qgy : EnvOk Tryz.prog qj1 := env_ok (l := [(64, Zu), (65, Zv), (56, Zs), (58, Zr), (60, Zq), (62, Zp)]) th_ok qZ ⟨⟨qdM, qdp⟩, ⟨qdN, qdq⟩, ⟨qdI, qdn⟩, ⟨qdH, qdm⟩, ⟨qdG, qdl⟩, ⟨qdF, qdk⟩, trivial⟩ _
theorem qgG : SumDet qc9 := inl_det qgy.D _ _ _ _
theorem qhL : SumOk Tryz.prog 35 qc9 := inl_ok qgy Tryz.func35 rfl (by kernel_rfl) _ _ _
def qgz : Env := ⟨th, gam [(64, Zu), (65, Zv), (35, qc9), (56, Zs), (58, Zr), (60, Zq), (62, Zp)], fun i => ⟨[], [], []⟩⟩
def zU.k (rs : List AV) (os : List Den.Obj) : Option ((List Int) × Int) :=
 match rs, os with
 | [.d (.sl (.int .u8)) r0, .d (.int .i64) r1], [] => some (r0, r1)
 | _, _ => none
def zU.b (gen qj qs qH qe qf qG qg qr ql qq : Int) (qh qb : LR) : Option ((List Int) × Int) :=
 (if (gen == (1 : Int)) then (match (veil (ZC.f BIG qj qs qH qe qf qG qg qr ql qq qh qb)) with | none => none | some y0 => some (y0.1, y0.2)) else (if (gen == (2 : Int)) then (match (veil (ZA.f BIG qj qs qH qe qf qG qg qr ql qq qh qb)) with | none => none | some y1 => some (y1.1, y1.2)) else (if (gen == (3 : Int)) then (match (veil (Zc.f BIG qj qs qH qe qf qG qg qr ql qq qh qb)) with | none => none | some y2 => some (y2.1, y2.2)) else some (([] : List Int), (5 : Int)))))
def zU.f (qa : Nat) (gen qj qs qH qe qf qG qg qr ql qq : Int) (qh qb : LR) : Option ((List Int) × Int) := zU.b gen qj qs qH qe qf qG qg qr ql qq qh qb
theorem zU.eq (qa : Nat) (gen qj qs qH qe qf qG qg qr ql qq : Int) (qh qb : LR) : (denF qgz loopN qa Tryz.f29 [.dat (.sl (.int .u8)) false, .raw] [.d tQi gen, .agg [.d tQi qj, .d tQi qs, .d tQi qH, .d tQi qe, .d tQi qf, .d tQi qG, .d tQi qg, .d tQi qr, .d tQi ql, .d tQi qq, .d (.sl tQr) qh], .d (.sl tQr) qb] [] zU.k) = zU.f qa gen qj qs qH qe qf qG qg qr ql qq qh qb := by
 kernel_rfl
def qaE : Den.Sum := ⟨[.raw, .dat (.pair tQi (.pair tQi (.pair tQi (.pair (.pair tQi tQi) (.pair tQi (.pair tQi (.pair tQi (.pair tQi (.pair tQi (.sl tQr)))))))))) true, .dat (.sl tQr) false], fun qK qn κ => match qK, qn with
 | [.d (.int .i64) gen, .agg [.d (.int .i64) qj, .d (.int .i64) qs, .d (.int .i64) qH, .d (.int .i64) qe, .d (.int .i64) qf, .d (.int .i64) qG, .d (.int .i64) qg, .d (.int .i64) qr, .d (.int .i64) ql, .d (.int .i64) qq, .d (.sl (.pair (.int .i64) (.pair (.int .i64) (.pair (.int .i64) (.pair (.pair (.int .i64) (.int .i64)) (.pair .bool (.sl (.pair (.int .i64) (.sl (.int .u8)))))))))) qh], .d (.sl (.pair (.int .i64) (.pair (.int .i64) (.pair (.int .i64) (.pair (.pair (.int .i64) (.int .i64)) (.pair .bool (.sl (.pair (.int .i64) (.sl (.int .u8)))))))))) qb], [] => (match veil (zU.f BIG gen qj qs qH qe qf qG qg qr ql qq qh qb) with | none => none | some y => κ [.d (.sl (.int .u8)) y.1, .d (.int .i64) y.2] [])
 | _, _ => none⟩
theorem qic : SumDet qaE := zj fun _ _ _ _ => by
 unfold qaE
 simp only [veil_eq]
 split
 ·split <;> rfl
 ·rfl
theorem qiT : SumOk Tryz.prog 29 qaE := by
 have hE : EnvOk Tryz.prog qgz := env_ok (l := [(64, Zu), (65, Zv), (35, qc9), (56, Zs), (58, Zr), (60, Zq), (62, Zp)]) th_ok qZ ⟨⟨qdM, qdp⟩, ⟨qdN, qdq⟩, ⟨qhL, qgG⟩, ⟨qdI, qdn⟩, ⟨qdH, qdm⟩, ⟨qdG, qdl⟩, ⟨qdF, qdk⟩, trivial⟩ _
 refine sum_ok hE Tryz.func29 rfl (by kernel_rfl) qaE [.dat (.sl (.int .u8)) false, .raw] zU.k ?_
 intro R avs qn κ r h
 unfold qaE at h
 simp only [veil_eq] at h
 split at h
 ·rename_i gen qj qs qH qe qf qG qg qr ql qq qh qb
  split at h
  ·cases h
  ·rename_i y hy
   refine ⟨BIG, _, _, _, (zU.eq BIG gen qj qs qH qe qf qG qg qr ql qq qh qb).trans hy, ?_, h⟩
   intro rs ros hk
   unfold zU.k at hk
   split at hk
   ·rw [← sj hk]; exact ⟨rfl, rfl⟩
   ·cases hk
 ·cases h
def qgA : Env := ⟨th, gam [(64, Zu), (65, Zv), (35, qc9), (56, Zs), (58, Zr), (60, Zq), (62, Zp)], fun i => ⟨[], [], []⟩⟩
def zV.k (rs : List AV) (os : List Den.Obj) : Option (Int × Int × Int × Int × Int × Int × Int × Int × Int × Int × LR × Int) :=
 match rs, os with
 | [.agg [.d (.int .i64) r0, .d (.int .i64) r1, .d (.int .i64) r2, .d (.int .i64) r3, .d (.int .i64) r4, .d (.int .i64) r5, .d (.int .i64) r6, .d (.int .i64) r7, .d (.int .i64) r8, .d (.int .i64) r9, .d (.sl (.pair (.int .i64) (.pair (.int .i64) (.pair (.int .i64) (.pair (.pair (.int .i64) (.int .i64)) (.pair .bool (.sl (.pair (.int .i64) (.sl (.int .u8)))))))))) r10], .d (.int .i64) r11], [] => some (r0, r1, r2, r3, r4, r5, r6, r7, r8, r9, r10, r11)
 | _, _ => none
def zV.b (gen : Int) (b : List Int) (qb : LR) : Option (Int × Int × Int × Int × Int × Int × Int × Int × Int × Int × LR × Int) :=
 (if (gen == (1 : Int)) then (match (veil (ZB.f BIG b qb)) with | none => none | some y0 => some (y0.1, y0.2.1, y0.2.2.1, y0.2.2.2.1, y0.2.2.2.2.1, y0.2.2.2.2.2.1, y0.2.2.2.2.2.2.1, y0.2.2.2.2.2.2.2.1, y0.2.2.2.2.2.2.2.2.1, y0.2.2.2.2.2.2.2.2.2.1, y0.2.2.2.2.2.2.2.2.2.2.1, y0.2.2.2.2.2.2.2.2.2.2.2)) else (if (gen == (2 : Int)) then (match (veil (Zz.f BIG b qb)) with | none => none | some y1 => some (y1.1, y1.2.1, y1.2.2.1, y1.2.2.2.1, y1.2.2.2.2.1, y1.2.2.2.2.2.1, y1.2.2.2.2.2.2.1, y1.2.2.2.2.2.2.2.1, y1.2.2.2.2.2.2.2.2.1, y1.2.2.2.2.2.2.2.2.2.1, y1.2.2.2.2.2.2.2.2.2.2.1, y1.2.2.2.2.2.2.2.2.2.2.2)) else (if (gen == (3 : Int)) then (match (veil (zi.f BIG b qb)) with | none => none | some y2 => some (y2.1, y2.2.1, y2.2.2.1, y2.2.2.2.1, y2.2.2.2.2.1, y2.2.2.2.2.2.1, y2.2.2.2.2.2.2.1, y2.2.2.2.2.2.2.2.1, y2.2.2.2.2.2.2.2.2.1, y2.2.2.2.2.2.2.2.2.2.1, y2.2.2.2.2.2.2.2.2.2.2.1, y2.2.2.2.2.2.2.2.2.2.2.2)) else some (0, 0, 0, 0, 0, 0, 0, 0, 0, 0, ([] : LR), (5 : Int)))))
def zV.f (qa : Nat) (gen : Int) (b : List Int) (qb : LR) : Option (Int × Int × Int × Int × Int × Int × Int × Int × Int × Int × LR × Int) := zV.b gen b qb
theorem zV.eq (qa : Nat) (gen : Int) (b : List Int) (qb : LR) : (denF qgA loopN qa Tryz.f19 [.dat (.pair tQi (.pair tQi (.pair tQi (.pair (.pair tQi tQi) (.pair tQi (.pair tQi (.pair tQi (.pair tQi (.pair tQi (.sl tQr)))))))))) true, .raw] [.d tQi gen, .d (.sl (.int .u8)) b, .d (.sl tQr) qb] [] zV.k) = zV.f qa gen b qb := by
 kernel_rfl
def ZU : Den.Sum := ⟨[.raw, .dat (.sl (.int .u8)) false, .dat (.sl tQr) false], fun qK qn κ => match qK, qn with
 | [.d (.int .i64) gen, .d (.sl (.int .u8)) b, .d (.sl (.pair (.int .i64) (.pair (.int .i64) (.pair (.int .i64) (.pair (.pair (.int .i64) (.int .i64)) (.pair .bool (.sl (.pair (.int .i64) (.sl (.int .u8)))))))))) qb], [] => (match veil (zV.f BIG gen b qb) with | none => none | some y => κ [.agg [.d (.int .i64) y.1, .d (.int .i64) y.2.1, .d (.int .i64) y.2.2.1, .d (.int .i64) y.2.2.2.1, .d (.int .i64) y.2.2.2.2.1, .d (.int .i64) y.2.2.2.2.2.1, .d (.int .i64) y.2.2.2.2.2.2.1, .d (.int .i64) y.2.2.2.2.2.2.2.1, .d (.int .i64) y.2.2.2.2.2.2.2.2.1, .d (.int .i64) y.2.2.2.2.2.2.2.2.2.1, .d (.sl (.pair (.int .i64) (.pair (.int .i64) (.pair (.int .i64) (.pair (.pair (.int .i64) (.int .i64)) (.pair .bool (.sl (.pair (.int .i64) (.sl (.int .u8)))))))))) y.2.2.2.2.2.2.2.2.2.2.1], .d (.int .i64) y.2.2.2.2.2.2.2.2.2.2.2] [])
 | _, _ => none⟩
theorem qeY : SumDet ZU := zj fun _ _ _ _ => by
 unfold ZU
 simp only [veil_eq]
 split
 ·split <;> rfl
 ·rfl
theorem qfg : SumOk Tryz.prog 19 ZU := by
 have hE : EnvOk Tryz.prog qgA := env_ok (l := [(64, Zu), (65, Zv), (35, qc9), (56, Zs), (58, Zr), (60, Zq), (62, Zp)]) th_ok qZ ⟨⟨qdM, qdp⟩, ⟨qdN, qdq⟩, ⟨qhL, qgG⟩, ⟨qdI, qdn⟩, ⟨qdH, qdm⟩, ⟨qdG, qdl⟩, ⟨qdF, qdk⟩, trivial⟩ _
 refine sum_ok hE Tryz.func19 rfl (by kernel_rfl) ZU [.dat (.pair tQi (.pair tQi (.pair tQi (.pair (.pair tQi tQi) (.pair tQi (.pair tQi (.pair tQi (.pair tQi (.pair tQi (.sl tQr)))))))))) true, .raw] zV.k ?_
 intro R avs qn κ r h
 unfold ZU at h
 simp only [veil_eq] at h
 split at h
 ·rename_i gen b qb
  split at h
  ·cases h
  ·rename_i y hy
   refine ⟨BIG, _, _, _, (zV.eq BIG gen b qb).trans hy, ?_, h⟩
   intro rs ros hk
   unfold zV.k at hk
   split at hk
   ·rw [← sj hk]; exact ⟨rfl, rfl⟩
   ·cases hk
 ·cases h
def qkb : Env := ⟨th, gam [(33, qdJ)], fun i => ⟨[], [], []⟩⟩
def ZQ.k (rs : List AV) (os : List Den.Obj) : Option Bool :=
 match rs, os with
 | [.d .bool r0], [] => some r0
 | _, _ => none
def ZQ.b (sLo sHi gen : Int) : Option Bool :=
 (if (okS sLo sHi) then (if (decide (sLo ≤ gen)) then some ((decide (gen ≤ sHi))) else some (false)) else some (false))
def ZQ.f (qa : Nat) (sLo sHi gen : Int) : Option Bool := ZQ.b sLo sHi gen
theorem ZQ.eq (qa : Nat) (sLo sHi gen : Int) : (denF qkb loopN qa Tryz.f12 [.raw] [.agg [.d tQi sLo, .d tQi sHi], .d tQi gen] [] ZQ.k) = ZQ.f qa sLo sHi gen := by
 kernel_rfl
def qcm : Den.Sum := ⟨[.dat (.pair tQi tQi) true, .raw], fun qK qn κ => match qK, qn with
 | [.agg [.d (.int .i64) sLo, .d (.int .i64) sHi], .d (.int .i64) gen], [] => (match veil (ZQ.f BIG sLo sHi gen) with | none => none | some y => κ [.d .bool y] [])
 | _, _ => none⟩
theorem qlk : SumDet qcm := zj fun _ _ _ _ => by
 unfold qcm
 simp only [veil_eq]
 split
 ·split <;> rfl
 ·rfl
theorem qmo : SumOk Tryz.prog 12 qcm := by
 have hE : EnvOk Tryz.prog qkb := env_ok (l := [(33, qdJ)]) th_ok qZ ⟨⟨qgI, qfB⟩, trivial⟩ _
 refine sum_ok hE Tryz.func12 rfl (by kernel_rfl) qcm [.raw] ZQ.k ?_
 intro R avs qn κ r h
 unfold qcm at h
 simp only [veil_eq] at h
 split at h
 ·rename_i sLo sHi gen
  split at h
  ·cases h
  ·rename_i y hy
   refine ⟨BIG, _, _, _, (ZQ.eq BIG sLo sHi gen).trans hy, ?_, h⟩
   intro rs ros hk
   unfold ZQ.k at hk
   split at hk
   ·rw [← sj hk]; exact ⟨rfl, rfl⟩
   ·cases hk
 ·cases h
def qim : Env := ⟨th, gam [], fun i => ⟨[], [], []⟩⟩
def QM.k (rs : List AV) (os : List Den.Obj) : Option Bool :=
 match rs, os with
 | [.d .bool r0], [] => some r0
 | _, _ => none
def QM.b (qk : Int) : Option Bool :=
 (if (decide (qk ≥ (1 : Int))) then some ((decide (qk ≤ (3 : Int)))) else some (false))
def QM.f (qa : Nat) (qk : Int) : Option Bool := QM.b qk
theorem QM.eq (qa : Nat) (qk : Int) : (denF qim loopN qa Tryz.f13 [.raw] [.d tQi qk] [] QM.k) = QM.f qa qk := by
 kernel_rfl
def qau : Den.Sum := ⟨[.raw], fun qK qn κ => match qK, qn with
 | [.d (.int .i64) qk], [] => (match veil (QM.f BIG qk) with | none => none | some y => κ [.d .bool y] [])
 | _, _ => none⟩
theorem qfI : SumDet qau := zj fun _ _ _ _ => by
 unfold qau
 simp only [veil_eq]
 split
 ·split <;> rfl
 ·rfl
theorem qf5 : SumOk Tryz.prog 13 qau := by
 have hE : EnvOk Tryz.prog qim := env_ok (l := []) th_ok qZ trivial _
 refine sum_ok hE Tryz.func13 rfl (by kernel_rfl) qau [.raw] QM.k ?_
 intro R avs qn κ r h
 unfold qau at h
 simp only [veil_eq] at h
 split at h
 ·rename_i qk
  split at h
  ·cases h
  ·rename_i y hy
   refine ⟨BIG, _, _, _, (QM.eq BIG qk).trans hy, ?_, h⟩
   intro rs ros hk
   unfold QM.k at hk
   split at hk
   ·rw [← sj hk]; exact ⟨rfl, rfl⟩
   ·cases hk
 ·cases h
def qef : Env := ⟨th, gam [(19, ZU)], fun i => ⟨[], [], []⟩⟩
def zK.k (rs : List AV) (os : List Den.Obj) : Option (Int × Int × Int × Int × Int × Int × Int × Int × Int × Int × LR × Int) :=
 match rs, os with
 | [.agg [.d (.int .i64) r0, .d (.int .i64) r1, .d (.int .i64) r2, .d (.int .i64) r3, .d (.int .i64) r4, .d (.int .i64) r5, .d (.int .i64) r6, .d (.int .i64) r7, .d (.int .i64) r8, .d (.int .i64) r9, .d (.sl (.pair (.int .i64) (.pair (.int .i64) (.pair (.int .i64) (.pair (.pair (.int .i64) (.int .i64)) (.pair .bool (.sl (.pair (.int .i64) (.sl (.int .u8)))))))))) r10], .d (.int .i64) r11], [] => some (r0, r1, r2, r3, r4, r5, r6, r7, r8, r9, r10, r11)
 | _, _ => none
def zK.b (Zl Zm ZY QG QH ZX QF Zk Q1 Q9 : Int) (Zj : LR) (qcg : Int) (qaY : List Int) (qb : LR) : Option (Int × Int × Int × Int × Int × Int × Int × Int × Int × Int × LR × Int) :=
 (match (veil (zV.f BIG qcg qaY qb)) with | none => none | some y0 => some (y0.1, y0.2.1, y0.2.2.1, y0.2.2.2.1, y0.2.2.2.2.1, y0.2.2.2.2.2.1, y0.2.2.2.2.2.2.1, y0.2.2.2.2.2.2.2.1, y0.2.2.2.2.2.2.2.2.1, y0.2.2.2.2.2.2.2.2.2.1, y0.2.2.2.2.2.2.2.2.2.2.1, y0.2.2.2.2.2.2.2.2.2.2.2))
def zK.f (qa : Nat) (Zl Zm ZY QG QH ZX QF Zk Q1 Q9 : Int) (Zj : LR) (qcg : Int) (qaY : List Int) (qb : LR) : Option (Int × Int × Int × Int × Int × Int × Int × Int × Int × Int × LR × Int) := zK.b Zl Zm ZY QG QH ZX QF Zk Q1 Q9 Zj qcg qaY qb
theorem zK.eq (qa : Nat) (Zl Zm ZY QG QH ZX QF Zk Q1 Q9 : Int) (Zj : LR) (qcg : Int) (qaY : List Int) (qb : LR) : (denF qef loopN qa Tryz.f14 [.dat (.pair tQi (.pair tQi (.pair tQi (.pair (.pair tQi tQi) (.pair tQi (.pair tQi (.pair tQi (.pair tQi (.pair tQi (.sl tQr)))))))))) true, .raw] [.agg [.d tQi Zl, .d tQi Zm, .d tQi ZY, .d tQi QG, .d tQi QH, .d tQi ZX, .d tQi QF, .d tQi Zk, .d tQi Q1, .d tQi Q9, .d (.sl tQr) Zj, .d tQi qcg, .d (.sl (.int .u8)) qaY], .d (.sl tQr) qb] [] zK.k) = zK.f qa Zl Zm ZY QG QH ZX QF Zk Q1 Q9 Zj qcg qaY qb := by
 kernel_rfl
def Qm : Den.Sum := ⟨[.dat (.pair (.pair tQi (.pair tQi (.pair tQi (.pair (.pair tQi tQi) (.pair tQi (.pair tQi (.pair tQi (.pair tQi (.pair tQi (.sl tQr)))))))))) (.pair tQi (.sl (.int .u8)))) true, .dat (.sl tQr) false], fun qK qn κ => match qK, qn with
 | [.agg [.d (.int .i64) Zl, .d (.int .i64) Zm, .d (.int .i64) ZY, .d (.int .i64) QG, .d (.int .i64) QH, .d (.int .i64) ZX, .d (.int .i64) QF, .d (.int .i64) Zk, .d (.int .i64) Q1, .d (.int .i64) Q9, .d (.sl (.pair (.int .i64) (.pair (.int .i64) (.pair (.int .i64) (.pair (.pair (.int .i64) (.int .i64)) (.pair .bool (.sl (.pair (.int .i64) (.sl (.int .u8)))))))))) Zj, .d (.int .i64) qcg, .d (.sl (.int .u8)) qaY], .d (.sl (.pair (.int .i64) (.pair (.int .i64) (.pair (.int .i64) (.pair (.pair (.int .i64) (.int .i64)) (.pair .bool (.sl (.pair (.int .i64) (.sl (.int .u8)))))))))) qb], [] => (match veil (zK.f BIG Zl Zm ZY QG QH ZX QF Zk Q1 Q9 Zj qcg qaY qb) with | none => none | some y => κ [.agg [.d (.int .i64) y.1, .d (.int .i64) y.2.1, .d (.int .i64) y.2.2.1, .d (.int .i64) y.2.2.2.1, .d (.int .i64) y.2.2.2.2.1, .d (.int .i64) y.2.2.2.2.2.1, .d (.int .i64) y.2.2.2.2.2.2.1, .d (.int .i64) y.2.2.2.2.2.2.2.1, .d (.int .i64) y.2.2.2.2.2.2.2.2.1, .d (.int .i64) y.2.2.2.2.2.2.2.2.2.1, .d (.sl (.pair (.int .i64) (.pair (.int .i64) (.pair (.int .i64) (.pair (.pair (.int .i64) (.int .i64)) (.pair .bool (.sl (.pair (.int .i64) (.sl (.int .u8)))))))))) y.2.2.2.2.2.2.2.2.2.2.1], .d (.int .i64) y.2.2.2.2.2.2.2.2.2.2.2] [])
 | _, _ => none⟩
theorem qbw : SumDet Qm := zj fun _ _ _ _ => by
 unfold Qm
 simp only [veil_eq]
 split
 ·split <;> rfl
 ·rfl
theorem qbH : SumOk Tryz.prog 14 Qm := by
 have hE : EnvOk Tryz.prog qef := env_ok (l := [(19, ZU)]) th_ok qZ ⟨⟨qfg, qeY⟩, trivial⟩ _
 refine sum_ok hE Tryz.func14 rfl (by kernel_rfl) Qm [.dat (.pair tQi (.pair tQi (.pair tQi (.pair (.pair tQi tQi) (.pair tQi (.pair tQi (.pair tQi (.pair tQi (.pair tQi (.sl tQr)))))))))) true, .raw] zK.k ?_
 intro R avs qn κ r h
 unfold Qm at h
 simp only [veil_eq] at h
 split at h
 ·rename_i Zl Zm ZY QG QH ZX QF Zk Q1 Q9 Zj qcg qaY qb
  split at h
  ·cases h
  ·rename_i y hy
   refine ⟨BIG, _, _, _, (zK.eq BIG Zl Zm ZY QG QH ZX QF Zk Q1 Q9 Zj qcg qaY qb).trans hy, ?_, h⟩
   intro rs ros hk
   unfold zK.k at hk
   split at hk
   ·rw [← sj hk]; exact ⟨rfl, rfl⟩
   ·cases hk
 ·cases h
def qdX : Env := ⟨th, gam [], fun i => ⟨[], [], []⟩⟩
def Qe.k (rs : List AV) (os : List Den.Obj) : Option Bool :=
 match rs, os with
 | [.d .bool r0], [] => some r0
 | _, _ => none
def Qe.b (Zl Zm ZY QG QH ZX QF Zk Q1 Q9 : Int) (Zj : LR) (qcg : Int) (qaY : List Int) : Option Bool :=
 some ((Q9 != (0 : Int)))
def Qe.f (qa : Nat) (Zl Zm ZY QG QH ZX QF Zk Q1 Q9 : Int) (Zj : LR) (qcg : Int) (qaY : List Int) : Option Bool := Qe.b Zl Zm ZY QG QH ZX QF Zk Q1 Q9 Zj qcg qaY
theorem Qe.eq (qa : Nat) (Zl Zm ZY QG QH ZX QF Zk Q1 Q9 : Int) (Zj : LR) (qcg : Int) (qaY : List Int) : (denF qdX loopN qa Tryz.f18 [.raw] [.agg [.d tQi Zl, .d tQi Zm, .d tQi ZY, .d tQi QG, .d tQi QH, .d tQi ZX, .d tQi QF, .d tQi Zk, .d tQi Q1, .d tQi Q9, .d (.sl tQr) Zj, .d tQi qcg, .d (.sl (.int .u8)) qaY]] [] Qe.k) = Qe.f qa Zl Zm ZY QG QH ZX QF Zk Q1 Q9 Zj qcg qaY := by
 kernel_rfl
def QA : Den.Sum := ⟨[.dat (.pair (.pair tQi (.pair tQi (.pair tQi (.pair (.pair tQi tQi) (.pair tQi (.pair tQi (.pair tQi (.pair tQi (.pair tQi (.sl tQr)))))))))) (.pair tQi (.sl (.int .u8)))) true], fun qK qn κ => match qK, qn with
 | [.agg [.d (.int .i64) Zl, .d (.int .i64) Zm, .d (.int .i64) ZY, .d (.int .i64) QG, .d (.int .i64) QH, .d (.int .i64) ZX, .d (.int .i64) QF, .d (.int .i64) Zk, .d (.int .i64) Q1, .d (.int .i64) Q9, .d (.sl (.pair (.int .i64) (.pair (.int .i64) (.pair (.int .i64) (.pair (.pair (.int .i64) (.int .i64)) (.pair .bool (.sl (.pair (.int .i64) (.sl (.int .u8)))))))))) Zj, .d (.int .i64) qcg, .d (.sl (.int .u8)) qaY]], [] => (match veil (Qe.f BIG Zl Zm ZY QG QH ZX QF Zk Q1 Q9 Zj qcg qaY) with | none => none | some y => κ [.d .bool y] [])
 | _, _ => none⟩
theorem qcF : SumDet QA := zj fun _ _ _ _ => by
 unfold QA
 simp only [veil_eq]
 split
 ·split <;> rfl
 ·rfl
theorem qcU : SumOk Tryz.prog 18 QA := by
 have hE : EnvOk Tryz.prog qdX := env_ok (l := []) th_ok qZ trivial _
 refine sum_ok hE Tryz.func18 rfl (by kernel_rfl) QA [.raw] Qe.k ?_
 intro R avs qn κ r h
 unfold QA at h
 simp only [veil_eq] at h
 split at h
 ·rename_i Zl Zm ZY QG QH ZX QF Zk Q1 Q9 Zj qcg qaY
  split at h
  ·cases h
  ·rename_i y hy
   refine ⟨BIG, _, _, _, (Qe.eq BIG Zl Zm ZY QG QH ZX QF Zk Q1 Q9 Zj qcg qaY).trans hy, ?_, h⟩
   intro rs ros hk
   unfold Qe.k at hk
   split at hk
   ·rw [← sj hk]; exact ⟨rfl, rfl⟩
   ·cases hk
 ·cases h
def qhB : Env := ⟨th, gam [], fun i => if i = 2 then ⟨[0, 7, 8, 9], [], []⟩ else ⟨[], [], []⟩⟩
def zu.k (rs : List AV) (os : List Den.Obj) : Option Int :=
 match rs, os with
 | [.d (.int .u32) r0], [] => some r0
 | _, _ => none
def zu.s2 (reg : Int) (b : List Int) (x0 x1 x2 : Int) : St := ⟨[.d (.int .u32) x0, dD, dD, dD, dD, dD, dD, .d (.sl (.int .u8)) (b), .d tQi x1, .d tQi x2, dD, dD, dD, dD, dD, dD, dD, dD, dD, dD, dD, dD, dD, dD, dD, dD, dD, dD, dD, dD, dD, dD, dD, dD, dD, dD, .dead], ofL [], 0⟩
def zu.p2 (qa : Nat) (reg : Int) (b : List Int) (k : Nat) := fun x0 x1 x2 => lp qhB qa Tryz.f72 [.raw] 0 zu.k 2 [] k (zu.s2 reg b x0 x1 x2)
def zu.b2 (reg : Int) (b : List Int) (A2 : Int → Int → Int → Option Int) (x0 x1 x2 : Int) : Option Int :=
 (if (decide (x2 < x1)) then (match (idx b x2) with | none => none | some y3 => (match (idx halves (bits BinOp.xor .u32 (Int.fdiv x0 ((2 : Int) ^ (Min.min (Int.toNat (28 : Int)) (IntKind.bits .u32)))) (IntKind.wrap .u32 (Int.fdiv y3 ((2 : Int) ^ (Min.min (Int.toNat (4 : Int)) (IntKind.bits .u8))))))) with | none => none | some y4 => (match (idx halves (bits BinOp.xor .u32 (Int.fdiv (bits BinOp.xor .u32 (IntKind.wrap .u32 (x0 * ((2 : Int) ^ (Min.min (Int.toNat (4 : Int)) (IntKind.bits .u32))))) y4) ((2 : Int) ^ (Min.min (Int.toNat (28 : Int)) (IntKind.bits .u32)))) (IntKind.wrap .u32 (bits BinOp.and .u8 y3 (15 : Int))))) with | none => none | some y5 => A2 (bits BinOp.xor .u32 (IntKind.wrap .u32 ((bits BinOp.xor .u32 (IntKind.wrap .u32 (x0 * ((2 : Int) ^ (Min.min (Int.toNat (4 : Int)) (IntKind.bits .u32))))) y4) * ((2 : Int) ^ (Min.min (Int.toNat (4 : Int)) (IntKind.bits .u32))))) y5) x1 (IntKind.wrap .i64 (x2 + (1 : Int)))))) else some (x0))
def zu.l2 (qa : Nat) (reg : Int) (b : List Int) : Nat → Int → Int → Int → Option Int
 | 0, _, _, _ => none
 | k + 1, x0, x1, x2 => zu.b2 reg b (zu.l2 qa reg b k) x0 x1 x2
def zu.b (reg : Int) (b : List Int) (E2 : Int → Int → Int → Option Int) : Option Int :=
 E2 reg ((((List.length b)) : Nat) : Int) (0 : Int)
def zu.f (qa : Nat) (reg : Int) (b : List Int) : Option Int := zu.b reg b (zu.l2 qa reg b qa)
theorem zu.l2_eq (qa : Nat) (reg : Int) (b : List Int) : ∀ k : Nat, zu.p2 qa reg b k = zu.l2 qa reg b k
 | 0 => by kernel_rfl
 | k + 1 => by
  refine Eq.trans (b := zu.b2 reg b (zu.p2 qa reg b k)) (by kernel_rfl) ?_
  rw [zu.l2_eq qa reg b k]
  kernel_rfl
theorem zu.eq (qa : Nat) (reg : Int) (b : List Int) : (denF qhB loopN qa Tryz.f72 [.raw] [.d (.int .u32) reg, .d (.sl (.int .u8)) b] [] zu.k) = zu.f qa reg b := by
 refine Eq.trans (b := zu.b reg b (zu.p2 qa reg b qa)) (by kernel_rfl) ?_
 rw [zu.l2_eq qa reg b qa]
 kernel_rfl
theorem zu.l2_at (qa nN kK : Nat) (hN : nN = kK + 1) (reg : Int) (b : List Int) (x0 : Int) (x1 : Int) (x2 : Int) : zu.l2 qa reg b nN x0 x1 x2 = zu.b2 reg b (zu.l2 qa reg b kK) x0 x1 x2 := by
 subst hN
 rfl
def qcr : Den.Sum := ⟨[.raw, .dat (.sl (.int .u8)) false], fun qK qn κ => match qK, qn with
 | [.d (.int .u32) reg, .d (.sl (.int .u8)) b], [] => (match veil (zu.f BIG reg b) with | none => none | some y => κ [.d (.int .u32) y] [])
 | _, _ => none⟩
theorem qlw : SumDet qcr := zj fun _ _ _ _ => by
 unfold qcr
 simp only [veil_eq]
 split
 ·split <;> rfl
 ·rfl
theorem qmu : SumOk Tryz.prog 72 qcr := by
 have hE : EnvOk Tryz.prog qhB := env_ok (l := []) th_ok qZ trivial _
 refine sum_ok hE Tryz.func72 rfl (by kernel_rfl) qcr [.raw] zu.k ?_
 intro R avs qn κ r h
 unfold qcr at h
 simp only [veil_eq] at h
 split at h
 ·rename_i reg b
  split at h
  ·cases h
  ·rename_i y hy
   refine ⟨BIG, _, _, _, (zu.eq BIG reg b).trans hy, ?_, h⟩
   intro rs ros hk
   unfold zu.k at hk
   split at hk
   ·rw [← sj hk]; exact ⟨rfl, rfl⟩
   ·cases hk
 ·cases h
def qjX : Env := ⟨th, gam [(72, qcr)], fun i => if i = 3 then ⟨[3, 6, 7, 8], [], []⟩ else ⟨[], [], []⟩⟩
def zX.k (rs : List AV) (os : List Den.Obj) : Option Int :=
 match rs, os with
 | [.d (.int .u32) r0], [] => some r0
 | _, _ => none
def zX.s3 (zd : List (List Int)) (x0 : Int) (x1 : Int) (x2 : Int) : St := ⟨[dD, dD, dD, .d (.int .u32) x0, .dead, .dead, .d (.sl (.sl (.int .u8))) (zd), .d tQi x1, .d tQi x2, dD, dD, dD, dD, dD, dD, dD, dD, .dead], ofL [], 0⟩
def zX.p3 (qa : Nat) (zd : List (List Int)) (k : Nat) := fun x0 x1 x2 => lp qjX qa Tryz.f50 [.raw] 0 zX.k 3 [] k (zX.s3 zd x0 x1 x2)
def zX.b3 (zd : List (List Int)) (A3 : Int → Int → Int → Option Int) (x0 : Int) (x1 : Int) (x2 : Int) : Option Int :=
 (if (decide (x2 < x1)) then (match (idx zd x2) with | none => none | some y3 => (match (veil (zu.f BIG x0 y3)) with | none => none | some y4 => A3 y4 x1 (IntKind.wrap .i64 (x2 + (1 : Int))))) else some ((bits BinOp.xor .u32 (if (IntKind.signed .u32) then (-(1 : Int)) else (IntKind.max .u32)) x0)))
def zX.l3 (qa : Nat) (zd : List (List Int)) : Nat → Int → Int → Int → Option Int
 | 0, _, _, _ => none
 | k + 1, x0, x1, x2 => zX.b3 zd (zX.l3 qa zd k) x0 x1 x2
def zX.b (zd : List (List Int)) (E3 : Int → Int → Int → Option Int) : Option Int :=
 E3 (veil (4294967295 : Int)) ((((List.length zd)) : Nat) : Int) (0 : Int)
def zX.f (qa : Nat) (zd : List (List Int)) : Option Int := zX.b zd (zX.l3 qa zd qa)
theorem zX.l3_eq (qa : Nat) (zd : List (List Int)) : ∀ k : Nat, zX.p3 qa zd k = zX.l3 qa zd k
 | 0 => by kernel_rfl
 | k + 1 => by
  refine Eq.trans (b := zX.b3 zd (zX.p3 qa zd k)) (by kernel_rfl) ?_
  rw [zX.l3_eq qa zd k]
  kernel_rfl
theorem zX.eq (qa : Nat) (zd : List (List Int)) : (denF qjX loopN qa Tryz.f50 [.raw] [.d (.sl (.sl (.int .u8))) zd] [] zX.k) = zX.f qa zd := by
 refine Eq.trans (b := zX.b zd (zX.p3 qa zd qa)) (by kernel_rfl) ?_
 rw [zX.l3_eq qa zd qa]
 kernel_rfl
theorem zX.l3_at (qa nN kK : Nat) (hN : nN = kK + 1) (zd : List (List Int)) (x0 : Int) (x1 : Int) (x2 : Int) : zX.l3 qa zd nN x0 x1 x2 = zX.b3 zd (zX.l3 qa zd kK) x0 x1 x2 := by
 subst hN
 rfl
def qcs : Den.Sum := ⟨[.dat (.sl (.sl (.int .u8))) false], fun qK qn κ => match qK, qn with
 | [.d (.sl (.sl (.int .u8))) zd], [] => (match veil (zX.f BIG zd) with | none => none | some y => κ [.d (.int .u32) y] [])
 | _, _ => none⟩
theorem qij : SumDet qcs := zj fun _ _ _ _ => by
 unfold qcs
 simp only [veil_eq]
 split
 ·split <;> rfl
 ·rfl
theorem qjf : SumOk Tryz.prog 50 qcs := by
 have hE : EnvOk Tryz.prog qjX := env_ok (l := [(72, qcr)]) th_ok qZ ⟨⟨qmu, qlw⟩, trivial⟩ _
 refine sum_ok hE Tryz.func50 rfl (by kernel_rfl) qcs [.raw] zX.k ?_
 intro R avs qn κ r h
 unfold qcs at h
 simp only [veil_eq] at h
 split at h
 ·rename_i zd
  split at h
  ·cases h
  ·rename_i y hy
   refine ⟨BIG, _, _, _, (zX.eq BIG zd).trans hy, ?_, h⟩
   intro rs ros hk
   unfold zX.k at hk
   split at hk
   ·rw [← sj hk]; exact ⟨rfl, rfl⟩
   ·cases hk
 ·cases h
theorem qjt (n : Int) : IntKind.wrap .u32 n = n % 4294967296 := by simp [IntKind.wrap, IntKind.bits, IntKind.signed]
theorem qiL (n : Int) : IntKind.wrap .u8 n = n % 256 := by simp [IntKind.wrap, IntKind.bits, IntKind.signed]
theorem qer (a b : Nat) (ha : a < 4294967296) (hb : b < 4294967296) : bits BinOp.xor .u32 (a : Int) (b : Int) = ((a ^^^ b : Nat) : Int) := by
 show IntKind.wrap .u32 (((BitVec.ofInt 32 (a : Int) ^^^ BitVec.ofInt 32 (b : Int)).toNat : Nat) : Int) = _
 rw [BitVec.toNat_xor, BitVec.toNat_ofInt, BitVec.toNat_ofInt, qjt]
 have e1 : ((a : Int) % ((2 ^ 32 : Nat) : Int)).toNat = a := by
  rw [show ((2 ^ 32 : Nat) : Int) = 4294967296 from rfl]; omega
 have e2 : ((b : Int) % ((2 ^ 32 : Nat) : Int)).toNat = b := by
  rw [show ((2 ^ 32 : Nat) : Int) = 4294967296 from rfl]; omega
 rw [e1, e2]
 have := qj0 a b 32 ha hb
 rw [show (2 : Nat) ^ 32 = 4294967296 from rfl] at this
 omega
theorem qpp (c : Nat) (hc : c < 256) : bits BinOp.and .u8 (c : Int) 15 = ((c % 16 : Nat) : Int) := by
 have : ∀ c, c < 256 → bits BinOp.and .u8 ((c : Nat) : Int) 15 = ((c % 16 : Nat) : Int) := by decide +kernel
 exact this c hc
theorem qkV (k : Nat) (hk : k < 16) : idx halves (k : Int) = some ((hN k : Nat) : Int) := by
 have : ∀ k, k < 16 → idx halves ((k : Nat) : Int) = some ((hN k : Nat) : Int) := by decide +kernel
 exact this k hk
theorem qql (r : Nat) : Int.fdiv (r : Int) (2 ^ (Min.min (Int.toNat 28) (IntKind.bits .u32))) = ((r / 268435456 : Nat) : Int) := by
 have e : (2 : Int) ^ (Min.min (Int.toNat 28) (IntKind.bits .u32)) = 268435456 := rfl
 rw [e, Int.fdiv_eq_ediv_of_nonneg _ (by omega)]
 omega
theorem qsu (r : Nat) : Int.fdiv (r : Int) (2 ^ (Min.min (Int.toNat 4) (IntKind.bits .u8))) = ((r / 16 : Nat) : Int) := by
 have e : (2 : Int) ^ (Min.min (Int.toNat 4) (IntKind.bits .u8)) = 16 := rfl
 rw [e, Int.fdiv_eq_ediv_of_nonneg _ (by omega)]
 omega
theorem qr9 (r : Nat) : IntKind.wrap .u32 ((r : Int) * (2 ^ (Min.min (Int.toNat 4) (IntKind.bits .u32)))) = ((r * 16 % 4294967296 : Nat) : Int) := by
 have e : (2 : Int) ^ (Min.min (Int.toNat 4) (IntKind.bits .u32)) = 16 := rfl
 rw [e, qjt]
 omega
theorem qlg (k : Nat) (h : k < 4294967296) : IntKind.wrap .u32 (k : Int) = (k : Int) := by rw [qjt]; omega
theorem qrn (l : List Int) (reg0 : Int) (A : Int → Int → Int → Option Int) (r : Nat) (hr : r < 4294967296) (c : Nat) (hc : c < 256) (x1 x2 : Int) (hx : x2 < x1) (hi : idx l x2 = some (c : Int)) :
  zu.b2 reg0 l A (r : Int) x1 x2 = A ((qmB r c : Nat) : Int) x1 (IntKind.wrap .i64 (x2 + 1)) := by
 unfold zu.b2
 have h1 : (c : Nat) / 16 < 16 := by omega
 rw [if_pos (by simpa using hx), hi]
 dsimp only
 rw [qql, qsu, qlg _ (by omega), qer _ _ (by omega) (by omega), qkV _ (qpy r _ hr h1)]
 dsimp only
 rw [qr9, qer _ _ (by omega) (qpf _)]
 have e1 : (r * 16 % 4294967296) ^^^ hN ((r / 268435456) ^^^ (c / 16)) = nib r (c / 16) := rfl
 rw [e1, qql, qpp c hc, qlg _ (by omega), qer _ _ (by have := qm2 r (c / 16); omega) (by omega), qkV _ (qpy _ _ (qm2 _ _) (by omega))]
 dsimp only
 rw [qr9, qer _ _ (by omega) (qpf _)]
 rfl
theorem zu.loop (l : List Int) (reg0 : Int) (hl : l.length ≤ 1000000) : ∀ (suf pre : List Int) (r n : Nat), pre ++ suf = l → isB suf → r < 4294967296 → suf.length < n →
  zu.l2 BIG reg0 l n (r : Int) ((l.length : Nat) : Int) ((pre.length : Nat) : Int) = some ((qnf r (suf.map Int.toNat) : Nat) : Int)
 | suf, pre, r, 0, _, _, _, h => absurd h (by omega)
 | [], pre, r, n + 1, he, hb, hr, h => by
  rw [zu.l2_at BIG (n + 1) n rfl]
  unfold zu.b2
  rw [if_neg (by rw [← he]; simp)]
  rfl
 | c :: suf, pre, r, n + 1, he, hb, hr, h => by
  simp at h
  have hpl : pre.length + (suf.length + 1) = l.length := by rw [← he]; simp
  obtain ⟨hc0, hc1⟩ := hb c (by simp)
  have ec : ((c.toNat : Nat) : Int) = c := by omega
  have hi : idx l ((pre.length : Nat) : Int) = some ((c.toNat : Nat) : Int) := by
   rw [ec, ← he, Qn]; simp
  rw [zu.l2_at BIG (n + 1) n rfl, qrn l reg0 _ r hr c.toNat (by omega) _ _ (by omega) hi, qX _ (by omega) (by omega)]
  have ih := zu.loop l reg0 hl suf (pre ++ [c]) (qmB r c.toNat) n (by rw [← he]; simp) (fun x hx => hb x (by simp [hx])) (qmH _ _) (by omega)
  have e2 : (((pre ++ [c]).length : Nat) : Int) = ((pre.length : Nat) : Int) + 1 := by simp
  rw [e2] at ih
  exact ih
theorem zu.pure (l : List Int) (r : Nat) (hr : r < 4294967296) (hb : isB l) (hl : l.length ≤ 1000000) : zu.f BIG (r : Int) l = some ((qnf r (l.map Int.toNat) : Nat) : Int) := by
 unfold zu.f zu.b
 exact zu.loop l r hl l [] r BIG rfl hb hr (by rw [Zx]; omega)
def qgv (l : List Int) : Nat := 4294967295 ^^^ qnf 4294967295 (l.map Int.toNat)
theorem qlH (l : List Int) : qgv l < 4294967296 := qj0 _ _ 32 (by decide) (qoa _ _ (by decide))
theorem zX.pure (l : List Int) (hb : isB l) (hl : l.length ≤ 1000000) : zX.f BIG [l] = some ((qgv l : Nat) : Int) := by
 obtain ⟨k, hk⟩ : ∃ k, BIG = k + 1 + 1 := ⟨BIG - 2, by rw [Zx]⟩
 unfold zX.f zX.b
 rw [veil_eq, zX.l3_at BIG BIG (k + 1) hk]
 unfold zX.b3
 rw [if_pos (by simp)]
 have e0 : idx [l] 0 = some l := rfl
 rw [e0]
 dsimp only
 have e1 := zu.pure l 4294967295 (by decide) hb hl
 rw [show ((4294967295 : Nat) : Int) = 4294967295 from rfl] at e1
 rw [e1]
 simp only [veil_eq]
 rw [zX.l3_at BIG (k + 1) k rfl]
 unfold zX.b3
 rw [if_neg (by rw [qX _ (by omega) (by omega)]; simp)]
 have e2 : (if (IntKind.signed .u32) = true then (-1 : Int) else (IntKind.max .u32)) = ((4294967295 : Nat) : Int) := by decide +kernel
 rw [e2, qer _ _ (by decide) (qoa _ _ (by decide))]
 rfl
def qir : Env := ⟨th, gam [(50, qcs)], fun i => if i = 888888 then ⟨[1], [], []⟩ else ⟨[], [], []⟩⟩
def Q2.k (rs : List AV) (os : List Den.Obj) : Option ((List Int) × Int) :=
 match rs, os with
 | [.d (.sl (.int .u8)) r0, .d (.int .i64) r1], [] => some (r0, r1)
 | _, _ => none
def Q2.b (gen : Int) (zc : List Int) : Option ((List Int) × Int) :=
 (if (decide (gen < (1 : Int))) then some (([] : List Int), (5 : Int)) else (if (decide (gen > (3 : Int))) then some (([] : List Int), (5 : Int)) else (if (decide (((((List.length zc)) : Nat) : Int) > (65499 : Int))) then some (([] : List Int), (3 : Int)) else (if (((0 : Int) ≤ (IntKind.wrap .i64 ((4 : Int) + ((((List.length zc)) : Nat) : Int)))) ∧ (((IntKind.wrap .i64 ((4 : Int) + ((((List.length zc)) : Nat) : Int))) ≤ (IntKind.wrap .i64 ((8 : Int) + ((((List.length zc)) : Nat) : Int)))) ∧ ((((IntKind.wrap .i64 ((8 : Int) + ((((List.length zc)) : Nat) : Int))) * ((((1 : Nat)) : Nat) : Int)) ≤ (1099511627776 : Int)) ∧ ((IntKind.wrap .i64 ((8 : Int) + ((((List.length zc)) : Nat) : Int))) ≤ (1099511627776 : Int))))) then (match (idx (List.replicate (Int.toNat (IntKind.wrap .i64 ((4 : Int) + ((((List.length zc)) : Nat) : Int)))) (zeroI (Go.Den.Ty.int .u8))) (0 : Int)) with | none => none | some y0 => (match (idx (List.replicate (Int.toNat (IntKind.wrap .i64 ((4 : Int) + ((((List.length zc)) : Nat) : Int)))) (zeroI (Go.Den.Ty.int .u8))) (0 : Int)) with | none => none | some y1 => (match (idx (List.set (List.replicate (Int.toNat (IntKind.wrap .i64 ((4 : Int) + ((((List.length zc)) : Nat) : Int)))) (zeroI (Go.Den.Ty.int .u8))) (Int.toNat (0 : Int)) (156 : Int)) (1 : Int)) with | none => none | some y2 => (match (idx (List.set (List.replicate (Int.toNat (IntKind.wrap .i64 ((4 : Int) + ((((List.length zc)) : Nat) : Int)))) (zeroI (Go.Den.Ty.int .u8))) (Int.toNat (0 : Int)) (156 : Int)) (1 : Int)) with | none => none | some y3 => (match (idx (List.set (List.set (List.replicate (Int.toNat (IntKind.wrap .i64 ((4 : Int) + ((((List.length zc)) : Nat) : Int)))) (zeroI (Go.Den.Ty.int .u8))) (Int.toNat (0 : Int)) (156 : Int)) (Int.toNat (1 : Int)) (IntKind.wrap .u8 gen)) (2 : Int)) with | none => none | some y4 => (match (idx (List.set (List.set (List.replicate (Int.toNat (IntKind.wrap .i64 ((4 : Int) + ((((List.length zc)) : Nat) : Int)))) (zeroI (Go.Den.Ty.int .u8))) (Int.toNat (0 : Int)) (156 : Int)) (Int.toNat (1 : Int)) (IntKind.wrap .u8 gen)) (2 : Int)) with | none => none | some y5 => (match (idx (List.set (List.set (List.set (List.replicate (Int.toNat (IntKind.wrap .i64 ((4 : Int) + ((((List.length zc)) : Nat) : Int)))) (zeroI (Go.Den.Ty.int .u8))) (Int.toNat (0 : Int)) (156 : Int)) (Int.toNat (1 : Int)) (IntKind.wrap .u8 gen)) (Int.toNat (2 : Int)) (IntKind.wrap .u8 (Int.fdiv ((((List.length zc)) : Nat) : Int) ((2 : Int) ^ (Min.min (Int.toNat (8 : Int)) (IntKind.bits .i64)))))) (3 : Int)) with | none => none | some y6 => (match (idx (List.set (List.set (List.set (List.replicate (Int.toNat (IntKind.wrap .i64 ((4 : Int) + ((((List.length zc)) : Nat) : Int)))) (zeroI (Go.Den.Ty.int .u8))) (Int.toNat (0 : Int)) (156 : Int)) (Int.toNat (1 : Int)) (IntKind.wrap .u8 gen)) (Int.toNat (2 : Int)) (IntKind.wrap .u8 (Int.fdiv ((((List.length zc)) : Nat) : Int) ((2 : Int) ^ (Min.min (Int.toNat (8 : Int)) (IntKind.bits .i64)))))) (3 : Int)) with | none => none | some y7 => (if (((0 : Int) ≤ (4 : Int)) ∧ ((4 : Int) ≤ ((((List.length (List.set (List.set (List.set (List.set (List.replicate (Int.toNat (IntKind.wrap .i64 ((4 : Int) + ((((List.length zc)) : Nat) : Int)))) (zeroI (Go.Den.Ty.int .u8))) (Int.toNat (0 : Int)) (156 : Int)) (Int.toNat (1 : Int)) (IntKind.wrap .u8 gen)) (Int.toNat (2 : Int)) (IntKind.wrap .u8 (Int.fdiv ((((List.length zc)) : Nat) : Int) ((2 : Int) ^ (Min.min (Int.toNat (8 : Int)) (IntKind.bits .i64)))))) (Int.toNat (3 : Int)) (IntKind.wrap .u8 ((((List.length zc)) : Nat) : Int))))) : Nat) : Int))) then (if ((((Int.toNat (4 : Int)) + (List.length zc)) ≤ (List.length (List.set (List.set (List.set (List.set (List.replicate (Int.toNat (IntKind.wrap .i64 ((4 : Int) + ((((List.length zc)) : Nat) : Int)))) (zeroI (Go.Den.Ty.int .u8))) (Int.toNat (0 : Int)) (156 : Int)) (Int.toNat (1 : Int)) (IntKind.wrap .u8 gen)) (Int.toNat (2 : Int)) (IntKind.wrap .u8 (Int.fdiv ((((List.length zc)) : Nat) : Int) ((2 : Int) ^ (Min.min (Int.toNat (8 : Int)) (IntKind.bits .i64)))))) (Int.toNat (3 : Int)) (IntKind.wrap .u8 ((((List.length zc)) : Nat) : Int))))) ∧ ((List.length (List.set (List.set (List.set (List.set (List.replicate (Int.toNat (IntKind.wrap .i64 ((4 : Int) + ((((List.length zc)) : Nat) : Int)))) (zeroI (Go.Den.Ty.int .u8))) (Int.toNat (0 : Int)) (156 : Int)) (Int.toNat (1 : Int)) (IntKind.wrap .u8 gen)) (Int.toNat (2 : Int)) (IntKind.wrap .u8 (Int.fdiv ((((List.length zc)) : Nat) : Int) ((2 : Int) ^ (Min.min (Int.toNat (8 : Int)) (IntKind.bits .i64)))))) (Int.toNat (3 : Int)) (IntKind.wrap .u8 ((((List.length zc)) : Nat) : Int)))) ≤ (List.length (List.set (List.set (List.set (List.set (List.replicate (Int.toNat (IntKind.wrap .i64 ((4 : Int) + ((((List.length zc)) : Nat) : Int)))) (zeroI (Go.Den.Ty.int .u8))) (Int.toNat (0 : Int)) (156 : Int)) (Int.toNat (1 : Int)) (IntKind.wrap .u8 gen)) (Int.toNat (2 : Int)) (IntKind.wrap .u8 (Int.fdiv ((((List.length zc)) : Nat) : Int) ((2 : Int) ^ (Min.min (Int.toNat (8 : Int)) (IntKind.bits .i64)))))) (Int.toNat (3 : Int)) (IntKind.wrap .u8 ((((List.length zc)) : Nat) : Int)))))) then (match (veil (zX.f BIG ((((List.take (Int.toNat (4 : Int)) (List.set (List.set (List.set (List.set (List.replicate (Int.toNat (IntKind.wrap .i64 ((4 : Int) + ((((List.length zc)) : Nat) : Int)))) (zeroI (Go.Den.Ty.int .u8))) (Int.toNat (0 : Int)) (156 : Int)) (Int.toNat (1 : Int)) (IntKind.wrap .u8 gen)) (Int.toNat (2 : Int)) (IntKind.wrap .u8 (Int.fdiv ((((List.length zc)) : Nat) : Int) ((2 : Int) ^ (Min.min (Int.toNat (8 : Int)) (IntKind.bits .i64)))))) (Int.toNat (3 : Int)) (IntKind.wrap .u8 ((((List.length zc)) : Nat) : Int)))) ++ zc) ++ (List.drop ((Int.toNat (4 : Int)) + (List.length zc)) (List.set (List.set (List.set (List.set (List.replicate (Int.toNat (IntKind.wrap .i64 ((4 : Int) + ((((List.length zc)) : Nat) : Int)))) (zeroI (Go.Den.Ty.int .u8))) (Int.toNat (0 : Int)) (156 : Int)) (Int.toNat (1 : Int)) (IntKind.wrap .u8 gen)) (Int.toNat (2 : Int)) (IntKind.wrap .u8 (Int.fdiv ((((List.length zc)) : Nat) : Int) ((2 : Int) ^ (Min.min (Int.toNat (8 : Int)) (IntKind.bits .i64)))))) (Int.toNat (3 : Int)) (IntKind.wrap .u8 ((((List.length zc)) : Nat) : Int))))) :: ([] : List (List Int))))) with | none => none | some y8 => (if ((((List.length (((List.take (Int.toNat (4 : Int)) (List.set (List.set (List.set (List.set (List.replicate (Int.toNat (IntKind.wrap .i64 ((4 : Int) + ((((List.length zc)) : Nat) : Int)))) (zeroI (Go.Den.Ty.int .u8))) (Int.toNat (0 : Int)) (156 : Int)) (Int.toNat (1 : Int)) (IntKind.wrap .u8 gen)) (Int.toNat (2 : Int)) (IntKind.wrap .u8 (Int.fdiv ((((List.length zc)) : Nat) : Int) ((2 : Int) ^ (Min.min (Int.toNat (8 : Int)) (IntKind.bits .i64)))))) (Int.toNat (3 : Int)) (IntKind.wrap .u8 ((((List.length zc)) : Nat) : Int)))) ++ zc) ++ (List.drop ((Int.toNat (4 : Int)) + (List.length zc)) (List.set (List.set (List.set (List.set (List.replicate (Int.toNat (IntKind.wrap .i64 ((4 : Int) + ((((List.length zc)) : Nat) : Int)))) (zeroI (Go.Den.Ty.int .u8))) (Int.toNat (0 : Int)) (156 : Int)) (Int.toNat (1 : Int)) (IntKind.wrap .u8 gen)) (Int.toNat (2 : Int)) (IntKind.wrap .u8 (Int.fdiv ((((List.length zc)) : Nat) : Int) ((2 : Int) ^ (Min.min (Int.toNat (8 : Int)) (IntKind.bits .i64)))))) (Int.toNat (3 : Int)) (IntKind.wrap .u8 ((((List.length zc)) : Nat) : Int)))))) + (List.length ((IntKind.wrap .u8 (Int.fdiv y8 ((2 : Int) ^ (Min.min (Int.toNat (24 : Int)) (IntKind.bits .u32))))) :: ((IntKind.wrap .u8 (Int.fdiv y8 ((2 : Int) ^ (Min.min (Int.toNat (16 : Int)) (IntKind.bits .u32))))) :: ((IntKind.wrap .u8 (Int.fdiv y8 ((2 : Int) ^ (Min.min (Int.toNat (8 : Int)) (IntKind.bits .u32))))) :: ((IntKind.wrap .u8 y8) :: ([] : List Int))))))) * (1 : Nat)) ≤ lim) then some (((((List.take (Int.toNat (4 : Int)) (List.set (List.set (List.set (List.set (List.replicate (Int.toNat (IntKind.wrap .i64 ((4 : Int) + ((((List.length zc)) : Nat) : Int)))) (zeroI (Go.Den.Ty.int .u8))) (Int.toNat (0 : Int)) (156 : Int)) (Int.toNat (1 : Int)) (IntKind.wrap .u8 gen)) (Int.toNat (2 : Int)) (IntKind.wrap .u8 (Int.fdiv ((((List.length zc)) : Nat) : Int) ((2 : Int) ^ (Min.min (Int.toNat (8 : Int)) (IntKind.bits .i64)))))) (Int.toNat (3 : Int)) (IntKind.wrap .u8 ((((List.length zc)) : Nat) : Int)))) ++ zc) ++ (List.drop ((Int.toNat (4 : Int)) + (List.length zc)) (List.set (List.set (List.set (List.set (List.replicate (Int.toNat (IntKind.wrap .i64 ((4 : Int) + ((((List.length zc)) : Nat) : Int)))) (zeroI (Go.Den.Ty.int .u8))) (Int.toNat (0 : Int)) (156 : Int)) (Int.toNat (1 : Int)) (IntKind.wrap .u8 gen)) (Int.toNat (2 : Int)) (IntKind.wrap .u8 (Int.fdiv ((((List.length zc)) : Nat) : Int) ((2 : Int) ^ (Min.min (Int.toNat (8 : Int)) (IntKind.bits .i64)))))) (Int.toNat (3 : Int)) (IntKind.wrap .u8 ((((List.length zc)) : Nat) : Int))))) ++ ((IntKind.wrap .u8 (Int.fdiv y8 ((2 : Int) ^ (Min.min (Int.toNat (24 : Int)) (IntKind.bits .u32))))) :: ((IntKind.wrap .u8 (Int.fdiv y8 ((2 : Int) ^ (Min.min (Int.toNat (16 : Int)) (IntKind.bits .u32))))) :: ((IntKind.wrap .u8 (Int.fdiv y8 ((2 : Int) ^ (Min.min (Int.toNat (8 : Int)) (IntKind.bits .u32))))) :: ((IntKind.wrap .u8 y8) :: ([] : List Int)))))), (0 : Int)) else none)) else none) else none))))))))) else none))))
def Q2.f (qa : Nat) (gen : Int) (zc : List Int) : Option ((List Int) × Int) := Q2.b gen zc
theorem Q2.eq (qa : Nat) (gen : Int) (zc : List Int) : (denF qir loopN qa Tryz.f30 [.dat (.sl (.int .u8)) false, .raw] [.d tQi gen, .d (.sl (.int .u8)) zc] [] Q2.k) = Q2.f qa gen zc := by
 kernel_rfl
def qbx : Den.Sum := ⟨[.raw, .dat (.sl (.int .u8)) false], fun qK qn κ => match qK, qn with
 | [.d (.int .i64) gen, .d (.sl (.int .u8)) zc], [] => (match veil (Q2.f BIG gen zc) with | none => none | some y => κ [.d (.sl (.int .u8)) y.1, .d (.int .i64) y.2] [])
 | _, _ => none⟩
theorem qjH : SumDet qbx := zj fun _ _ _ _ => by
 unfold qbx
 simp only [veil_eq]
 split
 ·split <;> rfl
 ·rfl
theorem qku : SumOk Tryz.prog 30 qbx := by
 have hE : EnvOk Tryz.prog qir := env_ok (l := [(50, qcs)]) th_ok qZ ⟨⟨qjf, qij⟩, trivial⟩ _
 refine sum_ok hE Tryz.func30 rfl (by kernel_rfl) qbx [.dat (.sl (.int .u8)) false, .raw] Q2.k ?_
 intro R avs qn κ r h
 unfold qbx at h
 simp only [veil_eq] at h
 split at h
 ·rename_i gen zc
  split at h
  ·cases h
  ·rename_i y hy
   refine ⟨BIG, _, _, _, (Q2.eq BIG gen zc).trans hy, ?_, h⟩
   intro rs ros hk
   unfold Q2.k at hk
   split at hk
   ·rw [← sj hk]; exact ⟨rfl, rfl⟩
   ·cases hk
 ·cases h
def qis : Env := ⟨th, gam [(50, qcs), (51, qaS), (52, Zg), (53, qcB)], fun i => ⟨[], [], []⟩⟩
def QB.k (rs : List AV) (os : List Den.Obj) : Option (Int × (List Int) × Int) :=
 match rs, os with
 | [.d (.int .i64) r0, .d (.sl (.int .u8)) r1, .d (.int .i64) r2], [] => some (r0, r1, r2)
 | _, _ => none
def QB.b (b : List Int) : Option (Int × (List Int) × Int) :=
 (if (decide (((((List.length b)) : Nat) : Int) > (65507 : Int))) then some ((0 : Int), ([] : List Int), (3 : Int)) else (if (decide (((((List.length b)) : Nat) : Int) < (8 : Int))) then some ((0 : Int), ([] : List Int), (2 : Int)) else (if (inB b) then (if (zt b 0) then (match (veil (Option.some (qz b (1 : Int) 0 false))) with | none => none | some y0 => (if (zt b y0.2.1) then (match (veil (Option.some (qz b (1 : Int) y0.2.1 y0.2.2))) with | none => none | some y1 => (if (zt b y1.2.1) then (match (veil (Option.some (qz b (2 : Int) y1.2.1 y1.2.2))) with | none => none | some y2 => (if (y0.1 != (156 : Int)) then some ((0 : Int), ([] : List Int), (4 : Int)) else (if (decide (y1.1 < (1 : Int))) then some ((0 : Int), ([] : List Int), (4 : Int)) else (if (decide (y1.1 > (3 : Int))) then some ((0 : Int), ([] : List Int), (4 : Int)) else (if (y2.1 != (IntKind.wrap .i64 (((((List.length b)) : Nat) : Int) - (8 : Int)))) then some ((0 : Int), ([] : List Int), (4 : Int)) else (if (zt b y2.2.1) then (match (veil (Option.some (zf b y2.1 y2.2.1 y2.2.2))) with | none => none | some y3 => (if (zt b y3.2.2.1) then (match (veil (Option.some (qz b (4 : Int) y3.2.2.1 y3.2.2.2))) with | none => none | some y4 => (if (((0 : Int) ≤ (IntKind.wrap .i64 (((((List.length b)) : Nat) : Int) - (4 : Int)))) ∧ ((IntKind.wrap .i64 (((((List.length b)) : Nat) : Int) - (4 : Int))) ≤ ((((List.length b)) : Nat) : Int))) then (match (veil (zX.f BIG ((List.drop (0 : Nat) (List.take (Int.toNat (IntKind.wrap .i64 (((((List.length b)) : Nat) : Int) - (4 : Int)))) b)) :: ([] : List (List Int))))) with | none => none | some y5 => (if ((IntKind.wrap .u32 y4.1) != y5) then some ((0 : Int), ([] : List Int), (8 : Int)) else some (y1.1, y3.1, (0 : Int)))) else none)) else none)) else none)))))) else none)) else none)) else none) else none)))
def QB.f (qa : Nat) (b : List Int) : Option (Int × (List Int) × Int) := QB.b b
theorem QB.eq (qa : Nat) (b : List Int) : (denF qis loopN qa Tryz.f31 [.raw, .dat (.sl (.int .u8)) false, .raw] [.d (.sl (.int .u8)) b] [] QB.k) = QB.f qa b := by
 kernel_rfl
def qby : Den.Sum := ⟨[.dat (.sl (.int .u8)) false], fun qK qn κ => match qK, qn with
 | [.d (.sl (.int .u8)) b], [] => (match veil (QB.f BIG b) with | none => none | some y => κ [.d (.int .i64) y.1, .d (.sl (.int .u8)) y.2.1, .d (.int .i64) y.2.2] [])
 | _, _ => none⟩
theorem qjI : SumDet qby := zj fun _ _ _ _ => by
 unfold qby
 simp only [veil_eq]
 split
 ·split <;> rfl
 ·rfl
theorem qkv : SumOk Tryz.prog 31 qby := by
 have hE : EnvOk Tryz.prog qis := env_ok (l := [(50, qcs), (51, qaS), (52, Zg), (53, qcB)]) th_ok qZ ⟨⟨qjf, qij⟩, ⟨qdR, qdb⟩, ⟨qbd, qaL⟩, ⟨qg9, qgi⟩, trivial⟩ _
 refine sum_ok hE Tryz.func31 rfl (by kernel_rfl) qby [.raw, .dat (.sl (.int .u8)) false, .raw] QB.k ?_
 intro R avs qn κ r h
 unfold qby at h
 simp only [veil_eq] at h
 split at h
 ·rename_i b
  split at h
  ·cases h
  ·rename_i y hy
   refine ⟨BIG, _, _, _, (QB.eq BIG b).trans hy, ?_, h⟩
   intro rs ros hk
   unfold QB.k at hk
   split at hk
   ·rw [← sj hk]; exact ⟨rfl, rfl⟩
   ·cases hk
 ·cases h
def qas (gen : Int) (zc : List Int) : List Int := 156 :: gen :: ((zc.length / 256 : Nat) : Int) :: ((zc.length % 256 : Nat) : Int) :: zc
def qg4 (s : Nat) : List Int := [((s / 16777216 : Nat) : Int), ((s / 65536 % 256 : Nat) : Int), ((s / 256 % 256 : Nat) : Int), ((s % 256 : Nat) : Int)]
def qbF (gen : Int) (zc : List Int) : List Int := qas gen zc ++ qg4 (qgv (qas gen zc))
def qkc (gen : Int) (zc : List Int) : List Int × Int := if gen < 1 ∨ gen > 3 then ([], 5) else if zc.length > 65499 then ([], 3) else (qbF gen zc, 0)
theorem qgs {gen : Int} {zc : List Int} (h1 : 1 ≤ gen) (h3 : gen ≤ 3) (hb : isB zc) (hl : zc.length ≤ 65499) : isB (qas gen zc) := by
 unfold qas
 exact Z4 (by omega) (by omega) (Z4 (by omega) (by omega) (Z4 (by omega) (by omega) (Z4 (by omega) (by omega) hb)))
theorem qox (s : Nat) (h : s < 4294967296) : isB (qg4 s) := by
 unfold qg4
 exact Z4 (by omega) (by omega) (Z4 (by omega) (by omega) (Z4 (by omega) (by omega) (Z4 (by omega) (by omega) qaB)))
theorem qg5 {gen : Int} {zc : List Int} (h1 : 1 ≤ gen) (h3 : gen ≤ 3) (hb : isB zc) (hl : zc.length ≤ 65499) : isB (qbF gen zc) :=
 qaH (qgs h1 h3 hb hl) (qox _ (qlH _))
theorem fd (s k : Nat) (p : Int) (hp : p = (k : Int)) (hk : 0 < k) : IntKind.wrap .u8 (Int.fdiv (s : Int) p) = ((s / k % 256 : Nat) : Int) := by
 subst hp
 rw [Int.fdiv_eq_ediv_of_nonneg _ (by omega), qiL]
 omega
theorem qsF (n : Nat) (hn : n ≤ 65499) : List.replicate (Int.toNat (IntKind.wrap .i64 (4 + ((n : Nat) : Int)))) (zeroI (Go.Den.Ty.int .u8)) = (0 : Int) :: (0 : Int) :: (0 : Int) :: (0 : Int) :: List.replicate n (0 : Int) := by
 rw [qX _ (by omega) (by omega)]
 have : Int.toNat (4 + ((n : Nat) : Int)) = n + 1 + 1 + 1 + 1 := by omega
 rw [this]
 rfl
theorem Q2.pure (gen : Int) (zc : List Int) (hb : isB zc) : Q2.f BIG gen zc = some (qkc gen zc) := by
 unfold Q2.f Q2.b qkc
 by_cases h1 : gen < 1
 ·rw [if_pos (by simp [h1]), if_pos (.inl h1)]
 rw [if_neg (by simp [h1])]
 by_cases h3 : gen > 3
 ·rw [if_pos (by simp [h3]), if_pos (.inr h3)]
 have hg : ¬ (gen < 1 ∨ gen > 3) := by omega
 rw [if_neg (by simp [h3]), if_neg hg]
 by_cases hl : zc.length > 65499
 ·rw [if_pos hl, if_pos (by simp; omega)]
 rw [if_neg hl, if_neg (by simp; omega)]
 have hn : zc.length ≤ 65499 := by omega
 rw [if_pos (by rw [qX _ (by omega) (by omega), qX _ (by omega) (by omega)]; omega), qsF _ hn]
 generalize hR : List.replicate zc.length (0 : Int) = R
 have hRl : R.length = zc.length := by rw [← hR]; simp
 have i0 : ∀ a b c d : Int, idx (a :: b :: c :: d :: R) 0 = some a := fun _ _ _ _ => rfl
 have i1 : ∀ a b c d : Int, idx (a :: b :: c :: d :: R) 1 = some b := fun _ _ _ _ => rfl
 have i2 : ∀ a b c d : Int, idx (a :: b :: c :: d :: R) 2 = some c := fun _ _ _ _ => rfl
 have i3 : ∀ a b c d : Int, idx (a :: b :: c :: d :: R) 3 = some d := fun _ _ _ _ => rfl
 have s0 : ∀ a b c d x : Int, List.set (a :: b :: c :: d :: R) (Int.toNat 0) x = x :: b :: c :: d :: R := fun _ _ _ _ _ => rfl
 have s1 : ∀ a b c d x : Int, List.set (a :: b :: c :: d :: R) (Int.toNat 1) x = a :: x :: c :: d :: R := fun _ _ _ _ _ => rfl
 have s2 : ∀ a b c d x : Int, List.set (a :: b :: c :: d :: R) (Int.toNat 2) x = a :: b :: x :: d :: R := fun _ _ _ _ _ => rfl
 have s3 : ∀ a b c d x : Int, List.set (a :: b :: c :: d :: R) (Int.toNat 3) x = a :: b :: c :: x :: R := fun _ _ _ _ _ => rfl
 have t4 : ∀ a b c d : Int, List.take (Int.toNat 4) (a :: b :: c :: d :: R) = [a, b, c, d] := fun _ _ _ _ => rfl
 have d4 : ∀ a b c d : Int, List.drop (Int.toNat 4 + zc.length) (a :: b :: c :: d :: R) = [] := by
  intro a b c d
  rw [List.drop_eq_nil_iff]
  have : Int.toNat 4 = 4 := rfl
  simp [hRl, this]; omega
 simp only [i0, i1, i2, i3, s0, s1, s2, s3, t4, d4]
 rw [if_pos (by simp <;> omega), if_pos (by have : Int.toNat 4 = 4 := rfl; simp [hRl, this] <;> omega)]
 have g1 : IntKind.wrap .u8 gen = gen := by rw [qiL]; omega
 have g2 : IntKind.wrap .u8 (Int.fdiv ((zc.length : Nat) : Int) (2 ^ (Min.min (Int.toNat 8) (IntKind.bits .i64)))) = ((zc.length / 256 : Nat) : Int) := by
  have e8 : (2 : Int) ^ (Min.min (Int.toNat 8) (IntKind.bits .i64)) = ((256 : Nat) : Int) := rfl
  rw [e8, fd zc.length 256 _ rfl (by omega)]; omega
 have g3 : IntKind.wrap .u8 ((zc.length : Nat) : Int) = ((zc.length % 256 : Nat) : Int) := by rw [qiL]; omega
 rw [g1, g2, g3]
 have ef : [156, gen, ((zc.length / 256 : Nat) : Int), ((zc.length % 256 : Nat) : Int)] ++ zc ++ [] = qas gen zc := by simp [qas]
 rw [ef, zX.pure _ (qgs (by omega) (by omega) hb hn) (by simp [qas]; omega)]
 simp only [veil_eq]
 have e24 : (2 : Int) ^ (Min.min (Int.toNat 24) (IntKind.bits .u32)) = ((16777216 : Nat) : Int) := rfl
 have e16 : (2 : Int) ^ (Min.min (Int.toNat 16) (IntKind.bits .u32)) = ((65536 : Nat) : Int) := rfl
 have e8 : (2 : Int) ^ (Min.min (Int.toNat 8) (IntKind.bits .u32)) = ((256 : Nat) : Int) := rfl
 rw [e24, e16, e8, fd _ 16777216 _ rfl (by omega), fd _ 65536 _ rfl (by omega), fd _ 256 _ rfl (by omega)]
 have g4 : IntKind.wrap .u8 ((qgv (qas gen zc) : Nat) : Int) = ((qgv (qas gen zc) % 256 : Nat) : Int) := by rw [qiL]; omega
 have g5 : qgv (qas gen zc) / 16777216 % 256 = qgv (qas gen zc) / 16777216 := by have := qlH (qas gen zc); omega
 rw [g4, g5, if_pos (by unfold lim; simp [qas]; omega)]
 rfl
theorem qqb {l : List Int} (h : isB l) (hl : l.length ≤ 1000000) : inB l = true := by
 unfold inB
 rw [Bool.and_eq_true, List.all_eq_true]
 refine ⟨by unfold Zi; simp; omega, fun c hc => ?_⟩
 have := h c hc
 simp
 omega
theorem qlh (l : List Int) (n a : Nat) (h : a + n ≤ l.length) : zf l (n : Int) (a : Int) false = ((l.take (a + n)).drop a, true, ((a + n : Nat) : Int), false) := by
 unfold zf
 rw [if_neg (by simp), if_neg (by simp; omega)]
 unfold seg
 have e1 : ((a : Int) + (n : Int)).toNat = a + n := by omega
 rw [e1, Int.toNat_natCast]
 simp
theorem qdW (l : List Int) (n a : Nat) (h1 : 1 ≤ n) (h7 : n ≤ 7) (h : a + n ≤ l.length) : qz l (n : Int) (a : Int) false = (Q6 ((l.take (a + n)).drop a), ((a + n : Nat) : Int), false) := by
 unfold qz
 have e : (if (decide ((n : Int) < 1) || decide ((n : Int) > 7)) = true then (-1 : Int) else (n : Int)) = (n : Int) := if_neg (by simp; omega)
 dsimp only
 rw [e, qlh l n a h]
 rfl
theorem qq2 (s : Nat) (h : s < 4294967296) : Q6 (qg4 s) = (s : Int) := by
 show (((0 * 256 + ((s / 16777216 : Nat) : Int)) * 256 + ((s / 65536 % 256 : Nat) : Int)) * 256 + ((s / 256 % 256 : Nat) : Int)) * 256 + ((s % 256 : Nat) : Int) = (s : Int)
 omega
theorem qp1 (gen : Int) (zc : List Int) (h1 : 1 ≤ gen) (h3 : gen ≤ 3) (hb : isB zc) (hl : zc.length ≤ 65499) : QB.f BIG (qbF gen zc) = some (gen, zc, 0) := by
 generalize hs : qgv (qas gen zc) = s
 have hsl : s < 4294967296 := by rw [← hs]; exact qlH _
 have hin := qqb (qg5 h1 h3 hb hl) (by unfold qbF qas qg4; simp; omega)
 have hS : qbF gen zc = 156 :: gen :: ((zc.length / 256 : Nat) : Int) :: ((zc.length % 256 : Nat) : Int) :: (zc ++ qg4 s) := by unfold qbF; rw [hs]; rfl
 have hlen : (qbF gen zc).length = zc.length + 8 := by rw [hS]; simp [qg4]
 have hfr : (qbF gen zc).take (zc.length + 4) = qas gen zc := by rw [hS]; unfold qas; simp
 generalize hL : qbF gen zc = L at *
 have hat : ∀ a : Nat, a ≤ zc.length + 8 → zt L (a : Int) = true := by
  intro a h1
  unfold zt
  rw [hin, hlen]
  simp
  omega
 have r0 := qdW L 1 0 (by omega) (by omega) (by omega)
 have r1 := qdW L 1 1 (by omega) (by omega) (by omega)
 have r2 := qdW L 2 2 (by omega) (by omega) (by omega)
 have r3 := qlh L zc.length 4 (by omega)
 have r4 := qdW L 4 (4 + zc.length) (by omega) (by omega) (by omega)
 have p0 : Q6 ((L.take (0 + 1)).drop 0) = 156 := by rw [hS]; rfl
 have p1 : Q6 ((L.take (1 + 1)).drop 1) = gen := by
  rw [hS]
  show 0 * 256 + gen = gen
  omega
 have p2 : Q6 ((L.take (2 + 2)).drop 2) = (zc.length : Int) := by
  rw [hS]
  show (0 * 256 + ((zc.length / 256 : Nat) : Int)) * 256 + ((zc.length % 256 : Nat) : Int) = (zc.length : Int)
  omega
 have p3 : (L.take (4 + zc.length)).drop 4 = zc := by
  rw [hS, Nat.add_comm 4]
  simp
 have p4 : Q6 ((L.take (4 + zc.length + 4)).drop (4 + zc.length)) = (s : Int) := by
  have e : (L.take (4 + zc.length + 4)).drop (4 + zc.length) = qg4 s := by
   rw [List.take_of_length_le (by omega), hS, Nat.add_comm 4]
   simp
  rw [e, qq2 s hsl]
 rw [p0] at r0
 rw [p1] at r1
 rw [p2] at r2
 rw [p3] at r3
 rw [p4] at r4
 simp only [show ((0 : Nat) : Int) = 0 from rfl, show ((1 : Nat) : Int) = 1 from rfl, show ((2 : Nat) : Int) = 2 from rfl, show ((4 : Nat) : Int) = 4 from rfl, show ((0 + 1 : Nat) : Int) = 1 from rfl, show ((1 + 1 : Nat) : Int) = 2 from rfl, show ((2 + 2 : Nat) : Int) = 4 from rfl] at r0 r1 r2 r3 r4
 have a0 := hat 0 (by omega)
 have a1 := hat 1 (by omega)
 have a2 := hat 2 (by omega)
 have a4 := hat 4 (by omega)
 have a5 := hat (4 + zc.length) (by omega)
 simp only [show ((0 : Nat) : Int) = 0 from rfl, show ((1 : Nat) : Int) = 1 from rfl, show ((2 : Nat) : Int) = 2 from rfl, show ((4 : Nat) : Int) = 4 from rfl] at a0 a1 a2 a4 a5
 unfold QB.f QB.b
 rw [if_neg (by rw [hlen]; simp; omega), if_neg (by rw [hlen]; simp; omega), if_pos hin, if_pos a0]
 simp only [veil_eq, r0]
 rw [if_pos a1]
 simp only [veil_eq, r1]
 rw [if_pos a2]
 simp only [veil_eq, r2]
 have w8 : IntKind.wrap .i64 (((L.length : Nat) : Int) - 8) = (zc.length : Int) := by rw [hlen, qX _ (by omega) (by omega)]; omega
 have w4 : IntKind.wrap .i64 (((L.length : Nat) : Int) - 4) = ((zc.length + 4 : Nat) : Int) := by rw [hlen, qX _ (by omega) (by omega)]; omega
 rw [if_neg (by simp), if_neg (by simp; omega), if_neg (by simp; omega), w8, if_neg (by simp), if_pos a4]
 simp only [veil_eq, r3]
 rw [if_pos a5]
 simp only [veil_eq, r4]
 rw [w4, if_pos (by rw [hlen]; omega), Int.toNat_natCast, hfr, List.drop_zero, zX.pure _ (qgs h1 h3 hb hl) (by unfold qas; simp; omega)]
 simp only [veil_eq]
 rw [hs, qlg s hsl, if_neg (by simp)]
theorem qfs (qa : Nat) (bs : List Int) (a0 : Int) (bad0 wr0 : Bool) (k : Nat) (n i : Int) (wr : Bool) (a : Int) (bad : Bool) (out : LF) (h : wr = true ∨ n ≤ i) :
  qS.l4 qa bs a0 bad0 wr0 (k + 1) n i wr bs a bad out = some (wr, bs, a, bad, out) := by
 rw [qS.l4]
 unfold qS.b4
 by_cases hi : i < n
 ·rw [if_pos (by simpa using hi)]
  rcases h with rfl | h
  ·rfl
  ·omega
 ·rw [if_neg (by simpa using hi)]
theorem qlV (l : List Int) (n a : Int) : zf l n a true = ([], false, a, true) := rfl
theorem qoA (l : List Int) (a : Nat) (h : a ≤ l.length) : zf l 0 (a : Int) false = ([], true, (a : Int), false) := by
 unfold zf
 rw [if_neg (by simp), if_neg (by simp; omega)]
 unfold seg
 simp
theorem qqL (l : List Int) (n : Int) (a : Nat) (h0 : 0 ≤ n) (h : a + n.toNat ≤ l.length) : zf l n (a : Int) false = ((l.drop a).take n.toNat, true, ((a + n.toNat : Nat) : Int), false) := by
 unfold zf
 rw [if_neg (by simp), if_neg (by simp; omega)]
 unfold seg
 rw [show ((a : Int) + n).toNat = a + n.toNat from by omega, Int.toNat_natCast, show ((a : Int) + n) = ((a + n.toNat : Nat) : Int) from by omega]
 congr 1
 rw [List.drop_take]
 congr 1
 omega
theorem qpC (l : List Int) (n : Int) (a : Nat) (h0 : 0 ≤ n) (h : l.length < a + n.toNat) : zf l n (a : Int) false = ([], false, (a : Int), true) := by
 unfold zf
 rw [if_neg (by simp), if_pos (by simp; omega)]
theorem qnO (qa : Nat) (bs : List Int) (hb : inB bs = true) (a0 : Int) (bad0 wr0 : Bool) (n : Nat) (hn : n ≤ 32) : ∀ (m k : Nat) (i a : Nat) (out : LF), i + m = n → m < k → a ≤ bs.length → out.length ≤ i →
  match qdE bs m a with
  | some (l, a2) => qS.l4 qa bs a0 bad0 wr0 k (n : Int) (i : Int) false bs (a : Int) false out = some (false, bs, (a2 : Int), false, out ++ l)
  | none => ∃ (a' : Nat) (bad' : Bool) (l : LF), qS.l4 qa bs a0 bad0 wr0 k (n : Int) (i : Int) false bs (a : Int) false out = some (true, bs, (a' : Int), bad', l) ∧ a' ≤ bs.length := by
 obtain ⟨hl, hc⟩ := (QY bs).1 hb
 intro m
 induction m with
 | zero =>
  intro k i a out hi hk ha ho
  obtain ⟨k, rfl⟩ : ∃ k', k = k' + 1 := ⟨k - 1, by omega⟩
  rw [qdE]
  dsimp only
  rw [qfs qa bs a0 bad0 wr0 k (n : Int) (i : Int) false (a : Int) false out (Or.inr (by omega)), List.append_nil]
 | succ m ih =>
  intro k i a out hi hk ha ho
  obtain ⟨k, rfl⟩ : ∃ k', k = k' + 2 := ⟨k - 2, by omega⟩
  have hend : ∀ (a' : Nat) (bad' : Bool) (l : LF), a' ≤ bs.length → ∃ (a'' : Nat) (bad'' : Bool) (l' : LF), qS.l4 qa bs a0 bad0 wr0 (k + 1) (n : Int) (IntKind.wrap .i64 ((i : Int) + 1)) true bs (a' : Int) bad' l = some (true, bs, (a'' : Int), bad'', l') ∧ a'' ≤ bs.length :=
   fun a' bad' l h => ⟨a', bad', l, qfs qa bs a0 bad0 wr0 k _ _ true _ _ _ (Or.inl rfl), h⟩
  have hw : IntKind.wrap .i64 ((i : Int) + 1) = ((i + 1 : Nat) : Int) := by rw [qX _ (by omega) (by omega)]; omega
  rw [show k + 2 = (k + 1) + 1 from rfl, qS.l4, qdE]
  unfold qS.b4
  simp only [veil_eq]
  rw [if_pos (c := decide ((i : Int) < (n : Int)) = true) (by simp; omega), if_pos (c := (!false) = true) rfl, if_pos (c := zt bs (a : Int) = true) ((zN _ _).2 ⟨hb, by omega, by omega⟩)]
  have hlim : ∀ x : Int × List Int, (out.length + ([x] : LF).length) * 32 ≤ lim := fun x => by simp [lim]; omega
  by_cases hlt : a < bs.length
  ·rw [qc0 bs a hlt]
   have hf : qgt bs a = match tk bs (a + 1) 4096 with
     | none => none
     | some (n, a2) => if a2 + n.toNat ≤ bs.length then some ((bs[a], (bs.drop a2).take n.toNat), a2 + n.toNat) else none := by
    unfold qgt
    rw [List.getElem?_eq_getElem hlt]
    all_goals rfl
   rw [hf]
   dsimp only
   generalize bs[a] = t at hf ⊢
   have hg := qd0 bs (a + 1) 4096 hb (by decide) (by decide) hlt
   cases ht : tk bs (a + 1) 4096 with
   | none =>
    rw [ht] at hg
    obtain ⟨a', bad, hg, h2⟩ := hg
    rw [hg]
    dsimp only
    rw [if_pos (c := zt bs (a' : Int) = true) ((zN _ _).2 ⟨hb, by omega, by omega⟩)]
    cases bad with
    | true =>
     rw [qlV]
     dsimp only
     rw [if_pos rfl, if_pos (hlim _)]
     exact hend a' true _ h2
    | false =>
     rw [qoA bs a' h2]
     dsimp only
     rw [if_neg (c := false = true) (by simp), if_pos (hlim _)]
     exact hend a' false _ h2
   | some p =>
    obtain ⟨w, a2⟩ := p
    rw [ht] at hg
    dsimp only at hg ⊢
    obtain ⟨e1, w0, w1, _, _, l1⟩ := qa3 hc ht
    rw [hg]
    dsimp only
    rw [if_pos (c := zt bs (a2 : Int) = true) ((zN _ _).2 ⟨hb, by omega, by omega⟩)]
    by_cases hin : a2 + w.toNat ≤ bs.length
    ·rw [qqL bs w a2 w0 hin, if_pos hin]
     dsimp only
     rw [if_neg (c := false = true) (by simp), if_pos (hlim _), hw]
     have := ih (k + 1) (i + 1) (a2 + w.toNat) (out ++ [(t, (bs.drop a2).take w.toNat)]) (by omega) (by omega) hin (by simp; omega)
     cases hr : qdE bs m (a2 + w.toNat) with
     | none =>
      rw [hr] at this
      exact this
     | some q =>
      obtain ⟨l, a3⟩ := q
      rw [hr] at this
      dsimp only at this ⊢
      rw [this]
      simp
    ·rw [qpC bs w a2 w0 (by omega), if_neg hin]
     dsimp only
     rw [if_pos rfl, if_pos (hlim _)]
     exact hend a2 true _ l1
  ·have hf : qgt bs a = none := by
    unfold qgt
    rw [List.getElem?_eq_none (by omega)]
   rw [hf, qc1 bs a (by omega)]
   dsimp only
   rw [qm9 bs a 4096 hb ha]
   dsimp only
   rw [if_pos (c := zt bs (a : Int) = true) ((zN _ _).2 ⟨hb, by omega, by omega⟩), qlV]
   dsimp only
   rw [if_pos rfl, if_pos (hlim _)]
   exact hend a true _ ha
theorem qiy (bs : List Int) (a : Int) (bad : Bool) : qS.f BIG bs a bad true = some (true, bs, a, bad, []) := by
 unfold qS.f qS.b
 simp only [veil_eq]
 rw [qhx]
 dsimp only
 rw [qaX]
 exact qfs _ bs a bad true _ _ _ true a bad [] (Or.inl rfl)
theorem qnP (bs : List Int) (a : Nat) (hb : inB bs = true) (ha : a ≤ bs.length) :
  match qgw bs a with
  | some (l, a2) => qS.f BIG bs (a : Int) false false = some (false, bs, (a2 : Int), false, l)
  | none => ∃ (a' : Nat) (bad' : Bool) (l : LF), qS.f BIG bs (a : Int) false false = some (true, bs, (a' : Int), bad', l) ∧ a' ≤ bs.length := by
 obtain ⟨hl, hc⟩ := (QY bs).1 hb
 have hg := qd0 bs a 32 hb (by decide) (by decide) ha
 unfold qS.f qS.b qgw
 simp only [veil_eq]
 cases ht : tk bs a 32 with
 | none =>
  rw [ht] at hg
  obtain ⟨a', bad, hg, h2⟩ := hg
  rw [hg]
  dsimp only
  refine ⟨a', bad, [], ?_, h2⟩
  rw [qaX]
  exact qfs _ bs a false false _ _ _ true a' bad [] (Or.inl rfl)
 | some p =>
  obtain ⟨w, a2⟩ := p
  rw [ht] at hg
  dsimp only at hg ⊢
  obtain ⟨e1, w0, w1, _, _, l1⟩ := qa3 hc ht
  rw [hg]
  dsimp only
  have := qnO BIG bs hb a false false w.toNat (by omega) w.toNat BIG 0 a2 [] (by omega) (by rw [Zx]; omega) l1 (by simp)
  rw [show ((w.toNat : Nat) : Int) = w from by omega] at this
  simpa using this
theorem qqh : (List.range 256).all (fun n => (bits BinOp.and .i64 (n : Int) 3 == (n : Int) % 4) && (((bits BinOp.and .i64 (n : Int) 4 != 0) == ((n : Int) / 4 % 2 == 1)) && (((bits BinOp.and .i64 (n : Int) 8 != 0) == ((n : Int) / 8 % 2 == 1)) && ((bits BinOp.and .i64 (n : Int) 16 != 0) == ((n : Int) / 16 % 2 == 1))))) = true := by kernel_rfl
theorem qjT (v : Int) (h0 : 0 ≤ v) (h1 : v ≤ 255) : bits BinOp.and .i64 v 3 = v % 4 ∧ (bits BinOp.and .i64 v 4 != 0) = (v / 4 % 2 == 1) ∧ (bits BinOp.and .i64 v 8 != 0) = (v / 8 % 2 == 1) ∧ (bits BinOp.and .i64 v 16 != 0) = (v / 16 % 2 == 1) := by
 have := List.all_eq_true.1 qqh v.toNat (by simp; omega)
 rw [show ((v.toNat : Nat) : Int) = v from by omega] at this
 simp only [Bool.and_eq_true] at this
 obtain ⟨a, b, c, d⟩ := this
 exact ⟨by simpa using a, eq_of_beq b, eq_of_beq c, eq_of_beq d⟩
theorem qor (a : Int) (h0 : 0 ≤ a) (h1 : a < 9223372036854775808) : bits BinOp.xor .i64 a 0 = a := by
 have e : bits BinOp.xor .i64 a 0 = IntKind.wrap .i64 ((BitVec.ofInt 64 a ^^^ 0#64).toNat : Int) := rfl
 rw [e, BitVec.xor_zero, BitVec.toNat_ofInt, qX]
 ·omega
 ·omega
 ·omega
theorem qos (a : Int) (h0 : 0 ≤ a) (h1 : a < 9223372036854775808) : bits BinOp.xor .i64 a (-1) = -a - 1 := by
 have e : bits BinOp.xor .i64 a (-1) = IntKind.wrap .i64 ((BitVec.ofInt 64 a ^^^ BitVec.ofInt 64 (-1)).toNat : Int) := rfl
 rw [e, show BitVec.ofInt 64 (-1) = BitVec.allOnes 64 from by decide +kernel, BitVec.xor_allOnes, BitVec.toNat_not, BitVec.toNat_ofInt, IntKind.wrap_i64]
 omega
theorem qqu (z : Int) (h0 : 0 ≤ z) (h1 : z < 18446744073709551616) : bits BinOp.and .u64 z 1 = z % 2 := by
 obtain ⟨a, rfl⟩ := Int.eq_ofNat_of_zero_le h0
 have e : bits BinOp.and .u64 (a : Int) 1 = IntKind.wrap .u64 ((BitVec.ofInt 64 (a : Int) &&& 1#64).toNat : Int) := rfl
 rw [e, BitVec.toNat_and, BitVec.ofInt_natCast, BitVec.toNat_ofNat, Nat.mod_eq_of_lt (by omega), show (1#64 : BitVec 64).toNat = 1 from rfl, Nat.and_one_is_mod, qab _ (by omega) (by omega)]
 omega
theorem Zag.pure (z : Int) (h0 : 0 ≤ z) (h1 : z < 4611686018427387904) : Q7.f BIG z = some (qeC z) := by
 unfold Q7.f Q7.b qeC
 rw [show ((2 : Int) ^ (Min.min (Int.toNat (1 : Int)) (IntKind.bits .u64))) = 2 from rfl, Int.fdiv_eq_ediv_of_nonneg _ (by omega), qqu z h0 (by omega), qX (z / 2) (by omega) (by omega), qX (z % 2) (by omega) (by omega)]
 by_cases h : z % 2 = 0
 ·rw [if_pos h, h, show IntKind.wrap .i64 (0 - 0) = 0 from by decide, qor _ (by omega) (by omega)]
 ·rw [if_neg h, show z % 2 = 1 from by omega, show IntKind.wrap .i64 (0 - 1) = -1 from by decide, qos _ (by omega) (by omega)]
  congr 1
  omega
theorem qnK (bs : List Int) (a0 : Int) (bad0 wr0 : Bool) (qi : Int) (qb : LR) (v : Int) (ok : Bool) (a : Int) (bad : Bool) (id st lo hi : Int) (cut : Bool) (oid oinc ost olo ohi : Int) (ocut : Bool) (obag : LF) :
  ∃ inc bag, qE.l12 BIG bs a0 bad0 wr0 qi qb BIG v ok true bs a bad id st lo hi cut oid oinc ost olo ohi ocut obag = some (id, inc, st, lo, hi, cut, bag, true, bs, a, bad) := by
 rw [qE.l12_at BIG BIG (BIG - 1) qaX]
 unfold qE.b12
 simp only [veil_eq]
 rw [qhx]
 dsimp only
 obtain ⟨y, hy⟩ : ∃ y, Q7.f BIG (IntKind.wrap .u64 0) = some y := ⟨_, rfl⟩
 rw [hy]
 dsimp only
 cases cut with
 | true => exact ⟨_, _, rfl⟩
 | false =>
  rw [if_neg (c := false = true) (by simp)]
  split
  ·exact ⟨_, _, rfl⟩
  ·rw [qiy]
   exact ⟨_, _, rfl⟩
def qiG (bs : List Int) (o : Option (Int × Int × Int × Int × Int × Bool × LF × Bool × List Int × Int × Bool)) : Prop :=
 ∃ id inc st lo hi cut bag, ∃ (a' : Nat) (bad' : Bool), o = some (id, inc, st, lo, hi, cut, bag, true, bs, (a' : Int), bad') ∧ a' ≤ bs.length
theorem qe2 (bs : List Int) (a0 : Int) (bad0 wr0 : Bool) (qi : Int) (qb : LR) (v : Int) (ok : Bool) (a : Nat) (bad : Bool) (id st lo hi : Int) (cut : Bool) (oid oinc ost olo ohi : Int) (ocut : Bool) (obag : LF) (ha : a ≤ bs.length) :
  qiG bs (qE.l12 BIG bs a0 bad0 wr0 qi qb BIG v ok true bs (a : Int) bad id st lo hi cut oid oinc ost olo ohi ocut obag) := by
 obtain ⟨inc, bag, h⟩ := qnK bs a0 bad0 wr0 qi qb v ok a bad id st lo hi cut oid oinc ost olo ohi ocut obag
 exact ⟨id, inc, st, lo, hi, cut, bag, a, bad, h, ha⟩
theorem qgd {b : LF} (h1 : b.length ≤ 32) (h2 : ∀ x ∈ b, x.2.length ≤ 4096) : zx b = true := (qaR _).2 ⟨by omega, fun x hx => by have := h2 x hx; omega⟩
theorem ql8 {qb : LR} (QD : ∀ x ∈ qb, zA x = true) (id : Int) : zx (zF qb id).1.2.2.2.2.2 = true := by
 rcases qjM (qb := qb) (id := id) with ⟨_, h⟩ | ⟨_, h, _⟩
 ·rw [h]; all_goals rfl
 ·have := zH (QD _ h)
  have hb2 := Ze this.2.2.2.2.2.2.2.1
  exact qgd hb2.1 (fun x hx => (qbE this.2.2.2.2.2.2.2.1 x hx).2.2)
theorem qo7 (bs : List Int) (hb : inB bs = true) (a0 : Int) (bad0 wr0 : Bool) (qi : Int) (qb : LR) (QD : ∀ x ∈ qb, zA x = true) (id0 : Int) (v : Int) (v0 : 0 ≤ v) (hv : qbM (zF qb id0) v = false) (a : Nat) (ha : a ≤ bs.length) (id st lo hi oid ost olo ohi : Int) (ocut : Bool) :
  match (match tk bs a 562949953421310 with
   | none => none
   | some (z, a3) => match qes bs (zF qb id0) v a3 with
    | none => none
    | some (b, a4) => some ((zF qb id0).1.2.1 + qeC z, b, a4)) with
  | some (inc, b, a4) => qE.l12 BIG bs a0 bad0 wr0 qi qb BIG v (zF qb id0).2 false bs (a : Int) false id st lo hi (v / 4 % 2 == 1) oid (zF qb id0).1.2.1 ost olo ohi ocut (zF qb id0).1.2.2.2.2.2 = some (id, inc, st, lo, hi, (v / 4 % 2 == 1), b, false, bs, (a4 : Int), false)
  | none => qiG bs (qE.l12 BIG bs a0 bad0 wr0 qi qb BIG v (zF qb id0).2 false bs (a : Int) false id st lo hi (v / 4 % 2 == 1) oid (zF qb id0).1.2.1 ost olo ohi ocut (zF qb id0).1.2.2.2.2.2) := by
 obtain ⟨hl, hc⟩ := (QY bs).1 hb
 obtain ⟨f1, f2, f3⟩ := qkZ hv
 obtain ⟨o0, o1⟩ := qlB QD id0
 have hos := ql8 QD id0
 obtain ⟨_, _, _, b16⟩ := qjT v v0 (by omega)
 have hg := qd0 bs a 562949953421310 hb (by decide) (by decide) ha
 rw [qE.l12_at BIG BIG (BIG - 1) qaX]
 unfold qE.b12
 simp only [veil_eq]
 generalize zF qb id0 = o at *
 cases ht : tk bs a 562949953421310 with
 | none =>
  rw [ht] at hg
  obtain ⟨a', bad, hg, h2⟩ := hg
  rw [hg]
  dsimp only
  obtain ⟨y, hy⟩ : ∃ y, Q7.f BIG (IntKind.wrap .u64 0) = some y := ⟨_, rfl⟩
  rw [hy]
  dsimp only
  cases (v / 4 % 2 == 1) with
  | true => exact ⟨_, _, _, _, _, _, _, a', bad, rfl, h2⟩
  | false =>
   rw [if_neg (c := false = true) (by simp)]
   split
   ·exact ⟨_, _, _, _, _, _, _, a', bad, rfl, h2⟩
   ·rw [qiy]
    exact ⟨_, _, _, _, _, _, _, a', bad, rfl, h2⟩
 | some p =>
  obtain ⟨z, a3⟩ := p
  rw [ht] at hg
  dsimp only at hg ⊢
  obtain ⟨e1, z0, z1, _, _, l3⟩ := qa3 hc ht
  have hz : -300000000000000 ≤ qeC z ∧ qeC z ≤ 300000000000000 := by unfold qeC; split <;> omega
  rw [hg]
  dsimp only
  rw [qab z z0 (by omega), Zag.pure z z0 (by omega)]
  dsimp only
  rw [qX _ (by omega) (by omega), b16]
  unfold qes
  by_cases h4 : v / 4 % 2 = 1
  ·rw [if_pos h4]
   have e4 : (v / 4 % 2 == 1) = true := by simpa using h4
   rw [e4]
   all_goals rfl
  ·rw [if_neg h4]
   have e4 : (v / 4 % 2 == 1) = false := by simpa using h4
   rw [e4, if_neg (c := false = true) (by simp)]
   by_cases h16 : 16 ≤ v
   ·rw [if_pos h16, if_pos (c := (v / 16 % 2 == 1) = true) (by simp; omega)]
   ·rw [if_neg h16, if_neg (c := (v / 16 % 2 == 1) = true) (by simp; omega)]
    have hf := qnP bs a3 hb l3
    cases hbg : qgw bs a3 with
    | none =>
     rw [hbg] at hf
     obtain ⟨a', bad', l, hf, h2⟩ := hf
     rw [hf]
     exact ⟨_, _, _, _, _, _, _, a', bad', rfl, h2⟩
    | some q =>
     obtain ⟨b, a4⟩ := q
     rw [hbg] at hf
     dsimp only at hf ⊢
     rw [hf]
     dsimp only
     obtain ⟨_, l4, n4, s4⟩ := qhE hc hbg
     rw [if_neg (c := false = true) (by simp)]
     cases ho : o.2 with
     | false =>
      rw [if_neg (c := false = true) (by simp)]
      simp
     | true =>
      cases hcm : ZP b o.1.2.2.2.2.2 == 0 with
      | true =>
       simp only [qgd n4 s4, hos, Bool.and_self, if_true]
       exact ⟨_, _, _, _, _, _, _, a4, false, rfl, l4⟩
      | false =>
       simp only [qgd n4 s4, hos, Bool.and_self, Bool.and_false, if_true, Bool.false_eq_true, if_false]
theorem qm1 (bs : List Int) (a0 : Int) (bad0 wr0 : Bool) (qi : Int) (qb : LR) (v : Int) (ok : Bool) (a : Nat) (bad : Bool) (id st : Int) (cut : Bool) (oid oinc ost olo ohi : Int) (ocut : Bool) (obag : LF) (hb : inB bs = true) (ha : a ≤ bs.length) (wr : Bool) (hw : wr = true ∨ (bad = true ∧ v = 0)) :
  qiG bs (qE.l8 BIG bs a0 bad0 wr0 qi qb BIG v ok wr bs (a : Int) bad id st cut oid oinc ost olo ohi ocut obag) := by
 rw [qE.l8_at BIG BIG (BIG - 1) qaX]
 unfold qE.b8
 simp only [veil_eq]
 by_cases h8 : (bits BinOp.and .i64 v 8 != 0) = true
 ·rw [if_pos h8]
  rcases hw with rfl | ⟨_, rfl⟩
  ·exact qe2 bs a0 bad0 wr0 qi qb v ok a bad id st _ _ cut oid oinc ost olo ohi ocut obag ha
  ·exact absurd h8 (by decide)
 ·rw [if_neg h8]
  have hr : Rel bs none wr (a : Int) bad := ⟨⟨a, rfl, ha⟩, by
   rcases hw with h | h
   ·exact Or.inl h
   ·exact Or.inr h.1⟩
  obtain ⟨lo, hi, wr', a', bad', e1, r1, _⟩ := qjv hb hr
  rw [e1]
  dsimp only
  obtain ⟨⟨n, rfl, hn⟩, hor⟩ := r1
  have hwr : wr' = true := by
   -- a span that is not read is za
   have := e1
   unfold zp.f zp.b at this
   simp only [veil_eq] at this
   rw [if_pos ((zN _ _).2 ⟨hb, by omega, by omega⟩)] at this
   rcases hw with rfl | ⟨rfl, _⟩
   ·have := (Option.some.inj this)
    simp only [Prod.mk.injEq] at this
    rw [← this.2.2.1]
   ·rw [qil] at this
    cases wr with
    | true =>
     have := (Option.some.inj this)
     simp only [Prod.mk.injEq] at this
     rw [← this.2.2.1]
    | false =>
     rw [if_neg (by simp)] at this
     have := (Option.some.inj this)
     simp only [Prod.mk.injEq] at this
     rw [← this.2.2.1, qho 0 (by omega) (by omega)]
     all_goals rfl
  subst hwr
  rw [if_pos rfl]
  exact qe2 bs a0 bad0 wr0 qi qb v ok n bad' id st _ _ cut oid oinc ost olo ohi ocut obag hn
theorem qpE (bs : List Int) (a : Nat) (hb : inB bs = true) (ha : a ≤ bs.length) :
  match bs[a]? with
  | none => ∃ lo hi bad, zp.f BIG bs (a : Int) false false = some (lo, hi, true, bs, (a : Int), bad)
  | some c => if okS (c / 16) (c % 16) = true then zp.f BIG bs (a : Int) false false = some (c / 16, c % 16, false, bs, ((a + 1 : Nat) : Int), false)
   else ∃ lo hi, zp.f BIG bs (a : Int) false false = some (lo, hi, true, bs, ((a + 1 : Nat) : Int), false) := by
 obtain ⟨hl, hc⟩ := (QY bs).1 hb
 unfold zp.f zp.b
 simp only [veil_eq]
 rw [if_pos ((zN _ _).2 ⟨hb, by omega, by omega⟩)]
 by_cases hlt : a < bs.length
 ·rw [qc0 bs a hlt, List.getElem?_eq_getElem hlt]
  dsimp only
  obtain ⟨c0, c1⟩ := hc _ (List.getElem_mem hlt)
  have ht := qho _ c0 c1
  have hd := qhp _ c0 c1
  generalize bs[a] = c at c0 c1 ht hd ⊢
  rw [if_neg (c := false = true) (by simp), ht]
  cases ho : okS (c / 16) (c % 16) with
  | true => rw [if_pos rfl, hd.1 ho]; all_goals rfl
  | false => rw [if_neg (c := false = true) (by simp)]; exact ⟨_, _, rfl⟩
 ·rw [qc1 bs a (by omega), List.getElem?_eq_none (by omega)]
  dsimp only
  rw [if_neg (c := false = true) (by simp), qho 0 (by omega) (by omega)]
  exact ⟨_, _, _, rfl⟩
theorem qp5 (bs : List Int) (hb : inB bs = true) (a0 : Int) (bad0 wr0 : Bool) (qi : Int) (qb : LR) (o : REC × Bool) (v : Int) (v0 : 0 ≤ v) (v1 : v ≤ 255) (a : Nat) (ha : a ≤ bs.length) (id st : Int) (cut : Bool) :
  match qeT bs o v a with
  | some (sp, a2) => qE.l8 BIG bs a0 bad0 wr0 qi qb BIG v o.2 false bs (a : Int) false id st cut o.1.1 o.1.2.1 o.1.2.2.1 o.1.2.2.2.1.1 o.1.2.2.2.1.2 o.1.2.2.2.2.1 o.1.2.2.2.2.2 =
    qE.l12 BIG bs a0 bad0 wr0 qi qb BIG v o.2 false bs (a2 : Int) false id st sp.1 sp.2 cut o.1.1 o.1.2.1 o.1.2.2.1 o.1.2.2.2.1.1 o.1.2.2.2.1.2 o.1.2.2.2.2.1 o.1.2.2.2.2.2 ∧ a2 ≤ bs.length
  | none => qiG bs (qE.l8 BIG bs a0 bad0 wr0 qi qb BIG v o.2 false bs (a : Int) false id st cut o.1.1 o.1.2.1 o.1.2.2.1 o.1.2.2.2.1.1 o.1.2.2.2.1.2 o.1.2.2.2.2.1 o.1.2.2.2.2.2) := by
 obtain ⟨_, _, b8, _⟩ := qjT v v0 v1
 have hs := qpE bs a hb ha
 rw [qE.l8_at BIG BIG (BIG - 1) qaX]
 unfold qE.b8 qeT
 simp only [veil_eq]
 rw [b8]
 by_cases h8 : v / 8 % 2 = 1
 ·rw [if_pos h8, if_pos (c := (v / 8 % 2 == 1) = true) (by simpa using h8)]
  exact ⟨rfl, ha⟩
 ·rw [if_neg h8, if_neg (c := (v / 8 % 2 == 1) = true) (by simpa using h8)]
  cases hc : bs[a]? with
  | none =>
   rw [hc] at hs
   obtain ⟨lo, hi, bad, hs⟩ := hs
   rw [hs]
   dsimp only
   rw [if_pos rfl]
   exact qe2 bs a0 bad0 wr0 qi qb v _ a bad id st _ _ cut _ _ _ _ _ _ _ ha
  | some c =>
   rw [hc] at hs
   dsimp only at hs ⊢
   have hlt := (qeO hc).2
   cases ho : okS (c / 16) (c % 16) with
   | false =>
    rw [ho, if_neg (by simp)] at hs
    obtain ⟨lo, hi, hs⟩ := hs
    rw [hs]
    dsimp only
    rw [if_pos (c := true = true) rfl, if_neg (by simp)]
    exact qe2 bs a0 bad0 wr0 qi qb v _ (a + 1) false id st _ _ cut _ _ _ _ _ _ _ hlt
   | true =>
    rw [ho, if_pos rfl] at hs
    rw [hs]
    dsimp only
    rw [if_neg (c := false = true) (by simp)]
    cases h2 : o.2 with
    | false =>
     simp only [Bool.false_and, and_self, if_true, Bool.false_eq_true, if_false]
     first | exact hlt | exact ⟨rfl, hlt⟩ | exact ⟨trivial, hlt⟩
    | true =>
     rw [if_pos (c := true = true) rfl]
     cases h3 : (c / 16 == o.1.2.2.2.1.1) <;> cases h4 : (c % 16 == o.1.2.2.2.1.2) <;> simp only [Bool.true_and, Bool.and_self, Bool.and_true, Bool.and_false, Bool.false_eq_true, and_self, and_false, true_and, Bool.true_eq_false, if_true, if_false]
     ·first | exact hlt | exact ⟨rfl, hlt⟩ | exact ⟨trivial, hlt⟩
     ·first | exact hlt | exact ⟨rfl, hlt⟩ | exact ⟨trivial, hlt⟩
     ·first | exact hlt | exact ⟨rfl, hlt⟩ | exact ⟨trivial, hlt⟩
     ·exact qe2 bs a0 bad0 wr0 qi qb v _ (a + 1) false id st _ _ cut _ _ _ _ _ _ _ hlt
theorem qnb {α : Type} (o : REC × Bool) (v : Int) (B E : α) : (if decide (v ≥ 32) = true then B else if (!o.2) = true then (if decide (v ≥ 8) = true then B else if (v / 4 % 2 == 1) = true then (if decide (v ≥ 16) = true then B else E) else E) else (if (v / 4 % 2 == 1) = true then (if decide (v ≥ 16) = true then B else E) else E)) = if qbM o v = true then B else E := by
 unfold qbM
 have e1 : (v / 4 % 2 == 1) = decide (v / 4 % 2 = 1) := rfl
 rw [e1]
 have g32 : decide (v ≥ 32) = decide (32 ≤ v) := rfl
 have g8 : decide (v ≥ 8) = decide (8 ≤ v) := rfl
 have g16 : decide (v ≥ 16) = decide (16 ≤ v) := rfl
 rw [g32, g8, g16]
 generalize decide (32 ≤ v) = p
 generalize decide (8 ≤ v) = q
 generalize decide (16 ≤ v) = s
 generalize decide (v / 4 % 2 = 1) = t
 generalize o.2 = u
 cases p <;> cases q <;> cases s <;> cases t <;> cases u <;> rfl
theorem qqZ (bs : List Int) (hb : inB bs = true) (qi : Int) (h1 : -1 ≤ qi) (h2 : qi ≤ 100000000) (qb : LR) (QD : ∀ x ∈ qb, zA x = true) (hbn : qb.length < 1000000000) (a : Nat) (ha : a ≤ bs.length) :
  match qfR bs qb qi a with
  | some (r, a2) => qE.f BIG bs (a : Int) false false qi qb = some (r.1, r.2.1, r.2.2.1, r.2.2.2.1.1, r.2.2.2.1.2, r.2.2.2.2.1, r.2.2.2.2.2, false, bs, (a2 : Int), false)
  | none => qiG bs (qE.f BIG bs (a : Int) false false qi qb) := by
 obtain ⟨hl, hc⟩ := (QY bs).1 hb
 have hg := qd0 bs a 4095 hb (by decide) (by decide) ha
 have hfine := qn6 QD hbn
 unfold qE.f qE.b qfR
 simp only [veil_eq]
 cases ht : tk bs a 4095 with
 | none =>
  rw [ht] at hg
  obtain ⟨a', bad, hg, l1⟩ := hg
  rw [hg]
  dsimp only
  have hat : zt bs (a' : Int) = true := (zN _ _).2 ⟨hb, by omega, by omega⟩
  have hr := (zN _ _).1 (QE bs 1 (a' : Int) bad hat)
  obtain ⟨m, hm1, hm2⟩ : ∃ m : Nat, (qz bs 1 (a' : Int) bad).2.1 = (m : Int) ∧ m ≤ bs.length := ⟨(qz bs 1 (a' : Int) bad).2.1.toNat, by omega, by omega⟩
  rw [if_pos (c := zt bs (a' : Int) = true) hat, qrw.pure qb _ hfine, hm1]
  dsimp only
  repeat' split
  all_goals first
   | exact ⟨_, _, _, _, _, _, _, m, _, rfl, hm2⟩
   | exact qm1 bs a false false qi qb _ _ m _ _ _ _ _ _ _ _ _ _ _ hb hm2 true (Or.inl rfl)
 | some p =>
  obtain ⟨d, a1⟩ := p
  rw [ht] at hg
  dsimp only at hg ⊢
  obtain ⟨_, d0, d1, _, _, l1⟩ := qa3 hc ht
  rw [hg]
  dsimp only
  have hid : IntKind.wrap .i64 (IntKind.wrap .i64 (qi + 1) + d) = qi + 1 + d := by rw [qX (qi + 1) (by omega) (by omega), qX _ (by omega) (by omega)]
  rw [if_pos (c := zt bs (a1 : Int) = true) ((zN _ _).2 ⟨hb, by omega, by omega⟩), hid, qrw.pure qb _ hfine]
  dsimp only
  by_cases hlt : a1 < bs.length
  ·rw [qc0 bs a1 hlt, List.getElem?_eq_getElem hlt]
   dsimp only
   obtain ⟨c0, c1⟩ := hc _ (List.getElem_mem hlt)
   generalize bs[a1] = v at c0 c1 ⊢
   obtain ⟨b3, b4, _, _⟩ := qjT v c0 c1
   rw [b3, b4, qnb]
   cases hf : qbM (zF qb (qi + 1 + d)) v with
   | true =>
    rw [if_pos rfl, if_pos rfl]
    exact ⟨_, _, _, _, _, _, _, a1 + 1, _, rfl, hlt⟩
   | false =>
    rw [if_neg (c := false = true) (by simp), if_neg (c := false = true) (by simp)]
    have h8 := qp5 bs hb a false false qi qb (zF qb (qi + 1 + d)) v c0 c1 (a1 + 1) hlt (qi + 1 + d) (v % 4) (v / 4 % 2 == 1)
    cases hs : qeT bs (zF qb (qi + 1 + d)) v (a1 + 1) with
    | none =>
     rw [hs] at h8
     exact h8
    | some q =>
     obtain ⟨sp, a2⟩ := q
     rw [hs] at h8
     dsimp only at h8 ⊢
     rw [h8.1]
     have h12 := qo7 bs hb a false false qi qb QD (qi + 1 + d) v c0 hf a2 h8.2 (qi + 1 + d) (v % 4) sp.1 sp.2 (zF qb (qi + 1 + d)).1.1 (zF qb (qi + 1 + d)).1.2.2.1 (zF qb (qi + 1 + d)).1.2.2.2.1.1 (zF qb (qi + 1 + d)).1.2.2.2.1.2 (zF qb (qi + 1 + d)).1.2.2.2.2.1
     revert h12
     cases tk bs a2 562949953421310 with
     | none => intro h12; exact h12
     | some w =>
      obtain ⟨z, a3⟩ := w
      dsimp only
      cases qes bs (zF qb (qi + 1 + d)) v a3 with
      | none => intro h12; exact h12
      | some u =>
       obtain ⟨b, a4⟩ := u
       intro h12
       exact h12
  ·rw [qc1 bs a1 (by omega), List.getElem?_eq_none (by omega)]
   dsimp only
   rw [show (bits BinOp.and .i64 0 4 != 0) = ((0 : Int) / 4 % 2 == 1) from by decide, qnb]
   split
   ·exact ⟨_, _, _, _, _, _, _, a1, _, rfl, l1⟩
   ·exact qm1 bs a false false qi qb 0 _ a1 true _ _ _ _ _ _ _ _ _ _ hb l1 false (Or.inr ⟨rfl, rfl⟩)
theorem qoZ {bs : List Int} (hb : ∀ c ∈ bs, 0 ≤ c ∧ c ≤ 255) {qb : LR} (QD : ∀ x ∈ qb, zA x = true) {qi : Int} {a : Nat} {r : REC} {a2 : Nat} (h : qfR bs qb qi a = some (r, a2)) : zx r.2.2.2.2.2 = true := by
 unfold qfR at h
 cases ht : tk bs a 4095 with
 | none => rw [ht] at h; cases h
 | some p =>
  obtain ⟨d, a1⟩ := p
  rw [ht] at h
  dsimp only at h
  cases hc : bs[a1]? with
  | none => rw [hc] at h; cases h
  | some v =>
   rw [hc] at h
   dsimp only at h
   cases hf : qbM (zF qb (qi + 1 + d)) v with
   | true => rw [hf] at h; cases h
   | false =>
    rw [hf, if_neg (by simp)] at h
    cases hs : qeT bs (zF qb (qi + 1 + d)) v (a1 + 1) with
    | none => rw [hs] at h; cases h
    | some q =>
     rw [hs] at h
     dsimp only at h
     cases hz : tk bs q.2 562949953421310 with
     | none => rw [hz] at h; cases h
     | some w =>
      rw [hz] at h
      dsimp only at h
      cases hg : qes bs (zF qb (qi + 1 + d)) v w.2 with
      | none => rw [hg] at h; cases h
      | some u =>
       rw [hg] at h
       cases h
       unfold qes at hg
       dsimp only
       split at hg
       ·cases hg; rfl
       ·split at hg
        ·cases hg; exact ql8 QD _
        ·cases hk : qgw bs w.2 with
         | none => rw [hk] at hg; cases hg
         | some y =>
          rw [hk] at hg
          dsimp only at hg
          split at hg
          ·cases hg
          ·cases hg
           obtain ⟨_, _, n4, s4⟩ := qhE hb (l := y.1) (a2 := y.2) hk
           exact qgd n4 s4
abbrev HDR := Int × Int × Int × Int × Int × Int × Int × Int × Int × Int × Bool × List Int × Int × Bool
def qpm (k f i lo hi s t l e b : Int) (wr : Bool) (bs : List Int) (a : Int) (bad : Bool) : Option HDR :=
 if bad then some (k, f, i, lo, hi, s, t, l, e, b, true, bs, a, bad)
 else if (!(q0 k f i lo hi s t l e b [])) then some (k, f, i, lo, hi, s, t, l, e, b, true, bs, a, bad)
 else some (k, f, i, lo, hi, s, t, l, e, b, wr, bs, a, bad)
def qm8 (bs : List Int) (at0 : Int) (bad za : Bool) : Option HDR :=
 if zt bs at0 then
  qcw true 4095 za bs (qz bs 1 at0 bad).2.1 (qz bs 1 at0 bad).2.2 fun f w b1 a1 d1 =>
  qcw true 281474976710655 w b1 a1 d1 fun i w b2 a2 d2 =>
  match zp.f BIG b2 a2 d2 w with
  | none => none
  | some y =>
   qcw (qy (qz bs 1 at0 bad).1 0) 65535 y.2.2.1 y.2.2.2.1 y.2.2.2.2.1 y.2.2.2.2.2 fun s w b3 a3 d3 =>
   qcw (qy (qz bs 1 at0 bad).1 1) 4095 w b3 a3 d3 fun t w b4 a4 d4 =>
   qcw (qy (qz bs 1 at0 bad).1 2) 281474976710655 w b4 a4 d4 fun l w b5 a5 d5 =>
   qcw (qy (qz bs 1 at0 bad).1 2) 65535 w b5 a5 d5 fun e w b6 a6 d6 =>
   qcw (qy (qz bs 1 at0 bad).1 3) 65535 w b6 a6 d6 fun b w b7 a7 d7 =>
   qpm (qz bs 1 at0 bad).1 f i y.1 y.2.1 s t l e b w b7 a7 d7
 else none
theorem qrb (bs : List Int) (at0 : Int) (bad za : Bool) : zO.f BIG bs at0 bad za = qm8 bs at0 bad za := by
 unfold zO.f zO.b qm8 qcw qpm
 simp only [veil_eq]
 generalize qy (qz bs 1 at0 bad).1 0 = h0
 generalize qy (qz bs 1 at0 bad).1 1 = h1
 generalize qy (qz bs 1 at0 bad).1 2 = h2
 generalize qy (qz bs 1 at0 bad).1 3 = h3
 cases h0 <;> cases h1 <;> cases h2 <;> cases h3 <;> rfl
theorem qss.pure (bs : List Int) (hb : inB bs = true) :
  match hdS bs with
  | some (k, f, i, lo, hi, s, t, l, e, b, a) => zO.f BIG bs 0 false false = some (k, f, i, lo, hi, s, t, l, e, b, false, bs, (a : Int), false) ∧ a ≤ bs.length ∧ q0 k f i lo hi s t l e b [] = true
  | none => ∃ k f i lo hi s t l e b a bad, zO.f BIG bs 0 false false = some (k, f, i, lo, hi, s, t, l, e, b, true, bs, a, bad) := by
 rw [qrb]
 unfold qm8
 rw [if_pos ((zN _ _).2 ⟨hb, by omega, by omega⟩)]
 have h0 : (qz bs 1 0 false).1 = hdK bs ∧ Rel bs (qam bs) false (qz bs 1 0 false).2.1 (qz bs 1 0 false).2.2 := by
  unfold hdK qam
  by_cases h : 0 < bs.length
  ·rw [if_pos h, show (0 : Int) = ((0 : Nat) : Int) from rfl, qc0 bs 0 h]
   refine ⟨?_, ⟨1, rfl, h⟩, rfl, rfl, rfl⟩
   simp [List.getD, List.getElem?_eq_getElem h]
  ·rw [if_neg h, show (0 : Int) = ((0 : Nat) : Int) from rfl, qc1 bs 0 (by omega)]
   refine ⟨?_, ⟨0, rfl, by omega⟩, Or.inr rfl⟩
   simp [List.getD, List.getElem?_eq_none (show bs.length ≤ 0 by omega)]
 obtain ⟨e0, r0⟩ := h0
 rw [e0]
 obtain ⟨w1, a1, d1, e1, r1⟩ := qaw hb r0 true 4095 (by decide) (by decide) _
 rw [e1]
 obtain ⟨w2, a2, d2, e2, r2⟩ := qaw hb r1 true 281474976710655 (by decide) (by decide) _
 rw [e2]
 obtain ⟨lo, hi, w3, a3, d3, e3, r3, q3⟩ := qjv hb r2
 rw [e3]
 dsimp only
 obtain ⟨w4, a4, d4, e4, r4⟩ := qaw hb r3 (qy (hdK bs) 0) 65535 (by decide) (by decide) _
 rw [e4]
 obtain ⟨w5, a5, d5, e5, r5⟩ := qaw hb r4 (qy (hdK bs) 1) 4095 (by decide) (by decide) _
 rw [e5]
 obtain ⟨w6, a6, d6, e6, r6⟩ := qaw hb r5 (qy (hdK bs) 2) 281474976710655 (by decide) (by decide) _
 rw [e6]
 obtain ⟨w7, a7, d7, e7, r7⟩ := qaw hb r6 (qy (hdK bs) 2) 65535 (by decide) (by decide) _
 rw [e7]
 obtain ⟨w8, a8, d8, e8, r8⟩ := qaw hb r7 (qy (hdK bs) 3) 65535 (by decide) (by decide) _
 rw [e8]
 have hs : (zr bs (qy (hdK bs) 3) (zr bs (qy (hdK bs) 2) (zr bs (qy (hdK bs) 2) (zr bs (qy (hdK bs) 1) (zr bs (qy (hdK bs) 0) (spS bs (zr bs true (zr bs true (qam bs) 4095).2 281474976710655).2).2.2 65535).2 4095).2 281474976710655).2 65535).2 65535).2 ≠ none → lo = (spS bs (zr bs true (zr bs true (qam bs) 4095).2 281474976710655).2).1 ∧ hi = (spS bs (zr bs true (zr bs true (qam bs) 4095).2 281474976710655).2).2.1 :=
  fun h => q3 (qbm (qbm (qbm (qbm (qbm h)))))
 unfold hdS qpm
 dsimp only
 generalize zr bs (qy (hdK bs) 3) _ 65535 = B at r8 hs ⊢
 obtain ⟨b, st⟩ := B
 dsimp only at r8 hs ⊢
 obtain ⟨⟨n, rfl, hn⟩, r8⟩ := r8
 cases st with
 | none =>
  dsimp only at r8 ⊢
  cases d8 with
  | true => exact ⟨_, _, _, _, _, _, _, _, _, _, _, _, rfl⟩
  | false =>
   obtain rfl : w8 = true := by rcases r8 with h | h; exact h; cases h
   rw [if_neg (by simp)]
   split <;> exact ⟨_, _, _, _, _, _, _, _, _, _, _, _, rfl⟩
 | some m =>
  obtain ⟨rfl, rfl, e⟩ := r8
  obtain ⟨rfl, rfl⟩ := hs (by simp)
  obtain rfl : n = m := by omega
  dsimp only
  rw [if_neg (c := false = true) (by simp)]
  by_cases hv : q0 (hdK bs) (zr bs true (qam bs) 4095).1 (zr bs true (zr bs true (qam bs) 4095).2 281474976710655).1 (spS bs (zr bs true (zr bs true (qam bs) 4095).2 281474976710655).2).1 (spS bs (zr bs true (zr bs true (qam bs) 4095).2 281474976710655).2).2.1 (zr bs (qy (hdK bs) 0) (spS bs (zr bs true (zr bs true (qam bs) 4095).2 281474976710655).2).2.2 65535).1 (zr bs (qy (hdK bs) 1) (zr bs (qy (hdK bs) 0) (spS bs (zr bs true (zr bs true (qam bs) 4095).2 281474976710655).2).2.2 65535).2 4095).1 (zr bs (qy (hdK bs) 2) (zr bs (qy (hdK bs) 1) (zr bs (qy (hdK bs) 0) (spS bs (zr bs true (zr bs true (qam bs) 4095).2 281474976710655).2).2.2 65535).2 4095).2 281474976710655).1 (zr bs (qy (hdK bs) 2) (zr bs (qy (hdK bs) 2) (zr bs (qy (hdK bs) 1) (zr bs (qy (hdK bs) 0) (spS bs (zr bs true (zr bs true (qam bs) 4095).2 281474976710655).2).2.2 65535).2 4095).2 281474976710655).2 65535).1 b [] = true
  ·rw [if_pos hv, if_neg (by rw [Bool.not_eq_true, Bool.not_eq_false']; exact hv)]
   exact ⟨rfl, hn, hv⟩
  ·rw [if_neg hv, if_pos (by simpa using hv)]
   exact ⟨_, _, _, _, _, _, _, _, _, _, _, _, rfl⟩
def qjV (b : List Int) (k f i lo hi s t l e bb : Int) (qc : LR) (a : Nat) : M12 :=
 if a = b.length ∧ b.length ≤ 65499 ∧ q0 k f i lo hi s t l e bb qc = true then (k, f, i, lo, hi, s, t, l, e, bb, qc, 0) else z12 4
theorem qn7 (qa : Nat) (b : List Int) (qb : LR) (hb : inB b = true) (k : Nat) (bs2 : LR) (n qi i : Int) (a : Nat) (ha : a ≤ b.length) (hi : ¬ i < n) (kk f ii lo hi' s t l e bb : Int) (qc : LR) (hr : q9 qc = true) :
  zi.l11 qa b qb (k + 1) bs2 n qi i false b (a : Int) false kk f ii lo hi' s t l e bb qc = some (qjV b kk f ii lo hi' s t l e bb qc a) := by
 rw [zi.l11]
 unfold zi.b11 qjV
 rw [if_neg (c := decide (i < n) = true) (by simpa using hi), if_neg (c := false = true) (by simp), if_pos (c := zt b (a : Int) = true) ((zN _ _).2 ⟨hb, by omega, by omega⟩)]
 unfold ZZ
 rw [if_neg (c := false = true) (by simp), hr, if_pos (c := true = true) rfl]
 by_cases h1 : a = b.length
 ·rw [if_neg (c := (!(!false && ((b.length : Int) - (a : Int) == 0))) = true) (by simp; omega)]
  by_cases h2 : b.length ≤ 65499
  ·rw [if_neg (c := decide ((b.length : Int) > 65499) = true) (by simp; omega)]
   cases hv : q0 kk f ii lo hi' s t l e bb qc with
   | true => rw [if_neg (c := (!true) = true) (by simp), if_pos ⟨h1, h2, rfl⟩]
   | false => rw [if_pos (c := (!false) = true) rfl, if_neg (by simp)]; all_goals rfl
  ·rw [if_pos (c := decide ((b.length : Int) > 65499) = true) (by simp; omega), if_neg (by omega)]; all_goals rfl
 ·rw [if_pos (c := (!(!false && ((b.length : Int) - (a : Int) == 0))) = true) (by simp; omega), if_neg (fun h => h1 h.1)]; all_goals rfl
theorem qiC (qa : Nat) (b : List Int) (qb : LR) (k : Nat) (bs2 : LR) (n qi i : Int) (bs : List Int) (a : Int) (bad : Bool) (kk f ii lo hi' s t l e bb : Int) (qc : LR) :
  zi.l11 qa b qb (k + 1) bs2 n qi i true bs a bad kk f ii lo hi' s t l e bb qc = some (z12 4) := by
 rw [zi.l11]
 unfold zi.b11
 by_cases h : i < n
 ·rw [if_pos (c := decide (i < n) = true) (by simpa using h)]; all_goals rfl
 ·rw [if_neg (c := decide (i < n) = true) (by simpa using h)]; all_goals rfl
theorem qrl (qa : Nat) (b : List Int) (qb : LR) (hb : inB b = true) (bs2 : LR) (QD : ∀ x ∈ bs2, zA x = true) (hbn : bs2.length < 1000000000) (n : Nat) (hn : n ≤ 255) (kk f ii lo hi s t l e bb : Int) : ∀ (m k i : Nat) (qi : Int) (a : Nat) (out : LR), i + m = n → m < k → -1 ≤ qi → qi ≤ 4096 * (i : Int) → a ≤ b.length → out.length ≤ i → (∀ r ∈ out, zx r.2.2.2.2.2 = true) →
  zi.l11 qa b qb k bs2 (n : Int) qi (i : Int) false b (a : Int) false kk f ii lo hi s t l e bb out = some (match qdi b bs2 m qi a with
   | none => z12 4
   | some (rs, a2) => qjV b kk f ii lo hi s t l e bb (out ++ rs) a2) := by
 obtain ⟨hl, hc⟩ := (QY b).1 hb
 intro m
 induction m with
 | zero =>
  intro k i qi a out hi' hk h1 h2 ha ho hs
  obtain ⟨k, rfl⟩ : ∃ k', k = k' + 1 := ⟨k - 1, by omega⟩
  rw [qn7 qa b qb hb k bs2 _ _ _ a ha (by omega) _ _ _ _ _ _ _ _ _ _ out ((Zo _).2 ⟨by omega, hs⟩), qdi]
  dsimp only
  rw [List.append_nil]
 | succ m ih =>
  intro k i qi a out hi' hk h1 h2 ha ho hs
  obtain ⟨k, rfl⟩ : ∃ k', k = k' + 2 := ⟨k - 2, by omega⟩
  have h3 := qqZ b hb qi h1 (by omega) bs2 QD hbn a ha
  rw [show k + 2 = (k + 1) + 1 from rfl, zi.l11, qdi]
  unfold zi.b11
  simp only [veil_eq]
  rw [if_pos (c := decide ((i : Int) < (n : Int)) = true) (by simp; omega), if_pos (c := (!false) = true) rfl]
  have hw : IntKind.wrap .i64 ((i : Int) + 1) = ((i + 1 : Nat) : Int) := by rw [qX _ (by omega) (by omega)]; omega
  have hlim : ∀ x : REC, (out.length + ([x] : LR).length) * 72 ≤ lim := fun x => by simp [lim]; omega
  cases hr : qfR b bs2 qi a with
  | none =>
   rw [hr] at h3
   obtain ⟨id, inc, st, l1, l2, cut, bag, a', bad', h3, h4⟩ := h3
   rw [h3]
   dsimp only
   rw [if_pos (hlim _)]
   exact qiC qa b qb k bs2 _ _ _ _ _ _ _ _ _ _ _ _ _ _ _ _ _
  | some p =>
   obtain ⟨r, a2⟩ := p
   rw [hr] at h3
   dsimp only at h3 ⊢
   obtain ⟨_, l2, g1, g2⟩ := qkG hc hr
   have hsm := qoZ hc QD hr
   rw [h3]
   dsimp only
   rw [if_pos (hlim _), hw, ih (k + 1) (i + 1) r.1 a2 (out ++ [r]) (by omega) (by omega) (by omega) (by omega) l2 (by simp; omega) (fun x hx => by
    rcases List.mem_append.1 hx with h | h
    ·exact hs x h
    ·rw [List.mem_singleton.1 h]; exact hsm)]
   cases qdi b bs2 m r.1 a2 with
   | none => rfl
   | some q =>
    obtain ⟨rs, a3⟩ := q
    dsimp only
    rw [List.append_assoc]
    all_goals rfl
theorem ql4 : ∀ (l : LR) (qi : Int), (∀ r ∈ l, r.1 ≤ 4095) → qga qi l → -1 ≤ qi → qi ≤ 4095 → (l.length : Int) ≤ 4095 - qi
 | [], qi, _, _, _, h => by simp; omega
 | r :: l, qi, h, h1, h2, h3 => by
  have := ql4 l r.1 (fun x hx => h x (List.mem_cons_of_mem _ hx)) h1.2 (by have := h1.1; omega) (h r (List.mem_cons_self ..))
  have := h1.1
  simp
  omega
theorem qoB {l : LR} (h : Qp l = true) : l.length < 1000000000 := by
 obtain ⟨h1, h2⟩ := qbr h
 have := ql4 l (-1) (fun r hr => (zH (h1 r hr)).2.1) h2 (by omega) (by omega)
 omega
theorem qsN.pure (b : List Int) (qb : LR) (hb : inB b = true) (hs : q9 qb = true) : zi.f BIG b qb = some (qaW b qb) := by
 obtain ⟨hl, hc⟩ := (QY b).1 hb
 unfold zi.f zi.b qaW
 simp only [veil_eq]
 rw [hs, hb]
 cases hso : Qp qb with
 | false => rfl
 | true =>
  obtain ⟨QD, hris⟩ := qbr hso
  have hbn := qoB hso
  have hh := qss.pure b hb
  rw [if_pos (c := true = true) rfl, if_neg (c := (!true) = true) (by simp), if_pos (c := true = true) rfl]
  unfold qiD
  cases hd : hdS b with
  | none =>
   rw [hd] at hh
   obtain ⟨k, f, i, lo, hi, s, t, l, e, bb, a, bad, hh⟩ := hh
   rw [hh]
   dsimp only
   have hfw : ∀ m, qI.f BIG b a bad true m = some (0, true, b, a, bad) := fun m => qhx b a bad m
   have hdw : ∀ (bs2 : LR) (n qi i1 : Int) (bs : List Int) (a1 : Int) (bad1 : Bool) (kk f1 i2 lo1 hi1 s1 t1 l1 e1 b1 : Int) (qc : LR), zi.l11 BIG b qb BIG bs2 n qi i1 true bs a1 bad1 kk f1 i2 lo1 hi1 s1 t1 l1 e1 b1 qc = some (z12 4) := by
    intro bs2 n qi i1 bs a1 bad1 kk f1 i2 lo1 hi1 s1 t1 l1 e1 b1 qc
    have := qiC BIG b qb (BIG - 1) bs2 n qi i1 bs a1 bad1 kk f1 i2 lo1 hi1 s1 t1 l1 e1 b1 qc
    rw [← qaX] at this
    exact this
   simp only [hfw, hdw]
   cases (bb == 0) <;> cases qy k 4 <;> rfl
  | some p =>
   obtain ⟨k, f, i, lo, hi, s, t, l, e, bb, a⟩ := p
   rw [hd] at hh
   dsimp only at hh ⊢
   obtain ⟨hh, l1, hv⟩ := hh
   rw [hh]
   dsimp only
   have key : (if qy k 4 = true then (match qI.f BIG b (a : Int) false false 255 with
      | none => none
      | some y1 => zi.l11 BIG b qb BIG (qbj bb qb) y1.1 (-1) 0 y1.2.1 y1.2.2.1 y1.2.2.2.1 y1.2.2.2.2 k f i lo hi s t l e bb []) else some (qjV b k f i lo hi s t l e bb [] a)) =
     some (match (match qgb b (qbj bb qb) k a with
      | none => none
      | some (rs, a2) => if a2 = b.length ∧ b.length ≤ 65499 ∧ q0 k f i lo hi s t l e bb rs = true then some (k, f, i, lo, hi, s, t, l, e, bb, rs) else none) with
      | none => z12 4
      | some m => okM m) := by
    unfold qgb
    cases h4 : qy k 4 with
    | false =>
     rw [if_neg (by simp), if_neg (by simp)]
     dsimp only
     unfold qjV
     split <;> rfl
    | true =>
     rw [if_pos rfl, if_pos rfl]
     have hg := qd0 b a 255 hb (by decide) (by decide) l1
     cases ht : tk b a 255 with
     | none =>
      rw [ht] at hg
      obtain ⟨a', bad, hg, h2⟩ := hg
      rw [hg]
      dsimp only
      rw [qaX]
      exact qiC _ b qb _ _ _ _ _ _ _ _ _ _ _ _ _ _ _ _ _ _ _
     | some w =>
      obtain ⟨n, a1⟩ := w
      rw [ht] at hg
      dsimp only at hg ⊢
      obtain ⟨_, n0, n1, _, _, l2⟩ := qa3 hc ht
      rw [hg]
      dsimp only
      have hbl : (qbj bb qb).length < 1000000000 := by
       unfold qbj
       split
       ·simp
       ·exact hbn
      have := qrl BIG b qb hb (qbj bb qb) (qiF QD bb) hbl n.toNat (by omega) k f i lo hi s t l e bb n.toNat BIG 0 (-1) a1 [] (by omega) (by rw [Zx]; omega) (by omega) (by omega) l2 (by simp) (by simp)
      rw [show ((n.toNat : Nat) : Int) = n from by omega] at this
      rw [show ((0 : Nat) : Int) = 0 from rfl] at this
      rw [this]
      cases qdi b (qbj bb qb) n.toNat (-1) a1 with
      | none => rfl
      | some q =>
       obtain ⟨rs, a3⟩ := q
       dsimp only
       rw [List.nil_append]
       unfold qjV
       split <;> rfl
   have hend : (if zt b (a : Int) = true then (if (!(!false && (ZZ b (a : Int) false == 0))) = true then some (z12 4) else if decide (((b.length : Nat) : Int) > 65499) = true then some (z12 4) else if (!q0 k f i lo hi s t l e bb []) = true then some (z12 4) else some (k, f, i, lo, hi, s, t, l, e, bb, [], 0)) else none) = some (qjV b k f i lo hi s t l e bb [] a) := by
    have := qn7 0 b qb hb 0 [] 0 0 0 a l1 (by omega) k f i lo hi s t l e bb [] rfl
    rw [← this, zi.l11]
    unfold zi.b11
    rfl
   refine Eq.trans ?_ key
   unfold qbj
   cases (bb == 0) <;> cases qy k 4 <;> first | exact hend | rfl
theorem qsz.pure {bs : List Int} (hb : inB bs = true) : ZS.f BIG bs = some (qgX bs) := qsA.pure hb
theorem qpG : q9 [] = true := rfl
def qh1 : Env := ⟨th, gam [(54, qb3), (16, qcp), (19, ZU)], fun i => ⟨[], [], []⟩⟩
def ZJ.k (rs : List AV) (os : List Den.Obj) : Option (Int × Int × Int × Int × Int × Int × Int × Int × Int × Int × LR × Int) :=
 match rs, os with
 | [.agg [.d (.int .i64) r0, .d (.int .i64) r1, .d (.int .i64) r2, .d (.int .i64) r3, .d (.int .i64) r4, .d (.int .i64) r5, .d (.int .i64) r6, .d (.int .i64) r7, .d (.int .i64) r8, .d (.int .i64) r9, .d (.sl (.pair (.int .i64) (.pair (.int .i64) (.pair (.int .i64) (.pair (.pair (.int .i64) (.int .i64)) (.pair .bool (.sl (.pair (.int .i64) (.sl (.int .u8)))))))))) r10], .d (.int .i64) r11], [] => some (r0, r1, r2, r3, r4, r5, r6, r7, r8, r9, r10, r11)
 | _, _ => none
def ZJ.b (gen : Int) (b : List Int) : Option (Int × Int × Int × Int × Int × Int × Int × Int × Int × Int × LR × Int) :=
 (if (gen == (3 : Int)) then (match (veil (ZS.f BIG b)) with | none => none | some y0 => some (y0.1, y0.2.1, y0.2.2.1, y0.2.2.2.1, y0.2.2.2.2.1, y0.2.2.2.2.2.1, y0.2.2.2.2.2.2.1, y0.2.2.2.2.2.2.2.1, y0.2.2.2.2.2.2.2.2.1, y0.2.2.2.2.2.2.2.2.2.1, y0.2.2.2.2.2.2.2.2.2.2.1, y0.2.2.2.2.2.2.2.2.2.2.2)) else (match (veil (zV.f BIG gen b ([] : LR))) with | none => none | some y1 => (match (veil (qbC.f BIG y1.1 y1.2.1 y1.2.2.1 y1.2.2.2.1 y1.2.2.2.2.1 y1.2.2.2.2.2.1 y1.2.2.2.2.2.2.1 y1.2.2.2.2.2.2.2.1 y1.2.2.2.2.2.2.2.2.1 y1.2.2.2.2.2.2.2.2.2.1 y1.2.2.2.2.2.2.2.2.2.2.1)) with | none => none | some y2 => some (y2.1, y2.2.1, y2.2.2.1, y2.2.2.2.1, y2.2.2.2.2.1, y2.2.2.2.2.2.1, y2.2.2.2.2.2.2.1, y2.2.2.2.2.2.2.2.1, y2.2.2.2.2.2.2.2.2.1, y2.2.2.2.2.2.2.2.2.2.1, y2.2.2.2.2.2.2.2.2.2.2, y1.2.2.2.2.2.2.2.2.2.2.2))))
def ZJ.f (qa : Nat) (gen : Int) (b : List Int) : Option (Int × Int × Int × Int × Int × Int × Int × Int × Int × Int × LR × Int) := ZJ.b gen b
theorem ZJ.eq (qa : Nat) (gen : Int) (b : List Int) : (denF qh1 loopN qa Tryz.f32 [.dat (.pair tQi (.pair tQi (.pair tQi (.pair (.pair tQi tQi) (.pair tQi (.pair tQi (.pair tQi (.pair tQi (.pair tQi (.sl tQr)))))))))) true, .raw] [.d tQi gen, .d (.sl (.int .u8)) b] [] ZJ.k) = ZJ.f qa gen b := by
 kernel_rfl
def qbs : Den.Sum := ⟨[.raw, .dat (.sl (.int .u8)) false], fun qK qn κ => match qK, qn with
 | [.d (.int .i64) gen, .d (.sl (.int .u8)) b], [] => (match veil (ZJ.f BIG gen b) with | none => none | some y => κ [.agg [.d (.int .i64) y.1, .d (.int .i64) y.2.1, .d (.int .i64) y.2.2.1, .d (.int .i64) y.2.2.2.1, .d (.int .i64) y.2.2.2.2.1, .d (.int .i64) y.2.2.2.2.2.1, .d (.int .i64) y.2.2.2.2.2.2.1, .d (.int .i64) y.2.2.2.2.2.2.2.1, .d (.int .i64) y.2.2.2.2.2.2.2.2.1, .d (.int .i64) y.2.2.2.2.2.2.2.2.2.1, .d (.sl (.pair (.int .i64) (.pair (.int .i64) (.pair (.int .i64) (.pair (.pair (.int .i64) (.int .i64)) (.pair .bool (.sl (.pair (.int .i64) (.sl (.int .u8)))))))))) y.2.2.2.2.2.2.2.2.2.2.1], .d (.int .i64) y.2.2.2.2.2.2.2.2.2.2.2] [])
 | _, _ => none⟩
theorem qjw : SumDet qbs := zj fun _ _ _ _ => by
 unfold qbs
 simp only [veil_eq]
 split
 ·split <;> rfl
 ·rfl
theorem qkd : SumOk Tryz.prog 32 qbs := by
 have hE : EnvOk Tryz.prog qh1 := env_ok (l := [(54, qb3), (16, qcp), (19, ZU)]) th_ok qZ ⟨⟨qlt, qkt⟩, ⟨qmr, qlq⟩, ⟨qfg, qeY⟩, trivial⟩ _
 refine sum_ok hE Tryz.func32 rfl (by kernel_rfl) qbs [.dat (.pair tQi (.pair tQi (.pair tQi (.pair (.pair tQi tQi) (.pair tQi (.pair tQi (.pair tQi (.pair tQi (.pair tQi (.sl tQr)))))))))) true, .raw] ZJ.k ?_
 intro R avs qn κ r h
 unfold qbs at h
 simp only [veil_eq] at h
 split at h
 ·rename_i gen b
  split at h
  ·cases h
  ·rename_i y hy
   refine ⟨BIG, _, _, _, (ZJ.eq BIG gen b).trans hy, ?_, h⟩
   intro rs ros hk
   unfold ZJ.k at hk
   split at hk
   ·rw [← sj hk]; exact ⟨rfl, rfl⟩
   ·cases hk
 ·cases h
theorem qsJ.pure (gen k f i lo hi s t l e b : Int) (qc qb : LR) (hr : q9 qc = true) (hl : q9 qb = true) (hln : qb.length < 1000000000) :
  zU.f BIG gen k f i lo hi s t l e b qc qb = some (Qb gen k f i lo hi s t l e b qc qb) := by
 refine qdZ (gen := gen) (fun gen => zU.f BIG gen k f i lo hi s t l e b qc qb = some (Qb gen k f i lo hi s t l e b qc qb)) ?_ ?_ ?_ ?_
 ·rw [qgC]
  unfold zU.f zU.b
  simp only [veil_eq]
  rw [if_pos (c := ((1 : Int) == 1) = true) rfl]
  unfold ZC.f ZC.b
  rw [hr]
  all_goals rfl
 ·rw [qgB]
  unfold zU.f zU.b
  simp only [veil_eq]
  rw [if_neg (c := ((2 : Int) == 1) = true) (by decide), if_pos (c := ((2 : Int) == 2) = true) rfl]
  unfold ZA.f ZA.b
  rw [hr]
  all_goals rfl
 ·rw [qeD]
  unfold zU.f zU.b
  simp only [veil_eq]
  rw [if_neg (c := ((3 : Int) == 1) = true) (by decide), if_neg (c := ((3 : Int) == 2) = true) (by decide), if_pos (c := ((3 : Int) == 3) = true) rfl, qsM.pure k f i lo hi s t l e b qc qb hr hl hln]
 ·intro h1 h2 h3
  rw [qgD h1 h2 h3]
  unfold zU.f zU.b
  simp only [veil_eq]
  rw [if_neg (c := (gen == 1) = true) (by simpa using h1), if_neg (c := (gen == 2) = true) (by simpa using h2), if_neg (c := (gen == 3) = true) (by simpa using h3)]
theorem qsh.pure (gen : Int) (b : List Int) (qb : LR) (hb : isB b) (hl : b.length < 1000000000) (hs : q9 qb = true) :
  zV.f BIG gen b qb = some (QV gen b qb) := by
 have hin : inB b = true := (QY b).2 ⟨by omega, hb⟩
 have his : inS b = true := qm6 hb hl
 refine qdZ (gen := gen) (fun gen => zV.f BIG gen b qb = some (QV gen b qb)) ?_ ?_ ?_ ?_
 ·rw [qkK]
  unfold zV.f zV.b
  simp only [veil_eq]
  rw [if_pos (c := ((1 : Int) == 1) = true) rfl]
  unfold ZB.f ZB.b
  simp only [veil_eq]
  rw [hin]
  all_goals rfl
 ·rw [qkJ]
  unfold zV.f zV.b
  simp only [veil_eq]
  rw [if_neg (c := ((2 : Int) == 1) = true) (by decide), if_pos (c := ((2 : Int) == 2) = true) rfl]
  unfold Zz.f Zz.b
  simp only [veil_eq]
  rw [his]
  all_goals rfl
 ·rw [qmY]
  unfold zV.f zV.b
  simp only [veil_eq]
  rw [if_neg (c := ((3 : Int) == 1) = true) (by decide), if_neg (c := ((3 : Int) == 2) = true) (by decide), if_pos (c := ((3 : Int) == 3) = true) rfl, qsN.pure b qb hin hs]
 ·intro h1 h2 h3
  unfold zV.f zV.b
  simp only [veil_eq]
  unfold QV
  simp only [show (gen == 1) = false from by simpa using h1, show (gen == 2) = false from by simpa using h2, show (gen == 3) = false from by simpa using h3, Bool.false_eq_true, if_false]
  all_goals rfl
theorem qsx.pure (gen : Int) (b : List Int) (hb : isB b) (hl : b.length < 1000000000) : ZJ.f BIG gen b = some (QW gen b) := by
 have hin : inB b = true := (QY b).2 ⟨by omega, hb⟩
 unfold ZJ.f ZJ.b QW
 simp only [veil_eq]
 cases h3 : gen == 3
 ·simp only [Bool.false_eq_true, if_false]
  rw [qsh.pure gen b [] hb hl rfl]
  all_goals rfl
 ·simp only [if_true]
  rw [qsz.pure hin]
def qhS : Env := ⟨th, gam [(13, qau), (29, qaE), (30, qbx)], fun i => ⟨[], [], []⟩⟩
def QT.k (rs : List AV) (os : List Den.Obj) : Option ((List Int) × Int) :=
 match rs, os with
 | [.d (.sl (.int .u8)) r0, .d (.int .i64) r1], [] => some (r0, r1)
 | _, _ => none
def QT.b (gen qj qs qH qe qf qG qg qr ql qq : Int) (qh qb : LR) : Option ((List Int) × Int) :=
 (match (veil (QM.f BIG qj)) with | none => none | some y0 => (if y0 then (if (gen != (1 : Int)) then some (([] : List Int), (10 : Int)) else (match (veil (zU.f BIG gen qj qs qH qe qf qG qg qr ql qq qh qb)) with | none => none | some y1 => (if (y1.2 != (0 : Int)) then some (([] : List Int), y1.2) else (match (veil (Q2.f BIG gen y1.1)) with | none => none | some y2 => some (y2.1, y2.2))))) else (match (veil (zU.f BIG gen qj qs qH qe qf qG qg qr ql qq qh qb)) with | none => none | some y3 => (if (y3.2 != (0 : Int)) then some (([] : List Int), y3.2) else (match (veil (Q2.f BIG gen y3.1)) with | none => none | some y4 => some (y4.1, y4.2))))))
def QT.f (qa : Nat) (gen qj qs qH qe qf qG qg qr ql qq : Int) (qh qb : LR) : Option ((List Int) × Int) := QT.b gen qj qs qH qe qf qG qg qr ql qq qh qb
theorem QT.eq (qa : Nat) (gen qj qs qH qe qf qG qg qr ql qq : Int) (qh qb : LR) : (denF qhS loopN qa Tryz.f10 [.dat (.sl (.int .u8)) false, .raw] [.d tQi gen, .agg [.d tQi qj, .d tQi qs, .d tQi qH, .d tQi qe, .d tQi qf, .d tQi qG, .d tQi qg, .d tQi qr, .d tQi ql, .d tQi qq, .d (.sl tQr) qh], .d (.sl tQr) qb] [] QT.k) = QT.f qa gen qj qs qH qe qf qG qg qr ql qq qh qb := by
 kernel_rfl
def qa5 : Den.Sum := ⟨[.raw, .dat (.pair tQi (.pair tQi (.pair tQi (.pair (.pair tQi tQi) (.pair tQi (.pair tQi (.pair tQi (.pair tQi (.pair tQi (.sl tQr)))))))))) true, .dat (.sl tQr) false], fun qK qn κ => match qK, qn with
 | [.d (.int .i64) gen, .agg [.d (.int .i64) qj, .d (.int .i64) qs, .d (.int .i64) qH, .d (.int .i64) qe, .d (.int .i64) qf, .d (.int .i64) qG, .d (.int .i64) qg, .d (.int .i64) qr, .d (.int .i64) ql, .d (.int .i64) qq, .d (.sl (.pair (.int .i64) (.pair (.int .i64) (.pair (.int .i64) (.pair (.pair (.int .i64) (.int .i64)) (.pair .bool (.sl (.pair (.int .i64) (.sl (.int .u8)))))))))) qh], .d (.sl (.pair (.int .i64) (.pair (.int .i64) (.pair (.int .i64) (.pair (.pair (.int .i64) (.int .i64)) (.pair .bool (.sl (.pair (.int .i64) (.sl (.int .u8)))))))))) qb], [] => (match veil (QT.f BIG gen qj qs qH qe qf qG qg qr ql qq qh qb) with | none => none | some y => κ [.d (.sl (.int .u8)) y.1, .d (.int .i64) y.2] [])
 | _, _ => none⟩
theorem qiV : SumDet qa5 := zj fun _ _ _ _ => by
 unfold qa5
 simp only [veil_eq]
 split
 ·split <;> rfl
 ·rfl
theorem qjB : SumOk Tryz.prog 10 qa5 := by
 have hE : EnvOk Tryz.prog qhS := env_ok (l := [(13, qau), (29, qaE), (30, qbx)]) th_ok qZ ⟨⟨qf5, qfI⟩, ⟨qiT, qic⟩, ⟨qku, qjH⟩, trivial⟩ _
 refine sum_ok hE Tryz.func10 rfl (by kernel_rfl) qa5 [.dat (.sl (.int .u8)) false, .raw] QT.k ?_
 intro R avs qn κ r h
 unfold qa5 at h
 simp only [veil_eq] at h
 split at h
 ·rename_i gen qj qs qH qe qf qG qg qr ql qq qh qb
  split at h
  ·cases h
  ·rename_i y hy
   refine ⟨BIG, _, _, _, (QT.eq BIG gen qj qs qH qe qf qG qg qr ql qq qh qb).trans hy, ?_, h⟩
   intro rs ros hk
   unfold QT.k at hk
   split at hk
   ·rw [← sj hk]; exact ⟨rfl, rfl⟩
   ·cases hk
 ·cases h
def qhT : Env := ⟨th, gam [(12, qcm), (13, qau), (31, qby), (32, qbs)], fun i => ⟨[], [], []⟩⟩
def Qq.k (rs : List AV) (os : List Den.Obj) : Option (Int × Int × Int × Int × Int × Int × Int × Int × Int × Int × LR × Int × (List Int) × Int) :=
 match rs, os with
 | [.agg [.d (.int .i64) r0, .d (.int .i64) r1, .d (.int .i64) r2, .d (.int .i64) r3, .d (.int .i64) r4, .d (.int .i64) r5, .d (.int .i64) r6, .d (.int .i64) r7, .d (.int .i64) r8, .d (.int .i64) r9, .d (.sl (.pair (.int .i64) (.pair (.int .i64) (.pair (.int .i64) (.pair (.pair (.int .i64) (.int .i64)) (.pair .bool (.sl (.pair (.int .i64) (.sl (.int .u8)))))))))) r10, .d (.int .i64) r11, .d (.sl (.int .u8)) r12], .d (.int .i64) r13], [] => some (r0, r1, r2, r3, r4, r5, r6, r7, r8, r9, r10, r11, r12, r13)
 | _, _ => none
def Qq.b (b : List Int) (qeg qeh : Int) : Option (Int × Int × Int × Int × Int × Int × Int × Int × Int × Int × LR × Int × (List Int) × Int) :=
 (match (veil (QB.f BIG b)) with | none => none | some y0 => (if (y0.2.2 != (0 : Int)) then some (0, 0, 0, 0, 0, 0, 0, 0, 0, 0, ([] : LR), 0, ([] : List Int), y0.2.2) else (match (veil (ZJ.f BIG y0.1 y0.2.1)) with | none => none | some y1 => (if (y1.2.2.2.2.2.2.2.2.2.2.2 == (0 : Int)) then (match (veil (QM.f BIG y1.1)) with | none => none | some y2 => (match (veil (ZQ.f BIG qeg qeh y0.1)) with | none => none | some y3 => (if (!y3) then (if (y0.1 != (1 : Int)) then some (0, 0, 0, 0, 0, 0, 0, 0, 0, 0, ([] : LR), y0.1, ([] : List Int), (9 : Int)) else (if (!y2) then some (0, 0, 0, 0, 0, 0, 0, 0, 0, 0, ([] : LR), y0.1, ([] : List Int), (9 : Int)) else (if (y1.2.2.2.2.2.2.2.2.2.2.2 != (0 : Int)) then some (0, 0, 0, 0, 0, 0, 0, 0, 0, 0, ([] : LR), 0, ([] : List Int), y1.2.2.2.2.2.2.2.2.2.2.2) else (if y2 then (if (y0.1 != (1 : Int)) then some (0, 0, 0, 0, 0, 0, 0, 0, 0, 0, ([] : LR), 0, ([] : List Int), (10 : Int)) else some (y1.1, y1.2.1, y1.2.2.1, y1.2.2.2.1, y1.2.2.2.2.1, y1.2.2.2.2.2.1, y1.2.2.2.2.2.2.1, y1.2.2.2.2.2.2.2.1, y1.2.2.2.2.2.2.2.2.1, y1.2.2.2.2.2.2.2.2.2.1, y1.2.2.2.2.2.2.2.2.2.2.1, y0.1, y0.2.1, (0 : Int))) else some (y1.1, y1.2.1, y1.2.2.1, y1.2.2.2.1, y1.2.2.2.2.1, y1.2.2.2.2.2.1, y1.2.2.2.2.2.2.1, y1.2.2.2.2.2.2.2.1, y1.2.2.2.2.2.2.2.2.1, y1.2.2.2.2.2.2.2.2.2.1, y1.2.2.2.2.2.2.2.2.2.2.1, y0.1, y0.2.1, (0 : Int)))))) else (if (y1.2.2.2.2.2.2.2.2.2.2.2 != (0 : Int)) then some (0, 0, 0, 0, 0, 0, 0, 0, 0, 0, ([] : LR), 0, ([] : List Int), y1.2.2.2.2.2.2.2.2.2.2.2) else (if y2 then (if (y0.1 != (1 : Int)) then some (0, 0, 0, 0, 0, 0, 0, 0, 0, 0, ([] : LR), 0, ([] : List Int), (10 : Int)) else some (y1.1, y1.2.1, y1.2.2.1, y1.2.2.2.1, y1.2.2.2.2.1, y1.2.2.2.2.2.1, y1.2.2.2.2.2.2.1, y1.2.2.2.2.2.2.2.1, y1.2.2.2.2.2.2.2.2.1, y1.2.2.2.2.2.2.2.2.2.1, y1.2.2.2.2.2.2.2.2.2.2.1, y0.1, y0.2.1, (0 : Int))) else some (y1.1, y1.2.1, y1.2.2.1, y1.2.2.2.1, y1.2.2.2.2.1, y1.2.2.2.2.2.1, y1.2.2.2.2.2.2.1, y1.2.2.2.2.2.2.2.1, y1.2.2.2.2.2.2.2.2.1, y1.2.2.2.2.2.2.2.2.2.1, y1.2.2.2.2.2.2.2.2.2.2.1, y0.1, y0.2.1, (0 : Int))))))) else (match (veil (ZQ.f BIG qeg qeh y0.1)) with | none => none | some y4 => (if (!y4) then (if (y0.1 != (1 : Int)) then some (0, 0, 0, 0, 0, 0, 0, 0, 0, 0, ([] : LR), y0.1, ([] : List Int), (9 : Int)) else some (0, 0, 0, 0, 0, 0, 0, 0, 0, 0, ([] : LR), y0.1, ([] : List Int), (9 : Int))) else (if (y1.2.2.2.2.2.2.2.2.2.2.2 != (0 : Int)) then some (0, 0, 0, 0, 0, 0, 0, 0, 0, 0, ([] : LR), 0, ([] : List Int), y1.2.2.2.2.2.2.2.2.2.2.2) else some (y1.1, y1.2.1, y1.2.2.1, y1.2.2.2.1, y1.2.2.2.2.1, y1.2.2.2.2.2.1, y1.2.2.2.2.2.2.1, y1.2.2.2.2.2.2.2.1, y1.2.2.2.2.2.2.2.2.1, y1.2.2.2.2.2.2.2.2.2.1, y1.2.2.2.2.2.2.2.2.2.2.1, y0.1, y0.2.1, (0 : Int)))))))))
def Qq.f (qa : Nat) (b : List Int) (qeg qeh : Int) : Option (Int × Int × Int × Int × Int × Int × Int × Int × Int × Int × LR × Int × (List Int) × Int) := Qq.b b qeg qeh
theorem Qq.eq (qa : Nat) (b : List Int) (qeg qeh : Int) : (denF qhT loopN qa Tryz.f11 [.dat (.pair (.pair tQi (.pair tQi (.pair tQi (.pair (.pair tQi tQi) (.pair tQi (.pair tQi (.pair tQi (.pair tQi (.pair tQi (.sl tQr)))))))))) (.pair tQi (.sl (.int .u8)))) true, .raw] [.d (.sl (.int .u8)) b, .agg [.d tQi qeg, .d tQi qeh]] [] Qq.k) = Qq.f qa b qeg qeh := by
 kernel_rfl
def Zt : Den.Sum := ⟨[.dat (.sl (.int .u8)) false, .dat (.pair tQi tQi) true], fun qK qn κ => match qK, qn with
 | [.d (.sl (.int .u8)) b, .agg [.d (.int .i64) qeg, .d (.int .i64) qeh]], [] => (match veil (Qq.f BIG b qeg qeh) with | none => none | some y => κ [.agg [.d (.int .i64) y.1, .d (.int .i64) y.2.1, .d (.int .i64) y.2.2.1, .d (.int .i64) y.2.2.2.1, .d (.int .i64) y.2.2.2.2.1, .d (.int .i64) y.2.2.2.2.2.1, .d (.int .i64) y.2.2.2.2.2.2.1, .d (.int .i64) y.2.2.2.2.2.2.2.1, .d (.int .i64) y.2.2.2.2.2.2.2.2.1, .d (.int .i64) y.2.2.2.2.2.2.2.2.2.1, .d (.sl (.pair (.int .i64) (.pair (.int .i64) (.pair (.int .i64) (.pair (.pair (.int .i64) (.int .i64)) (.pair .bool (.sl (.pair (.int .i64) (.sl (.int .u8)))))))))) y.2.2.2.2.2.2.2.2.2.2.1, .d (.int .i64) y.2.2.2.2.2.2.2.2.2.2.2.1, .d (.sl (.int .u8)) y.2.2.2.2.2.2.2.2.2.2.2.2.1], .d (.int .i64) y.2.2.2.2.2.2.2.2.2.2.2.2.2] [])
 | _, _ => none⟩
theorem qdo : SumDet Zt := zj fun _ _ _ _ => by
 unfold Zt
 simp only [veil_eq]
 split
 ·split <;> rfl
 ·rfl
theorem qdL : SumOk Tryz.prog 11 Zt := by
 have hE : EnvOk Tryz.prog qhT := env_ok (l := [(12, qcm), (13, qau), (31, qby), (32, qbs)]) th_ok qZ ⟨⟨qmo, qlk⟩, ⟨qf5, qfI⟩, ⟨qkv, qjI⟩, ⟨qkd, qjw⟩, trivial⟩ _
 refine sum_ok hE Tryz.func11 rfl (by kernel_rfl) Zt [.dat (.pair (.pair tQi (.pair tQi (.pair tQi (.pair (.pair tQi tQi) (.pair tQi (.pair tQi (.pair tQi (.pair tQi (.pair tQi (.sl tQr)))))))))) (.pair tQi (.sl (.int .u8)))) true, .raw] Qq.k ?_
 intro R avs qn κ r h
 unfold Zt at h
 simp only [veil_eq] at h
 split at h
 ·rename_i b qeg qeh
  split at h
  ·cases h
  ·rename_i y hy
   refine ⟨BIG, _, _, _, (Qq.eq BIG b qeg qeh).trans hy, ?_, h⟩
   intro rs ros hk
   unfold Qq.k at hk
   split at hk
   ·rw [← sj hk]; exact ⟨rfl, rfl⟩
   ·cases hk
 ·cases h
def qg6 (gen k f i lo hi s t l e b : Int) (qc qb : LR) : List Int × Int :=
 if (1 ≤ k ∧ k ≤ 3) ∧ gen ≠ 1 then ([], 10) else if (Qb gen k f i lo hi s t l e b qc qb).2 ≠ 0 then ([], (Qb gen k f i lo hi s t l e b qc qb).2) else qkc gen (Qb gen k f i lo hi s t l e b qc qb).1
theorem qh2 {gen k f i lo hi s t l e b : Int} {qc qb : LR} (hb : qaI qc) (h0 : (Qb gen k f i lo hi s t l e b qc qb).2 = 0) : isB (Qb gen k f i lo hi s t l e b qc qb).1 := by
 by_cases h3 : gen = 3 ∧ Qp qb = false
 ·obtain ⟨rfl, hs⟩ := h3
  rw [qeD] at h0
  unfold qds at h0
  rw [hs] at h0
  simp at h0
 ·refine (qi2 (fun h => ?_) hb).1
  cases hs : Qp qb with
  | true => rfl
  | false => exact absurd ⟨h, hs⟩ h3
theorem QM.pure (k : Int) : QM.f BIG k = some (decide (1 ≤ k ∧ k ≤ 3)) := by
 unfold QM.f QM.b
 by_cases h : k ≥ 1
 ·rw [if_pos (by simpa using h)]
  by_cases h2 : k ≤ 3
  ·simp [h2]; omega
  ·simp [h2]
 ·rw [if_neg (by simpa using h)]
  simp; omega
theorem QT.pure (gen k f i lo hi s t l e b : Int) (qc qb : LR) (hr : q9 qc = true) (hl : q9 qb = true) (hln : qb.length < 1000000000) (hb : qaI qc) :
  QT.f BIG gen k f i lo hi s t l e b qc qb = some (qg6 gen k f i lo hi s t l e b qc qb) := by
 unfold QT.f QT.b qg6
 rw [QM.pure, qsJ.pure gen k f i lo hi s t l e b qc qb hr hl hln]
 simp only [veil_eq]
 by_cases h0 : (Qb gen k f i lo hi s t l e b qc qb).2 = 0
 ·rw [Q2.pure gen _ (qh2 hb h0)]
  simp only [veil_eq]
  by_cases hg : 1 ≤ k ∧ k ≤ 3
  ·rw [if_pos (by simpa using hg)]
   by_cases g1 : gen = 1
   ·rw [if_neg (by simp [g1]), if_neg (by simp [h0]), if_neg (by simp [g1]), if_neg (by simp [h0])]
   ·rw [if_pos (by simp [g1]), if_pos ⟨hg, g1⟩]
  ·rw [if_neg (by simpa using hg), if_neg (by simp [h0]), if_neg (by intro h; exact hg h.1), if_neg (by simp [h0])]
 ·by_cases hg : 1 ≤ k ∧ k ≤ 3
  ·rw [if_pos (by simpa using hg)]
   by_cases g1 : gen = 1
   ·rw [if_neg (by simp [g1]), if_pos (by simpa using h0), if_neg (by simp [g1]), if_pos h0]
   ·rw [if_pos (by simp [g1]), if_pos ⟨hg, g1⟩]
  ·rw [if_neg (by simpa using hg), if_pos (by simpa using h0), if_neg (by intro h; exact hg h.1), if_pos h0]
def w4 : List Int := (Qb 1 4 0 0 2 3 0 0 0 0 0 [] []).1
def w1 : List Int := (Qb 1 1 0 0 2 3 7 0 0 0 0 [] []).1
theorem qpq : qaI [] := by
 intro r hr
 simp at hr
def zS (b : List Int) : Int × List Int × Int :=
 if b.length > 65507 then (0, [], 3)
 else if b.length < 8 then (0, [], 2)
 else if Q6 ((b.take 1).drop 0) ≠ 156 ∨ Q6 ((b.take 2).drop 1) < 1 ∨ Q6 ((b.take 2).drop 1) > 3 ∨ Q6 ((b.take 4).drop 2) ≠ ((b.length - 8 : Nat) : Int) then (0, [], 4)
 else if IntKind.wrap .u32 (Q6 (b.drop (b.length - 4))) ≠ (qgv (b.take (b.length - 4)) : Int) then (0, [], 8)
 else (Q6 ((b.take 2).drop 1), (b.take (b.length - 4)).drop 4, 0)
theorem qm4 {l : List Int} (h : isB l) (n : Nat) : isB (l.take n) := fun c hc => h c (List.mem_of_mem_take hc)
theorem qq8 {l : List Int} (h : isB l) (n : Nat) : isB (l.drop n) := fun c hc => h c (List.mem_of_mem_drop hc)
theorem QB.pure (L : List Int) (hb : isB L) (hl : L.length ≤ 1000000) : QB.f BIG L = some (zS L) := by
 have hin := qqb hb hl
 unfold QB.f QB.b zS
 by_cases h1 : L.length > 65507
 ·rw [if_pos (by simp; omega), if_pos h1]
 rw [if_neg (by simp; omega), if_neg h1]
 by_cases h2 : L.length < 8
 ·rw [if_pos (by simp; omega), if_pos h2]
 rw [if_neg (by simp; omega), if_neg h2]
 have hat : ∀ a : Nat, a ≤ L.length → zt L (a : Int) = true := by
  intro a h1
  unfold zt
  rw [hin]
  simp
  omega
 have r0 := qdW L 1 0 (by omega) (by omega) (by omega)
 have r1 := qdW L 1 1 (by omega) (by omega) (by omega)
 have r2 := qdW L 2 2 (by omega) (by omega) (by omega)
 simp only [show ((0 : Nat) : Int) = 0 from rfl, show ((1 : Nat) : Int) = 1 from rfl, show ((2 : Nat) : Int) = 2 from rfl, show ((0 + 1 : Nat) : Int) = 1 from rfl, show ((1 + 1 : Nat) : Int) = 2 from rfl, show ((2 + 2 : Nat) : Int) = 4 from rfl, show 0 + 1 = 1 from rfl, show 1 + 1 = 2 from rfl, show 2 + 2 = 4 from rfl] at r0 r1 r2
 have a0 := hat 0 (by omega)
 have a1 := hat 1 (by omega)
 have a2 := hat 2 (by omega)
 have a4 := hat 4 (by omega)
 simp only [show ((0 : Nat) : Int) = 0 from rfl, show ((1 : Nat) : Int) = 1 from rfl, show ((2 : Nat) : Int) = 2 from rfl, show ((4 : Nat) : Int) = 4 from rfl] at a0 a1 a2 a4
 rw [if_pos hin, if_pos a0]
 simp only [veil_eq, r0]
 rw [if_pos a1]
 simp only [veil_eq, r1]
 rw [if_pos a2]
 simp only [veil_eq, r2]
 have w8 : IntKind.wrap .i64 (((L.length : Nat) : Int) - 8) = ((L.length - 8 : Nat) : Int) := by rw [qX _ (by omega) (by omega)]; omega
 have w4 : IntKind.wrap .i64 (((L.length : Nat) : Int) - 4) = ((L.length - 4 : Nat) : Int) := by rw [qX _ (by omega) (by omega)]; omega
 rw [w8]
 by_cases c0' : Q6 ((L.take 1).drop 0) ≠ 156
 ·rw [if_pos (bne_iff_ne.2 c0'), if_pos (.inl c0')]
 have c0 : Q6 ((L.take 1).drop 0) = 156 := Decidable.not_not.1 c0'
 rw [if_neg (by rw [bne_iff_ne]; exact c0')]
 by_cases c1 : Q6 ((L.take 2).drop 1) < 1
 ·rw [if_pos (decide_eq_true c1), if_pos (.inr (.inl c1))]
 rw [if_neg (by rw [decide_eq_true_eq]; exact c1)]
 by_cases c3 : Q6 ((L.take 2).drop 1) > 3
 ·rw [if_pos (decide_eq_true c3), if_pos (.inr (.inr (.inl c3)))]
 rw [if_neg (by rw [decide_eq_true_eq]; exact c3)]
 by_cases cn' : Q6 ((L.take 4).drop 2) ≠ ((L.length - 8 : Nat) : Int)
 ·rw [if_pos (bne_iff_ne.2 cn'), if_pos (.inr (.inr (.inr cn')))]
 have cn : Q6 ((L.take 4).drop 2) = ((L.length - 8 : Nat) : Int) := Decidable.not_not.1 cn'
 have hno : ¬ (Q6 ((L.take 1).drop 0) ≠ 156 ∨ Q6 ((L.take 2).drop 1) < 1 ∨ Q6 ((L.take 2).drop 1) > 3 ∨ Q6 ((L.take 4).drop 2) ≠ ((L.length - 8 : Nat) : Int)) := by
  rintro (h | h | h | h)
  ·exact h c0
  ·exact c1 h
  ·exact c3 h
  ·exact h cn
 rw [if_neg (by rw [bne_iff_ne]; exact cn'), if_neg hno, if_pos a4, cn]
 have r3 := qlh L (L.length - 8) 4 (by omega)
 have r4 := qdW L 4 (4 + (L.length - 8)) (by omega) (by omega) (by omega)
 have a5 := hat (4 + (L.length - 8)) (by omega)
 have e4 : 4 + (L.length - 8) = L.length - 4 := by omega
 rw [e4] at r3 r4 a5
 rw [List.take_of_length_le (show L.length ≤ L.length - 4 + 4 by omega)] at r4
 simp only [show ((4 : Nat) : Int) = 4 from rfl] at r3 r4
 simp only [veil_eq, r3]
 rw [if_pos a5]
 simp only [veil_eq, r4]
 rw [w4, if_pos (by omega), Int.toNat_natCast, List.drop_zero, zX.pure _ (qm4 hb _) (by simp; omega)]
 simp only [veil_eq]
 by_cases cs : IntKind.wrap .u32 (Q6 (L.drop (L.length - 4))) = (qgv (L.take (L.length - 4)) : Int)
 ·rw [if_neg (by rw [bne_iff_ne]; exact fun h => h cs), if_neg (fun h => h cs)]
 ·rw [if_pos (bne_iff_ne.2 cs), if_pos cs]
theorem qhn {b : List Int} (hb : isB b) : isB (zS b).2.1 ∧ (zS b).2.1.length ≤ b.length := by
 unfold zS
 split
 ·exact ⟨qaB, by simp⟩
 ·split
  ·exact ⟨qaB, by simp⟩
  ·split
   ·exact ⟨qaB, by simp⟩
   ·split
    ·exact ⟨qaB, by simp⟩
    ·exact ⟨qq8 (qm4 hb _) _, by simp; omega⟩
def qiq (lo hi gen : Int) : Bool := okS lo hi && (decide (lo ≤ gen) && decide (gen ≤ hi))
theorem ZQ.pure (lo hi gen : Int) : ZQ.f BIG lo hi gen = some (qiq lo hi gen) := by
 unfold ZQ.f ZQ.b qiq
 cases okS lo hi with
 | false => rw [if_neg (by simp)]; rfl
 | true =>
  rw [if_pos rfl]
  by_cases h : lo ≤ gen
  ·rw [if_pos (decide_eq_true h), decide_eq_true h]; rfl
  ·rw [if_neg (by rw [decide_eq_true_eq]; exact h), decide_eq_false h]; rfl
abbrev P14 := Int × Int × Int × Int × Int × Int × Int × Int × Int × Int × LR × Int × List Int × Int
def zP (g e : Int) : P14 := (0, 0, 0, 0, 0, 0, 0, 0, 0, 0, [], g, [], e)
def qhw (g : Int) (zc : List Int) (h : M12) : P14 := (h.1, h.2.1, h.2.2.1, h.2.2.2.1, h.2.2.2.2.1, h.2.2.2.2.2.1, h.2.2.2.2.2.2.1, h.2.2.2.2.2.2.2.1, h.2.2.2.2.2.2.2.2.1, h.2.2.2.2.2.2.2.2.2.1, h.2.2.2.2.2.2.2.2.2.2.1, g, zc, 0)
def qdB (k : Int) : Bool := decide (1 ≤ k ∧ k ≤ 3)
def zI (b : List Int) (lo hi : Int) : P14 :=
 if (zS b).2.2 ≠ 0 then zP 0 (zS b).2.2
 else if qiq lo hi (zS b).1 = false ∧ ((zS b).1 ≠ 1 ∨ ¬ (qaC (QW (zS b).1 (zS b).2.1) = 0 ∧ qdB (QW (zS b).1 (zS b).2.1).1 = true)) then zP (zS b).1 9
 else if qaC (QW (zS b).1 (zS b).2.1) ≠ 0 then zP 0 (qaC (QW (zS b).1 (zS b).2.1))
 else if qdB (QW (zS b).1 (zS b).2.1).1 = true ∧ (zS b).1 ≠ 1 then zP 0 10
 else qhw (zS b).1 (zS b).2.1 (QW (zS b).1 (zS b).2.1)
theorem Qq.pure (b : List Int) (lo hi : Int) (hb : isB b) (hl : b.length ≤ 1000000) : Qq.f BIG b lo hi = some (zI b lo hi) := by
 obtain ⟨h1, h2⟩ := qhn hb
 unfold Qq.f Qq.b zI
 rw [QB.pure b hb hl]
 simp only [veil_eq]
 rw [qsx.pure _ _ h1 (by omega), ZQ.pure]
 simp only [veil_eq]
 rw [QM.pure]
 simp only [veil_eq]
 rw [show (decide (1 ≤ (QW (zS b).1 (zS b).2.1).1 ∧ (QW (zS b).1 (zS b).2.1).1 ≤ 3)) = qdB (QW (zS b).1 (zS b).2.1).1 from rfl]
 rw [show (QW (zS b).1 (zS b).2.1).2.2.2.2.2.2.2.2.2.2.2 = qaC (QW (zS b).1 (zS b).2.1) from rfl]
 generalize zS b = O
 generalize hH : QW O.1 O.2.1 = H
 generalize qiq lo hi O.1 = has
 generalize qdB H.1 = gr
 by_cases e0 : O.2.2 = 0
 ·by_cases eh : qaC H = 0
  ·by_cases g1 : O.1 = 1
   ·cases has <;> cases gr <;> simp [e0, eh, g1, zP, qhw]
   ·cases has <;> cases gr <;> simp [e0, eh, g1, zP, qhw]
  ·by_cases g1 : O.1 = 1
   ·cases has <;> cases gr <;> simp [e0, eh, g1, zP, qhw]
   ·cases has <;> cases gr <;> simp [e0, eh, g1, zP, qhw]
 ·simp [e0, zP]
theorem qpZ (gen : Int) (b : List Int) : 0 ≤ qsv (QW gen b) := by
 unfold QW
 by_cases h3 : gen = 3
 ·rw [if_pos (by simp [h3])]
  unfold qgX
  cases hh : hdS b with
  | none => exact Int.le_refl _
  | some m =>
   obtain ⟨k, f, i, lo, hi, s, t, l, e, bb, a⟩ := m
   show 0 ≤ bb
   unfold hdS at hh
   dsimp only at hh
   split at hh
   ·cases hh
   ·split at hh
    ·rename_i hv
     cases hh
     exact (qdz (Ql hv).2.2.2.2.2.2.2.2.2.2.2.1).2.2.2.2.1
    ·cases hh
 ·rw [if_neg (by simp [h3])]
  unfold QV
  split
  ·exact Int.le_refl _
  ·split
   ·exact Int.le_refl _
   ·split
    ·rename_i h; exact absurd (by simpa using h) h3
    ·exact Int.le_refl _
theorem qp2 (b : List Int) (lo hi : Int) : 0 ≤ (zI b lo hi).2.2.2.2.2.2.2.2.2.1 := by
 unfold zI
 split
 ·exact Int.le_refl _
 ·split
  ·exact Int.le_refl _
  ·split
   ·exact Int.le_refl _
   ·split
    ·exact Int.le_refl _
    ·exact qpZ _ _
theorem qgc {b : List Int} (lo hi : Int) (hb : isB b) : isB (zI b lo hi).2.2.2.2.2.2.2.2.2.2.2.2.1 ∧ (zI b lo hi).2.2.2.2.2.2.2.2.2.2.2.2.1.length ≤ b.length := by
 have hz : ∀ g e : Int, isB (zP g e).2.2.2.2.2.2.2.2.2.2.2.2.1 ∧ (zP g e).2.2.2.2.2.2.2.2.2.2.2.2.1.length ≤ b.length := fun g e => ⟨qaB, Nat.zero_le _⟩
 unfold zI
 split
 ·exact hz _ _
 ·split
  ·exact hz _ _
  ·split
   ·exact hz _ _
   ·split
    ·exact hz _ _
    ·exact qhn hb
def qdD : Env := ⟨th, gam [(11, Zt), (14, Qm), (22, Q3), (23, qaN), (24, qaM), (45, qaO), (46, qbh)], fun i => if i = 12 then ⟨[6, 7, 9, 10], [(9, 3, tQi)], []⟩ else if i = 17 then ⟨[6, 7, 9, 11], [], []⟩ else ⟨[], [], []⟩⟩
def qY.k (rs : List AV) (os : List Den.Obj) : Option ((List ByteArray) × (List Int)) :=
 match rs, os with
 | [.row 0, .row 1], [.row 9 .str r0 false, .row 3 (.int .i64) r1 false] => some (r0, r1)
 | _, _ => none
def qY.s17 (b : List Int) (x21 : Int) (x22 : (List ByteArray)) (x23 x24 x25 x26 x27 x28 x29 x30 x31 x32 : Int) (x33 : LR) (x34 : (List Int)) : St := ⟨[dD, dD, dD, dD, dD, dD, .row 64, .ptr 65 0, .dead, .row 66, .dead, .d tQi x21, dD, dD, dD, dD, dD, dD, dD, dD, dD, dD, dD, dD, dD, dD, dD, dD, dD, dD, dD, dD, dD, dD, dD, dD, dD, dD, dD, dD, dD, dD, dD, dD, dD, dD, dD, dD, dD, dD, dD, dD, dD, dD, dD, dD, dD, dD, dD, dD, dD, dD, dD, dD, dD, dD, dD, dD, dD, dD, dD, dD, dD, dD, dD, dD, dD, dD, dD, dD, dD, dD, dD, .dead], ofL [(64, .row 9 .str x22 false), (65, .box [.d tQi x23, .d tQi x24, .d tQi x25, .d tQi x26, .d tQi x27, .d tQi x28, .d tQi x29, .d tQi x30, .d tQi x31, .d tQi x32, .d (.sl tQr) x33]), (66, .row 3 tQi x34 false)], 0⟩
def qY.p17 (qa : Nat) (b : List Int) (k : Nat) := fun x21 x22 x23 x24 x25 x26 x27 x28 x29 x30 x31 x32 x33 x34 => lp qdD qa Tryz.f25 [.own 9 .str, .own 3 tQi] 0 qY.k 17 [] k (qY.s17 b x21 x22 x23 x24 x25 x26 x27 x28 x29 x30 x31 x32 x33 x34)
def qY.b17 (b : List Int) (A17 : Int → (List ByteArray) → Int → Int → Int → Int → Int → Int → Int → Int → Int → Int → LR → (List Int) → Option ((List ByteArray) × (List Int))) (x21 : Int) (x22 : (List ByteArray)) (x23 : Int) (x24 : Int) (x25 : Int) (x26 : Int) (x27 : Int) (x28 : Int) (x29 : Int) (x30 : Int) (x31 : Int) (x32 : Int) (x33 : LR) (x34 : (List Int)) : Option ((List ByteArray) × (List Int)) :=
 (if (decide (x21 < ((((List.length x33)) : Nat) : Int))) then (match (idx x33 x21) with | none => none | some y35 => (match (veil (zy.f BIG y35.1 y35.2.1 y35.2.2.1 y35.2.2.2.1.1 y35.2.2.2.1.2 y35.2.2.2.2.1 y35.2.2.2.2.2)) with | none => none | some y36 => (if (((ByteArray.size (⟨((32 :: (32 :: ([] : List UInt8)))).toArray⟩ : ByteArray)) + (ByteArray.size y36)) ≤ (1099511627776 : Nat)) then (if ((((List.length x22) + (List.length (((⟨((32 :: (32 :: ([] : List UInt8)))).toArray⟩ : ByteArray) ++ y36) :: ([] : List ByteArray)))) * (16 : Nat)) ≤ lim) then A17 (IntKind.wrap .i64 (x21 + (1 : Int))) (x22 ++ (((⟨((32 :: (32 :: ([] : List UInt8)))).toArray⟩ : ByteArray) ++ y36) :: ([] : List ByteArray))) x23 x24 x25 x26 x27 x28 x29 x30 x31 x32 x33 x34 else none) else none))) else some (x22, x34))
def qY.l17 (qa : Nat) (b : List Int) : Nat → Int → (List ByteArray) → Int → Int → Int → Int → Int → Int → Int → Int → Int → Int → LR → (List Int) → Option ((List ByteArray) × (List Int))
 | 0, _, _, _, _, _, _, _, _, _, _, _, _, _, _ => none
 | k + 1, x21, x22, x23, x24, x25, x26, x27, x28, x29, x30, x31, x32, x33, x34 => qY.b17 b (qY.l17 qa b k) x21 x22 x23 x24 x25 x26 x27 x28 x29 x30 x31 x32 x33 x34
def qY.s12 (b : List Int) (x6 : Int) (x7 : (List ByteArray)) (x8 x9 x10 x11 x12 x13 x14 x15 x16 x17 : Int) (x18 : LR) (x19 : (List Int)) : St := ⟨[dD, dD, dD, dD, dD, dD, .row 64, .ptr 65 0, .dead, .row 66, .d tQi x6, dD, dD, dD, dD, dD, dD, dD, dD, dD, dD, dD, dD, dD, dD, dD, dD, dD, dD, dD, dD, dD, dD, dD, dD, dD, dD, dD, dD, dD, dD, dD, dD, dD, dD, dD, dD, dD, dD, dD, dD, dD, dD, dD, dD, dD, dD, dD, dD, dD, dD, dD, dD, dD, dD, dD, dD, dD, dD, dD, dD, dD, dD, dD, dD, dD, dD, dD, dD, dD, dD, dD, dD, .dead], ofL [(64, .row 9 .str x7 false), (65, .box [.d tQi x8, .d tQi x9, .d tQi x10, .d tQi x11, .d tQi x12, .d tQi x13, .d tQi x14, .d tQi x15, .d tQi x16, .d tQi x17, .d (.sl tQr) x18]), (66, .row 3 tQi x19 false)], 0⟩
def qY.p12 (qa : Nat) (b : List Int) (k : Nat) := fun x6 x7 x8 x9 x10 x11 x12 x13 x14 x15 x16 x17 x18 x19 => lp qdD qa Tryz.f25 [.own 9 .str, .own 3 tQi] 0 qY.k 12 [] k (qY.s12 b x6 x7 x8 x9 x10 x11 x12 x13 x14 x15 x16 x17 x18 x19)
def qY.b12 (b : List Int) (A12 : Int → (List ByteArray) → Int → Int → Int → Int → Int → Int → Int → Int → Int → Int → LR → (List Int) → Option ((List ByteArray) × (List Int))) (E17 : Int → (List ByteArray) → Int → Int → Int → Int → Int → Int → Int → Int → Int → Int → LR → (List Int) → Option ((List ByteArray) × (List Int))) (x6 : Int) (x7 : (List ByteArray)) (x8 : Int) (x9 : Int) (x10 : Int) (x11 : Int) (x12 : Int) (x13 : Int) (x14 : Int) (x15 : Int) (x16 : Int) (x17 : Int) (x18 : LR) (x19 : (List Int)) : Option ((List ByteArray) × (List Int)) :=
 (if (decide (x6 ≤ (3 : Int))) then (match (veil (qao.f BIG x8 x9 x10 x11 x12 x13 x14 x15 x16 x17 x18 x6)) with | none => none | some y20 => (if y20 then (if ((((List.length x19) + (List.length (x6 :: ([] : List Int)))) * (8 : Nat)) ≤ lim) then A12 (IntKind.wrap .i64 (x6 + (1 : Int))) x7 x8 x9 x10 x11 x12 x13 x14 x15 x16 x17 x18 (x19 ++ (x6 :: ([] : List Int))) else none) else A12 (IntKind.wrap .i64 (x6 + (1 : Int))) x7 x8 x9 x10 x11 x12 x13 x14 x15 x16 x17 x18 x19)) else E17 (0 : Int) x7 x8 x9 x10 x11 x12 x13 x14 x15 x16 x17 x18 x19)
def qY.l12 (qa : Nat) (b : List Int) : Nat → Int → (List ByteArray) → Int → Int → Int → Int → Int → Int → Int → Int → Int → Int → LR → (List Int) → Option ((List ByteArray) × (List Int))
 | 0, _, _, _, _, _, _, _, _, _, _, _, _, _, _ => none
 | k + 1, x6, x7, x8, x9, x10, x11, x12, x13, x14, x15, x16, x17, x18, x19 => qY.b12 b (qY.l12 qa b k) (qY.l17 qa b qa) x6 x7 x8 x9 x10 x11 x12 x13 x14 x15 x16 x17 x18 x19
def qY.b (b : List Int) (E12 : Int → (List ByteArray) → Int → Int → Int → Int → Int → Int → Int → Int → Int → Int → LR → (List Int) → Option ((List ByteArray) × (List Int))) : Option ((List ByteArray) × (List Int)) :=
 (match (veil (Qq.f BIG b (1 : Int) (3 : Int))) with | none => none | some y0 => (if (y0.2.2.2.2.2.2.2.2.2.2.2.2.2 != (0 : Int)) then (match (veil (ZE.f BIG y0.2.2.2.2.2.2.2.2.2.2.2.2.2)) with | none => none | some y1 => (if (((ByteArray.size (⟨((98 :: (97 :: (100 :: (32 :: ([] : List UInt8)))))).toArray⟩ : ByteArray)) + (ByteArray.size y1)) ≤ (1099511627776 : Nat)) then some ((((⟨((98 :: (97 :: (100 :: (32 :: ([] : List UInt8)))))).toArray⟩ : ByteArray) ++ y1) :: ([] : List ByteArray)), ([] : List Int)) else none)) else (match (veil (zl.f BIG y0.2.2.2.2.2.2.2.2.2.2.2.1)) with | none => none | some y2 => (if (((ByteArray.size (⟨((103 :: (101 :: (110 :: (32 :: ([] : List UInt8)))))).toArray⟩ : ByteArray)) + (ByteArray.size y2)) ≤ (1099511627776 : Nat)) then (if (((ByteArray.size ((⟨((103 :: (101 :: (110 :: (32 :: ([] : List UInt8)))))).toArray⟩ : ByteArray) ++ y2)) + (ByteArray.size (⟨((32 :: ([] : List UInt8))).toArray⟩ : ByteArray))) ≤ (1099511627776 : Nat)) then (match (veil (qJ.f BIG y0.1 y0.2.1 y0.2.2.1 y0.2.2.2.1 y0.2.2.2.2.1 y0.2.2.2.2.2.1 y0.2.2.2.2.2.2.1 y0.2.2.2.2.2.2.2.1 y0.2.2.2.2.2.2.2.2.1 y0.2.2.2.2.2.2.2.2.2.1 y0.2.2.2.2.2.2.2.2.2.2.1)) with | none => none | some y3 => (if (((ByteArray.size (((⟨((103 :: (101 :: (110 :: (32 :: ([] : List UInt8)))))).toArray⟩ : ByteArray) ++ y2) ++ (⟨((32 :: ([] : List UInt8))).toArray⟩ : ByteArray))) + (ByteArray.size y3)) ≤ (1099511627776 : Nat)) then (if (decide (y0.2.2.2.2.2.2.2.2.2.1 > (0 : Int))) then some (((((((⟨((103 :: (101 :: (110 :: (32 :: ([] : List UInt8)))))).toArray⟩ : ByteArray) ++ y2) ++ (⟨((32 :: ([] : List UInt8))).toArray⟩ : ByteArray)) ++ y3) :: ([] : List ByteArray)) ++ ((⟨((32 :: (32 :: (117 :: (110 :: (114 :: (101 :: (97 :: (100 :: ([] : List UInt8)))))))))).toArray⟩ : ByteArray) :: ([] : List ByteArray))), ([] : List Int)) else (match (veil (zK.f BIG y0.1 y0.2.1 y0.2.2.1 y0.2.2.2.1 y0.2.2.2.2.1 y0.2.2.2.2.2.1 y0.2.2.2.2.2.2.1 y0.2.2.2.2.2.2.2.1 y0.2.2.2.2.2.2.2.2.1 y0.2.2.2.2.2.2.2.2.2.1 y0.2.2.2.2.2.2.2.2.2.2.1 y0.2.2.2.2.2.2.2.2.2.2.2.1 y0.2.2.2.2.2.2.2.2.2.2.2.2.1 ([] : LR))) with | none => none | some y4 => (if (y4.2.2.2.2.2.2.2.2.2.2.2 != (0 : Int)) then (match (veil (ZE.f BIG y4.2.2.2.2.2.2.2.2.2.2.2)) with | none => none | some y5 => (if (((ByteArray.size (⟨((32 :: (32 :: (98 :: (97 :: (100 :: (32 :: ([] : List UInt8)))))))).toArray⟩ : ByteArray)) + (ByteArray.size y5)) ≤ (1099511627776 : Nat)) then some (((((((⟨((103 :: (101 :: (110 :: (32 :: ([] : List UInt8)))))).toArray⟩ : ByteArray) ++ y2) ++ (⟨((32 :: ([] : List UInt8))).toArray⟩ : ByteArray)) ++ y3) :: ([] : List ByteArray)) ++ (((⟨((32 :: (32 :: (98 :: (97 :: (100 :: (32 :: ([] : List UInt8)))))))).toArray⟩ : ByteArray) ++ y5) :: ([] : List ByteArray))), ([] : List Int)) else none)) else E12 (1 : Int) (((((⟨((103 :: (101 :: (110 :: (32 :: ([] : List UInt8)))))).toArray⟩ : ByteArray) ++ y2) ++ (⟨((32 :: ([] : List UInt8))).toArray⟩ : ByteArray)) ++ y3) :: ([] : List ByteArray)) y4.1 y4.2.1 y4.2.2.1 y4.2.2.2.1 y4.2.2.2.2.1 y4.2.2.2.2.2.1 y4.2.2.2.2.2.2.1 y4.2.2.2.2.2.2.2.1 y4.2.2.2.2.2.2.2.2.1 y4.2.2.2.2.2.2.2.2.2.1 y4.2.2.2.2.2.2.2.2.2.2.1 ([] : List Int)))) else none)) else none) else none))))
def qY.f (qa : Nat) (b : List Int) : Option ((List ByteArray) × (List Int)) := qY.b b (qY.l12 qa b qa)
theorem qY.l17_eq (qa : Nat) (b : List Int) : ∀ k : Nat, qY.p17 qa b k = qY.l17 qa b k
 | 0 => by kernel_rfl
 | k + 1 => by
  refine Eq.trans (b := qY.b17 b (qY.p17 qa b k)) (by kernel_rfl) ?_
  rw [qY.l17_eq qa b k]
  kernel_rfl
theorem qY.l12_eq (qa : Nat) (b : List Int) : ∀ k : Nat, qY.p12 qa b k = qY.l12 qa b k
 | 0 => by kernel_rfl
 | k + 1 => by
  refine Eq.trans (b := qY.b12 b (qY.p12 qa b k) (qY.p17 qa b qa)) (by kernel_rfl) ?_
  rw [qY.l12_eq qa b k, qY.l17_eq qa b qa]
  kernel_rfl
theorem qY.eq (qa : Nat) (b : List Int) : (denF qdD loopN qa Tryz.f25 [.own 9 .str, .own 3 tQi] [.d (.sl (.int .u8)) b] [] qY.k) = qY.f qa b := by
 refine Eq.trans (b := qY.b b (qY.p12 qa b qa)) (by kernel_rfl) ?_
 rw [qY.l12_eq qa b qa]
 kernel_rfl
def qa6 : Den.Sum := ⟨[.dat (.sl (.int .u8)) false], fun qK qn κ => match qK, qn with
 | [.d (.sl (.int .u8)) b], [] => (match veil (qY.f BIG b) with | none => none | some y => κ [.row 0, .row 1] [.row 9 .str y.1 false, .row 3 (.int .i64) y.2 false])
 | _, _ => none⟩
theorem qiW : SumDet qa6 := zj fun _ _ _ _ => by
 unfold qa6
 simp only [veil_eq]
 split
 ·split <;> rfl
 ·rfl
theorem qjD : SumOk Tryz.prog 25 qa6 := by
 have hE : EnvOk Tryz.prog qdD := env_ok (l := [(11, Zt), (14, Qm), (22, Q3), (23, qaN), (24, qaM), (45, qaO), (46, qbh)]) th_ok qZ ⟨⟨qdL, qdo⟩, ⟨qbH, qbw⟩, ⟨qcd, qbQ⟩, ⟨qgO, qf7⟩, ⟨qgN, qf6⟩, ⟨qgP, qf8⟩, ⟨qhP, qgU⟩, trivial⟩ _
 refine sum_ok hE Tryz.func25 rfl (by kernel_rfl) qa6 [.own 9 .str, .own 3 tQi] qY.k ?_
 intro R avs qn κ r h
 unfold qa6 at h
 simp only [veil_eq] at h
 split at h
 ·rename_i b
  split at h
  ·cases h
  ·rename_i y hy
   refine ⟨BIG, _, _, _, (qY.eq BIG b).trans hy, ?_, h⟩
   intro rs ros hk
   unfold qY.k at hk
   split at hk
   ·rw [← sj hk]; exact ⟨rfl, rfl⟩
   ·cases hk
 ·cases h
def qhY : Env := ⟨th, gam [], fun i => ⟨[], [], []⟩⟩
def ZD.k (rs : List AV) (os : List Den.Obj) : Option (Int × Int) :=
 match rs, os with
 | [.agg [.d (.int .i64) r0, .d (.int .i64) r1]], [] => some (r0, r1)
 | _, _ => none
def ZD.b (u : Unit) : Option (Int × Int) :=
 some ((1 : Int), (3 : Int))
def ZD.f (qa : Nat) (u : Unit) : Option (Int × Int) := ZD.b u
theorem ZD.eq (qa : Nat) (u : Unit) : (denF qhY loopN qa Tryz.f36 [.dat (.pair tQi tQi) true] [] [] ZD.k) = ZD.f qa u := by
 kernel_rfl
def qai : Den.Sum := ⟨[], fun qK qn κ => match qK, qn with
 | [], [] => (match veil (ZD.f BIG ()) with | none => none | some y => κ [.agg [.d (.int .i64) y.1, .d (.int .i64) y.2]] [])
 | _, _ => none⟩
theorem qfi : SumDet qai := zj fun _ _ _ _ => by
 unfold qai
 simp only [veil_eq]
 split
 ·split <;> rfl
 ·rfl
theorem qfN : SumOk Tryz.prog 36 qai := by
 have hE : EnvOk Tryz.prog qhY := env_ok (l := []) th_ok qZ trivial _
 refine sum_ok hE Tryz.func36 rfl (by kernel_rfl) qai [.dat (.pair tQi tQi) true] ZD.k ?_
 intro R avs qn κ r h
 unfold qai at h
 simp only [veil_eq] at h
 split at h
 ·skip
  split at h
  ·cases h
  ·rename_i y hy
   refine ⟨BIG, _, _, _, (ZD.eq BIG ()).trans hy, ?_, h⟩
   intro rs ros hk
   unfold ZD.k at hk
   split at hk
   ·rw [← sj hk]; exact ⟨rfl, rfl⟩
   ·cases hk
 ·cases h
def qhX : Env := ⟨th, gam [(45, qaO)], fun i => ⟨[], [], []⟩⟩
def Q4.k (rs : List AV) (os : List Den.Obj) : Option ByteArray :=
 match rs, os with
 | [.d .str r0], [] => some r0
 | _, _ => none
def Q4.b (e : Int) : Option ByteArray :=
 (match (veil (ZE.f BIG e)) with | none => none | some y0 => (if (((ByteArray.size (⟨((98 :: (97 :: (100 :: (32 :: ([] : List UInt8)))))).toArray⟩ : ByteArray)) + (ByteArray.size y0)) ≤ (1099511627776 : Nat)) then some (((⟨((98 :: (97 :: (100 :: (32 :: ([] : List UInt8)))))).toArray⟩ : ByteArray) ++ y0)) else none))
def Q4.f (qa : Nat) (e : Int) : Option ByteArray := Q4.b e
theorem Q4.eq (qa : Nat) (e : Int) : (denF qhX loopN qa Tryz.f37 [.raw] [.d tQi e] [] Q4.k) = Q4.f qa e := by
 kernel_rfl
def qba : Den.Sum := ⟨[.raw], fun qK qn κ => match qK, qn with
 | [.d (.int .i64) e], [] => (match veil (Q4.f BIG e) with | none => none | some y => κ [.d .str y] [])
 | _, _ => none⟩
theorem qi0 : SumDet qba := zj fun _ _ _ _ => by
 unfold qba
 simp only [veil_eq]
 split
 ·split <;> rfl
 ·rfl
theorem qjK : SumOk Tryz.prog 37 qba := by
 have hE : EnvOk Tryz.prog qhX := env_ok (l := [(45, qaO)]) th_ok qZ ⟨⟨qgP, qf8⟩, trivial⟩ _
 refine sum_ok hE Tryz.func37 rfl (by kernel_rfl) qba [.raw] Q4.k ?_
 intro R avs qn κ r h
 unfold qba at h
 simp only [veil_eq] at h
 split at h
 ·rename_i e
  split at h
  ·cases h
  ·rename_i y hy
   refine ⟨BIG, _, _, _, (Q4.eq BIG e).trans hy, ?_, h⟩
   intro rs ros hk
   unfold Q4.k at hk
   split at hk
   ·rw [← sj hk]; exact ⟨rfl, rfl⟩
   ·cases hk
 ·cases h
def qep : Env := ⟨th, gam [(11, Zt), (14, Qm), (18, QA), (22, Q3), (23, qaN), (24, qaM), (36, qai), (37, qba)], fun i => if i = 11 then ⟨[5, 49, 50, 51], [], []⟩ else ⟨[], [], []⟩⟩
def zh.k (rs : List AV) (os : List Den.Obj) : Option (List ByteArray) :=
 match rs, os with
 | [.row 0], [.row 9 .str r0 false] => some r0
 | _, _ => none
def zh.s11 (b : List Int) (x8 : LR) (x9 x10 : Int) (x11 : (List ByteArray)) : St := ⟨[dD, dD, dD, dD, dD, .row 64, dD, dD, dD, dD, dD, dD, dD, dD, dD, dD, dD, dD, dD, dD, dD, dD, dD, dD, dD, dD, dD, dD, dD, dD, dD, dD, dD, dD, dD, dD, dD, dD, dD, dD, dD, dD, dD, dD, dD, dD, dD, dD, dD, .d (.sl tQr) x8, .d tQi x9, .d tQi x10, dD, dD, dD, dD, dD, dD, dD, dD, dD, dD, .dead], ofL [(64, .row 9 .str x11 false)], 0⟩
def zh.p11 (qa : Nat) (b : List Int) (k : Nat) := fun x8 x9 x10 x11 => lp qep qa Tryz.f21 [.own 9 .str] 0 zh.k 11 [] k (zh.s11 b x8 x9 x10 x11)
def zh.b11 (b : List Int) (A11 : LR → Int → Int → (List ByteArray) → Option (List ByteArray)) (x8 : LR) (x9 : Int) (x10 : Int) (x11 : (List ByteArray)) : Option (List ByteArray) :=
 (if (decide (x10 < x9)) then (match (idx x8 x10) with | none => none | some y12 => (match (veil (zy.f BIG y12.1 y12.2.1 y12.2.2.1 y12.2.2.2.1.1 y12.2.2.2.1.2 y12.2.2.2.2.1 y12.2.2.2.2.2)) with | none => none | some y13 => (if (((ByteArray.size (⟨((32 :: (32 :: ([] : List UInt8)))).toArray⟩ : ByteArray)) + (ByteArray.size y13)) ≤ (1099511627776 : Nat)) then (if ((((List.length x11) + (List.length (((⟨((32 :: (32 :: ([] : List UInt8)))).toArray⟩ : ByteArray) ++ y13) :: ([] : List ByteArray)))) * (16 : Nat)) ≤ lim) then A11 x8 x9 (IntKind.wrap .i64 (x10 + (1 : Int))) (x11 ++ (((⟨((32 :: (32 :: ([] : List UInt8)))).toArray⟩ : ByteArray) ++ y13) :: ([] : List ByteArray))) else none) else none))) else some (x11))
def zh.l11 (qa : Nat) (b : List Int) : Nat → LR → Int → Int → (List ByteArray) → Option (List ByteArray)
 | 0, _, _, _, _ => none
 | k + 1, x8, x9, x10, x11 => zh.b11 b (zh.l11 qa b k) x8 x9 x10 x11
def zh.b (b : List Int) (E11 : LR → Int → Int → (List ByteArray) → Option (List ByteArray)) : Option (List ByteArray) :=
 (match (veil (ZD.f BIG ())) with | none => none | some y0 => (match (veil (Qq.f BIG b y0.1 y0.2)) with | none => none | some y1 => (if (y1.2.2.2.2.2.2.2.2.2.2.2.2.2 != (0 : Int)) then (match (veil (Q4.f BIG y1.2.2.2.2.2.2.2.2.2.2.2.2.2)) with | none => none | some y2 => some ((y2 :: ([] : List ByteArray)))) else (match (veil (zl.f BIG y1.2.2.2.2.2.2.2.2.2.2.2.1)) with | none => none | some y3 => (if (((ByteArray.size (⟨((103 :: (101 :: (110 :: (32 :: ([] : List UInt8)))))).toArray⟩ : ByteArray)) + (ByteArray.size y3)) ≤ (1099511627776 : Nat)) then (if (((ByteArray.size ((⟨((103 :: (101 :: (110 :: (32 :: ([] : List UInt8)))))).toArray⟩ : ByteArray) ++ y3)) + (ByteArray.size (⟨((32 :: ([] : List UInt8))).toArray⟩ : ByteArray))) ≤ (1099511627776 : Nat)) then (match (veil (qJ.f BIG y1.1 y1.2.1 y1.2.2.1 y1.2.2.2.1 y1.2.2.2.2.1 y1.2.2.2.2.2.1 y1.2.2.2.2.2.2.1 y1.2.2.2.2.2.2.2.1 y1.2.2.2.2.2.2.2.2.1 y1.2.2.2.2.2.2.2.2.2.1 y1.2.2.2.2.2.2.2.2.2.2.1)) with | none => none | some y4 => (if (((ByteArray.size (((⟨((103 :: (101 :: (110 :: (32 :: ([] : List UInt8)))))).toArray⟩ : ByteArray) ++ y3) ++ (⟨((32 :: ([] : List UInt8))).toArray⟩ : ByteArray))) + (ByteArray.size y4)) ≤ (1099511627776 : Nat)) then (match (veil (Qe.f BIG y1.1 y1.2.1 y1.2.2.1 y1.2.2.2.1 y1.2.2.2.2.1 y1.2.2.2.2.2.1 y1.2.2.2.2.2.2.1 y1.2.2.2.2.2.2.2.1 y1.2.2.2.2.2.2.2.2.1 y1.2.2.2.2.2.2.2.2.2.1 y1.2.2.2.2.2.2.2.2.2.2.1 y1.2.2.2.2.2.2.2.2.2.2.2.1 y1.2.2.2.2.2.2.2.2.2.2.2.2.1)) with | none => none | some y5 => (if y5 then some (((((((⟨((103 :: (101 :: (110 :: (32 :: ([] : List UInt8)))))).toArray⟩ : ByteArray) ++ y3) ++ (⟨((32 :: ([] : List UInt8))).toArray⟩ : ByteArray)) ++ y4) :: ([] : List ByteArray)) ++ ((⟨((32 :: (32 :: (117 :: (110 :: (114 :: (101 :: (97 :: (100 :: ([] : List UInt8)))))))))).toArray⟩ : ByteArray) :: ([] : List ByteArray)))) else (match (veil (zK.f BIG y1.1 y1.2.1 y1.2.2.1 y1.2.2.2.1 y1.2.2.2.2.1 y1.2.2.2.2.2.1 y1.2.2.2.2.2.2.1 y1.2.2.2.2.2.2.2.1 y1.2.2.2.2.2.2.2.2.1 y1.2.2.2.2.2.2.2.2.2.1 y1.2.2.2.2.2.2.2.2.2.2.1 y1.2.2.2.2.2.2.2.2.2.2.2.1 y1.2.2.2.2.2.2.2.2.2.2.2.2.1 ([] : LR))) with | none => none | some y6 => (if (y6.2.2.2.2.2.2.2.2.2.2.2 != (0 : Int)) then (match (veil (Q4.f BIG y6.2.2.2.2.2.2.2.2.2.2.2)) with | none => none | some y7 => (if (((ByteArray.size (⟨((32 :: (32 :: ([] : List UInt8)))).toArray⟩ : ByteArray)) + (ByteArray.size y7)) ≤ (1099511627776 : Nat)) then some (((((((⟨((103 :: (101 :: (110 :: (32 :: ([] : List UInt8)))))).toArray⟩ : ByteArray) ++ y3) ++ (⟨((32 :: ([] : List UInt8))).toArray⟩ : ByteArray)) ++ y4) :: ([] : List ByteArray)) ++ (((⟨((32 :: (32 :: ([] : List UInt8)))).toArray⟩ : ByteArray) ++ y7) :: ([] : List ByteArray)))) else none)) else E11 y6.2.2.2.2.2.2.2.2.2.2.1 ((((List.length y6.2.2.2.2.2.2.2.2.2.2.1)) : Nat) : Int) (0 : Int) (((((⟨((103 :: (101 :: (110 :: (32 :: ([] : List UInt8)))))).toArray⟩ : ByteArray) ++ y3) ++ (⟨((32 :: ([] : List UInt8))).toArray⟩ : ByteArray)) ++ y4) :: ([] : List ByteArray)))))) else none)) else none) else none)))))
def zh.f (qa : Nat) (b : List Int) : Option (List ByteArray) := zh.b b (zh.l11 qa b qa)
theorem zh.l11_eq (qa : Nat) (b : List Int) : ∀ k : Nat, zh.p11 qa b k = zh.l11 qa b k
 | 0 => by kernel_rfl
 | k + 1 => by
  refine Eq.trans (b := zh.b11 b (zh.p11 qa b k)) (by kernel_rfl) ?_
  rw [zh.l11_eq qa b k]
  kernel_rfl
theorem zh.eq (qa : Nat) (b : List Int) : (denF qep loopN qa Tryz.f21 [.own 9 .str] [.d (.sl (.int .u8)) b] [] zh.k) = zh.f qa b := by
 refine Eq.trans (b := zh.b b (zh.p11 qa b qa)) (by kernel_rfl) ?_
 rw [zh.l11_eq qa b qa]
 kernel_rfl
def ZL : Den.Sum := ⟨[.dat (.sl (.int .u8)) false], fun qK qn κ => match qK, qn with
 | [.d (.sl (.int .u8)) b], [] => (match veil (zh.f BIG b) with | none => none | some y => κ [.row 0] [.row 9 .str y false])
 | _, _ => none⟩
theorem qeA : SumDet ZL := zj fun _ _ _ _ => by
 unfold ZL
 simp only [veil_eq]
 split
 ·split <;> rfl
 ·rfl
theorem qe1 : SumOk Tryz.prog 21 ZL := by
 have hE : EnvOk Tryz.prog qep := env_ok (l := [(11, Zt), (14, Qm), (18, QA), (22, Q3), (23, qaN), (24, qaM), (36, qai), (37, qba)]) th_ok qZ ⟨⟨qdL, qdo⟩, ⟨qbH, qbw⟩, ⟨qcU, qcF⟩, ⟨qcd, qbQ⟩, ⟨qgO, qf7⟩, ⟨qgN, qf6⟩, ⟨qfN, qfi⟩, ⟨qjK, qi0⟩, trivial⟩ _
 refine sum_ok hE Tryz.func21 rfl (by kernel_rfl) ZL [.own 9 .str] zh.k ?_
 intro R avs qn κ r h
 unfold ZL at h
 simp only [veil_eq] at h
 split at h
 ·rename_i b
  split at h
  ·cases h
  ·rename_i y hy
   refine ⟨BIG, _, _, _, (zh.eq BIG b).trans hy, ?_, h⟩
   intro rs ros hk
   unfold zh.k at hk
   split at hk
   ·rw [← sj hk]; exact ⟨rfl, rfl⟩
   ·cases hk
 ·cases h
def qeP : Env := ⟨th, gam [(11, Zt), (14, Qm), (18, QA), (36, qai), (46, qbh)], fun i => if i = 9 then ⟨[5, 6, 7], [(6, 3, tQi)], []⟩ else ⟨[], [], []⟩⟩
def zg.k (rs : List AV) (os : List Den.Obj) : Option (List Int) :=
 match rs, os with
 | [.row 0], [.row 3 (.int .i64) r0 false] => some r0
 | _, _ => none
def zg.s9 (b : List Int) (x4 x5 x6 x7 x8 x9 x10 x11 x12 x13 x14 : Int) (x15 : LR) (x16 : (List Int)) : St := ⟨[dD, dD, dD, dD, dD, .ptr 64 0, .row 65, .d tQi x4, dD, dD, dD, dD, dD, dD, dD, dD, dD, dD, dD, dD, dD, dD, dD, dD, dD, dD, dD, dD, dD, dD, dD, dD, dD, dD, dD, dD, dD, dD, .dead], ofL [(64, .box [.d tQi x5, .d tQi x6, .d tQi x7, .d tQi x8, .d tQi x9, .d tQi x10, .d tQi x11, .d tQi x12, .d tQi x13, .d tQi x14, .d (.sl tQr) x15]), (65, .row 3 tQi x16 false)], 0⟩
def zg.p9 (qa : Nat) (b : List Int) (k : Nat) := fun x4 x5 x6 x7 x8 x9 x10 x11 x12 x13 x14 x15 x16 => lp qeP qa Tryz.f26 [.own 3 tQi] 0 zg.k 9 [] k (zg.s9 b x4 x5 x6 x7 x8 x9 x10 x11 x12 x13 x14 x15 x16)
def zg.b9 (b : List Int) (A9 : Int → Int → Int → Int → Int → Int → Int → Int → Int → Int → Int → LR → (List Int) → Option (List Int)) (x4 : Int) (x5 : Int) (x6 : Int) (x7 : Int) (x8 : Int) (x9 : Int) (x10 : Int) (x11 : Int) (x12 : Int) (x13 : Int) (x14 : Int) (x15 : LR) (x16 : (List Int)) : Option (List Int) :=
 (if (decide (x4 ≤ (3 : Int))) then (match (veil (qao.f BIG x5 x6 x7 x8 x9 x10 x11 x12 x13 x14 x15 x4)) with | none => none | some y17 => (if y17 then (if ((((List.length x16) + (List.length (x4 :: ([] : List Int)))) * (8 : Nat)) ≤ lim) then A9 (IntKind.wrap .i64 (x4 + (1 : Int))) x5 x6 x7 x8 x9 x10 x11 x12 x13 x14 x15 (x16 ++ (x4 :: ([] : List Int))) else none) else A9 (IntKind.wrap .i64 (x4 + (1 : Int))) x5 x6 x7 x8 x9 x10 x11 x12 x13 x14 x15 x16)) else some (x16))
def zg.l9 (qa : Nat) (b : List Int) : Nat → Int → Int → Int → Int → Int → Int → Int → Int → Int → Int → Int → LR → (List Int) → Option (List Int)
 | 0, _, _, _, _, _, _, _, _, _, _, _, _, _ => none
 | k + 1, x4, x5, x6, x7, x8, x9, x10, x11, x12, x13, x14, x15, x16 => zg.b9 b (zg.l9 qa b k) x4 x5 x6 x7 x8 x9 x10 x11 x12 x13 x14 x15 x16
def zg.b (b : List Int) (E9 : Int → Int → Int → Int → Int → Int → Int → Int → Int → Int → Int → LR → (List Int) → Option (List Int)) : Option (List Int) :=
 (match (veil (ZD.f BIG ())) with | none => none | some y0 => (match (veil (Qq.f BIG b y0.1 y0.2)) with | none => none | some y1 => (if (y1.2.2.2.2.2.2.2.2.2.2.2.2.2 != (0 : Int)) then some (([] : List Int)) else (match (veil (Qe.f BIG y1.1 y1.2.1 y1.2.2.1 y1.2.2.2.1 y1.2.2.2.2.1 y1.2.2.2.2.2.1 y1.2.2.2.2.2.2.1 y1.2.2.2.2.2.2.2.1 y1.2.2.2.2.2.2.2.2.1 y1.2.2.2.2.2.2.2.2.2.1 y1.2.2.2.2.2.2.2.2.2.2.1 y1.2.2.2.2.2.2.2.2.2.2.2.1 y1.2.2.2.2.2.2.2.2.2.2.2.2.1)) with | none => none | some y2 => (if y2 then some (([] : List Int)) else (match (veil (zK.f BIG y1.1 y1.2.1 y1.2.2.1 y1.2.2.2.1 y1.2.2.2.2.1 y1.2.2.2.2.2.1 y1.2.2.2.2.2.2.1 y1.2.2.2.2.2.2.2.1 y1.2.2.2.2.2.2.2.2.1 y1.2.2.2.2.2.2.2.2.2.1 y1.2.2.2.2.2.2.2.2.2.2.1 y1.2.2.2.2.2.2.2.2.2.2.2.1 y1.2.2.2.2.2.2.2.2.2.2.2.2.1 ([] : LR))) with | none => none | some y3 => (if (y3.2.2.2.2.2.2.2.2.2.2.2 != (0 : Int)) then some (([] : List Int)) else E9 (1 : Int) y3.1 y3.2.1 y3.2.2.1 y3.2.2.2.1 y3.2.2.2.2.1 y3.2.2.2.2.2.1 y3.2.2.2.2.2.2.1 y3.2.2.2.2.2.2.2.1 y3.2.2.2.2.2.2.2.2.1 y3.2.2.2.2.2.2.2.2.2.1 y3.2.2.2.2.2.2.2.2.2.2.1 ([] : List Int))))))))
def zg.f (qa : Nat) (b : List Int) : Option (List Int) := zg.b b (zg.l9 qa b qa)
theorem zg.l9_eq (qa : Nat) (b : List Int) : ∀ k : Nat, zg.p9 qa b k = zg.l9 qa b k
 | 0 => by kernel_rfl
 | k + 1 => by
  refine Eq.trans (b := zg.b9 b (zg.p9 qa b k)) (by kernel_rfl) ?_
  rw [zg.l9_eq qa b k]
  kernel_rfl
theorem zg.eq (qa : Nat) (b : List Int) : (denF qeP loopN qa Tryz.f26 [.own 3 tQi] [.d (.sl (.int .u8)) b] [] zg.k) = zg.f qa b := by
 refine Eq.trans (b := zg.b b (zg.p9 qa b qa)) (by kernel_rfl) ?_
 rw [zg.l9_eq qa b qa]
 kernel_rfl
def qaG : Den.Sum := ⟨[.dat (.sl (.int .u8)) false], fun qK qn κ => match qK, qn with
 | [.d (.sl (.int .u8)) b], [] => (match veil (zg.f BIG b) with | none => none | some y => κ [.row 0] [.row 3 (.int .i64) y false])
 | _, _ => none⟩
theorem qii : SumDet qaG := zj fun _ _ _ _ => by
 unfold qaG
 simp only [veil_eq]
 split
 ·split <;> rfl
 ·rfl
theorem qi1 : SumOk Tryz.prog 26 qaG := by
 have hE : EnvOk Tryz.prog qeP := env_ok (l := [(11, Zt), (14, Qm), (18, QA), (36, qai), (46, qbh)]) th_ok qZ ⟨⟨qdL, qdo⟩, ⟨qbH, qbw⟩, ⟨qcU, qcF⟩, ⟨qfN, qfi⟩, ⟨qhP, qgU⟩, trivial⟩ _
 refine sum_ok hE Tryz.func26 rfl (by kernel_rfl) qaG [.own 3 tQi] zg.k ?_
 intro R avs qn κ r h
 unfold qaG at h
 simp only [veil_eq] at h
 split at h
 ·rename_i b
  split at h
  ·cases h
  ·rename_i y hy
   refine ⟨BIG, _, _, _, (zg.eq BIG b).trans hy, ?_, h⟩
   intro rs ros hk
   unfold zg.k at hk
   split at hk
   ·rw [← sj hk]; exact ⟨rfl, rfl⟩
   ·cases hk
 ·cases h
theorem qo4 {gen : Int} {b : List Int} (hb : isB b) (hl : b.length < 1000000000) (h : qaC (QW gen b) = 0) :
  q0 (QW gen b).1 (QW gen b).2.1 (QW gen b).2.2.1 (QW gen b).2.2.2.1 (QW gen b).2.2.2.2.1 (QW gen b).2.2.2.2.2.1 (QW gen b).2.2.2.2.2.2.1 (QW gen b).2.2.2.2.2.2.2.1 (QW gen b).2.2.2.2.2.2.2.2.1 (QW gen b).2.2.2.2.2.2.2.2.2.1 [] = true := by
 unfold QW at h ⊢
 by_cases h3 : gen = 3
 ·rw [if_pos (by simp [h3])] at h ⊢
  unfold qgX at h ⊢
  cases hh : hdS b with
  | none => rw [hh] at h; exact absurd h (by decide)
  | some m =>
   obtain ⟨k, f, i, lo, hi, s, t, l, e, bb, a⟩ := m
   show q0 k f i lo hi s t l e bb [] = true
   unfold hdS at hh
   dsimp only at hh
   split at hh
   ·cases hh
   ·split at hh
    ·rename_i hv
     cases hh
     exact hv
    ·cases hh
 ·rw [if_neg (by simp [h3])] at h ⊢
  have h' : qaC (QV gen b []) = 0 := h
  exact qj7 (qjL hb hl h').1
theorem qp3 {b : List Int} (h : (zS b).2.2 = 0) : 1 ≤ (zS b).1 ∧ (zS b).1 ≤ 3 := by
 unfold zS at h ⊢
 split at h
 ·exact absurd h (by decide)
 ·rename_i c1
  rw [if_neg c1]
  split at h
  ·exact absurd h (by decide)
  ·rename_i c2
   rw [if_neg c2]
   split at h
   ·exact absurd h (by decide)
   ·rename_i c3
    rw [if_neg c3]
    split at h
    ·exact absurd h (by decide)
    ·rename_i c4
     rw [if_neg c4]
     show 1 ≤ Q6 ((b.take 2).drop 1) ∧ Q6 ((b.take 2).drop 1) ≤ 3
     constructor
     ·apply Decidable.byContradiction
      intro k
      exact c3 (.inr (.inl (by omega)))
     ·apply Decidable.byContradiction
      intro k
      exact c3 (.inr (.inr (.inl (by omega))))
theorem qqY {b : List Int} (lo hi : Int) (hb : isB b) (hl : b.length ≤ 1000000) (h : (zI b lo hi).2.2.2.2.2.2.2.2.2.2.2.2.2 = 0) :
  (zS b).2.2 = 0 ∧ qaC (QW (zS b).1 (zS b).2.1) = 0 ∧ zI b lo hi = qhw (zS b).1 (zS b).2.1 (QW (zS b).1 (zS b).2.1) := by
 unfold zI at h ⊢
 split at h
 ·rename_i c; exact absurd h c
 ·rename_i c
  rw [if_neg c]
  split at h
  ·exact absurd h (show (9 : Int) ≠ 0 by decide)
  ·rename_i c2
   rw [if_neg c2]
   split at h
   ·rename_i c3; exact absurd h c3
   ·rename_i c3
    rw [if_neg c3]
    split at h
    ·exact absurd h (show (10 : Int) ≠ 0 by decide)
    ·rename_i c4
     rw [if_neg c4]
     exact ⟨Decidable.not_not.1 c, Decidable.not_not.1 c3, rfl⟩
def qj2 : List ByteArray := (Zb.b ()).getD []
def qem (e : Int) : ByteArray := if e < 0 then wQ else if e ≥ 18 then wQ else (idx qj2 e).getD wQ
theorem qpw : (List.range 18).all (fun n => match idx qj2 (n : Int) with | some w => decide (w.size ≤ 10) | none => false) = true := by kernel_rfl
theorem qlN.pure (e : Int) : ZE.f BIG e = some (qem e) ∧ (qem e).size ≤ 10 := by
 unfold ZE.f ZE.b qem Zb.f
 have hw : Zb.b () = some qj2 := rfl
 simp only [veil_eq]
 rw [hw]
 dsimp only
 by_cases h : e < 0
 ·rw [if_pos (decide_eq_true h), if_pos h]; exact ⟨rfl, by decide⟩
 rw [if_neg (by rw [decide_eq_true_eq]; exact h), if_neg h]
 by_cases h2 : e ≥ 18
 ·rw [if_pos (decide_eq_true h2), if_pos h2]; exact ⟨rfl, by decide⟩
 rw [if_neg (by rw [decide_eq_true_eq]; exact h2), if_neg h2]
 have ht := List.all_eq_true.1 qpw e.toNat (List.mem_range.2 (by omega))
 rw [show ((e.toNat : Nat) : Int) = e from by omega] at ht
 cases hi : idx qj2 e with
 | none => rw [hi] at ht; cases ht
 | some w => rw [hi] at ht; exact ⟨rfl, of_decide_eq_true ht⟩
theorem qr4 {b : LF} (h : qca b = true) (hb : ∀ x ∈ b, isB x.2) : qpr b := by
 refine ⟨by have := (Ze h).1; omega, fun x hx => ?_⟩
 obtain ⟨h1, h2, h3⟩ := qbE h x hx
 exact ⟨⟨by omega, by omega⟩, hb x hx, by omega⟩
theorem qqT {r : REC} (h : zA r = true) (hb : ∀ x ∈ r.2.2.2.2.2, isB x.2) :
  zy.f BIG r.1 r.2.1 r.2.2.1 r.2.2.2.1.1 r.2.2.2.1.2 r.2.2.2.2.1 r.2.2.2.2.2 = some (qhj r) ∧ (qhj r).size ≤ 1000000 := by
 obtain ⟨h1, h2, h3, h4, h5, h6, h7, h8, h9⟩ := zH h
 have hn := qr4 h8 hb
 refine ⟨qru.pure r ⟨by omega, by omega⟩ ⟨by omega, by omega⟩ hn, ?_⟩
 have hs := qh6 (qfb r) (qlA r) r.2.2.2.2.2 hn r.2.2.2.2.2.length (Nat.le_refl _)
 rw [List.take_length] at hs
 have h0 := ql5 r
 have hl := (Ze h8).1
 unfold qhj
 have : r.2.2.2.2.2.length * 20100 ≤ 32 * 20100 := Nat.mul_le_mul_right _ hl
 omega
abbrev qeE : ByteArray := ⟨((98 :: (97 :: (100 :: (32 :: ([] : List UInt8)))))).toArray⟩
abbrev qiM : ByteArray := ⟨((32 :: (32 :: (98 :: (97 :: (100 :: (32 :: ([] : List UInt8)))))))).toArray⟩
abbrev qg2 : ByteArray := ⟨((32 :: (32 :: ([] : List UInt8)))).toArray⟩
abbrev qe9 : ByteArray := ⟨((103 :: (101 :: (110 :: (32 :: ([] : List UInt8)))))).toArray⟩
abbrev qgf : ByteArray := ⟨((32 :: ([] : List UInt8))).toArray⟩
abbrev qnV : ByteArray := ⟨((32 :: (32 :: (117 :: (110 :: (114 :: (101 :: (97 :: (100 :: ([] : List UInt8)))))))))).toArray⟩
theorem qrL (w : ByteArray) : qg2 ++ (qeE ++ w) = qiM ++ w := by
 apply qiQ
 simp
def qiR (W : P14) : ByteArray := ((qe9 ++ ZG W.2.2.2.2.2.2.2.2.2.2.2.1) ++ qgf) ++ qfS W.1 W.2.1 W.2.2.1 W.2.2.2.1 W.2.2.2.2.1 W.2.2.2.2.2.1 W.2.2.2.2.2.2.1 W.2.2.2.2.2.2.2.1 W.2.2.2.2.2.2.2.2.1 W.2.2.2.2.2.2.2.2.2.1
def qhq (r : REC) : ByteArray := qg2 ++ qhj r
def qst (m : M12) : List Int := [1, 2, 3].filter fun g => qc4 m.1 m.2.1 m.2.2.1 m.2.2.2.1 m.2.2.2.2.1 m.2.2.2.2.2.1 m.2.2.2.2.2.2.1 m.2.2.2.2.2.2.2.1 m.2.2.2.2.2.2.2.2.1 m.2.2.2.2.2.2.2.2.2.1 m.2.2.2.2.2.2.2.2.2.2.1 g
def qaf (b : List Int) : List ByteArray × List Int :=
 if (zI b 1 3).2.2.2.2.2.2.2.2.2.2.2.2.2 ≠ 0 then ([qeE ++ qem (zI b 1 3).2.2.2.2.2.2.2.2.2.2.2.2.2], [])
 else if (zI b 1 3).2.2.2.2.2.2.2.2.2.1 ≠ 0 then ([qiR (zI b 1 3), qnV], [])
 else if qaC (QV (zI b 1 3).2.2.2.2.2.2.2.2.2.2.2.1 (zI b 1 3).2.2.2.2.2.2.2.2.2.2.2.2.1 []) ≠ 0 then ([qiR (zI b 1 3), qiM ++ qem (qaC (QV (zI b 1 3).2.2.2.2.2.2.2.2.2.2.2.1 (zI b 1 3).2.2.2.2.2.2.2.2.2.2.2.2.1 []))], [])
 else (qiR (zI b 1 3) :: (qkB (QV (zI b 1 3).2.2.2.2.2.2.2.2.2.2.2.1 (zI b 1 3).2.2.2.2.2.2.2.2.2.2.2.2.1 [])).map qhq, qst (QV (zI b 1 3).2.2.2.2.2.2.2.2.2.2.2.1 (zI b 1 3).2.2.2.2.2.2.2.2.2.2.2.2.1 []))
def qow (l : LR) : Prop := l.length ≤ 255 ∧ ∀ r ∈ l, zA r = true ∧ ∀ x ∈ r.2.2.2.2.2, isB x.2
theorem qpa (b : List Int) (l : LR) (h : qow l) : ∀ (m k i : Nat) (acc : List ByteArray), i + m = l.length → m < k → acc.length ≤ 1 + i →
  zh.l11 BIG b k l (l.length : Int) (i : Int) acc = some (acc ++ (l.drop i).map qhq) := by
 intro m
 induction m with
 | zero =>
  intro k i acc hi hk ha
  obtain ⟨k, rfl⟩ : ∃ k', k = k' + 1 := ⟨k - 1, by omega⟩
  rw [zh.l11]
  unfold zh.b11
  rw [if_neg (by simp; omega), List.drop_of_length_le (by omega)]
  simp
 | succ m ih =>
  intro k i acc hi hk ha
  obtain ⟨k, rfl⟩ : ∃ k', k = k' + 1 := ⟨k - 1, by omega⟩
  have hlt : i < l.length := by omega
  have h1 := h.1
  obtain ⟨hr, hb⟩ := h.2 _ (List.getElem_mem hlt)
  obtain ⟨hL, hS⟩ := qqT hr hb
  rw [zh.l11]
  unfold zh.b11
  simp only [veil_eq]
  rw [if_pos (by simp; omega), Qn, List.getElem?_eq_getElem hlt]
  dsimp only
  rw [hL]
  dsimp only
  have e2 : qg2.size = 2 := rfl
  rw [if_pos (show ByteArray.size qg2 + (qhj l[i]).size ≤ 1099511627776 by omega), if_pos (by simp [lim]; omega), qX _ (by omega) (by omega), show ((i : Int) + 1) = ((i + 1 : Nat) : Int) from by omega]
  rw [ih k (i + 1) _ (by omega) (by omega) (by simp; omega), List.drop_eq_getElem_cons hlt, List.map_cons]
  simp [qhq]
theorem qq6 (b : List Int) (x1 x2 x3 x4 x5 x6 x7 x8 x9 x10 : Int) (l : LR) (F : List Int) (h : qow l) : ∀ (m k i : Nat) (acc : List ByteArray), i + m = l.length → m < k → acc.length ≤ 1 + i →
  qY.l17 BIG b k (i : Int) acc x1 x2 x3 x4 x5 x6 x7 x8 x9 x10 l F = some (acc ++ (l.drop i).map qhq, F) := by
 intro m
 induction m with
 | zero =>
  intro k i acc hi hk ha
  obtain ⟨k, rfl⟩ : ∃ k', k = k' + 1 := ⟨k - 1, by omega⟩
  rw [qY.l17]
  unfold qY.b17
  rw [if_neg (by simp; omega), List.drop_of_length_le (by omega)]
  simp
 | succ m ih =>
  intro k i acc hi hk ha
  obtain ⟨k, rfl⟩ : ∃ k', k = k' + 1 := ⟨k - 1, by omega⟩
  have hlt : i < l.length := by omega
  have h1 := h.1
  obtain ⟨hr, hb⟩ := h.2 _ (List.getElem_mem hlt)
  obtain ⟨hL, hS⟩ := qqT hr hb
  rw [qY.l17]
  unfold qY.b17
  simp only [veil_eq]
  rw [if_pos (by simp; omega), Qn, List.getElem?_eq_getElem hlt]
  dsimp only
  rw [hL]
  dsimp only
  have e2 : qg2.size = 2 := rfl
  rw [if_pos (show ByteArray.size qg2 + (qhj l[i]).size ≤ 1099511627776 by omega), if_pos (by simp [lim]; omega), qX _ (by omega) (by omega), show ((i : Int) + 1) = ((i + 1 : Nat) : Int) from by omega]
  rw [ih k (i + 1) _ (by omega) (by omega) (by simp; omega), List.drop_eq_getElem_cons hlt, List.map_cons]
  simp [qhq]
theorem qiu (b : List Int) (n : Nat) (g k f i lo hi s t l e bb : Int) (qc : LR) (acc : List Int) (hr : q9 qc = true) (g3 : g ≤ 3) (ha : acc.length ≤ 10) :
  zg.l9 BIG b (n + 1) g k f i lo hi s t l e bb qc acc = zg.l9 BIG b n (IntKind.wrap .i64 (g + 1)) k f i lo hi s t l e bb qc (acc ++ if qc4 k f i lo hi s t l e bb qc g = true then [g] else []) := by
 rw [zg.l9]
 unfold zg.b9
 simp only [veil_eq]
 rw [if_pos (decide_eq_true g3), qsl.pure _ _ _ _ _ _ _ _ _ _ _ _ hr]
 dsimp only
 cases qc4 k f i lo hi s t l e bb qc g with
 | true => rw [if_pos rfl, if_pos (by simp [lim]; omega), if_pos rfl]
 | false => rw [if_neg (by simp), if_neg (by simp), List.append_nil]
theorem qrg (b : List Int) (n : Nat) (k f i lo hi s t l e bb : Int) (qc : LR) (acc : List Int) :
  zg.l9 BIG b (n + 1) 4 k f i lo hi s t l e bb qc acc = some acc := by
 rw [zg.l9]
 unfold zg.b9
 rw [if_neg (by decide)]
theorem qrD (p : Int → Bool) : ((([] ++ if p 1 = true then [1] else []) ++ if p 2 = true then [2] else []) ++ if p 3 = true then [3] else []) = ([1, 2, 3] : List Int).filter p := by
 cases h1 : p 1 <;> cases h2 : p 2 <;> cases h3 : p 3 <;> simp [List.filter, h1, h2, h3]
theorem qsm : ∃ n, BIG = n + 4 := ⟨BIG - 4, by rw [Zx]⟩
theorem qkU (c : Bool) (g : Int) : (if c = true then [g] else ([] : List Int)).length ≤ 1 := by cases c <;> simp
theorem qqi (b : List Int) (k f i lo hi s t l e bb : Int) (qc : LR) (hr : q9 qc = true) :
  zg.l9 BIG b BIG 1 k f i lo hi s t l e bb qc [] = some (([1, 2, 3] : List Int).filter fun g => qc4 k f i lo hi s t l e bb qc g) := by
 obtain ⟨n, hn⟩ := qsm
 have key : zg.l9 BIG b (n + 4) 1 k f i lo hi s t l e bb qc [] = some (([1, 2, 3] : List Int).filter fun g => qc4 k f i lo hi s t l e bb qc g) := by
  rw [qiu b (n + 3) 1 k f i lo hi s t l e bb qc [] hr (by decide) (by simp)]
  rw [show IntKind.wrap .i64 ((1 : Int) + 1) = 2 from rfl]
  have l1 := qkU (qc4 k f i lo hi s t l e bb qc 1) 1
  rw [qiu b (n + 2) 2 k f i lo hi s t l e bb qc _ hr (by decide) (by simp; omega)]
  rw [show IntKind.wrap .i64 ((2 : Int) + 1) = 3 from rfl]
  have l2 := qkU (qc4 k f i lo hi s t l e bb qc 2) 2
  rw [qiu b (n + 1) 3 k f i lo hi s t l e bb qc _ hr (by decide) (by simp; omega)]
  rw [show IntKind.wrap .i64 ((3 : Int) + 1) = 4 from rfl, qrg, qrD fun g => qc4 k f i lo hi s t l e bb qc g]
 exact (congrArg (fun q => zg.l9 BIG b q 1 k f i lo hi s t l e bb qc []) hn).trans key
theorem qjQ (b : List Int) (n : Nat) (g k f i lo hi s t l e bb : Int) (qc : LR) (X : List ByteArray) (acc : List Int) (hr : q9 qc = true) (g3 : g ≤ 3) (ha : acc.length ≤ 10) :
  qY.l12 BIG b (n + 1) g X k f i lo hi s t l e bb qc acc = qY.l12 BIG b n (IntKind.wrap .i64 (g + 1)) X k f i lo hi s t l e bb qc (acc ++ if qc4 k f i lo hi s t l e bb qc g = true then [g] else []) := by
 rw [qY.l12]
 unfold qY.b12
 simp only [veil_eq]
 rw [if_pos (decide_eq_true g3), qsl.pure _ _ _ _ _ _ _ _ _ _ _ _ hr]
 dsimp only
 cases qc4 k f i lo hi s t l e bb qc g with
 | true => rw [if_pos rfl, if_pos (by simp [lim]; omega), if_pos rfl]
 | false => rw [if_neg (by simp), if_neg (by simp), List.append_nil]
theorem qrX (b : List Int) (n : Nat) (k f i lo hi s t l e bb : Int) (qc : LR) (X : List ByteArray) (acc : List Int) :
  qY.l12 BIG b (n + 1) 4 X k f i lo hi s t l e bb qc acc = qY.l17 BIG b BIG 0 X k f i lo hi s t l e bb qc acc := by
 rw [qY.l12]
 unfold qY.b12
 rw [if_neg (by decide)]
theorem qq7 (b : List Int) (k f i lo hi s t l e bb : Int) (qc : LR) (X : List ByteArray) (hr : q9 qc = true) :
  qY.l12 BIG b BIG 1 X k f i lo hi s t l e bb qc [] = qY.l17 BIG b BIG 0 X k f i lo hi s t l e bb qc (([1, 2, 3] : List Int).filter fun g => qc4 k f i lo hi s t l e bb qc g) := by
 obtain ⟨n, hn⟩ := qsm
 have key : qY.l12 BIG b (n + 4) 1 X k f i lo hi s t l e bb qc [] = qY.l17 BIG b BIG 0 X k f i lo hi s t l e bb qc (([1, 2, 3] : List Int).filter fun g => qc4 k f i lo hi s t l e bb qc g) := by
  rw [qjQ b (n + 3) 1 k f i lo hi s t l e bb qc X [] hr (by decide) (by simp)]
  rw [show IntKind.wrap .i64 ((1 : Int) + 1) = 2 from rfl]
  have l1 := qkU (qc4 k f i lo hi s t l e bb qc 1) 1
  rw [qjQ b (n + 2) 2 k f i lo hi s t l e bb qc X _ hr (by decide) (by simp; omega)]
  rw [show IntKind.wrap .i64 ((2 : Int) + 1) = 3 from rfl]
  have l2 := qkU (qc4 k f i lo hi s t l e bb qc 2) 2
  rw [qjQ b (n + 1) 3 k f i lo hi s t l e bb qc X _ hr (by decide) (by simp; omega)]
  rw [show IntKind.wrap .i64 ((3 : Int) + 1) = 4 from rfl, qrX, qrD fun g => qc4 k f i lo hi s t l e bb qc g]
 exact (congrArg (fun q => qY.l12 BIG b q 1 X k f i lo hi s t l e bb qc []) hn).trans key
theorem qh5 {gen : Int} {b : List Int} (hb : isB b) (hl : b.length < 1000000000) (h : qaC (QV gen b []) = 0) : qow (qkB (QV gen b [])) := by
 obtain ⟨hv, hp, _, _⟩ := qjL hb hl h
 have hbag := qot hp hb
 unfold qmE at hv
 obtain ⟨_, _, _, _, _, _, _, _, _, _, _, _, hn, hr⟩ := Ql hv
 exact ⟨hn, fun r hr' => ⟨hr r hr', fun x hx => hbag r hr' x hx⟩⟩
theorem qfU {v : Int} (h0 : 0 ≤ v) (h1 : v ≤ 281474976710655) : qio v := ⟨by omega, by omega⟩
theorem qn4 {b : List Int} (hb : isB b) (hl : b.length ≤ 1000000) (h : (zI b 1 3).2.2.2.2.2.2.2.2.2.2.2.2.2 = 0) :
  zl.f BIG (zI b 1 3).2.2.2.2.2.2.2.2.2.2.2.1 = some (ZG (zI b 1 3).2.2.2.2.2.2.2.2.2.2.2.1) ∧
  ∀ qc : LR, qJ.f BIG (zI b 1 3).1 (zI b 1 3).2.1 (zI b 1 3).2.2.1 (zI b 1 3).2.2.2.1 (zI b 1 3).2.2.2.2.1 (zI b 1 3).2.2.2.2.2.1 (zI b 1 3).2.2.2.2.2.2.1 (zI b 1 3).2.2.2.2.2.2.2.1 (zI b 1 3).2.2.2.2.2.2.2.2.1 (zI b 1 3).2.2.2.2.2.2.2.2.2.1 qc = some (qfS (zI b 1 3).1 (zI b 1 3).2.1 (zI b 1 3).2.2.1 (zI b 1 3).2.2.2.1 (zI b 1 3).2.2.2.2.1 (zI b 1 3).2.2.2.2.2.1 (zI b 1 3).2.2.2.2.2.2.1 (zI b 1 3).2.2.2.2.2.2.2.1 (zI b 1 3).2.2.2.2.2.2.2.2.1 (zI b 1 3).2.2.2.2.2.2.2.2.2.1) := by
 obtain ⟨h0, he, hW⟩ := qqY 1 3 hb hl h
 have hg := qp3 h0
 obtain ⟨ob, ol⟩ := qhn hb
 have hv := qo4 ob (by omega) he
 rw [hW]
 generalize QW (zS b).1 (zS b).2.1 = P at *
 obtain ⟨_, _, f0, f1, i0, i1, _, s0, s1, t0, t1, hlv, _, _⟩ := Ql hv
 obtain ⟨l0, l1, e0, e1, b0, b1, _⟩ := qdz hlv
 unfold qhw
 dsimp only
 refine ⟨qfX.pure _ (by omega) (by omega), fun qc => qsL.pure _ _ _ _ _ _ _ _ _ _ qc (qfU f0 (by omega)) (qfU i0 (by omega)) (qfU s0 (by omega)) (qfU t0 (by omega)) (qfU l0 (by omega)) (qfU e0 (by omega)) (qfU b0 (by omega))⟩
theorem qrF.pure (k f i lo hi s t l e b : Int) (qc : LR) (g : Int) (zc : List Int) : Qe.f BIG k f i lo hi s t l e b qc g zc = some (b != 0) := rfl
theorem qpv.pure (k f i lo hi s t l e b : Int) (qc : LR) (g : Int) (zc : List Int) (hb : isB zc) (hl : zc.length < 1000000000) : zK.f BIG k f i lo hi s t l e b qc g zc [] = some (QV g zc []) := by
 unfold zK.f zK.b
 rw [qsh.pure g zc [] hb hl qpG]
 simp only [veil_eq]
theorem Bad.pure (e : Int) : Q4.f BIG e = some (qeE ++ qem e) := by
 obtain ⟨h1, h2⟩ := qlN.pure e
 unfold Q4.f Q4.b
 simp only [veil_eq]
 rw [h1]
 dsimp only
 rw [if_pos (show qeE.size + (qem e).size ≤ 1099511627776 by have : qeE.size = 4 := rfl; omega)]
theorem All.pure : ZD.f BIG () = some (1, 3) := rfl
theorem qrq (b : List Int) (lo hi : Int) : ((zI b lo hi).2.2.2.2.2.2.2.2.2.1 != 0) = decide ((zI b lo hi).2.2.2.2.2.2.2.2.2.1 > 0) := by
 have := qp2 b lo hi
 by_cases h : (zI b lo hi).2.2.2.2.2.2.2.2.2.1 = 0
 ·rw [h]; rfl
 ·rw [bne_iff_ne.2 h]; simp; omega
theorem qrG.pure (b : List Int) (hb : isB b) (hl : b.length ≤ 1000000) : zh.f BIG b = some (qaf b).1 := by
 unfold zh.f zh.b qaf
 simp only [veil_eq]
 rw [All.pure]
 dsimp only
 rw [Qq.pure b 1 3 hb hl]
 dsimp only
 have hhead := qn4 hb hl
 obtain ⟨ob, ol⟩ := qgc 1 3 hb
 have htell := @qh5 (zI b 1 3).2.2.2.2.2.2.2.2.2.2.2.1 _ ob (by omega)
 have hread := fun k f i lo hi s t l e bb qc => qpv.pure k f i lo hi s t l e bb qc (zI b 1 3).2.2.2.2.2.2.2.2.2.2.2.1 _ ob (by omega)
 generalize zI b 1 3 = W at *
 by_cases h0 : W.2.2.2.2.2.2.2.2.2.2.2.2.2 = 0
 ·obtain ⟨hN, hM⟩ := hhead h0
  have hns := Z7 W.2.2.2.2.2.2.2.2.2.2.2.1
  have hms := (qfq W.1 W.2.1 W.2.2.1 W.2.2.2.1 W.2.2.2.2.1 W.2.2.2.2.2.1 W.2.2.2.2.2.2.1 W.2.2.2.2.2.2.2.1 W.2.2.2.2.2.2.2.2.1 W.2.2.2.2.2.2.2.2.2.1).2
  have g4 : qe9.size = 4 := rfl
  have g1 : qgf.size = 1 := rfl
  rw [if_neg (by simp [h0]), if_neg (by simp [h0]), hN]
  dsimp only
  rw [if_pos (show qe9.size + (ZG W.2.2.2.2.2.2.2.2.2.2.2.1).size ≤ 1099511627776 by omega), if_pos (show (qe9 ++ ZG W.2.2.2.2.2.2.2.2.2.2.2.1).size + qgf.size ≤ 1099511627776 by rw [Qv]; omega), hM]
  dsimp only
  rw [if_pos (show ((qe9 ++ ZG W.2.2.2.2.2.2.2.2.2.2.2.1) ++ qgf).size + (qfS W.1 W.2.1 W.2.2.1 W.2.2.2.1 W.2.2.2.2.1 W.2.2.2.2.2.1 W.2.2.2.2.2.2.1 W.2.2.2.2.2.2.2.1 W.2.2.2.2.2.2.2.2.1 W.2.2.2.2.2.2.2.2.2.1).size ≤ 1099511627776 by rw [Qv, Qv]; omega), qrF.pure]
  dsimp only
  by_cases hz : W.2.2.2.2.2.2.2.2.2.1 = 0
  ·rw [if_neg (by simp [hz]), if_neg (by simp [hz]), hread]
   dsimp only
   have hsm := qgo (gen := W.2.2.2.2.2.2.2.2.2.2.2.1) (qb := []) ob (by omega)
   generalize QV W.2.2.2.2.2.2.2.2.2.2.2.1 W.2.2.2.2.2.2.2.2.2.2.2.2.1 [] = M at *
   unfold qaC at htell ⊢
   by_cases hm : M.2.2.2.2.2.2.2.2.2.2.2 = 0
   ·rw [if_neg (by simp [hm]), if_neg (by simp [hm])]
    have ht := htell hm
    unfold qkB at ht ⊢
    rw [show (0 : Int) = ((0 : Nat) : Int) from rfl, qpa b _ ht _ BIG 0 _ (Nat.zero_add _) (by rw [Zx]; have := ht.1; omega) (by simp), List.drop_zero]
    rfl
   ·rw [if_pos (bne_iff_ne.2 hm), if_pos hm, Bad.pure]
    dsimp only
    have he := (qlN.pure M.2.2.2.2.2.2.2.2.2.2.2).2
    rw [if_pos (show qg2.size + (qeE ++ qem M.2.2.2.2.2.2.2.2.2.2.2).size ≤ 1099511627776 by rw [Qv]; have : qg2.size = 2 := rfl; have : qeE.size = 4 := rfl; omega), ← qrL]
    rfl
  ·rw [if_pos (bne_iff_ne.2 hz), if_pos hz]
   rfl
 ·rw [if_pos (bne_iff_ne.2 h0), if_pos h0, Bad.pure]
theorem qsC.pure (b : List Int) (hb : isB b) (hl : b.length ≤ 1000000) : zg.f BIG b = some (qaf b).2 := by
 unfold zg.f zg.b qaf
 simp only [veil_eq]
 rw [All.pure]
 dsimp only
 rw [Qq.pure b 1 3 hb hl]
 dsimp only
 obtain ⟨ob, ol⟩ := qgc 1 3 hb
 have hread := fun k f i lo hi s t l e bb qc => qpv.pure k f i lo hi s t l e bb qc (zI b 1 3).2.2.2.2.2.2.2.2.2.2.2.1 _ ob (by omega)
 generalize zI b 1 3 = W at *
 by_cases h0 : W.2.2.2.2.2.2.2.2.2.2.2.2.2 = 0
 ·rw [if_neg (by simp [h0]), if_neg (by simp [h0]), qrF.pure]
  dsimp only
  by_cases hz : W.2.2.2.2.2.2.2.2.2.1 = 0
  ·rw [if_neg (by simp [hz]), if_neg (by simp [hz]), hread]
   dsimp only
   have hsm := qgo (gen := W.2.2.2.2.2.2.2.2.2.2.2.1) (qb := []) ob (by omega)
   generalize QV W.2.2.2.2.2.2.2.2.2.2.2.1 W.2.2.2.2.2.2.2.2.2.2.2.2.1 [] = M at *
   unfold qaC
   by_cases hm : M.2.2.2.2.2.2.2.2.2.2.2 = 0
   ·rw [if_neg (by simp [hm]), if_neg (by simp [hm]), qqi b _ _ _ _ _ _ _ _ _ _ _ (show q9 M.2.2.2.2.2.2.2.2.2.2.1 = true from hsm)]
    rfl
   ·rw [if_pos (bne_iff_ne.2 hm), if_pos hm]
  ·rw [if_pos (bne_iff_ne.2 hz), if_pos hz]
 ·rw [if_pos (bne_iff_ne.2 h0), if_pos h0]
theorem qrW.pure (b : List Int) (hb : isB b) (hl : b.length ≤ 1000000) : qY.f BIG b = some (qaf b) := by
 unfold qY.f qY.b qaf
 simp only [veil_eq]
 rw [Qq.pure b 1 3 hb hl]
 dsimp only
 rw [← qrq]
 have hhead := qn4 hb hl
 obtain ⟨ob, ol⟩ := qgc 1 3 hb
 have htell := @qh5 (zI b 1 3).2.2.2.2.2.2.2.2.2.2.2.1 _ ob (by omega)
 have hread := fun k f i lo hi s t l e bb qc => qpv.pure k f i lo hi s t l e bb qc (zI b 1 3).2.2.2.2.2.2.2.2.2.2.2.1 _ ob (by omega)
 generalize zI b 1 3 = W at *
 by_cases h0 : W.2.2.2.2.2.2.2.2.2.2.2.2.2 = 0
 ·obtain ⟨hN, hM⟩ := hhead h0
  have hns := Z7 W.2.2.2.2.2.2.2.2.2.2.2.1
  have hms := (qfq W.1 W.2.1 W.2.2.1 W.2.2.2.1 W.2.2.2.2.1 W.2.2.2.2.2.1 W.2.2.2.2.2.2.1 W.2.2.2.2.2.2.2.1 W.2.2.2.2.2.2.2.2.1 W.2.2.2.2.2.2.2.2.2.1).2
  have g4 : qe9.size = 4 := rfl
  have g1 : qgf.size = 1 := rfl
  rw [if_neg (by simp [h0]), if_neg (by simp [h0]), hN]
  dsimp only
  rw [if_pos (show qe9.size + (ZG W.2.2.2.2.2.2.2.2.2.2.2.1).size ≤ 1099511627776 by omega), if_pos (show (qe9 ++ ZG W.2.2.2.2.2.2.2.2.2.2.2.1).size + qgf.size ≤ 1099511627776 by rw [Qv]; omega), hM]
  dsimp only
  rw [if_pos (show ((qe9 ++ ZG W.2.2.2.2.2.2.2.2.2.2.2.1) ++ qgf).size + (qfS W.1 W.2.1 W.2.2.1 W.2.2.2.1 W.2.2.2.2.1 W.2.2.2.2.2.1 W.2.2.2.2.2.2.1 W.2.2.2.2.2.2.2.1 W.2.2.2.2.2.2.2.2.1 W.2.2.2.2.2.2.2.2.2.1).size ≤ 1099511627776 by rw [Qv, Qv]; omega)]
  by_cases hz : W.2.2.2.2.2.2.2.2.2.1 = 0
  ·rw [if_neg (by simp [hz]), if_neg (by simp [hz]), hread]
   dsimp only
   have hsm := qgo (gen := W.2.2.2.2.2.2.2.2.2.2.2.1) (qb := []) ob (by omega)
   generalize QV W.2.2.2.2.2.2.2.2.2.2.2.1 W.2.2.2.2.2.2.2.2.2.2.2.2.1 [] = M at *
   unfold qaC at htell ⊢
   by_cases hm : M.2.2.2.2.2.2.2.2.2.2.2 = 0
   ·rw [if_neg (by simp [hm]), if_neg (by simp [hm])]
    have ht := htell hm
    rw [qq7 b _ _ _ _ _ _ _ _ _ _ _ _ (show q9 M.2.2.2.2.2.2.2.2.2.2.1 = true from hsm)]
    unfold qkB at ht ⊢
    rw [show (0 : Int) = ((0 : Nat) : Int) from rfl, qq6 b _ _ _ _ _ _ _ _ _ _ _ _ ht _ BIG 0 _ (Nat.zero_add _) (by rw [Zx]; have := ht.1; omega) (by simp), List.drop_zero]
    rfl
   ·rw [if_pos (bne_iff_ne.2 hm), if_pos hm]
    obtain ⟨he1, he⟩ := qlN.pure M.2.2.2.2.2.2.2.2.2.2.2
    rw [he1]
    dsimp only
    rw [if_pos (show qiM.size + (qem M.2.2.2.2.2.2.2.2.2.2.2).size ≤ 1099511627776 by have : qiM.size = 6 := rfl; omega)]
    rfl
  ·rw [if_pos (bne_iff_ne.2 hz), if_pos hz]
   rfl
 ·obtain ⟨he1, he⟩ := qlN.pure W.2.2.2.2.2.2.2.2.2.2.2.2.2
  rw [if_pos (bne_iff_ne.2 h0), if_pos h0, he1]
  dsimp only
  rw [if_pos (show qeE.size + (qem W.2.2.2.2.2.2.2.2.2.2.2.2.2).size ≤ 1099511627776 by have : qeE.size = 4 := rfl; omega)]
theorem qqe (gen : Int) (zc : List Int) : (qas gen zc).length = zc.length + 4 := by simp [qas]
theorem qmM (gen : Int) (zc : List Int) : (qbF gen zc).length = zc.length + 8 := by simp [qbF, qqe, qg4]
theorem qo5 (gen : Int) (zc : List Int) (h1 : 1 ≤ gen) (h3 : gen ≤ 3) (hb : isB zc) (hl : zc.length ≤ 65499) : zS (qbF gen zc) = (gen, zc, 0) := by
 have h := QB.pure (qbF gen zc) (qg5 h1 h3 hb hl) (by rw [qmM]; omega)
 rw [qp1 gen zc h1 h3 hb hl] at h
 exact (Option.some.inj h).symm
theorem qp4 {b : List Int} (lo hi : Int) (h : (zS b).2.2 ≠ 0) : zI b lo hi = zP 0 (zS b).2.2 := by
 unfold zI
 rw [if_pos h]
theorem qo3 {gen : Int} {k f i lo hi s t l e b : Int} {qc qb : LR} (hb : qaI qc) (QD : gen = 3 → Qp qb = true) (h : (Qb gen k f i lo hi s t l e b qc qb).2 = 0) :
  QW gen (Qb gen k f i lo hi s t l e b qc qb).1 = (k, f, i, lo, hi, s, t, l, e, b, [], 0) := by
 have hw := qh2 hb h
 obtain ⟨hr, _, _, g1, g3⟩ := qg1 QD h
 generalize (Qb gen k f i lo hi s t l e b qc qb).1 = w at *
 unfold QW
 by_cases h3 : gen = 3
 ·subst h3
  rw [qmY] at hr
  have h0 : qaC (qaW w qb) = 0 := by rw [hr]; rfl
  rw [if_pos (by simp), (qn8 hw h0).2.2, hr]
  rfl
 ·rw [if_neg (by simp [h3])]
  have e : QV gen w [] = QV gen w qb := by
   rcases (show gen = 1 ∨ gen = 2 by omega) with rfl | rfl
   ·rw [qkK, qkK]
   ·rw [qkJ, qkJ]
  rw [e, hr]
  rfl
theorem qoe {gen : Int} {k f i lo hi s t l e b : Int} {qc qb : LR} (h : (Qb gen k f i lo hi s t l e b qc qb).2 = 0) : gen = 3 → Qp qb = true := by
 rintro rfl
 cases hs : Qp qb with
 | true => rfl
 | false =>
  rw [qeD] at h
  unfold qds at h
  rw [hs] at h
  simp at h
theorem qqO {gen k f i lo hi s t l e b : Int} {qc qb : LR} (hb : qaI qc) (h : (qg6 gen k f i lo hi s t l e b qc qb).2 = 0) :
  ∃ w, qg6 gen k f i lo hi s t l e b qc qb = (qbF gen w, 0) ∧ 1 ≤ gen ∧ gen ≤ 3 ∧ isB w ∧ w.length ≤ 65499 ∧ (qdB k = true → gen = 1) ∧ QV gen w qb = (k, f, i, lo, hi, s, t, l, e, b, qc, 0) ∧ QW gen w = (k, f, i, lo, hi, s, t, l, e, b, [], 0) ∧ q0 k f i lo hi s t l e b qc = true := by
 unfold qg6 at h ⊢
 by_cases hg : (1 ≤ k ∧ k ≤ 3) ∧ gen ≠ 1
 ·rw [if_pos hg] at h; exact absurd h (show (10 : Int) ≠ 0 by decide)
 rw [if_neg hg] at h ⊢
 by_cases h0 : (Qb gen k f i lo hi s t l e b qc qb).2 = 0
 ·rw [if_neg (fun k => k h0)] at h ⊢
  have hw := qh2 hb h0
  have hp := qo3 hb (qoe h0) h0
  obtain ⟨hr, hv, hl, g1, g3⟩ := qg1 (qoe h0) h0
  generalize (Qb gen k f i lo hi s t l e b qc qb).1 = w at *
  refine ⟨w, ?_, g1, g3, hw, hl, ?_, hr, hp, hv⟩
  ·unfold qkc
   rw [if_neg (by omega), if_neg (by omega)]
  ·intro hk
   unfold qdB at hk
   have := of_decide_eq_true hk
   apply Decidable.byContradiction
   intro hn
   exact hg ⟨this, hn⟩
 ·rw [if_pos h0] at h
  exact absurd h h0
theorem qo6 {gen k f i lo hi s t l e b : Int} {w : List Int} (olo ohi : Int) (h1 : 1 ≤ gen) (h3 : gen ≤ 3) (hb : isB w) (hl : w.length ≤ 65499) (hg : qdB k = true → gen = 1) (hp : QW gen w = (k, f, i, lo, hi, s, t, l, e, b, [], 0)) :
  zI (qbF gen w) olo ohi = if qiq olo ohi gen = true ∨ qdB k = true then (k, f, i, lo, hi, s, t, l, e, b, [], gen, w, 0) else zP gen 9 := by
 unfold zI
 rw [qo5 gen w h1 h3 hb hl]
 dsimp only
 rw [hp]
 rw [if_neg (by simp)]
 have he : qaC (k, f, i, lo, hi, s, t, l, e, b, ([] : LR), (0 : Int)) = 0 := rfl
 rw [he]
 cases hh : qiq olo ohi gen with
 | true =>
  rw [if_neg (by simp), if_neg (by simp), if_neg (by rintro ⟨a, c⟩; exact c (hg a)), if_pos (.inl rfl)]
  rfl
 | false =>
  cases hk : qdB k with
  | true =>
   have := hg hk
   subst this
   rw [if_neg (by simp [hk]), if_neg (by simp), if_neg (by simp), if_pos (.inr rfl)]
   rfl
  | false =>
   rw [if_pos ⟨rfl, .inr (by simp [hk])⟩, if_neg (by simp)]
def qdV : Den.Sum := s_bcheck 91
theorem qhQ : SumDet qdV := s_bcheck_det 91
theorem qik : SumOk Tryz.prog 71 qdV := s_bcheck_ok (ρ := qiP) { qjP with } qiz.toX72 Tryz.func71 rfl (by kernel_rfl)
def qfo : Den.Sum := s_bstring 91 5
theorem qlx : SumDet qfo := s_bstring_det 91 5
theorem qmv : SumOk Tryz.prog 49 qfo := s_bstring_ok (ρ := qiP) { qjP with } qiz Tryz.func49 rfl (by kernel_rfl)
def qb6 : Env := ⟨th, gam [(71, qdV)], fun i => ⟨[], [], []⟩⟩
def zv.k (rs : List AV) (os : List Den.Obj) : Option (Int × (List Int)) :=
 match rs, os with
 | [.d (.int .i64) r0, .nili], [.bld 91 (.row 2), .gone, .row 5 (.int .u8) r1 false] => some (r0, r1)
 | _, _ => none
def zv.b (buf : List Int) (s : ByteArray) : Option (Int × (List Int)) :=
 (if ((((List.length buf) + (List.length (bytesOf s))) * (1 : Nat)) ≤ lim) then some (((((ByteArray.size s)) : Nat) : Int), (buf ++ (bytesOf s))) else none)
def zv.f (qa : Nat) (buf : List Int) (s : ByteArray) : Option (Int × (List Int)) := zv.b buf s
theorem zv.eq (qa : Nat) (buf : List Int) (s : ByteArray) : (denF qb6 loopN qa Tryz.f47 [.raw, .raw] [.ptr 0 0, .d .str s] [.bld 91 (.row 1), .row 5 (.int .u8) buf false] zv.k) = zv.f qa buf s := by
 kernel_rfl
def Qo : Den.Sum := ⟨[.raw, .raw], fun qK qn κ => match qK, qn with
 | [.ptr 0 0, .d .str s], [.bld 91 (.row 1), .row 5 (.int .u8) buf false] => (match veil (zv.f BIG buf s) with | none => none | some y => κ [.d (.int .i64) y.1, .nili] [.bld 91 (.row 2), .gone, .row 5 (.int .u8) y.2 false])
 | _, _ => none⟩
theorem qdu : SumDet Qo := zj fun _ _ _ _ => by
 unfold Qo
 simp only [veil_eq]
 split
 ·split <;> rfl
 ·rfl
theorem qdK : SumOk Tryz.prog 47 Qo := by
 have hE : EnvOk Tryz.prog qb6 := env_ok (l := [(71, qdV)]) th_ok qZ ⟨⟨qik, qhQ⟩, trivial⟩ _
 refine sum_ok hE Tryz.func47 rfl (by kernel_rfl) Qo [.raw, .raw] zv.k ?_
 intro R avs qn κ r h
 unfold Qo at h
 simp only [veil_eq] at h
 split at h
 ·rename_i s buf
  split at h
  ·cases h
  ·rename_i y hy
   refine ⟨BIG, _, _, _, (zv.eq BIG buf s).trans hy, ?_, h⟩
   intro rs ros hk
   unfold zv.k at hk
   split at hk
   ·rw [← sj hk]; exact ⟨rfl, rfl⟩
   ·cases hk
 ·cases h
def qci : Env := ⟨th, gam [(71, qdV)], fun i => ⟨[], [], []⟩⟩
def zD.k (rs : List AV) (os : List Den.Obj) : Option (List Int) :=
 match rs, os with
 | [.nili], [.bld 91 (.row 2), .gone, .row 5 (.int .u8) r0 false] => some r0
 | _, _ => none
def zD.b (buf : List Int) (c : Int) : Option (List Int) :=
 (if ((((List.length buf) + (List.length (c :: ([] : List Int)))) * (1 : Nat)) ≤ lim) then some ((buf ++ (c :: ([] : List Int)))) else none)
def zD.f (qa : Nat) (buf : List Int) (c : Int) : Option (List Int) := zD.b buf c
theorem zD.eq (qa : Nat) (buf : List Int) (c : Int) : (denF qci loopN qa Tryz.f48 [.raw] [.ptr 0 0, .d (.int .u8) c] [.bld 91 (.row 1), .row 5 (.int .u8) buf false] zD.k) = zD.f qa buf c := by
 kernel_rfl
def Qx : Den.Sum := ⟨[.raw, .raw], fun qK qn κ => match qK, qn with
 | [.ptr 0 0, .d (.int .u8) c], [.bld 91 (.row 1), .row 5 (.int .u8) buf false] => (match veil (zD.f BIG buf c) with | none => none | some y => κ [.nili] [.bld 91 (.row 2), .gone, .row 5 (.int .u8) y false])
 | _, _ => none⟩
theorem qd2 : SumDet Qx := zj fun _ _ _ _ => by
 unfold Qx
 simp only [veil_eq]
 split
 ·split <;> rfl
 ·rfl
theorem qd9 : SumOk Tryz.prog 48 Qx := by
 have hE : EnvOk Tryz.prog qci := env_ok (l := [(71, qdV)]) th_ok qZ ⟨⟨qik, qhQ⟩, trivial⟩ _
 refine sum_ok hE Tryz.func48 rfl (by kernel_rfl) Qx [.raw] zD.k ?_
 intro R avs qn κ r h
 unfold Qx at h
 simp only [veil_eq] at h
 split at h
 ·rename_i c buf
  split at h
  ·cases h
  ·rename_i y hy
   refine ⟨BIG, _, _, _, (zD.eq BIG buf c).trans hy, ?_, h⟩
   intro rs ros hk
   unfold zD.k at hk
   split at hk
   ·rw [← sj hk]; exact ⟨rfl, rfl⟩
   ·cases hk
 ·cases h
def qdj : Env := ⟨th, gam [(21, ZL), (47, Qo), (48, Qx), (49, qfo)], fun i => if i = 888887 then ⟨[91], [], []⟩ else if i = 3 then ⟨[3, 8, 9, 10], [], []⟩ else if i = 6 then ⟨[3, 8, 9, 10, 15, 16, 17], [], []⟩ else ⟨[], [], []⟩⟩
def qV.k (rs : List AV) (os : List Den.Obj) : Option ByteArray :=
 match rs, os with
 | [.d .str r0], [] => some r0
 | _, _ => none
def qV.s6 (zd : List (List Int)) (x5 : Int) (x6 : Int) (x7 : Int) (x8 : Int) (x9 : (List Int)) (x10 : (List ByteArray)) : St := ⟨[dD, dD, dD, .ptr 64 0, dD, dD, dD, dD, .d (.sl (.sl (.int .u8))) (zd), .d tQi x5, .d tQi x6, dD, dD, dD, dD, .row 66, .d tQi x7, .d tQi x8, dD, dD, dD, dD, dD, dD, dD, dD, .dead], ofL [(64, .bld 91 (.row 65)), (65, .row 5 (.int .u8) x9 false), (66, .row 9 .str x10 false)], 0⟩
def qV.p6 (qa : Nat) (zd : List (List Int)) (k3 : Nat) (k : Nat) := fun x5 x6 x7 x8 x9 x10 => lp qdj qa Tryz.f27 [.raw] 0 qV.k 6 [k3] k (qV.s6 zd x5 x6 x7 x8 x9 x10)
def qV.b6 (zd : List (List Int)) (A3 : Int → Int → (List Int) → Option ByteArray) (A6 : Int → Int → Int → Int → (List Int) → (List ByteArray) → Option ByteArray) (x5 : Int) (x6 : Int) (x7 : Int) (x8 : Int) (x9 : (List Int)) (x10 : (List ByteArray)) : Option ByteArray :=
 (if (decide (x8 < x7)) then (match (idx x10 x8) with | none => none | some y11 => (match (idx x10 x8) with | none => none | some y12 => (match (veil (zv.f BIG x9 y12)) with | none => none | some y13 => (match (veil (zD.f BIG y13.2 (10 : Int))) with | none => none | some y14 => A6 x5 x6 x7 (IntKind.wrap .i64 (x8 + (1 : Int))) y14 x10)))) else A3 x5 (IntKind.wrap .i64 (x6 + (1 : Int))) x9)
def qV.l6 (qa : Nat) (zd : List (List Int)) (A3 : Int → Int → (List Int) → Option ByteArray) : Nat → Int → Int → Int → Int → (List Int) → (List ByteArray) → Option ByteArray
 | 0, _, _, _, _, _, _ => none
 | k + 1, x5, x6, x7, x8, x9, x10 => qV.b6 zd A3 (qV.l6 qa zd A3 k) x5 x6 x7 x8 x9 x10
def qV.s3 (zd : List (List Int)) (x0 : Int) (x1 : Int) (x2 : (List Int)) : St := ⟨[dD, dD, dD, .ptr 64 0, dD, dD, dD, dD, .d (.sl (.sl (.int .u8))) (zd), .d tQi x0, .d tQi x1, dD, dD, dD, dD, dD, dD, dD, dD, dD, dD, dD, dD, dD, dD, dD, .dead], ofL [(64, .bld 91 (.row 65)), (65, .row 5 (.int .u8) x2 false)], 0⟩
def qV.p3 (qa : Nat) (zd : List (List Int)) (k : Nat) := fun x0 x1 x2 => lp qdj qa Tryz.f27 [.raw] 0 qV.k 3 [] k (qV.s3 zd x0 x1 x2)
def qV.b3 (zd : List (List Int)) (A3 : Int → Int → (List Int) → Option ByteArray) (E6 : Int → Int → Int → Int → (List Int) → (List ByteArray) → Option ByteArray) (x0 : Int) (x1 : Int) (x2 : (List Int)) : Option ByteArray :=
 (if (decide (x1 < x0)) then (match (idx zd x1) with | none => none | some y3 => (match (veil (zh.f BIG y3)) with | none => none | some y4 => E6 x0 x1 ((((List.length y4)) : Nat) : Int) (0 : Int) x2 y4)) else some ((strOf x2)))
def qV.l3 (qa : Nat) (zd : List (List Int)) : Nat → Int → Int → (List Int) → Option ByteArray
 | 0, _, _, _ => none
 | k + 1, x0, x1, x2 => qV.b3 zd (qV.l3 qa zd k) (qV.l6 qa zd (qV.l3 qa zd k) qa) x0 x1 x2
def qV.b (zd : List (List Int)) (E3 : Int → Int → (List Int) → Option ByteArray) : Option ByteArray :=
 E3 ((((List.length zd)) : Nat) : Int) (0 : Int) ([] : List Int)
def qV.f (qa : Nat) (zd : List (List Int)) : Option ByteArray := qV.b zd (qV.l3 qa zd qa)
theorem qV.l6_eq (qa : Nat) (zd : List (List Int)) (k3 : Nat) : ∀ k : Nat, qV.p6 qa zd k3 k = qV.l6 qa zd (qV.p3 qa zd k3) k
 | 0 => by kernel_rfl
 | k + 1 => by
  refine Eq.trans (b := qV.b6 zd (qV.p3 qa zd k3) (qV.p6 qa zd k3 k)) (by kernel_rfl) ?_
  rw [qV.l6_eq qa zd k3 k]
  kernel_rfl
theorem qV.l3_eq (qa : Nat) (zd : List (List Int)) : ∀ k : Nat, qV.p3 qa zd k = qV.l3 qa zd k
 | 0 => by kernel_rfl
 | k + 1 => by
  refine Eq.trans (b := qV.b3 zd (qV.p3 qa zd k) (qV.p6 qa zd k qa)) (by kernel_rfl) ?_
  rw [qV.l3_eq qa zd k, qV.l6_eq qa zd k qa, qV.l3_eq qa zd k]
  kernel_rfl
theorem qV.eq (qa : Nat) (zd : List (List Int)) : (denF qdj loopN qa Tryz.f27 [.raw] [.d (.sl (.sl (.int .u8))) zd] [] qV.k) = qV.f qa zd := by
 refine Eq.trans (b := qV.b zd (qV.p3 qa zd qa)) (by kernel_rfl) ?_
 rw [qV.l3_eq qa zd qa]
 kernel_rfl
def ZV : Den.Sum := ⟨[.dat (.sl (.sl (.int .u8))) false], fun qK qn κ => match qK, qn with
 | [.d (.sl (.sl (.int .u8))) zd], [] => (match veil (qV.f BIG zd) with | none => none | some y => κ [.d .str y] [])
 | _, _ => none⟩
theorem qe0 : SumDet ZV := zj fun _ _ _ _ => by
 unfold ZV
 simp only [veil_eq]
 split
 ·split <;> rfl
 ·rfl
theorem qfj : SumOk Tryz.prog 27 ZV := by
 have hE : EnvOk Tryz.prog qdj := env_ok (l := [(21, ZL), (47, Qo), (48, Qx), (49, qfo)]) th_ok qZ ⟨⟨qe1, qeA⟩, ⟨qdK, qdu⟩, ⟨qd9, qd2⟩, ⟨qmv, qlx⟩, trivial⟩ _
 refine sum_ok hE Tryz.func27 rfl (by kernel_rfl) ZV [.raw] qV.k ?_
 intro R avs qn κ r h
 unfold ZV at h
 simp only [veil_eq] at h
 split at h
 ·rename_i zd
  split at h
  ·cases h
  ·rename_i y hy
   refine ⟨BIG, _, _, _, (qV.eq BIG zd).trans hy, ?_, h⟩
   intro rs ros hk
   unfold qV.k at hk
   split at hk
   ·rw [← sj hk]; exact ⟨rfl, rfl⟩
   ·cases hk
 ·cases h
def qhU : Env := ⟨th, gam [(10, qa5), (27, ZV)], fun i => ⟨[], [], []⟩⟩
def QU.k (rs : List AV) (os : List Den.Obj) : Option Bool :=
 match rs, os with
 | [.d .bool r0], [] => some r0
 | _, _ => none
def QU.b (u : Unit) : Option Bool :=
 (match (veil (QT.f BIG (1 : Int) (1 : Int) (5 : Int) 0 (1 : Int) (3 : Int) (7 : Int) 0 0 0 0 ([] : LR) ([] : LR))) with | none => none | some y0 => (if (y0.2 == (0 : Int)) then (match (veil (qV.f BIG (y0.1 :: ([] : List (List Int))))) with | none => none | some y1 => (if ((ByteArray.toList y1) == (ByteArray.toList (⟨((103 :: (101 :: (110 :: (32 :: (49 :: (32 :: (104 :: (101 :: (108 :: (108 :: (111 :: (32 :: (102 :: (114 :: (111 :: (109 :: (32 :: (53 :: (32 :: (105 :: (110 :: (99 :: (32 :: (48 :: (32 :: (115 :: (112 :: (97 :: (110 :: (32 :: (49 :: (45 :: (51 :: (32 :: (115 :: (101 :: (113 :: (32 :: (55 :: (10 :: ([] : List UInt8)))))))))))))))))))))))))))))))))))))))))).toArray⟩ : ByteArray))) then (match (veil (qV.f BIG (([] : List Int) :: ([] : List (List Int))))) with | none => none | some y2 => some (((ByteArray.toList y2) == (ByteArray.toList (⟨((98 :: (97 :: (100 :: (32 :: (115 :: (104 :: (111 :: (114 :: (116 :: (10 :: ([] : List UInt8)))))))))))).toArray⟩ : ByteArray))))) else some (false))) else some (false)))
def QU.f (qa : Nat) (u : Unit) : Option Bool := QU.b u
theorem QU.eq (qa : Nat) (u : Unit) : (denF qhU loopN qa Tryz.f20 [.raw] [] [] QU.k) = QU.f qa u := by
 kernel_rfl
def qa7 : Den.Sum := ⟨[], fun qK qn κ => match qK, qn with
 | [], [] => (match veil (QU.f BIG ()) with | none => none | some y => κ [.d .bool y] [])
 | _, _ => none⟩
theorem qiX : SumDet qa7 := zj fun _ _ _ _ => by
 unfold qa7
 simp only [veil_eq]
 split
 ·split <;> rfl
 ·rfl
theorem qjE : SumOk Tryz.prog 20 qa7 := by
 have hE : EnvOk Tryz.prog qhU := env_ok (l := [(10, qa5), (27, ZV)]) th_ok qZ ⟨⟨qjB, qiV⟩, ⟨qfj, qe0⟩, trivial⟩ _
 refine sum_ok hE Tryz.func20 rfl (by kernel_rfl) qa7 [.raw] QU.k ?_
 intro R avs qn κ r h
 unfold qa7 at h
 simp only [veil_eq] at h
 split at h
 ·skip
  split at h
  ·cases h
  ·rename_i y hy
   refine ⟨BIG, _, _, _, (QU.eq BIG ()).trans hy, ?_, h⟩
   intro rs ros hk
   unfold QU.k at hk
   split at hk
   ·rw [← sj hk]; exact ⟨rfl, rfl⟩
   ·cases hk
 ·cases h
def Z0 : Env := ⟨th, gam [(20, qa7), (21, ZL), (25, qa6), (26, qaG), (27, ZV)], fun i => if i = 5 then ⟨[0, 3, 4], [], []⟩ else if i = 15 then ⟨[0, 3, 4, 5, 6, 7, 8, 9], [], []⟩ else if i = 21 then ⟨[0, 3, 4, 6, 8, 10], [], []⟩ else ⟨[], [], []⟩⟩
def qp.k (rs : List AV) (os : List Den.Obj) : Option Bool :=
 match rs, os with
 | [.d .bool r0], [] => some r0
 | _, _ => none
def qp.s21 (l : List (List Int)) (x24 : ByteArray) (x25 : Int) (x26 : Int) (x27 : (List Int)) (x28 : (List Int)) : St := ⟨[.d (.sl (.sl (.int .u8))) (l), .dead, .dead, .d .str x24, .d tQi x25, .dead, .row 64, .dead, .row 65, .dead, .d tQi x26, dD, dD, dD, dD, dD, dD, dD, dD, dD, dD, dD, dD, dD, dD, dD, dD, dD, dD, dD, dD, dD, dD, dD, dD, dD, dD, dD, dD, dD, dD, dD, dD, dD, dD, dD, dD, dD, dD, dD, dD, dD, dD, dD, dD, dD, dD, dD, dD, dD, dD, dD, dD, dD, dD, dD, dD, dD, dD, dD, dD, dD, dD, dD, dD, dD, dD, dD, dD, dD, dD, dD, dD, dD, dD, dD, dD, dD, dD, dD, dD, dD, dD, dD, dD, dD, dD, dD, dD, dD, dD, .dead], ofL [(64, .row 3 tQi x27 false), (65, .row 3 tQi x28 false)], 0⟩
def qp.p21 (qa : Nat) (l : List (List Int)) (k5 : Nat) (k : Nat) := fun x24 x25 x26 x27 x28 => lp Z0 qa Tryz.f6 [.raw] 0 qp.k 21 [k5] k (qp.s21 l x24 x25 x26 x27 x28)
def qp.b21 (l : List (List Int)) (A5 : ByteArray → Int → Option Bool) (A21 : ByteArray → Int → Int → (List Int) → (List Int) → Option Bool) (x24 : ByteArray) (x25 : Int) (x26 : Int) (x27 : (List Int)) (x28 : (List Int)) : Option Bool :=
 (if (decide (x26 < ((((List.length x27)) : Nat) : Int))) then (match (idx x28 x26) with | none => none | some y29 => (match (idx x28 x26) with | none => none | some y30 => (match (idx x27 x26) with | none => none | some y31 => (match (idx x27 x26) with | none => none | some y32 => (if (y30 != y32) then some (false) else A21 x24 x25 (IntKind.wrap .i64 (x26 + (1 : Int))) x27 x28))))) else A5 x24 (IntKind.wrap .i64 (x25 + (1 : Int))))
def qp.l21 (qa : Nat) (l : List (List Int)) (A5 : ByteArray → Int → Option Bool) : Nat → ByteArray → Int → Int → (List Int) → (List Int) → Option Bool
 | 0, _, _, _, _, _ => none
 | k + 1, x24, x25, x26, x27, x28 => qp.b21 l A5 (qp.l21 qa l A5 k) x24 x25 x26 x27 x28
def qp.s15 (l : List (List Int)) (x11 : ByteArray) (x12 : Int) (x13 : Int) (x14 : (List ByteArray)) (x15 : (List Int)) (x16 : (List ByteArray)) (x17 : (List Int)) : St := ⟨[.d (.sl (.sl (.int .u8))) (l), .dead, .dead, .d .str x11, .d tQi x12, .row 64, .row 65, .row 66, .row 67, .d tQi x13, dD, dD, dD, dD, dD, dD, dD, dD, dD, dD, dD, dD, dD, dD, dD, dD, dD, dD, dD, dD, dD, dD, dD, dD, dD, dD, dD, dD, dD, dD, dD, dD, dD, dD, dD, dD, dD, dD, dD, dD, dD, dD, dD, dD, dD, dD, dD, dD, dD, dD, dD, dD, dD, dD, dD, dD, dD, dD, dD, dD, dD, dD, dD, dD, dD, dD, dD, dD, dD, dD, dD, dD, dD, dD, dD, dD, dD, dD, dD, dD, dD, dD, dD, dD, dD, dD, dD, dD, dD, dD, dD, .dead], ofL [(64, .row 9 .str x14 false), (65, .row 3 tQi x15 false), (66, .row 9 .str x16 false), (67, .row 3 tQi x17 false)], 0⟩
def qp.p15 (qa : Nat) (l : List (List Int)) (k5 : Nat) (k : Nat) := fun x11 x12 x13 x14 x15 x16 x17 => lp Z0 qa Tryz.f6 [.raw] 0 qp.k 15 [k5] k (qp.s15 l x11 x12 x13 x14 x15 x16 x17)
def qp.b15 (l : List (List Int)) (A5 : ByteArray → Int → Option Bool) (A15 : ByteArray → Int → Int → (List ByteArray) → (List Int) → (List ByteArray) → (List Int) → Option Bool) (E21 : ByteArray → Int → Int → (List Int) → (List Int) → Option Bool) (x11 : ByteArray) (x12 : Int) (x13 : Int) (x14 : (List ByteArray)) (x15 : (List Int)) (x16 : (List ByteArray)) (x17 : (List Int)) : Option Bool :=
 (if (decide (x13 < ((((List.length x14)) : Nat) : Int))) then (match (idx x16 x13) with | none => none | some y18 => (match (idx x16 x13) with | none => none | some y19 => (match (idx x14 x13) with | none => none | some y20 => (match (idx x14 x13) with | none => none | some y21 => (if (!((ByteArray.toList y19) == (ByteArray.toList y21))) then some (false) else (match (idx x14 x13) with | none => none | some y22 => (match (idx x14 x13) with | none => none | some y23 => (if (((ByteArray.size x11) + (ByteArray.size y23)) ≤ (1099511627776 : Nat)) then (if (((ByteArray.size (x11 ++ y23)) + (ByteArray.size (⟨((10 :: ([] : List UInt8))).toArray⟩ : ByteArray))) ≤ (1099511627776 : Nat)) then A15 ((x11 ++ y23) ++ (⟨((10 :: ([] : List UInt8))).toArray⟩ : ByteArray)) x12 (IntKind.wrap .i64 (x13 + (1 : Int))) x14 x15 x16 x17 else none) else none)))))))) else E21 x11 x12 (0 : Int) x15 x17)
def qp.l15 (qa : Nat) (l : List (List Int)) (A5 : ByteArray → Int → Option Bool) : Nat → ByteArray → Int → Int → (List ByteArray) → (List Int) → (List ByteArray) → (List Int) → Option Bool
 | 0, _, _, _, _, _, _, _ => none
 | k + 1, x11, x12, x13, x14, x15, x16, x17 => qp.b15 l A5 (qp.l15 qa l A5 k) (qp.l21 qa l A5 qa) x11 x12 x13 x14 x15 x16 x17
def qp.s5 (l : List (List Int)) (x1 : ByteArray) (x2 : Int) : St := ⟨[.d (.sl (.sl (.int .u8))) (l), .dead, .dead, .d .str x1, .d tQi x2, dD, dD, dD, dD, dD, dD, dD, dD, dD, dD, dD, dD, dD, dD, dD, dD, dD, dD, dD, dD, dD, dD, dD, dD, dD, dD, dD, dD, dD, dD, dD, dD, dD, dD, dD, dD, dD, dD, dD, dD, dD, dD, dD, dD, dD, dD, dD, dD, dD, dD, dD, dD, dD, dD, dD, dD, dD, dD, dD, dD, dD, dD, dD, dD, dD, dD, dD, dD, dD, dD, dD, dD, dD, dD, dD, dD, dD, dD, dD, dD, dD, dD, dD, dD, dD, dD, dD, dD, dD, dD, dD, dD, dD, dD, dD, dD, .dead], ofL [], 0⟩
def qp.p5 (qa : Nat) (l : List (List Int)) (k : Nat) := fun x1 x2 => lp Z0 qa Tryz.f6 [.raw] 0 qp.k 5 [] k (qp.s5 l x1 x2)
def qp.b5 (l : List (List Int)) (A5 : ByteArray → Int → Option Bool) (E15 : ByteArray → Int → Int → (List ByteArray) → (List Int) → (List ByteArray) → (List Int) → Option Bool) (x1 : ByteArray) (x2 : Int) : Option Bool :=
 (if (decide (x2 < ((((List.length l)) : Nat) : Int))) then (match (idx l x2) with | none => none | some y3 => (if (decide (((((List.length y3)) : Nat) : Int) > (2000 : Int))) then (match (veil (QU.f BIG ())) with | none => none | some y4 => some (y4)) else (match (idx l x2) with | none => none | some y5 => (match (veil (qY.f BIG y5)) with | none => none | some y6 => (match (idx l x2) with | none => none | some y7 => (match (veil (zh.f BIG y7)) with | none => none | some y8 => (match (idx l x2) with | none => none | some y9 => (match (veil (zg.f BIG y9)) with | none => none | some y10 => (if (((((List.length y8)) : Nat) : Int) != ((((List.length y6.1)) : Nat) : Int)) then some (false) else (if (((((List.length y10)) : Nat) : Int) != ((((List.length y6.2)) : Nat) : Int)) then some (false) else E15 x1 x2 (0 : Int) y6.1 y6.2 y8 y10)))))))))) else (match (veil (qV.f BIG l)) with | none => none | some y33 => (if ((ByteArray.toList y33) == (ByteArray.toList x1)) then (match (veil (QU.f BIG ())) with | none => none | some y34 => some (y34)) else some (false))))
def qp.l5 (qa : Nat) (l : List (List Int)) : Nat → ByteArray → Int → Option Bool
 | 0, _, _ => none
 | k + 1, x1, x2 => qp.b5 l (qp.l5 qa l k) (qp.l15 qa l (qp.l5 qa l k) qa) x1 x2
def qp.b (l : List (List Int)) (E5 : ByteArray → Int → Option Bool) : Option Bool :=
 (if (decide (((((List.length l)) : Nat) : Int) > (5 : Int))) then (match (veil (QU.f BIG ())) with | none => none | some y0 => some (y0)) else E5 (⟨(([] : List UInt8)).toArray⟩ : ByteArray) (0 : Int))
def qp.f (qa : Nat) (l : List (List Int)) : Option Bool := qp.b l (qp.l5 qa l qa)
theorem qp.l21_eq (qa : Nat) (l : List (List Int)) (k5 : Nat) : ∀ k : Nat, qp.p21 qa l k5 k = qp.l21 qa l (qp.p5 qa l k5) k
 | 0 => by kernel_rfl
 | k + 1 => by
  refine Eq.trans (b := qp.b21 l (qp.p5 qa l k5) (qp.p21 qa l k5 k)) (by kernel_rfl) ?_
  rw [qp.l21_eq qa l k5 k]
  kernel_rfl
theorem qp.l15_eq (qa : Nat) (l : List (List Int)) (k5 : Nat) : ∀ k : Nat, qp.p15 qa l k5 k = qp.l15 qa l (qp.p5 qa l k5) k
 | 0 => by kernel_rfl
 | k + 1 => by
  refine Eq.trans (b := qp.b15 l (qp.p5 qa l k5) (qp.p15 qa l k5 k) (qp.p21 qa l k5 qa)) (by kernel_rfl) ?_
  rw [qp.l15_eq qa l k5 k, qp.l21_eq qa l k5 qa]
  kernel_rfl
theorem qp.l5_eq (qa : Nat) (l : List (List Int)) : ∀ k : Nat, qp.p5 qa l k = qp.l5 qa l k
 | 0 => by kernel_rfl
 | k + 1 => by
  refine Eq.trans (b := qp.b5 l (qp.p5 qa l k) (qp.p15 qa l k qa)) (by kernel_rfl) ?_
  rw [qp.l5_eq qa l k, qp.l15_eq qa l k qa, qp.l5_eq qa l k]
  kernel_rfl
theorem qp.eq (qa : Nat) (l : List (List Int)) : (denF Z0 loopN qa Tryz.f6 [.raw] [.d (.sl (.sl (.int .u8))) l] [] qp.k) = qp.f qa l := by
 refine Eq.trans (b := qp.b l (qp.p5 qa l qa)) (by kernel_rfl) ?_
 rw [qp.l5_eq qa l qa]
 kernel_rfl
theorem qny (w : ByteArray) : strOf (bytesOf w) = w := by
 apply qiQ
 have e : ((fun n : Int => UInt8.ofNat n.toNat) ∘ fun b : UInt8 => (b.toNat : Int)) = id := funext fun b => by simp
 simp [strOf, strOfNums, bytesOf, e]
def qb7 (w : ByteArray) : List Int := bytesOf w ++ [10]
def qbN (zd : List (List Int)) : List Int := zd.flatMap fun b => (qaf b).1.flatMap qb7
theorem qp7 (w : ByteArray) : (qb7 w).length = w.size + 1 := by simp [qb7, qcE]
theorem qqg (W : List ByteArray) (h : ∀ w ∈ W, w.size ≤ 1100000) : (W.flatMap qb7).length ≤ W.length * 1100001 := by
 induction W with
 | nil => simp
 | cons w W ih =>
  have h1 := h w List.mem_cons_self
  have h2 := ih fun x hx => h x (List.mem_cons_of_mem _ hx)
  rw [List.flatMap_cons, List.length_append, qp7, List.length_cons]
  omega
theorem qgp {b : List Int} (hb : isB b) (hl : b.length ≤ 1000000) : (qaf b).1.length ≤ 256 ∧ ∀ w ∈ (qaf b).1, w.size ≤ 1100000 := by
 obtain ⟨ob, ol⟩ := qgc 1 3 hb
 have htell := @qh5 (zI b 1 3).2.2.2.2.2.2.2.2.2.2.2.1 _ ob (by omega)
 unfold qaf
 generalize zI b 1 3 = W at *
 have hh : (qiR W).size ≤ 1000 := by
  have hns := Z7 W.2.2.2.2.2.2.2.2.2.2.2.1
  have hms := (qfq W.1 W.2.1 W.2.2.1 W.2.2.2.1 W.2.2.2.2.1 W.2.2.2.2.2.1 W.2.2.2.2.2.2.1 W.2.2.2.2.2.2.2.1 W.2.2.2.2.2.2.2.2.1 W.2.2.2.2.2.2.2.2.2.1).2
  have g4 : qe9.size = 4 := rfl
  have g1 : qgf.size = 1 := rfl
  unfold qiR
  rw [Qv, Qv, Qv]
  omega
 have hbad : ∀ e, (qeE ++ qem e).size ≤ 1000 := fun e => by
  have h1 := (qlN.pure e).2
  have h2 : qeE.size = 4 := rfl
  rw [Qv]; omega
 have hbad2 : ∀ e, (qiM ++ qem e).size ≤ 1000 := fun e => by
  have h1 := (qlN.pure e).2
  have h2 : qiM.size = 6 := rfl
  rw [Qv]; omega
 have hun : qnV.size = 8 := rfl
 split
 ·refine ⟨by simp, fun w hw => ?_⟩
  simp only [List.mem_singleton] at hw
  rw [hw]; have := hbad W.2.2.2.2.2.2.2.2.2.2.2.2.2; omega
 ·split
  ·refine ⟨by simp, fun w hw => ?_⟩
   simp only [List.mem_cons, List.not_mem_nil, or_false] at hw
   rcases hw with hw | hw
   ·rw [hw]; omega
   ·rw [hw]; omega
  ·split
   ·refine ⟨by simp, fun w hw => ?_⟩
    simp only [List.mem_cons, List.not_mem_nil, or_false] at hw
    rcases hw with hw | hw
    ·rw [hw]; omega
    ·rw [hw]; have := hbad2 (qaC (QV W.2.2.2.2.2.2.2.2.2.2.2.1 W.2.2.2.2.2.2.2.2.2.2.2.2.1 [])); omega
   ·rename_i hm
    have ht := htell (Decidable.not_not.1 hm)
    refine ⟨by simp; exact ht.1, fun w hw => ?_⟩
    simp only [List.mem_cons, List.mem_map] at hw
    rcases hw with hw | ⟨r, hr, rfl⟩
    ·rw [hw]; omega
    ·have := (qqT (ht.2 r hr).1 (ht.2 r hr).2).2
     have h2 : qg2.size = 2 := rfl
     unfold qhq
     rw [Qv]; omega
theorem qmG (zd : List (List Int)) (h : ∀ b ∈ zd, isB b ∧ b.length ≤ 1000000) : (qbN zd).length ≤ zd.length * 281600256 := by
 induction zd with
 | nil => simp [qbN]
 | cons b zd ih =>
  obtain ⟨h1, h2⟩ := h b List.mem_cons_self
  obtain ⟨h3, h4⟩ := qgp h1 h2
  have h5 := qqg _ h4
  have h6 := ih fun x hx => h x (List.mem_cons_of_mem _ hx)
  have h7 : (qaf b).1.length * 1100001 ≤ 256 * 1100001 := Nat.mul_le_mul_right _ h3
  unfold qbN at *
  rw [List.flatMap_cons, List.length_append, List.length_cons]
  omega
theorem qrM (zd : List (List Int)) (A : Int → Int → List Int → Option ByteArray) (x5 x6 : Int) (W : List ByteArray) (h : ∀ w ∈ W, w.size ≤ 1100000) (hn : W.length ≤ 256) : ∀ (m k i : Nat) (acc : List Int), i + m = W.length → m < k → acc.length + m * 1100001 ≤ 1099511627776 →
  qV.l6 BIG zd A k x5 x6 (W.length : Int) (i : Int) acc W = A x5 (IntKind.wrap .i64 (x6 + 1)) (acc ++ (W.drop i).flatMap qb7) := by
 intro m
 induction m with
 | zero =>
  intro k i acc hi hk ha
  obtain ⟨k, rfl⟩ : ∃ k', k = k' + 1 := ⟨k - 1, by omega⟩
  rw [qV.l6]
  unfold qV.b6
  rw [if_neg (by simp; omega), List.drop_of_length_le (by omega)]
  simp
 | succ m ih =>
  intro k i acc hi hk ha
  obtain ⟨k, rfl⟩ : ∃ k', k = k' + 1 := ⟨k - 1, by omega⟩
  have hlt : i < W.length := by omega
  have hw := h _ (List.getElem_mem hlt)
  rw [qV.l6]
  unfold qV.b6
  simp only [veil_eq]
  rw [if_pos (by simp; omega), Qn, List.getElem?_eq_getElem hlt]
  dsimp only
  unfold zv.f zv.b zD.f zD.b
  rw [if_pos (by rw [qcE]; unfold lim; omega)]
  dsimp only
  rw [if_pos (by rw [List.length_append, qcE]; unfold lim; simp; omega), qX _ (by omega) (by omega), show ((i : Int) + 1) = ((i + 1 : Nat) : Int) from by omega]
  dsimp only
  rw [ih k (i + 1) _ (by omega) (by omega) (by simp [qcE]; omega), List.drop_eq_getElem_cons hlt, List.flatMap_cons]
  simp [qb7]
theorem qqJ (zd : List (List Int)) (h : ∀ b ∈ zd, isB b ∧ b.length ≤ 1000000) (hn : zd.length ≤ 1000) : ∀ (m k i : Nat), i + m = zd.length → m < k →
  qV.l3 BIG zd k (zd.length : Int) (i : Int) (qbN (zd.take i)) = some (strOf (qbN zd)) := by
 intro m
 induction m with
 | zero =>
  intro k i hi hk
  obtain ⟨k, rfl⟩ : ∃ k', k = k' + 1 := ⟨k - 1, by omega⟩
  rw [qV.l3]
  unfold qV.b3
  rw [if_neg (by simp; omega), List.take_of_length_le (by omega)]
 | succ m ih =>
  intro k i hi hk
  obtain ⟨k, rfl⟩ : ∃ k', k = k' + 1 := ⟨k - 1, by omega⟩
  have hlt : i < zd.length := by omega
  obtain ⟨h1, h2⟩ := h _ (List.getElem_mem hlt)
  obtain ⟨h3, h4⟩ := qgp h1 h2
  have h5 := qmG (zd.take i) fun x hx => h x (List.mem_of_mem_take hx)
  rw [List.length_take, Nat.min_eq_left (by omega)] at h5
  rw [qV.l3]
  unfold qV.b3
  simp only [veil_eq]
  rw [if_pos (by simp; omega), Qn, List.getElem?_eq_getElem hlt]
  dsimp only
  rw [qrG.pure _ h1 h2]
  dsimp only
  have h7 : (qaf zd[i]).1.length * 1100001 ≤ 256 * 1100001 := Nat.mul_le_mul_right _ h3
  rw [show (0 : Int) = ((0 : Nat) : Int) from rfl, qrM zd _ _ _ _ h4 h3 _ BIG 0 _ (Nat.zero_add _) (by rw [Zx]; omega) (by omega), List.drop_zero]
  have e : qbN (zd.take i) ++ (qaf zd[i]).1.flatMap qb7 = qbN (zd.take (i + 1)) := by
   unfold qbN
   rw [List.take_succ_eq_append_getElem hlt, List.flatMap_append, List.flatMap_cons, List.flatMap_nil, List.append_nil]
  rw [e, qX _ (by omega) (by omega), show ((i : Int) + 1) = ((i + 1 : Nat) : Int) from by omega]
  exact ih k (i + 1) (by omega) (by omega)
theorem qrt.pure (zd : List (List Int)) (h : ∀ b ∈ zd, isB b ∧ b.length ≤ 1000000) (hn : zd.length ≤ 1000) : qV.f BIG zd = some (strOf (qbN zd)) := by
 unfold qV.f qV.b
 have := qqJ zd h hn zd.length BIG 0 (Nat.zero_add _) (by rw [Zx]; omega)
 rw [List.take_zero] at this
 exact this
theorem qnL {gen k f i lo hi s t l e : Int} {qc : LR} {w : List Int} (h1 : 1 ≤ gen) (h3 : gen ≤ 3) (hb : isB w) (hl : w.length ≤ 65499) (hg : qdB k = true → gen = 1) (hp : QW gen w = (k, f, i, lo, hi, s, t, l, e, 0, [], 0)) (hr : QV gen w [] = (k, f, i, lo, hi, s, t, l, e, 0, qc, 0)) :
  (qaf (qbF gen w)).1 = (((qe9 ++ ZG gen) ++ qgf) ++ qfS k f i lo hi s t l e 0) :: qc.map qhq := by
 have hh : qiq 1 3 gen = true := by
  unfold qiq
  rw [show okS 1 3 = true from by kernel_rfl, decide_eq_true h1, decide_eq_true h3]
  rfl
 have ho := qo6 1 3 h1 h3 hb hl hg hp
 rw [if_pos (.inl hh)] at ho
 unfold qaf qiR
 rw [ho]
 dsimp only
 rw [hr]
 rw [if_neg (by simp), if_neg (by simp), if_neg (show ¬ qaC _ ≠ 0 from fun h => h rfl)]
 rfl
def w5 : List Int := (Qb 1 1 5 0 1 3 7 0 0 0 0 [] []).1
theorem qlQ.pure : QU.f BIG () = some true := by
 have n0 : q9 ([] : LR) = true := rfl
 have hs := QT.pure 1 1 5 0 1 3 7 0 0 0 0 [] [] n0 n0 (by simp) qpq
 have hw : (Qb 1 1 5 0 1 3 7 0 0 0 0 [] []).2 = 0 := by kernel_rfl
 have h0 : (qg6 1 1 5 0 1 3 7 0 0 0 0 [] []).2 = 0 := by
  unfold qg6
  rw [if_neg (by simp), if_neg (by simp [hw])]
  have hl := (qi2 (gen := 1) (k := 1) (f := 5) (i := 0) (lo := 1) (hi := 3) (s := 7) (t := 0) (l := 0) (e := 0) (b := 0) (qc := []) (qb := []) (fun h => by cases h) qpq).2
  unfold qkc
  rw [if_neg (by decide), if_neg (by omega)]
 obtain ⟨w, hsw, h1, h3, hb, hl, hg, hrd, hpk, hv⟩ := qqO qpq h0
 have hsb := qg5 h1 h3 hb hl
 have hsl := qmM 1 w
 have hlx := qnL h1 h3 hb hl hg hpk hrd
 have hbE : isB ([] : List Int) := qaB
 unfold QU.f QU.b
 simp only [veil_eq]
 rw [hs, hsw]
 dsimp only
 rw [qrt.pure [qbF 1 w] (fun b hb' => by rw [List.mem_singleton.1 hb']; exact ⟨hsb, by omega⟩) (by simp), qrt.pure [[]] (fun b hb' => by rw [List.mem_singleton.1 hb']; exact ⟨hbE, by simp⟩) (by simp)]
 dsimp only
 have t1 : qbN [qbF 1 w] = qb7 (((qe9 ++ ZG 1) ++ qgf) ++ qfS 1 5 0 1 3 7 0 0 0 0) := by
  unfold qbN
  rw [List.flatMap_cons, List.flatMap_nil, List.append_nil, hlx]
  simp
 have t2 : qbN [[]] = qb7 (qeE ++ qem 2) := by
  have e : zS [] = (0, [], 2) := by unfold zS; rw [if_neg (by simp), if_pos (by simp)]
  have e2 : (zS []).2.2 ≠ 0 := by rw [e]; decide
  unfold qbN
  rw [List.flatMap_cons, List.flatMap_nil, List.append_nil]
  have : (qaf []).1 = [qeE ++ qem 2] := by
   unfold qaf
   rw [qp4 1 3 e2, e]
   rfl
  rw [this]
  simp
 rw [t1, t2, qbk, qbk, qbk, qbk]
 rw [if_pos (by rfl), if_pos (by kernel_rfl)]
 exact congrArg some (by kernel_rfl)
theorem qr1 (l : List (List Int)) (A : ByteArray → Int → Option Bool) (x : ByteArray) (y : Int) (F : List Int) (hF : F.length ≤ 1000) : ∀ (m n i : Nat), i + m = F.length → m < n →
  qp.l21 BIG l A n x y (i : Int) F F = A x (IntKind.wrap .i64 (y + 1)) := by
 intro m
 induction m with
 | zero =>
  intro n i hi hn
  obtain ⟨n, rfl⟩ : ∃ n', n = n' + 1 := ⟨n - 1, by omega⟩
  rw [qp.l21]
  unfold qp.b21
  rw [if_neg (by simp; omega)]
 | succ m ih =>
  intro n i hi hn
  obtain ⟨n, rfl⟩ : ∃ n', n = n' + 1 := ⟨n - 1, by omega⟩
  have hlt : i < F.length := by omega
  rw [qp.l21]
  unfold qp.b21
  rw [if_pos (by simp; omega), Qn, List.getElem?_eq_getElem hlt]
  dsimp only
  rw [if_neg (by simp), qX _ (by omega) (by omega), show ((i : Int) + 1) = ((i + 1 : Nat) : Int) from by omega]
  exact ih n (i + 1) (by omega) (by omega)
abbrev wNl : ByteArray := ⟨((10 :: ([] : List UInt8))).toArray⟩
theorem qp6 (w : ByteArray) : strOf (qb7 w) = w ++ wNl := by
 unfold qb7
 rw [← qh7, qny]
 congr 1
theorem qrk (l : List (List Int)) (A : ByteArray → Int → Option Bool) (y : Int) (W : List ByteArray) (F : List Int) (hW : W.length ≤ 256) (hs : ∀ w ∈ W, w.size ≤ 1100000) (hF : F.length ≤ 1000) : ∀ (m n i : Nat) (acc : ByteArray), i + m = W.length → m < n → acc.size + m * 1100001 ≤ 1099511627776 →
  qp.l15 BIG l A n acc y (i : Int) W F W F = A (acc ++ strOf ((W.drop i).flatMap qb7)) (IntKind.wrap .i64 (y + 1)) := by
 intro m
 induction m with
 | zero =>
  intro n i acc hi hn ha
  obtain ⟨n, rfl⟩ : ∃ n', n = n' + 1 := ⟨n - 1, by omega⟩
  rw [qp.l15]
  unfold qp.b15
  rw [if_neg (by simp; omega), List.drop_of_length_le (by omega), show (0 : Int) = ((0 : Nat) : Int) from rfl, qr1 l A _ _ F hF F.length BIG 0 (Nat.zero_add _) (by rw [Zx]; omega)]
  have e : acc ++ strOf (List.flatMap qb7 []) = acc := by apply qiQ; simp [strOf, strOfNums]
  rw [e]
 | succ m ih =>
  intro n i acc hi hn ha
  obtain ⟨n, rfl⟩ : ∃ n', n = n' + 1 := ⟨n - 1, by omega⟩
  have hlt : i < W.length := by omega
  have hw := hs _ (List.getElem_mem hlt)
  have e1 : wNl.size = 1 := rfl
  rw [qp.l15]
  unfold qp.b15
  rw [if_pos (by simp; omega), Qn, List.getElem?_eq_getElem hlt]
  dsimp only
  rw [if_neg (by rw [beq_self_eq_true]; simp), if_pos (by omega), if_pos (show (acc ++ W[i]).size + wNl.size ≤ 1099511627776 by rw [Qv]; omega), qX _ (by omega) (by omega), show ((i : Int) + 1) = ((i + 1 : Nat) : Int) from by omega]
  rw [ih n (i + 1) _ (by omega) (by omega) (by rw [Qv, Qv]; show acc.size + W[i].size + wNl.size + _ ≤ _; omega), List.drop_eq_getElem_cons hlt, List.flatMap_cons, ← qh7, qp6]
  have e : ((acc ++ W[i]) ++ wNl) ++ strOf (List.flatMap qb7 (List.drop (i + 1) W)) = acc ++ ((W[i] ++ wNl) ++ strOf (List.flatMap qb7 (List.drop (i + 1) W))) := by apply qiQ; simp
  exact congrArg (fun q => A q _) e
theorem qqj (b : List Int) : (qaf b).2.length ≤ 3 := by
 unfold qaf
 split
 ·simp
 ·split
  ·simp
  ·split
   ·simp
   ·exact Nat.le_trans (List.length_filter_le _ _) (by simp)
end
end Go.Proofs.YtneiiplppcjjlaaGreatDoor
