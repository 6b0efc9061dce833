/- DissectLines, part 4: what the row leans on. -/
import Derived.Test.YtneiiplppcjjlaaGreatDoorZDissectLines3
set_option linter.unusedVariables false
set_option linter.unusedSimpArgs false
set_option maxRecDepth 100000
namespace Go.Proofs.YtneiiplppcjjlaaGreatDoor
open Go.Den
noncomputable section
def qE.b12 (bs : List Int) (at0 : Int) (bad q9 : Bool) (qi : Int) (qb : LR) (A12 : Int → Bool → Bool → (List Int) → Int → Bool → Int → Int → Int → Int → Bool → Int → Int → Int → Int → Int → Bool → LF → Option (Int × Int × Int × Int × Int × Bool × LF × Bool × (List Int) × Int × Bool)) (x19 : Int) (x20 : Bool) (x21 : Bool) (x22 : (List Int)) (x23 : Int) (x24 : Bool) (x25 : Int) (x26 : Int) (x27 : Int) (x28 : Int) (x29 : Bool) (x30 : Int) (x31 : Int) (x32 : Int) (x33 : Int) (x34 : Int) (x35 : Bool) (x36 : LF) : Option (Int × Int × Int × Int × Int × Bool × LF × Bool × (List Int) × Int × Bool) :=
 (match (veil (qI.f BIG x22 x23 x24 x21 (veil (562949953421310 : Int)))) with | none => none | some y37 => (match (veil (Q6.f BIG (IntKind.wrap .u64 y37.1))) with | none => none | some y38 => (if x29 then some (x25, (IntKind.wrap .i64 (x31 + y38)), x26, x27, x28, x29, ([] : LF), y37.2.1, y37.2.2.1, y37.2.2.2.1, y37.2.2.2.2) else (if ((bits BinOp.and .i64 x19 (16 : Int)) != (0 : Int)) then some (x25, (IntKind.wrap .i64 (x31 + y38)), x26, x27, x28, x29, x36, y37.2.1, y37.2.2.1, y37.2.2.2.1, y37.2.2.2.2) else (match (veil (qS.f BIG y37.2.2.1 y37.2.2.2.1 y37.2.2.2.2 y37.2.1)) with | none => none | some y39 => (if y39.1 then some (x25, (IntKind.wrap .i64 (x31 + y38)), x26, x27, x28, x29, y39.2.2.2.2, true, y39.2.1, y39.2.2.1, y39.2.2.2.1) else (if x20 then (if ((zx y39.2.2.2.2) && (zx x36)) then some (x25, (IntKind.wrap .i64 (x31 + y38)), x26, x27, x28, x29, y39.2.2.2.2, ((ZP y39.2.2.2.2 x36) == (0 : Int)), y39.2.1, y39.2.2.1, y39.2.2.2.1) else none) else some (x25, (IntKind.wrap .i64 (x31 + y38)), x26, x27, x28, x29, y39.2.2.2.2, false, y39.2.1, y39.2.2.1, y39.2.2.2.1))))))))
def qE.l12 (qa : Nat) (bs : List Int) (at0 : Int) (bad q9 : Bool) (qi : Int) (qb : LR) : Nat → Int → Bool → Bool → (List Int) → Int → Bool → Int → Int → Int → Int → Bool → Int → Int → Int → Int → Int → Bool → LF → Option (Int × Int × Int × Int × Int × Bool × LF × Bool × (List Int) × Int × Bool)
 | 0, _, _, _, _, _, _, _, _, _, _, _, _, _, _, _, _, _, _ => none
 | k + 1, x19, x20, x21, x22, x23, x24, x25, x26, x27, x28, x29, x30, x31, x32, x33, x34, x35, x36 => qE.b12 bs at0 bad q9 qi qb (qE.l12 qa bs at0 bad q9 qi qb k) x19 x20 x21 x22 x23 x24 x25 x26 x27 x28 x29 x30 x31 x32 x33 x34 x35 x36
def qE.s8 (bs : List Int) (at0 : Int) (bad q9 : Bool) (qi : Int) (qb : LR) (x3 : Int) (x4 x5 : Bool) (x6 : (List Int)) (x7 : Int) (x8 : Bool) (x9 x10 : Int) (x11 : Bool) (x12 x13 x14 x15 x16 : Int) (x17 : Bool) (x18 : LF) : St := ⟨[.ptr 0 0, dD, dD, dD, dD, dD, .ptr 64 0, .ptr 65 0, .d tQi x3, .ptr 66 0, .d .bool x4, dD, dD, dD, dD, dD, dD, dD, dD, dD, dD, dD, dD, dD, dD, dD, dD, dD, dD, dD, dD, dD, dD, dD, dD, dD, dD, dD, dD, dD, dD, dD, dD, dD, dD, dD, dD, dD, dD, dD, dD, dD, dD, dD, dD, dD, dD, dD, dD, dD, dD, dD, dD, dD, dD, dD, dD, dD, dD, dD, dD, dD, dD, dD, dD, dD, dD, dD, dD, dD, dD, dD, dD, dD, dD, dD, dD, dD, dD, dD, dD, dD, dD, dD, dD, dD, dD, dD, dD, dD, dD, dD, dD, dD, dD, dD, dD, dD, dD, dD, dD, dD, dD, dD, dD, dD, dD, dD, dD, dD, dD, dD, .dead], ofL [(0, .box [.ptr 1 0, .d .bool x5]), (1, .box [.d (.sl (.int .u8)) x6, .d tQi x7, .d .bool x8]), (64, .box [.d tQi (0), .d tQi (0), .d tQi (0), .d tQi (0), .d tQi (0), .d .bool (false), .nilsl]), (65, .box [.d tQi x9, .d tQi (0), .d tQi x10, .d tQi (0), .d tQi (0), .d .bool x11, .nilsl]), (66, .box [.d tQi x12, .d tQi x13, .d tQi x14, .d tQi x15, .d tQi x16, .d .bool x17, .d (.sl (.pair tQi (.sl (.int .u8)))) x18])], 2⟩
def qE.p8 (qa : Nat) (bs : List Int) (at0 : Int) (bad q9 : Bool) (qi : Int) (qb : LR) (k : Nat) := fun x3 x4 x5 x6 x7 x8 x9 x10 x11 x12 x13 x14 x15 x16 x17 x18 => lp qb8 qa Tryz.f99 [.dat tQr true] 2 qE.k 8 [] k (qE.s8 bs at0 bad q9 qi qb x3 x4 x5 x6 x7 x8 x9 x10 x11 x12 x13 x14 x15 x16 x17 x18)
def qE.b8 (bs : List Int) (at0 : Int) (bad q9 : Bool) (qi : Int) (qb : LR) (A8 : Int → Bool → Bool → (List Int) → Int → Bool → Int → Int → Bool → Int → Int → Int → Int → Int → Bool → LF → Option (Int × Int × Int × Int × Int × Bool × LF × Bool × (List Int) × Int × Bool)) (E12 : Int → Bool → Bool → (List Int) → Int → Bool → Int → Int → Int → Int → Bool → Int → Int → Int → Int → Int → Bool → LF → Option (Int × Int × Int × Int × Int × Bool × LF × Bool × (List Int) × Int × Bool)) (x3 : Int) (x4 : Bool) (x5 : Bool) (x6 : (List Int)) (x7 : Int) (x8 : Bool) (x9 : Int) (x10 : Int) (x11 : Bool) (x12 : Int) (x13 : Int) (x14 : Int) (x15 : Int) (x16 : Int) (x17 : Bool) (x18 : LF) : Option (Int × Int × Int × Int × Int × Bool × LF × Bool × (List Int) × Int × Bool) :=
 (if ((bits BinOp.and .i64 x3 (8 : Int)) != (0 : Int)) then E12 x3 x4 x5 x6 x7 x8 x9 x10 x15 x16 x11 x12 x13 x14 x15 x16 x17 x18 else (match (veil (zp.f BIG x6 x7 x8 x5)) with | none => none | some y40 => (if y40.2.2.1 then E12 x3 x4 true y40.2.2.2.1 y40.2.2.2.2.1 y40.2.2.2.2.2 x9 x10 y40.1 y40.2.1 x11 x12 x13 x14 x15 x16 x17 x18 else (if x4 then E12 x3 x4 (if (y40.1 == x15) then (if (y40.2.1 == x16) then true else false) else false) y40.2.2.2.1 y40.2.2.2.2.1 y40.2.2.2.2.2 x9 x10 y40.1 y40.2.1 x11 x12 x13 x14 x15 x16 x17 x18 else E12 x3 x4 false y40.2.2.2.1 y40.2.2.2.2.1 y40.2.2.2.2.2 x9 x10 y40.1 y40.2.1 x11 x12 x13 x14 x15 x16 x17 x18))))
def qE.l8 (qa : Nat) (bs : List Int) (at0 : Int) (bad q9 : Bool) (qi : Int) (qb : LR) : Nat → Int → Bool → Bool → (List Int) → Int → Bool → Int → Int → Bool → Int → Int → Int → Int → Int → Bool → LF → Option (Int × Int × Int × Int × Int × Bool × LF × Bool × (List Int) × Int × Bool)
 | 0, _, _, _, _, _, _, _, _, _, _, _, _, _, _, _, _ => none
 | k + 1, x3, x4, x5, x6, x7, x8, x9, x10, x11, x12, x13, x14, x15, x16, x17, x18 => qE.b8 bs at0 bad q9 qi qb (qE.l8 qa bs at0 bad q9 qi qb k) (qE.l12 qa bs at0 bad q9 qi qb qa) x3 x4 x5 x6 x7 x8 x9 x10 x11 x12 x13 x14 x15 x16 x17 x18
def qE.b (bs : List Int) (at0 : Int) (bad q9 : Bool) (qi : Int) (qb : LR) (E8 : Int → Bool → Bool → (List Int) → Int → Bool → Int → Int → Bool → Int → Int → Int → Int → Int → Bool → LF → Option (Int × Int × Int × Int × Int × Bool × LF × Bool × (List Int) × Int × Bool)) : Option (Int × Int × Int × Int × Int × Bool × LF × Bool × (List Int) × Int × Bool) :=
 (match (veil (qI.f BIG bs at0 bad q9 (4095 : Int))) with | none => none | some y0 => (if (zt y0.2.2.1 y0.2.2.2.1) then (match (veil (Option.some (qz y0.2.2.1 (1 : Int) y0.2.2.2.1 y0.2.2.2.2))) with | none => none | some y1 => (match (veil (qal.f BIG qb (IntKind.wrap .i64 ((IntKind.wrap .i64 (qi + (1 : Int))) + y0.1)))) with | none => none | some y2 => (if (decide (y1.1 ≥ (32 : Int))) then some ((IntKind.wrap .i64 ((IntKind.wrap .i64 (qi + (1 : Int))) + y0.1)), 0, (bits BinOp.and .i64 y1.1 (3 : Int)), 0, 0, ((bits BinOp.and .i64 y1.1 (4 : Int)) != (0 : Int)), ([] : LF), true, y0.2.2.1, y1.2.1, y1.2.2) else (if (!y2.2.2.2.2.2.2.2) then (if (decide (y1.1 ≥ (8 : Int))) then some ((IntKind.wrap .i64 ((IntKind.wrap .i64 (qi + (1 : Int))) + y0.1)), 0, (bits BinOp.and .i64 y1.1 (3 : Int)), 0, 0, ((bits BinOp.and .i64 y1.1 (4 : Int)) != (0 : Int)), ([] : LF), true, y0.2.2.1, y1.2.1, y1.2.2) else (if ((bits BinOp.and .i64 y1.1 (4 : Int)) != (0 : Int)) then (if (decide (y1.1 ≥ (16 : Int))) then some ((IntKind.wrap .i64 ((IntKind.wrap .i64 (qi + (1 : Int))) + y0.1)), 0, (bits BinOp.and .i64 y1.1 (3 : Int)), 0, 0, ((bits BinOp.and .i64 y1.1 (4 : Int)) != (0 : Int)), ([] : LF), true, y0.2.2.1, y1.2.1, y1.2.2) else E8 y1.1 y2.2.2.2.2.2.2.2 y0.2.1 y0.2.2.1 y1.2.1 y1.2.2 (IntKind.wrap .i64 ((IntKind.wrap .i64 (qi + (1 : Int))) + y0.1)) (bits BinOp.and .i64 y1.1 (3 : Int)) ((bits BinOp.and .i64 y1.1 (4 : Int)) != (0 : Int)) y2.1 y2.2.1 y2.2.2.1 y2.2.2.2.1 y2.2.2.2.2.1 y2.2.2.2.2.2.1 y2.2.2.2.2.2.2.1) else E8 y1.1 y2.2.2.2.2.2.2.2 y0.2.1 y0.2.2.1 y1.2.1 y1.2.2 (IntKind.wrap .i64 ((IntKind.wrap .i64 (qi + (1 : Int))) + y0.1)) (bits BinOp.and .i64 y1.1 (3 : Int)) ((bits BinOp.and .i64 y1.1 (4 : Int)) != (0 : Int)) y2.1 y2.2.1 y2.2.2.1 y2.2.2.2.1 y2.2.2.2.2.1 y2.2.2.2.2.2.1 y2.2.2.2.2.2.2.1)) else (if ((bits BinOp.and .i64 y1.1 (4 : Int)) != (0 : Int)) then (if (decide (y1.1 ≥ (16 : Int))) then some ((IntKind.wrap .i64 ((IntKind.wrap .i64 (qi + (1 : Int))) + y0.1)), 0, (bits BinOp.and .i64 y1.1 (3 : Int)), 0, 0, ((bits BinOp.and .i64 y1.1 (4 : Int)) != (0 : Int)), ([] : LF), true, y0.2.2.1, y1.2.1, y1.2.2) else E8 y1.1 y2.2.2.2.2.2.2.2 y0.2.1 y0.2.2.1 y1.2.1 y1.2.2 (IntKind.wrap .i64 ((IntKind.wrap .i64 (qi + (1 : Int))) + y0.1)) (bits BinOp.and .i64 y1.1 (3 : Int)) ((bits BinOp.and .i64 y1.1 (4 : Int)) != (0 : Int)) y2.1 y2.2.1 y2.2.2.1 y2.2.2.2.1 y2.2.2.2.2.1 y2.2.2.2.2.2.1 y2.2.2.2.2.2.2.1) else E8 y1.1 y2.2.2.2.2.2.2.2 y0.2.1 y0.2.2.1 y1.2.1 y1.2.2 (IntKind.wrap .i64 ((IntKind.wrap .i64 (qi + (1 : Int))) + y0.1)) (bits BinOp.and .i64 y1.1 (3 : Int)) ((bits BinOp.and .i64 y1.1 (4 : Int)) != (0 : Int)) y2.1 y2.2.1 y2.2.2.1 y2.2.2.2.1 y2.2.2.2.2.1 y2.2.2.2.2.2.1 y2.2.2.2.2.2.2.1))))) else none))
def qE.f (qa : Nat) (bs : List Int) (at0 : Int) (bad q9 : Bool) (qi : Int) (qb : LR) : Option (Int × Int × Int × Int × Int × Bool × LF × Bool × (List Int) × Int × Bool) := qE.b bs at0 bad q9 qi qb (qE.l8 qa bs at0 bad q9 qi qb qa)
theorem qE.l12_eq (qa : Nat) (bs : List Int) (at0 : Int) (bad q9 : Bool) (qi : Int) (qb : LR) : ∀ k : Nat, qE.p12 qa bs at0 bad q9 qi qb k = qE.l12 qa bs at0 bad q9 qi qb k
 | 0 => by kernel_rfl
 | k + 1 => by
  refine Eq.trans (b := qE.b12 bs at0 bad q9 qi qb (qE.p12 qa bs at0 bad q9 qi qb k)) (by kernel_rfl) ?_
  rw [qE.l12_eq qa bs at0 bad q9 qi qb k]
  kernel_rfl
theorem qE.l8_eq (qa : Nat) (bs : List Int) (at0 : Int) (bad q9 : Bool) (qi : Int) (qb : LR) : ∀ k : Nat, qE.p8 qa bs at0 bad q9 qi qb k = qE.l8 qa bs at0 bad q9 qi qb k
 | 0 => by kernel_rfl
 | k + 1 => by
  refine Eq.trans (b := qE.b8 bs at0 bad q9 qi qb (qE.p8 qa bs at0 bad q9 qi qb k) (qE.p12 qa bs at0 bad q9 qi qb qa)) (by kernel_rfl) ?_
  rw [qE.l8_eq qa bs at0 bad q9 qi qb k, qE.l12_eq qa bs at0 bad q9 qi qb qa]
  kernel_rfl
theorem qE.eq (qa : Nat) (bs : List Int) (at0 : Int) (bad q9 : Bool) (qi : Int) (qb : LR) : (denF qb8 loopN qa Tryz.f99 [.dat tQr true] [.ptr 0 0, .d tQi qi, .d (.sl tQr) qb] [.box [.ptr 1 0, .d .bool q9], .box [.d (.sl (.int .u8)) bs, .d tQi at0, .d .bool bad]] qE.k) = qE.f qa bs at0 bad q9 qi qb := by
 refine Eq.trans (b := qE.b bs at0 bad q9 qi qb (qE.p8 qa bs at0 bad q9 qi qb qa)) (by kernel_rfl) ?_
 rw [qE.l8_eq qa bs at0 bad q9 qi qb qa]
 kernel_rfl
theorem qE.l12_at (qa nN kK : Nat) (hN : nN = kK + 1) (bs : List Int) (at0 : Int) (bad : Bool) (q9 : Bool) (qi : Int) (qb : LR) (x19 : Int) (x20 : Bool) (x21 : Bool) (x22 : (List Int)) (x23 : Int) (x24 : Bool) (x25 : Int) (x26 : Int) (x27 : Int) (x28 : Int) (x29 : Bool) (x30 : Int) (x31 : Int) (x32 : Int) (x33 : Int) (x34 : Int) (x35 : Bool) (x36 : LF) : qE.l12 qa bs at0 bad q9 qi qb nN x19 x20 x21 x22 x23 x24 x25 x26 x27 x28 x29 x30 x31 x32 x33 x34 x35 x36 = qE.b12 bs at0 bad q9 qi qb (qE.l12 qa bs at0 bad q9 qi qb kK) x19 x20 x21 x22 x23 x24 x25 x26 x27 x28 x29 x30 x31 x32 x33 x34 x35 x36 := by
 subst hN
 rfl
theorem qE.l8_at (qa nN kK : Nat) (hN : nN = kK + 1) (bs : List Int) (at0 : Int) (bad : Bool) (q9 : Bool) (qi : Int) (qb : LR) (x3 : Int) (x4 : Bool) (x5 : Bool) (x6 : (List Int)) (x7 : Int) (x8 : Bool) (x9 : Int) (x10 : Int) (x11 : Bool) (x12 : Int) (x13 : Int) (x14 : Int) (x15 : Int) (x16 : Int) (x17 : Bool) (x18 : LF) : qE.l8 qa bs at0 bad q9 qi qb nN x3 x4 x5 x6 x7 x8 x9 x10 x11 x12 x13 x14 x15 x16 x17 x18 = qE.b8 bs at0 bad q9 qi qb (qE.l8 qa bs at0 bad q9 qi qb kK) (qE.l12 qa bs at0 bad q9 qi qb qa) x3 x4 x5 x6 x7 x8 x9 x10 x11 x12 x13 x14 x15 x16 x17 x18 := by
 subst hN
 rfl
def Z3 : Den.Sum := ⟨[.pb [.frz none [0] 0 (.int .u8)], .raw, .dat (.sl tQr) false], fun qK qm κ => match qK, qm with
 | [.ptr 0 0, .d (.int .i64) qi, .d (.sl (.pair (.int .i64) (.pair (.int .i64) (.pair (.int .i64) (.pair (.pair (.int .i64) (.int .i64)) (.pair .bool (.sl (.pair (.int .i64) (.sl (.int .u8)))))))))) qb], [.box [.ptr 1 0, .d .bool q9], .box [.d (.sl (.int .u8)) bs, .d (.int .i64) at0, .d .bool bad]] => (match veil (qE.f BIG bs at0 bad q9 qi qb) with | none => none | some y => κ [.agg [.d (.int .i64) y.1, .d (.int .i64) y.2.1, .d (.int .i64) y.2.2.1, .d (.int .i64) y.2.2.2.1, .d (.int .i64) y.2.2.2.2.1, .d .bool y.2.2.2.2.2.1, .d (.sl (.pair (.int .i64) (.sl (.int .u8)))) y.2.2.2.2.2.2.1]] [.box [.ptr 1 0, .d .bool y.2.2.2.2.2.2.2.1], .box [.d (.sl (.int .u8)) y.2.2.2.2.2.2.2.2.1, .d (.int .i64) y.2.2.2.2.2.2.2.2.2.1, .d .bool y.2.2.2.2.2.2.2.2.2.2]])
 | _, _ => none⟩
theorem qgV : SumDet Z3 := zj fun _ _ _ _ => by
 unfold Z3
 simp only [veil_eq]
 split
 ·split <;> rfl
 ·rfl
theorem qhh : SumOk Tryz.prog 99 Z3 := by
 have hE : EnvOk Tryz.prog qb8 := env_ok (l := [(98, zQ), (122, qbd), (75, qdi), (52, Zf), (107, Qx), (123, qbt), (124, Zg)]) th_ok qZ ⟨⟨qap, qae⟩, ⟨qhR, qgO⟩, ⟨qkG, qjm⟩, ⟨qbc, qaK⟩, ⟨qcd, qb1⟩, ⟨qkl, qjE⟩, ⟨qf3, qfN⟩, trivial⟩ _
 refine sum_ok hE Tryz.func99 rfl (by kernel_rfl) Z3 [.dat tQr true] qE.k ?_
 intro R avs qm κ r h
 unfold Z3 at h
 simp only [veil_eq] at h
 split at h
 ·rename_i qi qb q9 bs at0 bad
  split at h
  ·cases h
  ·rename_i y hy
   refine ⟨BIG, _, _, _, (qE.eq BIG bs at0 bad q9 qi qb).trans hy, ?_, h⟩
   intro rs ros hk
   unfold qE.k at hk
   split at hk
   ·rw [← sj hk]; exact ⟨rfl, rfl⟩
   ·cases hk
 ·cases h
def qfg : Env := ⟨th, gam [(76, QJ), (96, qaE), (41, qah), (51, qaR), (74, ZE), (98, zQ), (99, Z3), (86, qcY)], fun i => if i = 11 then ⟨[0, 1, 4, 6, 7, 8, 9, 10], [(1458, 54, tQr), (1, 53, tQr)], [1]⟩ else ⟨[], [], []⟩⟩
def zi.k (rs : List AV) (os : List Den.Obj) : Option (Int × Int × Int × Int × Int × Int × Int × Int × Int × Int × LR × Int) :=
 match rs, os with
 | [.agg [.d (.int .i64) r0, .d (.int .i64) r1, .d (.int .i64) r2, .d (.int .i64) r3, .d (.int .i64) r4, .d (.int .i64) r5, .d (.int .i64) r6, .d (.int .i64) r7, .d (.int .i64) r8, .d (.int .i64) r9, .d (.sl (.pair (.int .i64) (.pair (.int .i64) (.pair (.int .i64) (.pair (.pair (.int .i64) (.int .i64)) (.pair .bool (.sl (.pair (.int .i64) (.sl (.int .u8)))))))))) r10], .d (.int .i64) r11], [] => some (r0, r1, r2, r3, r4, r5, r6, r7, r8, r9, r10, r11)
 | _, _ => none
def zi.s11 (b : List Int) (qb x2 : LR) (x3 x4 x5 : Int) (x6 : Bool) (x7 : (List Int)) (x8 : Int) (x9 : Bool) (x10 x11 x12 x13 x14 x15 x16 x17 x18 x19 : Int) (x20 : LR) : St := ⟨[.d (.sl (.int .u8)) (b), .d (.sl tQr) x2, .dead, .dead, .ptr 64 0, .dead, .ptr 65 0, .ptr 67 0, .d tQi x3, .d tQi x4, .d tQi x5, dD, dD, dD, dD, dD, dD, dD, dD, dD, dD, dD, dD, dD, dD, dD, dD, dD, dD, dD, dD, dD, dD, dD, dD, dD, dD, dD, dD, dD, dD, dD, dD, dD, dD, dD, dD, dD, dD, dD, dD, dD, dD, dD, dD, dD, dD, dD, dD, dD, dD, dD, dD, dD, dD, dD, dD, dD, dD, dD, dD, dD, dD, dD, dD, dD, dD, .dead], ofL [(64, .box [.d tQi (0), .d tQi (0), .d tQi (0), .d tQi (0), .d tQi (0), .d tQi (0), .d tQi (0), .d tQi (0), .d tQi (0), .d tQi (0), .nilsl]), (65, .box [.ptr 66 0, .d .bool x6]), (66, .box [.d (.sl (.int .u8)) x7, .d tQi x8, .d .bool x9]), (67, .box [.d tQi x10, .d tQi x11, .d tQi x12, .d tQi x13, .d tQi x14, .d tQi x15, .d tQi x16, .d tQi x17, .d tQi x18, .d tQi x19, .row 68]), (68, .row 54 tQr x20 false)], 0⟩
def zi.p11 (qa : Nat) (b : List Int) (qb : LR) (k : Nat) := fun x2 x3 x4 x5 x6 x7 x8 x9 x10 x11 x12 x13 x14 x15 x16 x17 x18 x19 x20 => lp qfg qa Tryz.f65 [.dat (.pair tQi (.pair tQi (.pair tQi (.pair (.pair tQi tQi) (.pair tQi (.pair tQi (.pair tQi (.pair tQi (.pair tQi (.sl tQr)))))))))) true, .raw] 0 zi.k 11 [] k (zi.s11 b qb x2 x3 x4 x5 x6 x7 x8 x9 x10 x11 x12 x13 x14 x15 x16 x17 x18 x19 x20)
def zi.b11 (b : List Int) (qb : LR) (A11 : LR → Int → Int → Int → Bool → (List Int) → Int → Bool → Int → Int → Int → Int → Int → Int → Int → Int → Int → Int → LR → Option (Int × Int × Int × Int × Int × Int × Int × Int × Int × Int × LR × Int)) (x2 : LR) (x3 : Int) (x4 : Int) (x5 : Int) (x6 : Bool) (x7 : (List Int)) (x8 : Int) (x9 : Bool) (x10 : Int) (x11 : Int) (x12 : Int) (x13 : Int) (x14 : Int) (x15 : Int) (x16 : Int) (x17 : Int) (x18 : Int) (x19 : Int) (x20 : LR) : Option (Int × Int × Int × Int × Int × Int × Int × Int × Int × Int × LR × Int) :=
 (if (decide (x5 < x3)) then (if (!x6) then (match (veil (qE.f BIG x7 x8 x9 x6 x4 x2)) with | none => none | some y21 => (if ((((List.length x20) + (List.length ((y21.1, (y21.2.1, (y21.2.2.1, ((y21.2.2.2.1, y21.2.2.2.2.1), (y21.2.2.2.2.2.1, y21.2.2.2.2.2.2.1))))) :: ([] : LR)))) * (72 : Nat)) ≤ lim) then A11 x2 x3 y21.1 (IntKind.wrap .i64 (x5 + (1 : Int))) y21.2.2.2.2.2.2.2.1 y21.2.2.2.2.2.2.2.2.1 y21.2.2.2.2.2.2.2.2.2.1 y21.2.2.2.2.2.2.2.2.2.2 x10 x11 x12 x13 x14 x15 x16 x17 x18 x19 (x20 ++ ((y21.1, (y21.2.1, (y21.2.2.1, ((y21.2.2.2.1, y21.2.2.2.2.1), (y21.2.2.2.2.2.1, y21.2.2.2.2.2.2.1))))) :: ([] : LR))) else none)) else (if x6 then some (0, 0, 0, 0, 0, 0, 0, 0, 0, 0, ([] : LR), (4 : Int)) else (if (zt x7 x8) then (if (!((!x9) && ((ZZ x7 x8 x9) == (0 : Int)))) then some (0, 0, 0, 0, 0, 0, 0, 0, 0, 0, ([] : LR), (4 : Int)) else (if (decide (((((List.length b)) : Nat) : Int) > (65499 : Int))) then some (0, 0, 0, 0, 0, 0, 0, 0, 0, 0, ([] : LR), (4 : Int)) else (if (q0 x20) then (if (!(zb x10 x11 x12 x13 x14 x15 x16 x17 x18 x19 x20)) then some (0, 0, 0, 0, 0, 0, 0, 0, 0, 0, ([] : LR), (4 : Int)) else some (x10, x11, x12, x13, x14, x15, x16, x17, x18, x19, x20, (0 : Int))) else none))) else none))) else (if x6 then some (0, 0, 0, 0, 0, 0, 0, 0, 0, 0, ([] : LR), (4 : Int)) else (if (zt x7 x8) then (if (!((!x9) && ((ZZ x7 x8 x9) == (0 : Int)))) then some (0, 0, 0, 0, 0, 0, 0, 0, 0, 0, ([] : LR), (4 : Int)) else (if (decide (((((List.length b)) : Nat) : Int) > (65499 : Int))) then some (0, 0, 0, 0, 0, 0, 0, 0, 0, 0, ([] : LR), (4 : Int)) else (if (q0 x20) then (if (!(zb x10 x11 x12 x13 x14 x15 x16 x17 x18 x19 x20)) then some (0, 0, 0, 0, 0, 0, 0, 0, 0, 0, ([] : LR), (4 : Int)) else some (x10, x11, x12, x13, x14, x15, x16, x17, x18, x19, x20, (0 : Int))) else none))) else none)))
def zi.l11 (qa : Nat) (b : List Int) (qb : LR) : Nat → LR → Int → Int → Int → Bool → (List Int) → Int → Bool → Int → Int → Int → Int → Int → Int → Int → Int → Int → Int → LR → Option (Int × Int × Int × Int × Int × Int × Int × Int × Int × Int × LR × Int)
 | 0, _, _, _, _, _, _, _, _, _, _, _, _, _, _, _, _, _, _, _ => none
 | k + 1, x2, x3, x4, x5, x6, x7, x8, x9, x10, x11, x12, x13, x14, x15, x16, x17, x18, x19, x20 => zi.b11 b qb (zi.l11 qa b qb k) x2 x3 x4 x5 x6 x7 x8 x9 x10 x11 x12 x13 x14 x15 x16 x17 x18 x19 x20
def zi.b (b : List Int) (qb : LR) (E11 : LR → Int → Int → Int → Bool → (List Int) → Int → Bool → Int → Int → Int → Int → Int → Int → Int → Int → Int → Int → LR → Option (Int × Int × Int × Int × Int × Int × Int × Int × Int × Int × LR × Int)) : Option (Int × Int × Int × Int × Int × Int × Int × Int × Int × Int × LR × Int) :=
 (if (q0 qb) then (if (!(Qo qb)) then some (0, 0, 0, 0, 0, 0, 0, 0, 0, 0, ([] : LR), (1 : Int)) else (if (inB b) then (match (veil (zO.f BIG b 0 false false)) with | none => none | some y0 => (if (y0.2.2.2.2.2.2.2.2.2.1 == (0 : Int)) then (if (qy y0.1 (4 : Int)) then (match (veil (qI.f BIG y0.2.2.2.2.2.2.2.2.2.2.2.1 y0.2.2.2.2.2.2.2.2.2.2.2.2.1 y0.2.2.2.2.2.2.2.2.2.2.2.2.2 y0.2.2.2.2.2.2.2.2.2.2.1 (255 : Int))) with | none => none | some y1 => E11 ([] : LR) y1.1 (-(1 : Int)) (0 : Int) y1.2.1 y1.2.2.1 y1.2.2.2.1 y1.2.2.2.2 y0.1 y0.2.1 y0.2.2.1 y0.2.2.2.1 y0.2.2.2.2.1 y0.2.2.2.2.2.1 y0.2.2.2.2.2.2.1 y0.2.2.2.2.2.2.2.1 y0.2.2.2.2.2.2.2.2.1 y0.2.2.2.2.2.2.2.2.2.1 ([] : LR)) else (if y0.2.2.2.2.2.2.2.2.2.2.1 then some (0, 0, 0, 0, 0, 0, 0, 0, 0, 0, ([] : LR), (4 : Int)) else (if (zt y0.2.2.2.2.2.2.2.2.2.2.2.1 y0.2.2.2.2.2.2.2.2.2.2.2.2.1) then (if (!((!y0.2.2.2.2.2.2.2.2.2.2.2.2.2) && ((ZZ y0.2.2.2.2.2.2.2.2.2.2.2.1 y0.2.2.2.2.2.2.2.2.2.2.2.2.1 y0.2.2.2.2.2.2.2.2.2.2.2.2.2) == (0 : Int)))) then some (0, 0, 0, 0, 0, 0, 0, 0, 0, 0, ([] : LR), (4 : Int)) else (if (decide (((((List.length b)) : Nat) : Int) > (65499 : Int))) then some (0, 0, 0, 0, 0, 0, 0, 0, 0, 0, ([] : LR), (4 : Int)) else (if (!(zb y0.1 y0.2.1 y0.2.2.1 y0.2.2.2.1 y0.2.2.2.2.1 y0.2.2.2.2.2.1 y0.2.2.2.2.2.2.1 y0.2.2.2.2.2.2.2.1 y0.2.2.2.2.2.2.2.2.1 y0.2.2.2.2.2.2.2.2.2.1 ([] : LR))) then some (0, 0, 0, 0, 0, 0, 0, 0, 0, 0, ([] : LR), (4 : Int)) else some (y0.1, y0.2.1, y0.2.2.1, y0.2.2.2.1, y0.2.2.2.2.1, y0.2.2.2.2.2.1, y0.2.2.2.2.2.2.1, y0.2.2.2.2.2.2.2.1, y0.2.2.2.2.2.2.2.2.1, y0.2.2.2.2.2.2.2.2.2.1, ([] : LR), (0 : Int))))) else none))) else (if (qy y0.1 (4 : Int)) then (match (veil (qI.f BIG y0.2.2.2.2.2.2.2.2.2.2.2.1 y0.2.2.2.2.2.2.2.2.2.2.2.2.1 y0.2.2.2.2.2.2.2.2.2.2.2.2.2 y0.2.2.2.2.2.2.2.2.2.2.1 (255 : Int))) with | none => none | some y22 => E11 qb y22.1 (-(1 : Int)) (0 : Int) y22.2.1 y22.2.2.1 y22.2.2.2.1 y22.2.2.2.2 y0.1 y0.2.1 y0.2.2.1 y0.2.2.2.1 y0.2.2.2.2.1 y0.2.2.2.2.2.1 y0.2.2.2.2.2.2.1 y0.2.2.2.2.2.2.2.1 y0.2.2.2.2.2.2.2.2.1 y0.2.2.2.2.2.2.2.2.2.1 ([] : LR)) else (if y0.2.2.2.2.2.2.2.2.2.2.1 then some (0, 0, 0, 0, 0, 0, 0, 0, 0, 0, ([] : LR), (4 : Int)) else (if (zt y0.2.2.2.2.2.2.2.2.2.2.2.1 y0.2.2.2.2.2.2.2.2.2.2.2.2.1) then (if (!((!y0.2.2.2.2.2.2.2.2.2.2.2.2.2) && ((ZZ y0.2.2.2.2.2.2.2.2.2.2.2.1 y0.2.2.2.2.2.2.2.2.2.2.2.2.1 y0.2.2.2.2.2.2.2.2.2.2.2.2.2) == (0 : Int)))) then some (0, 0, 0, 0, 0, 0, 0, 0, 0, 0, ([] : LR), (4 : Int)) else (if (decide (((((List.length b)) : Nat) : Int) > (65499 : Int))) then some (0, 0, 0, 0, 0, 0, 0, 0, 0, 0, ([] : LR), (4 : Int)) else (if (!(zb y0.1 y0.2.1 y0.2.2.1 y0.2.2.2.1 y0.2.2.2.2.1 y0.2.2.2.2.2.1 y0.2.2.2.2.2.2.1 y0.2.2.2.2.2.2.2.1 y0.2.2.2.2.2.2.2.2.1 y0.2.2.2.2.2.2.2.2.2.1 ([] : LR))) then some (0, 0, 0, 0, 0, 0, 0, 0, 0, 0, ([] : LR), (4 : Int)) else some (y0.1, y0.2.1, y0.2.2.1, y0.2.2.2.1, y0.2.2.2.2.1, y0.2.2.2.2.2.1, y0.2.2.2.2.2.2.1, y0.2.2.2.2.2.2.2.1, y0.2.2.2.2.2.2.2.2.1, y0.2.2.2.2.2.2.2.2.2.1, ([] : LR), (0 : Int))))) else none))))) else none)) else none)
def zi.f (qa : Nat) (b : List Int) (qb : LR) : Option (Int × Int × Int × Int × Int × Int × Int × Int × Int × Int × LR × Int) := zi.b b qb (zi.l11 qa b qb qa)
theorem zi.l11_eq (qa : Nat) (b : List Int) (qb : LR) : ∀ k : Nat, zi.p11 qa b qb k = zi.l11 qa b qb k
 | 0 => by kernel_rfl
 | k + 1 => by
  refine Eq.trans (b := zi.b11 b qb (zi.p11 qa b qb k)) (by kernel_rfl) ?_
  rw [zi.l11_eq qa b qb k]
  kernel_rfl
theorem zi.eq (qa : Nat) (b : List Int) (qb : LR) : (denF qfg loopN qa Tryz.f65 [.dat (.pair tQi (.pair tQi (.pair tQi (.pair (.pair tQi tQi) (.pair tQi (.pair tQi (.pair tQi (.pair tQi (.pair tQi (.sl tQr)))))))))) true, .raw] [.d (.sl (.int .u8)) b, .d (.sl tQr) qb] [] zi.k) = zi.f qa b qb := by
 refine Eq.trans (b := zi.b b qb (zi.p11 qa b qb qa)) (by kernel_rfl) ?_
 rw [zi.l11_eq qa b qb qa]
 kernel_rfl
def Zu : Den.Sum := ⟨[.dat (.sl (.int .u8)) false, .dat (.sl tQr) false], fun qK qm κ => match qK, qm with
 | [.d (.sl (.int .u8)) b, .d (.sl (.pair (.int .i64) (.pair (.int .i64) (.pair (.int .i64) (.pair (.pair (.int .i64) (.int .i64)) (.pair .bool (.sl (.pair (.int .i64) (.sl (.int .u8)))))))))) qb], [] => (match veil (zi.f BIG b qb) with | none => none | some y => κ [.agg [.d (.int .i64) y.1, .d (.int .i64) y.2.1, .d (.int .i64) y.2.2.1, .d (.int .i64) y.2.2.2.1, .d (.int .i64) y.2.2.2.2.1, .d (.int .i64) y.2.2.2.2.2.1, .d (.int .i64) y.2.2.2.2.2.2.1, .d (.int .i64) y.2.2.2.2.2.2.2.1, .d (.int .i64) y.2.2.2.2.2.2.2.2.1, .d (.int .i64) y.2.2.2.2.2.2.2.2.2.1, .d (.sl (.pair (.int .i64) (.pair (.int .i64) (.pair (.int .i64) (.pair (.pair (.int .i64) (.int .i64)) (.pair .bool (.sl (.pair (.int .i64) (.sl (.int .u8)))))))))) y.2.2.2.2.2.2.2.2.2.2.1], .d (.int .i64) y.2.2.2.2.2.2.2.2.2.2.2] [])
 | _, _ => none⟩
theorem qdr : SumDet Zu := zj fun _ _ _ _ => by
 unfold Zu
 simp only [veil_eq]
 split
 ·split <;> rfl
 ·rfl
theorem qdP : SumOk Tryz.prog 65 Zu := by
 have hE : EnvOk Tryz.prog qfg := env_ok (l := [(76, QJ), (96, qaE), (41, qah), (51, qaR), (74, ZE), (98, zQ), (99, Z3), (86, qcY)]) th_ok qZ ⟨⟨qas, qad⟩, ⟨qeX, qee⟩, ⟨qb0, qbk⟩, ⟨qdU, qdc⟩, ⟨qgp, qf2⟩, ⟨qap, qae⟩, ⟨qhh, qgV⟩, ⟨qim, qhj⟩, trivial⟩ _
 refine sum_ok hE Tryz.func65 rfl (by kernel_rfl) Zu [.dat (.pair tQi (.pair tQi (.pair tQi (.pair (.pair tQi tQi) (.pair tQi (.pair tQi (.pair tQi (.pair tQi (.pair tQi (.sl tQr)))))))))) true, .raw] zi.k ?_
 intro R avs qm κ r h
 unfold Zu at h
 simp only [veil_eq] at h
 split at h
 ·rename_i b qb
  split at h
  ·cases h
  ·rename_i y hy
   refine ⟨BIG, _, _, _, (zi.eq BIG b qb).trans hy, ?_, h⟩
   intro rs ros hk
   unfold zi.k at hk
   split at hk
   ·rw [← sj hk]; exact ⟨rfl, rfl⟩
   ·cases hk
 ·cases h
def qj7 : Env := ⟨th, gam [(64, Zt), (65, Zu), (56, Zr), (58, Zq), (60, Zp), (62, Zo)], fun i => ⟨[], [], []⟩⟩
def qda : Den.Sum := inl qj7 BIG Tryz.f35 [.raw] [.raw, .raw]
theorem qgC : EnvOk Tryz.prog qj7 := env_ok (l := [(64, Zt), (65, Zu), (56, Zr), (58, Zq), (60, Zp), (62, Zo)]) th_ok qZ ⟨⟨qdO, qdq⟩, ⟨qdP, qdr⟩, ⟨qdK, qdo⟩, ⟨qdJ, qdn⟩, ⟨qdI, qdm⟩, ⟨qdH, qdl⟩, trivial⟩ _
theorem qgK : SumDet qda := inl_det qgC.D _ _ _ _
theorem qhQ : SumOk Tryz.prog 35 qda := inl_ok qgC Tryz.func35 rfl (by kernel_rfl) _ _ _
def qgD : Env := ⟨th, gam [(64, Zt), (65, Zu), (35, qda), (56, Zr), (58, Zq), (60, Zp), (62, Zo)], fun i => ⟨[], [], []⟩⟩
def zU.k (rs : List AV) (os : List Den.Obj) : Option ((List Int) × Int) :=
 match rs, os with
 | [.d (.sl (.int .u8)) r0, .d (.int .i64) r1], [] => some (r0, r1)
 | _, _ => none
def zU.b (gen qj qs qH qe qf qG qg qr ql qq : Int) (qh qb : LR) : Option ((List Int) × Int) :=
 (if (gen == (1 : Int)) then (match (veil (ZB.f BIG qj qs qH qe qf qG qg qr ql qq qh qb)) with | none => none | some y0 => some (y0.1, y0.2)) else (if (gen == (2 : Int)) then (match (veil (Zz.f BIG qj qs qH qe qf qG qg qr ql qq qh qb)) with | none => none | some y1 => some (y1.1, y1.2)) else (if (gen == (3 : Int)) then (match (veil (Zb.f BIG qj qs qH qe qf qG qg qr ql qq qh qb)) with | none => none | some y2 => some (y2.1, y2.2)) else some (([] : List Int), (5 : Int)))))
def zU.f (qa : Nat) (gen qj qs qH qe qf qG qg qr ql qq : Int) (qh qb : LR) : Option ((List Int) × Int) := zU.b gen qj qs qH qe qf qG qg qr ql qq qh qb
theorem zU.eq (qa : Nat) (gen qj qs qH qe qf qG qg qr ql qq : Int) (qh qb : LR) : (denF qgD loopN qa Tryz.f29 [.dat (.sl (.int .u8)) false, .raw] [.d tQi gen, .agg [.d tQi qj, .d tQi qs, .d tQi qH, .d tQi qe, .d tQi qf, .d tQi qG, .d tQi qg, .d tQi qr, .d tQi ql, .d tQi qq, .d (.sl tQr) qh], .d (.sl tQr) qb] [] zU.k) = zU.f qa gen qj qs qH qe qf qG qg qr ql qq qh qb := by
 kernel_rfl
def qaD : Den.Sum := ⟨[.raw, .dat (.pair tQi (.pair tQi (.pair tQi (.pair (.pair tQi tQi) (.pair tQi (.pair tQi (.pair tQi (.pair tQi (.pair tQi (.sl tQr)))))))))) true, .dat (.sl tQr) false], fun qK qm κ => match qK, qm with
 | [.d (.int .i64) gen, .agg [.d (.int .i64) qj, .d (.int .i64) qs, .d (.int .i64) qH, .d (.int .i64) qe, .d (.int .i64) qf, .d (.int .i64) qG, .d (.int .i64) qg, .d (.int .i64) qr, .d (.int .i64) ql, .d (.int .i64) qq, .d (.sl (.pair (.int .i64) (.pair (.int .i64) (.pair (.int .i64) (.pair (.pair (.int .i64) (.int .i64)) (.pair .bool (.sl (.pair (.int .i64) (.sl (.int .u8)))))))))) qh], .d (.sl (.pair (.int .i64) (.pair (.int .i64) (.pair (.int .i64) (.pair (.pair (.int .i64) (.int .i64)) (.pair .bool (.sl (.pair (.int .i64) (.sl (.int .u8)))))))))) qb], [] => (match veil (zU.f BIG gen qj qs qH qe qf qG qg qr ql qq qh qb) with | none => none | some y => κ [.d (.sl (.int .u8)) y.1, .d (.int .i64) y.2] [])
 | _, _ => none⟩
theorem qih : SumDet qaD := zj fun _ _ _ _ => by
 unfold qaD
 simp only [veil_eq]
 split
 ·split <;> rfl
 ·rfl
theorem qiZ : SumOk Tryz.prog 29 qaD := by
 have hE : EnvOk Tryz.prog qgD := env_ok (l := [(64, Zt), (65, Zu), (35, qda), (56, Zr), (58, Zq), (60, Zp), (62, Zo)]) th_ok qZ ⟨⟨qdO, qdq⟩, ⟨qdP, qdr⟩, ⟨qhQ, qgK⟩, ⟨qdK, qdo⟩, ⟨qdJ, qdn⟩, ⟨qdI, qdm⟩, ⟨qdH, qdl⟩, trivial⟩ _
 refine sum_ok hE Tryz.func29 rfl (by kernel_rfl) qaD [.dat (.sl (.int .u8)) false, .raw] zU.k ?_
 intro R avs qm κ r h
 unfold qaD at h
 simp only [veil_eq] at h
 split at h
 ·rename_i gen qj qs qH qe qf qG qg qr ql qq qh qb
  split at h
  ·cases h
  ·rename_i y hy
   refine ⟨BIG, _, _, _, (zU.eq BIG gen qj qs qH qe qf qG qg qr ql qq qh qb).trans hy, ?_, h⟩
   intro rs ros hk
   unfold zU.k at hk
   split at hk
   ·rw [← sj hk]; exact ⟨rfl, rfl⟩
   ·cases hk
 ·cases h
def qgE : Env := ⟨th, gam [(64, Zt), (65, Zu), (35, qda), (56, Zr), (58, Zq), (60, Zp), (62, Zo)], fun i => ⟨[], [], []⟩⟩
def zV.k (rs : List AV) (os : List Den.Obj) : Option (Int × Int × Int × Int × Int × Int × Int × Int × Int × Int × LR × Int) :=
 match rs, os with
 | [.agg [.d (.int .i64) r0, .d (.int .i64) r1, .d (.int .i64) r2, .d (.int .i64) r3, .d (.int .i64) r4, .d (.int .i64) r5, .d (.int .i64) r6, .d (.int .i64) r7, .d (.int .i64) r8, .d (.int .i64) r9, .d (.sl (.pair (.int .i64) (.pair (.int .i64) (.pair (.int .i64) (.pair (.pair (.int .i64) (.int .i64)) (.pair .bool (.sl (.pair (.int .i64) (.sl (.int .u8)))))))))) r10], .d (.int .i64) r11], [] => some (r0, r1, r2, r3, r4, r5, r6, r7, r8, r9, r10, r11)
 | _, _ => none
def zV.b (gen : Int) (b : List Int) (qb : LR) : Option (Int × Int × Int × Int × Int × Int × Int × Int × Int × Int × LR × Int) :=
 (if (gen == (1 : Int)) then (match (veil (ZA.f BIG b qb)) with | none => none | some y0 => some (y0.1, y0.2.1, y0.2.2.1, y0.2.2.2.1, y0.2.2.2.2.1, y0.2.2.2.2.2.1, y0.2.2.2.2.2.2.1, y0.2.2.2.2.2.2.2.1, y0.2.2.2.2.2.2.2.2.1, y0.2.2.2.2.2.2.2.2.2.1, y0.2.2.2.2.2.2.2.2.2.2.1, y0.2.2.2.2.2.2.2.2.2.2.2)) else (if (gen == (2 : Int)) then (match (veil (Zy.f BIG b qb)) with | none => none | some y1 => some (y1.1, y1.2.1, y1.2.2.1, y1.2.2.2.1, y1.2.2.2.2.1, y1.2.2.2.2.2.1, y1.2.2.2.2.2.2.1, y1.2.2.2.2.2.2.2.1, y1.2.2.2.2.2.2.2.2.1, y1.2.2.2.2.2.2.2.2.2.1, y1.2.2.2.2.2.2.2.2.2.2.1, y1.2.2.2.2.2.2.2.2.2.2.2)) else (if (gen == (3 : Int)) then (match (veil (zi.f BIG b qb)) with | none => none | some y2 => some (y2.1, y2.2.1, y2.2.2.1, y2.2.2.2.1, y2.2.2.2.2.1, y2.2.2.2.2.2.1, y2.2.2.2.2.2.2.1, y2.2.2.2.2.2.2.2.1, y2.2.2.2.2.2.2.2.2.1, y2.2.2.2.2.2.2.2.2.2.1, y2.2.2.2.2.2.2.2.2.2.2.1, y2.2.2.2.2.2.2.2.2.2.2.2)) else some (0, 0, 0, 0, 0, 0, 0, 0, 0, 0, ([] : LR), (5 : Int)))))
def zV.f (qa : Nat) (gen : Int) (b : List Int) (qb : LR) : Option (Int × Int × Int × Int × Int × Int × Int × Int × Int × Int × LR × Int) := zV.b gen b qb
theorem zV.eq (qa : Nat) (gen : Int) (b : List Int) (qb : LR) : (denF qgE loopN qa Tryz.f19 [.dat (.pair tQi (.pair tQi (.pair tQi (.pair (.pair tQi tQi) (.pair tQi (.pair tQi (.pair tQi (.pair tQi (.pair tQi (.sl tQr)))))))))) true, .raw] [.d tQi gen, .d (.sl (.int .u8)) b, .d (.sl tQr) qb] [] zV.k) = zV.f qa gen b qb := by
 kernel_rfl
def ZU : Den.Sum := ⟨[.raw, .dat (.sl (.int .u8)) false, .dat (.sl tQr) false], fun qK qm κ => match qK, qm with
 | [.d (.int .i64) gen, .d (.sl (.int .u8)) b, .d (.sl (.pair (.int .i64) (.pair (.int .i64) (.pair (.int .i64) (.pair (.pair (.int .i64) (.int .i64)) (.pair .bool (.sl (.pair (.int .i64) (.sl (.int .u8)))))))))) qb], [] => (match veil (zV.f BIG gen b qb) with | none => none | some y => κ [.agg [.d (.int .i64) y.1, .d (.int .i64) y.2.1, .d (.int .i64) y.2.2.1, .d (.int .i64) y.2.2.2.1, .d (.int .i64) y.2.2.2.2.1, .d (.int .i64) y.2.2.2.2.2.1, .d (.int .i64) y.2.2.2.2.2.2.1, .d (.int .i64) y.2.2.2.2.2.2.2.1, .d (.int .i64) y.2.2.2.2.2.2.2.2.1, .d (.int .i64) y.2.2.2.2.2.2.2.2.2.1, .d (.sl (.pair (.int .i64) (.pair (.int .i64) (.pair (.int .i64) (.pair (.pair (.int .i64) (.int .i64)) (.pair .bool (.sl (.pair (.int .i64) (.sl (.int .u8)))))))))) y.2.2.2.2.2.2.2.2.2.2.1], .d (.int .i64) y.2.2.2.2.2.2.2.2.2.2.2] [])
 | _, _ => none⟩
theorem qe0 : SumDet ZU := zj fun _ _ _ _ => by
 unfold ZU
 simp only [veil_eq]
 split
 ·split <;> rfl
 ·rfl
theorem qfi : SumOk Tryz.prog 19 ZU := by
 have hE : EnvOk Tryz.prog qgE := env_ok (l := [(64, Zt), (65, Zu), (35, qda), (56, Zr), (58, Zq), (60, Zp), (62, Zo)]) th_ok qZ ⟨⟨qdO, qdq⟩, ⟨qdP, qdr⟩, ⟨qhQ, qgK⟩, ⟨qdK, qdo⟩, ⟨qdJ, qdn⟩, ⟨qdI, qdm⟩, ⟨qdH, qdl⟩, trivial⟩ _
 refine sum_ok hE Tryz.func19 rfl (by kernel_rfl) ZU [.dat (.pair tQi (.pair tQi (.pair tQi (.pair (.pair tQi tQi) (.pair tQi (.pair tQi (.pair tQi (.pair tQi (.pair tQi (.sl tQr)))))))))) true, .raw] zV.k ?_
 intro R avs qm κ r h
 unfold ZU at h
 simp only [veil_eq] at h
 split at h
 ·rename_i gen b qb
  split at h
  ·cases h
  ·rename_i y hy
   refine ⟨BIG, _, _, _, (zV.eq BIG gen b qb).trans hy, ?_, h⟩
   intro rs ros hk
   unfold zV.k at hk
   split at hk
   ·rw [← sj hk]; exact ⟨rfl, rfl⟩
   ·cases hk
 ·cases h
def qkh : Env := ⟨th, gam [(33, qdL)], fun i => ⟨[], [], []⟩⟩
def ZQ.k (rs : List AV) (os : List Den.Obj) : Option Bool :=
 match rs, os with
 | [.d .bool r0], [] => some r0
 | _, _ => none
def ZQ.b (sLo sHi gen : Int) : Option Bool :=
 (if (okS sLo sHi) then (if (decide (sLo ≤ gen)) then some ((decide (gen ≤ sHi))) else some (false)) else some (false))
def ZQ.f (qa : Nat) (sLo sHi gen : Int) : Option Bool := ZQ.b sLo sHi gen
theorem ZQ.eq (qa : Nat) (sLo sHi gen : Int) : (denF qkh loopN qa Tryz.f12 [.raw] [.agg [.d tQi sLo, .d tQi sHi], .d tQi gen] [] ZQ.k) = ZQ.f qa sLo sHi gen := by
 kernel_rfl
def qcl : Den.Sum := ⟨[.dat (.pair tQi tQi) true, .raw], fun qK qm κ => match qK, qm with
 | [.agg [.d (.int .i64) sLo, .d (.int .i64) sHi], .d (.int .i64) gen], [] => (match veil (ZQ.f BIG sLo sHi gen) with | none => none | some y => κ [.d .bool y] [])
 | _, _ => none⟩
theorem qlq : SumDet qcl := zj fun _ _ _ _ => by
 unfold qcl
 simp only [veil_eq]
 split
 ·split <;> rfl
 ·rfl
theorem qmu : SumOk Tryz.prog 12 qcl := by
 have hE : EnvOk Tryz.prog qkh := env_ok (l := [(33, qdL)]) th_ok qZ ⟨⟨qgM, qfE⟩, trivial⟩ _
 refine sum_ok hE Tryz.func12 rfl (by kernel_rfl) qcl [.raw] ZQ.k ?_
 intro R avs qm κ r h
 unfold qcl at h
 simp only [veil_eq] at h
 split at h
 ·rename_i sLo sHi gen
  split at h
  ·cases h
  ·rename_i y hy
   refine ⟨BIG, _, _, _, (ZQ.eq BIG sLo sHi gen).trans hy, ?_, h⟩
   intro rs ros hk
   unfold ZQ.k at hk
   split at hk
   ·rw [← sj hk]; exact ⟨rfl, rfl⟩
   ·cases hk
 ·cases h
def qis : Env := ⟨th, gam [], fun i => ⟨[], [], []⟩⟩
def QL.k (rs : List AV) (os : List Den.Obj) : Option Bool :=
 match rs, os with
 | [.d .bool r0], [] => some r0
 | _, _ => none
def QL.b (qk : Int) : Option Bool :=
 (if (decide (qk ≥ (1 : Int))) then some ((decide (qk ≤ (3 : Int)))) else some (false))
def QL.f (qa : Nat) (qk : Int) : Option Bool := QL.b qk
theorem QL.eq (qa : Nat) (qk : Int) : (denF qis loopN qa Tryz.f13 [.raw] [.d tQi qk] [] QL.k) = QL.f qa qk := by
 kernel_rfl
def qat : Den.Sum := ⟨[.raw], fun qK qm κ => match qK, qm with
 | [.d (.int .i64) qk], [] => (match veil (QL.f BIG qk) with | none => none | some y => κ [.d .bool y] [])
 | _, _ => none⟩
theorem qfL : SumDet qat := zj fun _ _ _ _ => by
 unfold qat
 simp only [veil_eq]
 split
 ·split <;> rfl
 ·rfl
theorem qf8 : SumOk Tryz.prog 13 qat := by
 have hE : EnvOk Tryz.prog qis := env_ok (l := []) th_ok qZ trivial _
 refine sum_ok hE Tryz.func13 rfl (by kernel_rfl) qat [.raw] QL.k ?_
 intro R avs qm κ r h
 unfold qat at h
 simp only [veil_eq] at h
 split at h
 ·rename_i qk
  split at h
  ·cases h
  ·rename_i y hy
   refine ⟨BIG, _, _, _, (QL.eq BIG qk).trans hy, ?_, h⟩
   intro rs ros hk
   unfold QL.k at hk
   split at hk
   ·rw [← sj hk]; exact ⟨rfl, rfl⟩
   ·cases hk
 ·cases h
def qei : Env := ⟨th, gam [(19, ZU)], fun i => ⟨[], [], []⟩⟩
def zK.k (rs : List AV) (os : List Den.Obj) : Option (Int × Int × Int × Int × Int × Int × Int × Int × Int × Int × LR × Int) :=
 match rs, os with
 | [.agg [.d (.int .i64) r0, .d (.int .i64) r1, .d (.int .i64) r2, .d (.int .i64) r3, .d (.int .i64) r4, .d (.int .i64) r5, .d (.int .i64) r6, .d (.int .i64) r7, .d (.int .i64) r8, .d (.int .i64) r9, .d (.sl (.pair (.int .i64) (.pair (.int .i64) (.pair (.int .i64) (.pair (.pair (.int .i64) (.int .i64)) (.pair .bool (.sl (.pair (.int .i64) (.sl (.int .u8)))))))))) r10], .d (.int .i64) r11], [] => some (r0, r1, r2, r3, r4, r5, r6, r7, r8, r9, r10, r11)
 | _, _ => none
def zK.b (Zk Zl ZY QF QG ZX QE Zj Q0 Q8 : Int) (Zi : LR) (qcf : Int) (qaX : List Int) (qb : LR) : Option (Int × Int × Int × Int × Int × Int × Int × Int × Int × Int × LR × Int) :=
 (match (veil (zV.f BIG qcf qaX qb)) with | none => none | some y0 => some (y0.1, y0.2.1, y0.2.2.1, y0.2.2.2.1, y0.2.2.2.2.1, y0.2.2.2.2.2.1, y0.2.2.2.2.2.2.1, y0.2.2.2.2.2.2.2.1, y0.2.2.2.2.2.2.2.2.1, y0.2.2.2.2.2.2.2.2.2.1, y0.2.2.2.2.2.2.2.2.2.2.1, y0.2.2.2.2.2.2.2.2.2.2.2))
def zK.f (qa : Nat) (Zk Zl ZY QF QG ZX QE Zj Q0 Q8 : Int) (Zi : LR) (qcf : Int) (qaX : List Int) (qb : LR) : Option (Int × Int × Int × Int × Int × Int × Int × Int × Int × Int × LR × Int) := zK.b Zk Zl ZY QF QG ZX QE Zj Q0 Q8 Zi qcf qaX qb
theorem zK.eq (qa : Nat) (Zk Zl ZY QF QG ZX QE Zj Q0 Q8 : Int) (Zi : LR) (qcf : Int) (qaX : List Int) (qb : LR) : (denF qei loopN qa Tryz.f14 [.dat (.pair tQi (.pair tQi (.pair tQi (.pair (.pair tQi tQi) (.pair tQi (.pair tQi (.pair tQi (.pair tQi (.pair tQi (.sl tQr)))))))))) true, .raw] [.agg [.d tQi Zk, .d tQi Zl, .d tQi ZY, .d tQi QF, .d tQi QG, .d tQi ZX, .d tQi QE, .d tQi Zj, .d tQi Q0, .d tQi Q8, .d (.sl tQr) Zi, .d tQi qcf, .d (.sl (.int .u8)) qaX], .d (.sl tQr) qb] [] zK.k) = zK.f qa Zk Zl ZY QF QG ZX QE Zj Q0 Q8 Zi qcf qaX qb := by
 kernel_rfl
def Ql : Den.Sum := ⟨[.dat (.pair (.pair tQi (.pair tQi (.pair tQi (.pair (.pair tQi tQi) (.pair tQi (.pair tQi (.pair tQi (.pair tQi (.pair tQi (.sl tQr)))))))))) (.pair tQi (.sl (.int .u8)))) true, .dat (.sl tQr) false], fun qK qm κ => match qK, qm with
 | [.agg [.d (.int .i64) Zk, .d (.int .i64) Zl, .d (.int .i64) ZY, .d (.int .i64) QF, .d (.int .i64) QG, .d (.int .i64) ZX, .d (.int .i64) QE, .d (.int .i64) Zj, .d (.int .i64) Q0, .d (.int .i64) Q8, .d (.sl (.pair (.int .i64) (.pair (.int .i64) (.pair (.int .i64) (.pair (.pair (.int .i64) (.int .i64)) (.pair .bool (.sl (.pair (.int .i64) (.sl (.int .u8)))))))))) Zi, .d (.int .i64) qcf, .d (.sl (.int .u8)) qaX], .d (.sl (.pair (.int .i64) (.pair (.int .i64) (.pair (.int .i64) (.pair (.pair (.int .i64) (.int .i64)) (.pair .bool (.sl (.pair (.int .i64) (.sl (.int .u8)))))))))) qb], [] => (match veil (zK.f BIG Zk Zl ZY QF QG ZX QE Zj Q0 Q8 Zi qcf qaX qb) with | none => none | some y => κ [.agg [.d (.int .i64) y.1, .d (.int .i64) y.2.1, .d (.int .i64) y.2.2.1, .d (.int .i64) y.2.2.2.1, .d (.int .i64) y.2.2.2.2.1, .d (.int .i64) y.2.2.2.2.2.1, .d (.int .i64) y.2.2.2.2.2.2.1, .d (.int .i64) y.2.2.2.2.2.2.2.1, .d (.int .i64) y.2.2.2.2.2.2.2.2.1, .d (.int .i64) y.2.2.2.2.2.2.2.2.2.1, .d (.sl (.pair (.int .i64) (.pair (.int .i64) (.pair (.int .i64) (.pair (.pair (.int .i64) (.int .i64)) (.pair .bool (.sl (.pair (.int .i64) (.sl (.int .u8)))))))))) y.2.2.2.2.2.2.2.2.2.2.1], .d (.int .i64) y.2.2.2.2.2.2.2.2.2.2.2] [])
 | _, _ => none⟩
theorem qbv : SumDet Ql := zj fun _ _ _ _ => by
 unfold Ql
 simp only [veil_eq]
 split
 ·split <;> rfl
 ·rfl
theorem qbG : SumOk Tryz.prog 14 Ql := by
 have hE : EnvOk Tryz.prog qei := env_ok (l := [(19, ZU)]) th_ok qZ ⟨⟨qfi, qe0⟩, trivial⟩ _
 refine sum_ok hE Tryz.func14 rfl (by kernel_rfl) Ql [.dat (.pair tQi (.pair tQi (.pair tQi (.pair (.pair tQi tQi) (.pair tQi (.pair tQi (.pair tQi (.pair tQi (.pair tQi (.sl tQr)))))))))) true, .raw] zK.k ?_
 intro R avs qm κ r h
 unfold Ql at h
 simp only [veil_eq] at h
 split at h
 ·rename_i Zk Zl ZY QF QG ZX QE Zj Q0 Q8 Zi qcf qaX qb
  split at h
  ·cases h
  ·rename_i y hy
   refine ⟨BIG, _, _, _, (zK.eq BIG Zk Zl ZY QF QG ZX QE Zj Q0 Q8 Zi qcf qaX qb).trans hy, ?_, h⟩
   intro rs ros hk
   unfold zK.k at hk
   split at hk
   ·rw [← sj hk]; exact ⟨rfl, rfl⟩
   ·cases hk
 ·cases h
def qd0 : Env := ⟨th, gam [], fun i => ⟨[], [], []⟩⟩
def Qd.k (rs : List AV) (os : List Den.Obj) : Option Bool :=
 match rs, os with
 | [.d .bool r0], [] => some r0
 | _, _ => none
def Qd.b (Zk Zl ZY QF QG ZX QE Zj Q0 Q8 : Int) (Zi : LR) (qcf : Int) (qaX : List Int) : Option Bool :=
 some ((Q8 != (0 : Int)))
def Qd.f (qa : Nat) (Zk Zl ZY QF QG ZX QE Zj Q0 Q8 : Int) (Zi : LR) (qcf : Int) (qaX : List Int) : Option Bool := Qd.b Zk Zl ZY QF QG ZX QE Zj Q0 Q8 Zi qcf qaX
theorem Qd.eq (qa : Nat) (Zk Zl ZY QF QG ZX QE Zj Q0 Q8 : Int) (Zi : LR) (qcf : Int) (qaX : List Int) : (denF qd0 loopN qa Tryz.f18 [.raw] [.agg [.d tQi Zk, .d tQi Zl, .d tQi ZY, .d tQi QF, .d tQi QG, .d tQi ZX, .d tQi QE, .d tQi Zj, .d tQi Q0, .d tQi Q8, .d (.sl tQr) Zi, .d tQi qcf, .d (.sl (.int .u8)) qaX]] [] Qd.k) = Qd.f qa Zk Zl ZY QF QG ZX QE Zj Q0 Q8 Zi qcf qaX := by
 kernel_rfl
def Qz : Den.Sum := ⟨[.dat (.pair (.pair tQi (.pair tQi (.pair tQi (.pair (.pair tQi tQi) (.pair tQi (.pair tQi (.pair tQi (.pair tQi (.pair tQi (.sl tQr)))))))))) (.pair tQi (.sl (.int .u8)))) true], fun qK qm κ => match qK, qm with
 | [.agg [.d (.int .i64) Zk, .d (.int .i64) Zl, .d (.int .i64) ZY, .d (.int .i64) QF, .d (.int .i64) QG, .d (.int .i64) ZX, .d (.int .i64) QE, .d (.int .i64) Zj, .d (.int .i64) Q0, .d (.int .i64) Q8, .d (.sl (.pair (.int .i64) (.pair (.int .i64) (.pair (.int .i64) (.pair (.pair (.int .i64) (.int .i64)) (.pair .bool (.sl (.pair (.int .i64) (.sl (.int .u8)))))))))) Zi, .d (.int .i64) qcf, .d (.sl (.int .u8)) qaX]], [] => (match veil (Qd.f BIG Zk Zl ZY QF QG ZX QE Zj Q0 Q8 Zi qcf qaX) with | none => none | some y => κ [.d .bool y] [])
 | _, _ => none⟩
theorem qcG : SumDet Qz := zj fun _ _ _ _ => by
 unfold Qz
 simp only [veil_eq]
 split
 ·split <;> rfl
 ·rfl
theorem qcV : SumOk Tryz.prog 18 Qz := by
 have hE : EnvOk Tryz.prog qd0 := env_ok (l := []) th_ok qZ trivial _
 refine sum_ok hE Tryz.func18 rfl (by kernel_rfl) Qz [.raw] Qd.k ?_
 intro R avs qm κ r h
 unfold Qz at h
 simp only [veil_eq] at h
 split at h
 ·rename_i Zk Zl ZY QF QG ZX QE Zj Q0 Q8 Zi qcf qaX
  split at h
  ·cases h
  ·rename_i y hy
   refine ⟨BIG, _, _, _, (Qd.eq BIG Zk Zl ZY QF QG ZX QE Zj Q0 Q8 Zi qcf qaX).trans hy, ?_, h⟩
   intro rs ros hk
   unfold Qd.k at hk
   split at hk
   ·rw [← sj hk]; exact ⟨rfl, rfl⟩
   ·cases hk
 ·cases h
def qhG : Env := ⟨th, gam [], fun i => if i = 2 then ⟨[0, 7, 8, 9], [], []⟩ else ⟨[], [], []⟩⟩
def zu.k (rs : List AV) (os : List Den.Obj) : Option Int :=
 match rs, os with
 | [.d (.int .u32) r0], [] => some r0
 | _, _ => none
def zu.s2 (reg : Int) (b : List Int) (x0 x1 x2 : Int) : St := ⟨[.d (.int .u32) x0, dD, dD, dD, dD, dD, dD, .d (.sl (.int .u8)) (b), .d tQi x1, .d tQi x2, dD, dD, dD, dD, dD, dD, dD, dD, dD, dD, dD, dD, dD, dD, dD, dD, dD, dD, dD, dD, dD, dD, dD, dD, dD, dD, .dead], ofL [], 0⟩
def zu.p2 (qa : Nat) (reg : Int) (b : List Int) (k : Nat) := fun x0 x1 x2 => lp qhG qa Tryz.f72 [.raw] 0 zu.k 2 [] k (zu.s2 reg b x0 x1 x2)
def zu.b2 (reg : Int) (b : List Int) (A2 : Int → Int → Int → Option Int) (x0 x1 x2 : Int) : Option Int :=
 (if (decide (x2 < x1)) then (match (idx b x2) with | none => none | some y3 => (match (idx halves (bits BinOp.xor .u32 (Int.fdiv x0 ((2 : Int) ^ (Min.min (Int.toNat (28 : Int)) (IntKind.bits .u32)))) (IntKind.wrap .u32 (Int.fdiv y3 ((2 : Int) ^ (Min.min (Int.toNat (4 : Int)) (IntKind.bits .u8))))))) with | none => none | some y4 => (match (idx halves (bits BinOp.xor .u32 (Int.fdiv (bits BinOp.xor .u32 (IntKind.wrap .u32 (x0 * ((2 : Int) ^ (Min.min (Int.toNat (4 : Int)) (IntKind.bits .u32))))) y4) ((2 : Int) ^ (Min.min (Int.toNat (28 : Int)) (IntKind.bits .u32)))) (IntKind.wrap .u32 (bits BinOp.and .u8 y3 (15 : Int))))) with | none => none | some y5 => A2 (bits BinOp.xor .u32 (IntKind.wrap .u32 ((bits BinOp.xor .u32 (IntKind.wrap .u32 (x0 * ((2 : Int) ^ (Min.min (Int.toNat (4 : Int)) (IntKind.bits .u32))))) y4) * ((2 : Int) ^ (Min.min (Int.toNat (4 : Int)) (IntKind.bits .u32))))) y5) x1 (IntKind.wrap .i64 (x2 + (1 : Int)))))) else some (x0))
def zu.l2 (qa : Nat) (reg : Int) (b : List Int) : Nat → Int → Int → Int → Option Int
 | 0, _, _, _ => none
 | k + 1, x0, x1, x2 => zu.b2 reg b (zu.l2 qa reg b k) x0 x1 x2
def zu.b (reg : Int) (b : List Int) (E2 : Int → Int → Int → Option Int) : Option Int :=
 E2 reg ((((List.length b)) : Nat) : Int) (0 : Int)
def zu.f (qa : Nat) (reg : Int) (b : List Int) : Option Int := zu.b reg b (zu.l2 qa reg b qa)
theorem zu.l2_eq (qa : Nat) (reg : Int) (b : List Int) : ∀ k : Nat, zu.p2 qa reg b k = zu.l2 qa reg b k
 | 0 => by kernel_rfl
 | k + 1 => by
  refine Eq.trans (b := zu.b2 reg b (zu.p2 qa reg b k)) (by kernel_rfl) ?_
  rw [zu.l2_eq qa reg b k]
  kernel_rfl
theorem zu.eq (qa : Nat) (reg : Int) (b : List Int) : (denF qhG loopN qa Tryz.f72 [.raw] [.d (.int .u32) reg, .d (.sl (.int .u8)) b] [] zu.k) = zu.f qa reg b := by
 refine Eq.trans (b := zu.b reg b (zu.p2 qa reg b qa)) (by kernel_rfl) ?_
 rw [zu.l2_eq qa reg b qa]
 kernel_rfl
theorem zu.l2_at (qa nN kK : Nat) (hN : nN = kK + 1) (reg : Int) (b : List Int) (x0 : Int) (x1 : Int) (x2 : Int) : zu.l2 qa reg b nN x0 x1 x2 = zu.b2 reg b (zu.l2 qa reg b kK) x0 x1 x2 := by
 subst hN
 rfl
def qcq : Den.Sum := ⟨[.raw, .dat (.sl (.int .u8)) false], fun qK qm κ => match qK, qm with
 | [.d (.int .u32) reg, .d (.sl (.int .u8)) b], [] => (match veil (zu.f BIG reg b) with | none => none | some y => κ [.d (.int .u32) y] [])
 | _, _ => none⟩
theorem qlC : SumDet qcq := zj fun _ _ _ _ => by
 unfold qcq
 simp only [veil_eq]
 split
 ·split <;> rfl
 ·rfl
theorem qmA : SumOk Tryz.prog 72 qcq := by
 have hE : EnvOk Tryz.prog qhG := env_ok (l := []) th_ok qZ trivial _
 refine sum_ok hE Tryz.func72 rfl (by kernel_rfl) qcq [.raw] zu.k ?_
 intro R avs qm κ r h
 unfold qcq at h
 simp only [veil_eq] at h
 split at h
 ·rename_i reg b
  split at h
  ·cases h
  ·rename_i y hy
   refine ⟨BIG, _, _, _, (zu.eq BIG reg b).trans hy, ?_, h⟩
   intro rs ros hk
   unfold zu.k at hk
   split at hk
   ·rw [← sj hk]; exact ⟨rfl, rfl⟩
   ·cases hk
 ·cases h
def qj3 : Env := ⟨th, gam [(72, qcq)], fun i => if i = 3 then ⟨[3, 6, 7, 8], [], []⟩ else ⟨[], [], []⟩⟩
def zX.k (rs : List AV) (os : List Den.Obj) : Option Int :=
 match rs, os with
 | [.d (.int .u32) r0], [] => some r0
 | _, _ => none
def zX.s3 (zd : List (List Int)) (x0 : Int) (x1 : Int) (x2 : Int) : St := ⟨[dD, dD, dD, .d (.int .u32) x0, .dead, .dead, .d (.sl (.sl (.int .u8))) (zd), .d tQi x1, .d tQi x2, dD, dD, dD, dD, dD, dD, dD, dD, .dead], ofL [], 0⟩
def zX.p3 (qa : Nat) (zd : List (List Int)) (k : Nat) := fun x0 x1 x2 => lp qj3 qa Tryz.f50 [.raw] 0 zX.k 3 [] k (zX.s3 zd x0 x1 x2)
def zX.b3 (zd : List (List Int)) (A3 : Int → Int → Int → Option Int) (x0 : Int) (x1 : Int) (x2 : Int) : Option Int :=
 (if (decide (x2 < x1)) then (match (idx zd x2) with | none => none | some y3 => (match (veil (zu.f BIG x0 y3)) with | none => none | some y4 => A3 y4 x1 (IntKind.wrap .i64 (x2 + (1 : Int))))) else some ((bits BinOp.xor .u32 (if (IntKind.signed .u32) then (-(1 : Int)) else (IntKind.max .u32)) x0)))
def zX.l3 (qa : Nat) (zd : List (List Int)) : Nat → Int → Int → Int → Option Int
 | 0, _, _, _ => none
 | k + 1, x0, x1, x2 => zX.b3 zd (zX.l3 qa zd k) x0 x1 x2
def zX.b (zd : List (List Int)) (E3 : Int → Int → Int → Option Int) : Option Int :=
 E3 (veil (4294967295 : Int)) ((((List.length zd)) : Nat) : Int) (0 : Int)
def zX.f (qa : Nat) (zd : List (List Int)) : Option Int := zX.b zd (zX.l3 qa zd qa)
theorem zX.l3_eq (qa : Nat) (zd : List (List Int)) : ∀ k : Nat, zX.p3 qa zd k = zX.l3 qa zd k
 | 0 => by kernel_rfl
 | k + 1 => by
  refine Eq.trans (b := zX.b3 zd (zX.p3 qa zd k)) (by kernel_rfl) ?_
  rw [zX.l3_eq qa zd k]
  kernel_rfl
theorem zX.eq (qa : Nat) (zd : List (List Int)) : (denF qj3 loopN qa Tryz.f50 [.raw] [.d (.sl (.sl (.int .u8))) zd] [] zX.k) = zX.f qa zd := by
 refine Eq.trans (b := zX.b zd (zX.p3 qa zd qa)) (by kernel_rfl) ?_
 rw [zX.l3_eq qa zd qa]
 kernel_rfl
theorem zX.l3_at (qa nN kK : Nat) (hN : nN = kK + 1) (zd : List (List Int)) (x0 : Int) (x1 : Int) (x2 : Int) : zX.l3 qa zd nN x0 x1 x2 = zX.b3 zd (zX.l3 qa zd kK) x0 x1 x2 := by
 subst hN
 rfl
def qcr : Den.Sum := ⟨[.dat (.sl (.sl (.int .u8))) false], fun qK qm κ => match qK, qm with
 | [.d (.sl (.sl (.int .u8))) zd], [] => (match veil (zX.f BIG zd) with | none => none | some y => κ [.d (.int .u32) y] [])
 | _, _ => none⟩
theorem qio : SumDet qcr := zj fun _ _ _ _ => by
 unfold qcr
 simp only [veil_eq]
 split
 ·split <;> rfl
 ·rfl
theorem qjl : SumOk Tryz.prog 50 qcr := by
 have hE : EnvOk Tryz.prog qj3 := env_ok (l := [(72, qcq)]) th_ok qZ ⟨⟨qmA, qlC⟩, trivial⟩ _
 refine sum_ok hE Tryz.func50 rfl (by kernel_rfl) qcr [.raw] zX.k ?_
 intro R avs qm κ r h
 unfold qcr at h
 simp only [veil_eq] at h
 split at h
 ·rename_i zd
  split at h
  ·cases h
  ·rename_i y hy
   refine ⟨BIG, _, _, _, (zX.eq BIG zd).trans hy, ?_, h⟩
   intro rs ros hk
   unfold zX.k at hk
   split at hk
   ·rw [← sj hk]; exact ⟨rfl, rfl⟩
   ·cases hk
 ·cases h
theorem qjz (n : Int) : IntKind.wrap .u32 n = n % 4294967296 := by simp [IntKind.wrap, IntKind.bits, IntKind.signed]
theorem qiR (n : Int) : IntKind.wrap .u8 n = n % 256 := by simp [IntKind.wrap, IntKind.bits, IntKind.signed]
theorem qeu (a b : Nat) (ha : a < 4294967296) (hb : b < 4294967296) : bits BinOp.xor .u32 (a : Int) (b : Int) = ((a ^^^ b : Nat) : Int) := by
 show IntKind.wrap .u32 (((BitVec.ofInt 32 (a : Int) ^^^ BitVec.ofInt 32 (b : Int)).toNat : Nat) : Int) = _
 rw [BitVec.toNat_xor, BitVec.toNat_ofInt, BitVec.toNat_ofInt, qjz]
 have e1 : ((a : Int) % ((2 ^ 32 : Nat) : Int)).toNat = a := by
  rw [show ((2 ^ 32 : Nat) : Int) = 4294967296 from rfl]; omega
 have e2 : ((b : Int) % ((2 ^ 32 : Nat) : Int)).toNat = b := by
  rw [show ((2 ^ 32 : Nat) : Int) = 4294967296 from rfl]; omega
 rw [e1, e2]
 have := qj6 a b 32 ha hb
 rw [show (2 : Nat) ^ 32 = 4294967296 from rfl] at this
 omega
theorem qpE (c : Nat) (hc : c < 256) : bits BinOp.and .u8 (c : Int) 15 = ((c % 16 : Nat) : Int) := by
 have : ∀ c, c < 256 → bits BinOp.and .u8 ((c : Nat) : Int) 15 = ((c % 16 : Nat) : Int) := by decide +kernel
 exact this c hc
theorem qk1 (k : Nat) (hk : k < 16) : idx halves (k : Int) = some ((hN k : Nat) : Int) := by
 have : ∀ k, k < 16 → idx halves ((k : Nat) : Int) = some ((hN k : Nat) : Int) := by decide +kernel
 exact this k hk
theorem qqB (r : Nat) : Int.fdiv (r : Int) (2 ^ (Min.min (Int.toNat 28) (IntKind.bits .u32))) = ((r / 268435456 : Nat) : Int) := by
 have e : (2 : Int) ^ (Min.min (Int.toNat 28) (IntKind.bits .u32)) = 268435456 := rfl
 rw [e, Int.fdiv_eq_ediv_of_nonneg _ (by omega)]
 omega
theorem qsK (r : Nat) : Int.fdiv (r : Int) (2 ^ (Min.min (Int.toNat 4) (IntKind.bits .u8))) = ((r / 16 : Nat) : Int) := by
 have e : (2 : Int) ^ (Min.min (Int.toNat 4) (IntKind.bits .u8)) = 16 := rfl
 rw [e, Int.fdiv_eq_ediv_of_nonneg _ (by omega)]
 omega
theorem qsp (r : Nat) : IntKind.wrap .u32 ((r : Int) * (2 ^ (Min.min (Int.toNat 4) (IntKind.bits .u32)))) = ((r * 16 % 4294967296 : Nat) : Int) := by
 have e : (2 : Int) ^ (Min.min (Int.toNat 4) (IntKind.bits .u32)) = 16 := rfl
 rw [e, qjz]
 omega
theorem qlm (k : Nat) (h : k < 4294967296) : IntKind.wrap .u32 (k : Int) = (k : Int) := by rw [qjz]; omega
theorem qrD (l : List Int) (reg0 : Int) (A : Int → Int → Int → Option Int) (r : Nat) (hr : r < 4294967296) (c : Nat) (hc : c < 256) (x1 x2 : Int) (hx : x2 < x1) (hi : idx l x2 = some (c : Int)) :
  zu.b2 reg0 l A (r : Int) x1 x2 = A ((qmI r c : Nat) : Int) x1 (IntKind.wrap .i64 (x2 + 1)) := by
 unfold zu.b2
 have h1 : (c : Nat) / 16 < 16 := by omega
 rw [if_pos (by simpa using hx), hi]
 dsimp only
 rw [qqB, qsK, qlm _ (by omega), qeu _ _ (by omega) (by omega), qk1 _ (qpO r _ hr h1)]
 dsimp only
 rw [qsp, qeu _ _ (by omega) (qpt _)]
 have e1 : (r * 16 % 4294967296) ^^^ hN ((r / 268435456) ^^^ (c / 16)) = nib r (c / 16) := rfl
 rw [e1, qqB, qpE c hc, qlm _ (by omega), qeu _ _ (by have := qnb r (c / 16); omega) (by omega), qk1 _ (qpO _ _ (qnb _ _) (by omega))]
 dsimp only
 rw [qsp, qeu _ _ (by omega) (qpt _)]
 rfl
theorem zu.loop (l : List Int) (reg0 : Int) (hl : l.length ≤ 1000000) : ∀ (suf pre : List Int) (r n : Nat), pre ++ suf = l → isB suf → r < 4294967296 → suf.length < n →
  zu.l2 BIG reg0 l n (r : Int) ((l.length : Nat) : Int) ((pre.length : Nat) : Int) = some ((qnq r (suf.map Int.toNat) : Nat) : Int)
 | suf, pre, r, 0, _, _, _, h => absurd h (by omega)
 | [], pre, r, n + 1, he, hb, hr, h => by
  rw [zu.l2_at BIG (n + 1) n rfl]
  unfold zu.b2
  rw [if_neg (by rw [← he]; simp)]
  rfl
 | c :: suf, pre, r, n + 1, he, hb, hr, h => by
  simp at h
  have hpl : pre.length + (suf.length + 1) = l.length := by rw [← he]; simp
  obtain ⟨hc0, hc1⟩ := hb c (by simp)
  have ec : ((c.toNat : Nat) : Int) = c := by omega
  have hi : idx l ((pre.length : Nat) : Int) = some ((c.toNat : Nat) : Int) := by
   rw [ec, ← he, Qm]; simp
  rw [zu.l2_at BIG (n + 1) n rfl, qrD l reg0 _ r hr c.toNat (by omega) _ _ (by omega) hi, qX _ (by omega) (by omega)]
  have ih := zu.loop l reg0 hl suf (pre ++ [c]) (qmI r c.toNat) n (by rw [← he]; simp) (fun x hx => hb x (by simp [hx])) (qmO _ _) (by omega)
  have e2 : (((pre ++ [c]).length : Nat) : Int) = ((pre.length : Nat) : Int) + 1 := by simp
  rw [e2] at ih
  exact ih
theorem zu.pure (l : List Int) (r : Nat) (hr : r < 4294967296) (hb : isB l) (hl : l.length ≤ 1000000) : zu.f BIG (r : Int) l = some ((qnq r (l.map Int.toNat) : Nat) : Int) := by
 unfold zu.f zu.b
 exact zu.loop l r hl l [] r BIG rfl hb hr (by rw [Zw]; omega)
def qgz (l : List Int) : Nat := 4294967295 ^^^ qnq 4294967295 (l.map Int.toNat)
theorem qlN (l : List Int) : qgz l < 4294967296 := qj6 _ _ 32 (by decide) (qoo _ _ (by decide))
theorem zX.pure (l : List Int) (hb : isB l) (hl : l.length ≤ 1000000) : zX.f BIG [l] = some ((qgz l : Nat) : Int) := by
 obtain ⟨k, hk⟩ : ∃ k, BIG = k + 1 + 1 := ⟨BIG - 2, by rw [Zw]⟩
 unfold zX.f zX.b
 rw [veil_eq, zX.l3_at BIG BIG (k + 1) hk]
 unfold zX.b3
 rw [if_pos (by simp)]
 have e0 : idx [l] 0 = some l := rfl
 rw [e0]
 dsimp only
 have e1 := zu.pure l 4294967295 (by decide) hb hl
 rw [show ((4294967295 : Nat) : Int) = 4294967295 from rfl] at e1
 rw [e1]
 simp only [veil_eq]
 rw [zX.l3_at BIG (k + 1) k rfl]
 unfold zX.b3
 rw [if_neg (by rw [qX _ (by omega) (by omega)]; simp)]
 have e2 : (if (IntKind.signed .u32) = true then (-1 : Int) else (IntKind.max .u32)) = ((4294967295 : Nat) : Int) := by decide +kernel
 rw [e2, qeu _ _ (by decide) (qoo _ _ (by decide))]
 rfl
def qix : Env := ⟨th, gam [(50, qcr)], fun i => if i = 888888 then ⟨[1], [], []⟩ else ⟨[], [], []⟩⟩
def Q1.k (rs : List AV) (os : List Den.Obj) : Option ((List Int) × Int) :=
 match rs, os with
 | [.d (.sl (.int .u8)) r0, .d (.int .i64) r1], [] => some (r0, r1)
 | _, _ => none
def Q1.b (gen : Int) (zc : List Int) : Option ((List Int) × Int) :=
 (if (decide (gen < (1 : Int))) then some (([] : List Int), (5 : Int)) else (if (decide (gen > (3 : Int))) then some (([] : List Int), (5 : Int)) else (if (decide (((((List.length zc)) : Nat) : Int) > (65499 : Int))) then some (([] : List Int), (3 : Int)) else (if (((0 : Int) ≤ (IntKind.wrap .i64 ((4 : Int) + ((((List.length zc)) : Nat) : Int)))) ∧ (((IntKind.wrap .i64 ((4 : Int) + ((((List.length zc)) : Nat) : Int))) ≤ (IntKind.wrap .i64 ((8 : Int) + ((((List.length zc)) : Nat) : Int)))) ∧ ((((IntKind.wrap .i64 ((8 : Int) + ((((List.length zc)) : Nat) : Int))) * ((((1 : Nat)) : Nat) : Int)) ≤ (1099511627776 : Int)) ∧ ((IntKind.wrap .i64 ((8 : Int) + ((((List.length zc)) : Nat) : Int))) ≤ (1099511627776 : Int))))) then (match (idx (List.replicate (Int.toNat (IntKind.wrap .i64 ((4 : Int) + ((((List.length zc)) : Nat) : Int)))) (zeroI (Go.Den.Ty.int .u8))) (0 : Int)) with | none => none | some y0 => (match (idx (List.replicate (Int.toNat (IntKind.wrap .i64 ((4 : Int) + ((((List.length zc)) : Nat) : Int)))) (zeroI (Go.Den.Ty.int .u8))) (0 : Int)) with | none => none | some y1 => (match (idx (List.set (List.replicate (Int.toNat (IntKind.wrap .i64 ((4 : Int) + ((((List.length zc)) : Nat) : Int)))) (zeroI (Go.Den.Ty.int .u8))) (Int.toNat (0 : Int)) (156 : Int)) (1 : Int)) with | none => none | some y2 => (match (idx (List.set (List.replicate (Int.toNat (IntKind.wrap .i64 ((4 : Int) + ((((List.length zc)) : Nat) : Int)))) (zeroI (Go.Den.Ty.int .u8))) (Int.toNat (0 : Int)) (156 : Int)) (1 : Int)) with | none => none | some y3 => (match (idx (List.set (List.set (List.replicate (Int.toNat (IntKind.wrap .i64 ((4 : Int) + ((((List.length zc)) : Nat) : Int)))) (zeroI (Go.Den.Ty.int .u8))) (Int.toNat (0 : Int)) (156 : Int)) (Int.toNat (1 : Int)) (IntKind.wrap .u8 gen)) (2 : Int)) with | none => none | some y4 => (match (idx (List.set (List.set (List.replicate (Int.toNat (IntKind.wrap .i64 ((4 : Int) + ((((List.length zc)) : Nat) : Int)))) (zeroI (Go.Den.Ty.int .u8))) (Int.toNat (0 : Int)) (156 : Int)) (Int.toNat (1 : Int)) (IntKind.wrap .u8 gen)) (2 : Int)) with | none => none | some y5 => (match (idx (List.set (List.set (List.set (List.replicate (Int.toNat (IntKind.wrap .i64 ((4 : Int) + ((((List.length zc)) : Nat) : Int)))) (zeroI (Go.Den.Ty.int .u8))) (Int.toNat (0 : Int)) (156 : Int)) (Int.toNat (1 : Int)) (IntKind.wrap .u8 gen)) (Int.toNat (2 : Int)) (IntKind.wrap .u8 (Int.fdiv ((((List.length zc)) : Nat) : Int) ((2 : Int) ^ (Min.min (Int.toNat (8 : Int)) (IntKind.bits .i64)))))) (3 : Int)) with | none => none | some y6 => (match (idx (List.set (List.set (List.set (List.replicate (Int.toNat (IntKind.wrap .i64 ((4 : Int) + ((((List.length zc)) : Nat) : Int)))) (zeroI (Go.Den.Ty.int .u8))) (Int.toNat (0 : Int)) (156 : Int)) (Int.toNat (1 : Int)) (IntKind.wrap .u8 gen)) (Int.toNat (2 : Int)) (IntKind.wrap .u8 (Int.fdiv ((((List.length zc)) : Nat) : Int) ((2 : Int) ^ (Min.min (Int.toNat (8 : Int)) (IntKind.bits .i64)))))) (3 : Int)) with | none => none | some y7 => (if (((0 : Int) ≤ (4 : Int)) ∧ ((4 : Int) ≤ ((((List.length (List.set (List.set (List.set (List.set (List.replicate (Int.toNat (IntKind.wrap .i64 ((4 : Int) + ((((List.length zc)) : Nat) : Int)))) (zeroI (Go.Den.Ty.int .u8))) (Int.toNat (0 : Int)) (156 : Int)) (Int.toNat (1 : Int)) (IntKind.wrap .u8 gen)) (Int.toNat (2 : Int)) (IntKind.wrap .u8 (Int.fdiv ((((List.length zc)) : Nat) : Int) ((2 : Int) ^ (Min.min (Int.toNat (8 : Int)) (IntKind.bits .i64)))))) (Int.toNat (3 : Int)) (IntKind.wrap .u8 ((((List.length zc)) : Nat) : Int))))) : Nat) : Int))) then (if ((((Int.toNat (4 : Int)) + (List.length zc)) ≤ (List.length (List.set (List.set (List.set (List.set (List.replicate (Int.toNat (IntKind.wrap .i64 ((4 : Int) + ((((List.length zc)) : Nat) : Int)))) (zeroI (Go.Den.Ty.int .u8))) (Int.toNat (0 : Int)) (156 : Int)) (Int.toNat (1 : Int)) (IntKind.wrap .u8 gen)) (Int.toNat (2 : Int)) (IntKind.wrap .u8 (Int.fdiv ((((List.length zc)) : Nat) : Int) ((2 : Int) ^ (Min.min (Int.toNat (8 : Int)) (IntKind.bits .i64)))))) (Int.toNat (3 : Int)) (IntKind.wrap .u8 ((((List.length zc)) : Nat) : Int))))) ∧ ((List.length (List.set (List.set (List.set (List.set (List.replicate (Int.toNat (IntKind.wrap .i64 ((4 : Int) + ((((List.length zc)) : Nat) : Int)))) (zeroI (Go.Den.Ty.int .u8))) (Int.toNat (0 : Int)) (156 : Int)) (Int.toNat (1 : Int)) (IntKind.wrap .u8 gen)) (Int.toNat (2 : Int)) (IntKind.wrap .u8 (Int.fdiv ((((List.length zc)) : Nat) : Int) ((2 : Int) ^ (Min.min (Int.toNat (8 : Int)) (IntKind.bits .i64)))))) (Int.toNat (3 : Int)) (IntKind.wrap .u8 ((((List.length zc)) : Nat) : Int)))) ≤ (List.length (List.set (List.set (List.set (List.set (List.replicate (Int.toNat (IntKind.wrap .i64 ((4 : Int) + ((((List.length zc)) : Nat) : Int)))) (zeroI (Go.Den.Ty.int .u8))) (Int.toNat (0 : Int)) (156 : Int)) (Int.toNat (1 : Int)) (IntKind.wrap .u8 gen)) (Int.toNat (2 : Int)) (IntKind.wrap .u8 (Int.fdiv ((((List.length zc)) : Nat) : Int) ((2 : Int) ^ (Min.min (Int.toNat (8 : Int)) (IntKind.bits .i64)))))) (Int.toNat (3 : Int)) (IntKind.wrap .u8 ((((List.length zc)) : Nat) : Int)))))) then (match (veil (zX.f BIG ((((List.take (Int.toNat (4 : Int)) (List.set (List.set (List.set (List.set (List.replicate (Int.toNat (IntKind.wrap .i64 ((4 : Int) + ((((List.length zc)) : Nat) : Int)))) (zeroI (Go.Den.Ty.int .u8))) (Int.toNat (0 : Int)) (156 : Int)) (Int.toNat (1 : Int)) (IntKind.wrap .u8 gen)) (Int.toNat (2 : Int)) (IntKind.wrap .u8 (Int.fdiv ((((List.length zc)) : Nat) : Int) ((2 : Int) ^ (Min.min (Int.toNat (8 : Int)) (IntKind.bits .i64)))))) (Int.toNat (3 : Int)) (IntKind.wrap .u8 ((((List.length zc)) : Nat) : Int)))) ++ zc) ++ (List.drop ((Int.toNat (4 : Int)) + (List.length zc)) (List.set (List.set (List.set (List.set (List.replicate (Int.toNat (IntKind.wrap .i64 ((4 : Int) + ((((List.length zc)) : Nat) : Int)))) (zeroI (Go.Den.Ty.int .u8))) (Int.toNat (0 : Int)) (156 : Int)) (Int.toNat (1 : Int)) (IntKind.wrap .u8 gen)) (Int.toNat (2 : Int)) (IntKind.wrap .u8 (Int.fdiv ((((List.length zc)) : Nat) : Int) ((2 : Int) ^ (Min.min (Int.toNat (8 : Int)) (IntKind.bits .i64)))))) (Int.toNat (3 : Int)) (IntKind.wrap .u8 ((((List.length zc)) : Nat) : Int))))) :: ([] : List (List Int))))) with | none => none | some y8 => (if ((((List.length (((List.take (Int.toNat (4 : Int)) (List.set (List.set (List.set (List.set (List.replicate (Int.toNat (IntKind.wrap .i64 ((4 : Int) + ((((List.length zc)) : Nat) : Int)))) (zeroI (Go.Den.Ty.int .u8))) (Int.toNat (0 : Int)) (156 : Int)) (Int.toNat (1 : Int)) (IntKind.wrap .u8 gen)) (Int.toNat (2 : Int)) (IntKind.wrap .u8 (Int.fdiv ((((List.length zc)) : Nat) : Int) ((2 : Int) ^ (Min.min (Int.toNat (8 : Int)) (IntKind.bits .i64)))))) (Int.toNat (3 : Int)) (IntKind.wrap .u8 ((((List.length zc)) : Nat) : Int)))) ++ zc) ++ (List.drop ((Int.toNat (4 : Int)) + (List.length zc)) (List.set (List.set (List.set (List.set (List.replicate (Int.toNat (IntKind.wrap .i64 ((4 : Int) + ((((List.length zc)) : Nat) : Int)))) (zeroI (Go.Den.Ty.int .u8))) (Int.toNat (0 : Int)) (156 : Int)) (Int.toNat (1 : Int)) (IntKind.wrap .u8 gen)) (Int.toNat (2 : Int)) (IntKind.wrap .u8 (Int.fdiv ((((List.length zc)) : Nat) : Int) ((2 : Int) ^ (Min.min (Int.toNat (8 : Int)) (IntKind.bits .i64)))))) (Int.toNat (3 : Int)) (IntKind.wrap .u8 ((((List.length zc)) : Nat) : Int)))))) + (List.length ((IntKind.wrap .u8 (Int.fdiv y8 ((2 : Int) ^ (Min.min (Int.toNat (24 : Int)) (IntKind.bits .u32))))) :: ((IntKind.wrap .u8 (Int.fdiv y8 ((2 : Int) ^ (Min.min (Int.toNat (16 : Int)) (IntKind.bits .u32))))) :: ((IntKind.wrap .u8 (Int.fdiv y8 ((2 : Int) ^ (Min.min (Int.toNat (8 : Int)) (IntKind.bits .u32))))) :: ((IntKind.wrap .u8 y8) :: ([] : List Int))))))) * (1 : Nat)) ≤ lim) then some (((((List.take (Int.toNat (4 : Int)) (List.set (List.set (List.set (List.set (List.replicate (Int.toNat (IntKind.wrap .i64 ((4 : Int) + ((((List.length zc)) : Nat) : Int)))) (zeroI (Go.Den.Ty.int .u8))) (Int.toNat (0 : Int)) (156 : Int)) (Int.toNat (1 : Int)) (IntKind.wrap .u8 gen)) (Int.toNat (2 : Int)) (IntKind.wrap .u8 (Int.fdiv ((((List.length zc)) : Nat) : Int) ((2 : Int) ^ (Min.min (Int.toNat (8 : Int)) (IntKind.bits .i64)))))) (Int.toNat (3 : Int)) (IntKind.wrap .u8 ((((List.length zc)) : Nat) : Int)))) ++ zc) ++ (List.drop ((Int.toNat (4 : Int)) + (List.length zc)) (List.set (List.set (List.set (List.set (List.replicate (Int.toNat (IntKind.wrap .i64 ((4 : Int) + ((((List.length zc)) : Nat) : Int)))) (zeroI (Go.Den.Ty.int .u8))) (Int.toNat (0 : Int)) (156 : Int)) (Int.toNat (1 : Int)) (IntKind.wrap .u8 gen)) (Int.toNat (2 : Int)) (IntKind.wrap .u8 (Int.fdiv ((((List.length zc)) : Nat) : Int) ((2 : Int) ^ (Min.min (Int.toNat (8 : Int)) (IntKind.bits .i64)))))) (Int.toNat (3 : Int)) (IntKind.wrap .u8 ((((List.length zc)) : Nat) : Int))))) ++ ((IntKind.wrap .u8 (Int.fdiv y8 ((2 : Int) ^ (Min.min (Int.toNat (24 : Int)) (IntKind.bits .u32))))) :: ((IntKind.wrap .u8 (Int.fdiv y8 ((2 : Int) ^ (Min.min (Int.toNat (16 : Int)) (IntKind.bits .u32))))) :: ((IntKind.wrap .u8 (Int.fdiv y8 ((2 : Int) ^ (Min.min (Int.toNat (8 : Int)) (IntKind.bits .u32))))) :: ((IntKind.wrap .u8 y8) :: ([] : List Int)))))), (0 : Int)) else none)) else none) else none))))))))) else none))))
def Q1.f (qa : Nat) (gen : Int) (zc : List Int) : Option ((List Int) × Int) := Q1.b gen zc
theorem Q1.eq (qa : Nat) (gen : Int) (zc : List Int) : (denF qix loopN qa Tryz.f30 [.dat (.sl (.int .u8)) false, .raw] [.d tQi gen, .d (.sl (.int .u8)) zc] [] Q1.k) = Q1.f qa gen zc := by
 kernel_rfl
def qbw : Den.Sum := ⟨[.raw, .dat (.sl (.int .u8)) false], fun qK qm κ => match qK, qm with
 | [.d (.int .i64) gen, .d (.sl (.int .u8)) zc], [] => (match veil (Q1.f BIG gen zc) with | none => none | some y => κ [.d (.sl (.int .u8)) y.1, .d (.int .i64) y.2] [])
 | _, _ => none⟩
theorem qjN : SumDet qbw := zj fun _ _ _ _ => by
 unfold qbw
 simp only [veil_eq]
 split
 ·split <;> rfl
 ·rfl
theorem qkA : SumOk Tryz.prog 30 qbw := by
 have hE : EnvOk Tryz.prog qix := env_ok (l := [(50, qcr)]) th_ok qZ ⟨⟨qjl, qio⟩, trivial⟩ _
 refine sum_ok hE Tryz.func30 rfl (by kernel_rfl) qbw [.dat (.sl (.int .u8)) false, .raw] Q1.k ?_
 intro R avs qm κ r h
 unfold qbw at h
 simp only [veil_eq] at h
 split at h
 ·rename_i gen zc
  split at h
  ·cases h
  ·rename_i y hy
   refine ⟨BIG, _, _, _, (Q1.eq BIG gen zc).trans hy, ?_, h⟩
   intro rs ros hk
   unfold Q1.k at hk
   split at hk
   ·rw [← sj hk]; exact ⟨rfl, rfl⟩
   ·cases hk
 ·cases h
def qiy : Env := ⟨th, gam [(50, qcr), (51, qaR), (52, Zf), (53, qcC)], fun i => ⟨[], [], []⟩⟩
def QA.k (rs : List AV) (os : List Den.Obj) : Option (Int × (List Int) × Int) :=
 match rs, os with
 | [.d (.int .i64) r0, .d (.sl (.int .u8)) r1, .d (.int .i64) r2], [] => some (r0, r1, r2)
 | _, _ => none
def QA.b (b : List Int) : Option (Int × (List Int) × Int) :=
 (if (decide (((((List.length b)) : Nat) : Int) > (65507 : Int))) then some ((0 : Int), ([] : List Int), (3 : Int)) else (if (decide (((((List.length b)) : Nat) : Int) < (8 : Int))) then some ((0 : Int), ([] : List Int), (2 : Int)) else (if (inB b) then (if (zt b 0) then (match (veil (Option.some (qz b (1 : Int) 0 false))) with | none => none | some y0 => (if (zt b y0.2.1) then (match (veil (Option.some (qz b (1 : Int) y0.2.1 y0.2.2))) with | none => none | some y1 => (if (zt b y1.2.1) then (match (veil (Option.some (qz b (2 : Int) y1.2.1 y1.2.2))) with | none => none | some y2 => (if (y0.1 != (156 : Int)) then some ((0 : Int), ([] : List Int), (4 : Int)) else (if (decide (y1.1 < (1 : Int))) then some ((0 : Int), ([] : List Int), (4 : Int)) else (if (decide (y1.1 > (3 : Int))) then some ((0 : Int), ([] : List Int), (4 : Int)) else (if (y2.1 != (IntKind.wrap .i64 (((((List.length b)) : Nat) : Int) - (8 : Int)))) then some ((0 : Int), ([] : List Int), (4 : Int)) else (if (zt b y2.2.1) then (match (veil (Option.some (zf b y2.1 y2.2.1 y2.2.2))) with | none => none | some y3 => (if (zt b y3.2.2.1) then (match (veil (Option.some (qz b (4 : Int) y3.2.2.1 y3.2.2.2))) with | none => none | some y4 => (if (((0 : Int) ≤ (IntKind.wrap .i64 (((((List.length b)) : Nat) : Int) - (4 : Int)))) ∧ ((IntKind.wrap .i64 (((((List.length b)) : Nat) : Int) - (4 : Int))) ≤ ((((List.length b)) : Nat) : Int))) then (match (veil (zX.f BIG ((List.drop (0 : Nat) (List.take (Int.toNat (IntKind.wrap .i64 (((((List.length b)) : Nat) : Int) - (4 : Int)))) b)) :: ([] : List (List Int))))) with | none => none | some y5 => (if ((IntKind.wrap .u32 y4.1) != y5) then some ((0 : Int), ([] : List Int), (8 : Int)) else some (y1.1, y3.1, (0 : Int)))) else none)) else none)) else none)))))) else none)) else none)) else none) else none)))
def QA.f (qa : Nat) (b : List Int) : Option (Int × (List Int) × Int) := QA.b b
theorem QA.eq (qa : Nat) (b : List Int) : (denF qiy loopN qa Tryz.f31 [.raw, .dat (.sl (.int .u8)) false, .raw] [.d (.sl (.int .u8)) b] [] QA.k) = QA.f qa b := by
 kernel_rfl
def qbx : Den.Sum := ⟨[.dat (.sl (.int .u8)) false], fun qK qm κ => match qK, qm with
 | [.d (.sl (.int .u8)) b], [] => (match veil (QA.f BIG b) with | none => none | some y => κ [.d (.int .i64) y.1, .d (.sl (.int .u8)) y.2.1, .d (.int .i64) y.2.2] [])
 | _, _ => none⟩
theorem qjO : SumDet qbx := zj fun _ _ _ _ => by
 unfold qbx
 simp only [veil_eq]
 split
 ·split <;> rfl
 ·rfl
theorem qkB : SumOk Tryz.prog 31 qbx := by
 have hE : EnvOk Tryz.prog qiy := env_ok (l := [(50, qcr), (51, qaR), (52, Zf), (53, qcC)]) th_ok qZ ⟨⟨qjl, qio⟩, ⟨qdU, qdc⟩, ⟨qbc, qaK⟩, ⟨qhd, qgm⟩, trivial⟩ _
 refine sum_ok hE Tryz.func31 rfl (by kernel_rfl) qbx [.raw, .dat (.sl (.int .u8)) false, .raw] QA.k ?_
 intro R avs qm κ r h
 unfold qbx at h
 simp only [veil_eq] at h
 split at h
 ·rename_i b
  split at h
  ·cases h
  ·rename_i y hy
   refine ⟨BIG, _, _, _, (QA.eq BIG b).trans hy, ?_, h⟩
   intro rs ros hk
   unfold QA.k at hk
   split at hk
   ·rw [← sj hk]; exact ⟨rfl, rfl⟩
   ·cases hk
 ·cases h
def qar (gen : Int) (zc : List Int) : List Int := 156 :: gen :: ((zc.length / 256 : Nat) : Int) :: ((zc.length % 256 : Nat) : Int) :: zc
def qg8 (s : Nat) : List Int := [((s / 16777216 : Nat) : Int), ((s / 65536 % 256 : Nat) : Int), ((s / 256 % 256 : Nat) : Int), ((s % 256 : Nat) : Int)]
def qbE (gen : Int) (zc : List Int) : List Int := qar gen zc ++ qg8 (qgz (qar gen zc))
def qki (gen : Int) (zc : List Int) : List Int × Int := if gen < 1 ∨ gen > 3 then ([], 5) else if zc.length > 65499 then ([], 3) else (qbE gen zc, 0)
theorem qgw {gen : Int} {zc : List Int} (h1 : 1 ≤ gen) (h3 : gen ≤ 3) (hb : isB zc) (hl : zc.length ≤ 65499) : isB (qar gen zc) := by
 unfold qar
 exact Z4 (by omega) (by omega) (Z4 (by omega) (by omega) (Z4 (by omega) (by omega) (Z4 (by omega) (by omega) hb)))
theorem qoL (s : Nat) (h : s < 4294967296) : isB (qg8 s) := by
 unfold qg8
 exact Z4 (by omega) (by omega) (Z4 (by omega) (by omega) (Z4 (by omega) (by omega) (Z4 (by omega) (by omega) qaA)))
theorem qg9 {gen : Int} {zc : List Int} (h1 : 1 ≤ gen) (h3 : gen ≤ 3) (hb : isB zc) (hl : zc.length ≤ 65499) : isB (qbE gen zc) :=
 qaG (qgw h1 h3 hb hl) (qoL _ (qlN _))
theorem fd (s k : Nat) (p : Int) (hp : p = (k : Int)) (hk : 0 < k) : IntKind.wrap .u8 (Int.fdiv (s : Int) p) = ((s / k % 256 : Nat) : Int) := by
 subst hp
 rw [Int.fdiv_eq_ediv_of_nonneg _ (by omega), qiR]
 omega
theorem qsV (n : Nat) (hn : n ≤ 65499) : List.replicate (Int.toNat (IntKind.wrap .i64 (4 + ((n : Nat) : Int)))) (zeroI (Go.Den.Ty.int .u8)) = (0 : Int) :: (0 : Int) :: (0 : Int) :: (0 : Int) :: List.replicate n (0 : Int) := by
 rw [qX _ (by omega) (by omega)]
 have : Int.toNat (4 + ((n : Nat) : Int)) = n + 1 + 1 + 1 + 1 := by omega
 rw [this]
 rfl
theorem Q1.pure (gen : Int) (zc : List Int) (hb : isB zc) : Q1.f BIG gen zc = some (qki gen zc) := by
 unfold Q1.f Q1.b qki
 by_cases h1 : gen < 1
 ·rw [if_pos (by simp [h1]), if_pos (.inl h1)]
 rw [if_neg (by simp [h1])]
 by_cases h3 : gen > 3
 ·rw [if_pos (by simp [h3]), if_pos (.inr h3)]
 have hg : ¬ (gen < 1 ∨ gen > 3) := by omega
 rw [if_neg (by simp [h3]), if_neg hg]
 by_cases hl : zc.length > 65499
 ·rw [if_pos hl, if_pos (by simp; omega)]
 rw [if_neg hl, if_neg (by simp; omega)]
 have hn : zc.length ≤ 65499 := by omega
 rw [if_pos (by rw [qX _ (by omega) (by omega), qX _ (by omega) (by omega)]; omega), qsV _ hn]
 generalize hR : List.replicate zc.length (0 : Int) = R
 have hRl : R.length = zc.length := by rw [← hR]; simp
 have i0 : ∀ a b c d : Int, idx (a :: b :: c :: d :: R) 0 = some a := fun _ _ _ _ => rfl
 have i1 : ∀ a b c d : Int, idx (a :: b :: c :: d :: R) 1 = some b := fun _ _ _ _ => rfl
 have i2 : ∀ a b c d : Int, idx (a :: b :: c :: d :: R) 2 = some c := fun _ _ _ _ => rfl
 have i3 : ∀ a b c d : Int, idx (a :: b :: c :: d :: R) 3 = some d := fun _ _ _ _ => rfl
 have s0 : ∀ a b c d x : Int, List.set (a :: b :: c :: d :: R) (Int.toNat 0) x = x :: b :: c :: d :: R := fun _ _ _ _ _ => rfl
 have s1 : ∀ a b c d x : Int, List.set (a :: b :: c :: d :: R) (Int.toNat 1) x = a :: x :: c :: d :: R := fun _ _ _ _ _ => rfl
 have s2 : ∀ a b c d x : Int, List.set (a :: b :: c :: d :: R) (Int.toNat 2) x = a :: b :: x :: d :: R := fun _ _ _ _ _ => rfl
 have s3 : ∀ a b c d x : Int, List.set (a :: b :: c :: d :: R) (Int.toNat 3) x = a :: b :: c :: x :: R := fun _ _ _ _ _ => rfl
 have t4 : ∀ a b c d : Int, List.take (Int.toNat 4) (a :: b :: c :: d :: R) = [a, b, c, d] := fun _ _ _ _ => rfl
 have d4 : ∀ a b c d : Int, List.drop (Int.toNat 4 + zc.length) (a :: b :: c :: d :: R) = [] := by
  intro a b c d
  rw [List.drop_eq_nil_iff]
  have : Int.toNat 4 = 4 := rfl
  simp [hRl, this]; omega
 simp only [i0, i1, i2, i3, s0, s1, s2, s3, t4, d4]
 rw [if_pos (by simp <;> omega), if_pos (by have : Int.toNat 4 = 4 := rfl; simp [hRl, this] <;> omega)]
 have g1 : IntKind.wrap .u8 gen = gen := by rw [qiR]; omega
 have g2 : IntKind.wrap .u8 (Int.fdiv ((zc.length : Nat) : Int) (2 ^ (Min.min (Int.toNat 8) (IntKind.bits .i64)))) = ((zc.length / 256 : Nat) : Int) := by
  have e8 : (2 : Int) ^ (Min.min (Int.toNat 8) (IntKind.bits .i64)) = ((256 : Nat) : Int) := rfl
  rw [e8, fd zc.length 256 _ rfl (by omega)]; omega
 have g3 : IntKind.wrap .u8 ((zc.length : Nat) : Int) = ((zc.length % 256 : Nat) : Int) := by rw [qiR]; omega
 rw [g1, g2, g3]
 have ef : [156, gen, ((zc.length / 256 : Nat) : Int), ((zc.length % 256 : Nat) : Int)] ++ zc ++ [] = qar gen zc := by simp [qar]
 rw [ef, zX.pure _ (qgw (by omega) (by omega) hb hn) (by simp [qar]; omega)]
 simp only [veil_eq]
 have e24 : (2 : Int) ^ (Min.min (Int.toNat 24) (IntKind.bits .u32)) = ((16777216 : Nat) : Int) := rfl
 have e16 : (2 : Int) ^ (Min.min (Int.toNat 16) (IntKind.bits .u32)) = ((65536 : Nat) : Int) := rfl
 have e8 : (2 : Int) ^ (Min.min (Int.toNat 8) (IntKind.bits .u32)) = ((256 : Nat) : Int) := rfl
 rw [e24, e16, e8, fd _ 16777216 _ rfl (by omega), fd _ 65536 _ rfl (by omega), fd _ 256 _ rfl (by omega)]
 have g4 : IntKind.wrap .u8 ((qgz (qar gen zc) : Nat) : Int) = ((qgz (qar gen zc) % 256 : Nat) : Int) := by rw [qiR]; omega
 have g5 : qgz (qar gen zc) / 16777216 % 256 = qgz (qar gen zc) / 16777216 := by have := qlN (qar gen zc); omega
 rw [g4, g5, if_pos (by unfold lim; simp [qar]; omega)]
 rfl
theorem qqr {l : List Int} (h : isB l) (hl : l.length ≤ 1000000) : inB l = true := by
 unfold inB
 rw [Bool.and_eq_true, List.all_eq_true]
 refine ⟨by unfold Zh; simp; omega, fun c hc => ?_⟩
 have := h c hc
 simp
 omega
theorem qln (l : List Int) (n a : Nat) (h : a + n ≤ l.length) : zf l (n : Int) (a : Int) false = ((l.take (a + n)).drop a, true, ((a + n : Nat) : Int), false) := by
 unfold zf
 rw [if_neg (by simp), if_neg (by simp; omega)]
 unfold seg
 have e1 : ((a : Int) + (n : Int)).toNat = a + n := by omega
 rw [e1, Int.toNat_natCast]
 simp
theorem qdZ (l : List Int) (n a : Nat) (h1 : 1 ≤ n) (h7 : n ≤ 7) (h : a + n ≤ l.length) : qz l (n : Int) (a : Int) false = (Q5 ((l.take (a + n)).drop a), ((a + n : Nat) : Int), false) := by
 unfold qz
 have e : (if (decide ((n : Int) < 1) || decide ((n : Int) > 7)) = true then (-1 : Int) else (n : Int)) = (n : Int) := if_neg (by simp; omega)
 dsimp only
 rw [e, qln l n a h]
 rfl
theorem qri (s : Nat) (h : s < 4294967296) : Q5 (qg8 s) = (s : Int) := by
 show (((0 * 256 + ((s / 16777216 : Nat) : Int)) * 256 + ((s / 65536 % 256 : Nat) : Int)) * 256 + ((s / 256 % 256 : Nat) : Int)) * 256 + ((s % 256 : Nat) : Int) = (s : Int)
 omega
theorem qqh (gen : Int) (zc : List Int) (h1 : 1 ≤ gen) (h3 : gen ≤ 3) (hb : isB zc) (hl : zc.length ≤ 65499) : QA.f BIG (qbE gen zc) = some (gen, zc, 0) := by
 generalize hs : qgz (qar gen zc) = s
 have hsl : s < 4294967296 := by rw [← hs]; exact qlN _
 have hin := qqr (qg9 h1 h3 hb hl) (by unfold qbE qar qg8; simp; omega)
 have hS : qbE gen zc = 156 :: gen :: ((zc.length / 256 : Nat) : Int) :: ((zc.length % 256 : Nat) : Int) :: (zc ++ qg8 s) := by unfold qbE; rw [hs]; rfl
 have hlen : (qbE gen zc).length = zc.length + 8 := by rw [hS]; simp [qg8]
 have hfr : (qbE gen zc).take (zc.length + 4) = qar gen zc := by rw [hS]; unfold qar; simp
 generalize hL : qbE gen zc = L at *
 have hat : ∀ a : Nat, a ≤ zc.length + 8 → zt L (a : Int) = true := by
  intro a h1
  unfold zt
  rw [hin, hlen]
  simp
  omega
 have r0 := qdZ L 1 0 (by omega) (by omega) (by omega)
 have r1 := qdZ L 1 1 (by omega) (by omega) (by omega)
 have r2 := qdZ L 2 2 (by omega) (by omega) (by omega)
 have r3 := qln L zc.length 4 (by omega)
 have r4 := qdZ L 4 (4 + zc.length) (by omega) (by omega) (by omega)
 have p0 : Q5 ((L.take (0 + 1)).drop 0) = 156 := by rw [hS]; rfl
 have p1 : Q5 ((L.take (1 + 1)).drop 1) = gen := by
  rw [hS]
  show 0 * 256 + gen = gen
  omega
 have p2 : Q5 ((L.take (2 + 2)).drop 2) = (zc.length : Int) := by
  rw [hS]
  show (0 * 256 + ((zc.length / 256 : Nat) : Int)) * 256 + ((zc.length % 256 : Nat) : Int) = (zc.length : Int)
  omega
 have p3 : (L.take (4 + zc.length)).drop 4 = zc := by
  rw [hS, Nat.add_comm 4]
  simp
 have p4 : Q5 ((L.take (4 + zc.length + 4)).drop (4 + zc.length)) = (s : Int) := by
  have e : (L.take (4 + zc.length + 4)).drop (4 + zc.length) = qg8 s := by
   rw [List.take_of_length_le (by omega), hS, Nat.add_comm 4]
   simp
  rw [e, qri s hsl]
 rw [p0] at r0
 rw [p1] at r1
 rw [p2] at r2
 rw [p3] at r3
 rw [p4] at r4
 simp only [show ((0 : Nat) : Int) = 0 from rfl, show ((1 : Nat) : Int) = 1 from rfl, show ((2 : Nat) : Int) = 2 from rfl, show ((4 : Nat) : Int) = 4 from rfl, show ((0 + 1 : Nat) : Int) = 1 from rfl, show ((1 + 1 : Nat) : Int) = 2 from rfl, show ((2 + 2 : Nat) : Int) = 4 from rfl] at r0 r1 r2 r3 r4
 have a0 := hat 0 (by omega)
 have a1 := hat 1 (by omega)
 have a2 := hat 2 (by omega)
 have a4 := hat 4 (by omega)
 have a5 := hat (4 + zc.length) (by omega)
 simp only [show ((0 : Nat) : Int) = 0 from rfl, show ((1 : Nat) : Int) = 1 from rfl, show ((2 : Nat) : Int) = 2 from rfl, show ((4 : Nat) : Int) = 4 from rfl] at a0 a1 a2 a4 a5
 unfold QA.f QA.b
 rw [if_neg (by rw [hlen]; simp; omega), if_neg (by rw [hlen]; simp; omega), if_pos hin, if_pos a0]
 simp only [veil_eq, r0]
 rw [if_pos a1]
 simp only [veil_eq, r1]
 rw [if_pos a2]
 simp only [veil_eq, r2]
 have w8 : IntKind.wrap .i64 (((L.length : Nat) : Int) - 8) = (zc.length : Int) := by rw [hlen, qX _ (by omega) (by omega)]; omega
 have w4 : IntKind.wrap .i64 (((L.length : Nat) : Int) - 4) = ((zc.length + 4 : Nat) : Int) := by rw [hlen, qX _ (by omega) (by omega)]; omega
 rw [if_neg (by simp), if_neg (by simp; omega), if_neg (by simp; omega), w8, if_neg (by simp), if_pos a4]
 simp only [veil_eq, r3]
 rw [if_pos a5]
 simp only [veil_eq, r4]
 rw [w4, if_pos (by rw [hlen]; omega), Int.toNat_natCast, hfr, List.drop_zero, zX.pure _ (qgw h1 h3 hb hl) (by unfold qar; simp; omega)]
 simp only [veil_eq]
 rw [hs, qlm s hsl, if_neg (by simp)]
theorem qfu (qa : Nat) (bs : List Int) (a0 : Int) (bad0 wr0 : Bool) (k : Nat) (n i : Int) (wr : Bool) (a : Int) (bad : Bool) (out : LF) (h : wr = true ∨ n ≤ i) :
  qS.l4 qa bs a0 bad0 wr0 (k + 1) n i wr bs a bad out = some (wr, bs, a, bad, out) := by
 rw [qS.l4]
 unfold qS.b4
 by_cases hi : i < n
 ·rw [if_pos (by simpa using hi)]
  rcases h with rfl | h
  ·rfl
  ·omega
 ·rw [if_neg (by simpa using hi)]
theorem ql1 (l : List Int) (n a : Int) : zf l n a true = ([], false, a, true) := rfl
theorem qoO (l : List Int) (a : Nat) (h : a ≤ l.length) : zf l 0 (a : Int) false = ([], true, (a : Int), false) := by
 unfold zf
 rw [if_neg (by simp), if_neg (by simp; omega)]
 unfold seg
 simp
theorem qq1 (l : List Int) (n : Int) (a : Nat) (h0 : 0 ≤ n) (h : a + n.toNat ≤ l.length) : zf l n (a : Int) false = ((l.drop a).take n.toNat, true, ((a + n.toNat : Nat) : Int), false) := by
 unfold zf
 rw [if_neg (by simp), if_neg (by simp; omega)]
 unfold seg
 rw [show ((a : Int) + n).toNat = a + n.toNat from by omega, Int.toNat_natCast, show ((a : Int) + n) = ((a + n.toNat : Nat) : Int) from by omega]
 congr 1
 rw [List.drop_take]
 congr 1
 omega
theorem qpS (l : List Int) (n : Int) (a : Nat) (h0 : 0 ≤ n) (h : l.length < a + n.toNat) : zf l n (a : Int) false = ([], false, (a : Int), true) := by
 unfold zf
 rw [if_neg (by simp), if_pos (by simp; omega)]
theorem qn2 (qa : Nat) (bs : List Int) (hb : inB bs = true) (a0 : Int) (bad0 wr0 : Bool) (n : Nat) (hn : n ≤ 32) : ∀ (m k : Nat) (i a : Nat) (out : LF), i + m = n → m < k → a ≤ bs.length → out.length ≤ i →
  match qdG bs m a with
  | some (l, a2) => qS.l4 qa bs a0 bad0 wr0 k (n : Int) (i : Int) false bs (a : Int) false out = some (false, bs, (a2 : Int), false, out ++ l)
  | none => ∃ (a' : Nat) (bad' : Bool) (l : LF), qS.l4 qa bs a0 bad0 wr0 k (n : Int) (i : Int) false bs (a : Int) false out = some (true, bs, (a' : Int), bad', l) ∧ a' ≤ bs.length := by
 obtain ⟨hl, hc⟩ := (QX bs).1 hb
 intro m
 induction m with
 | zero =>
  intro k i a out hi hk ha ho
  obtain ⟨k, rfl⟩ : ∃ k', k = k' + 1 := ⟨k - 1, by omega⟩
  rw [qdG]
  dsimp only
  rw [qfu qa bs a0 bad0 wr0 k (n : Int) (i : Int) false (a : Int) false out (Or.inr (by omega)), List.append_nil]
 | succ m ih =>
  intro k i a out hi hk ha ho
  obtain ⟨k, rfl⟩ : ∃ k', k = k' + 2 := ⟨k - 2, by omega⟩
  have hend : ∀ (a' : Nat) (bad' : Bool) (l : LF), a' ≤ bs.length → ∃ (a'' : Nat) (bad'' : Bool) (l' : LF), qS.l4 qa bs a0 bad0 wr0 (k + 1) (n : Int) (IntKind.wrap .i64 ((i : Int) + 1)) true bs (a' : Int) bad' l = some (true, bs, (a'' : Int), bad'', l') ∧ a'' ≤ bs.length :=
   fun a' bad' l h => ⟨a', bad', l, qfu qa bs a0 bad0 wr0 k _ _ true _ _ _ (Or.inl rfl), h⟩
  have hw : IntKind.wrap .i64 ((i : Int) + 1) = ((i + 1 : Nat) : Int) := by rw [qX _ (by omega) (by omega)]; omega
  rw [show k + 2 = (k + 1) + 1 from rfl, qS.l4, qdG]
  unfold qS.b4
  simp only [veil_eq]
  rw [if_pos (c := decide ((i : Int) < (n : Int)) = true) (by simp; omega), if_pos (c := (!false) = true) rfl, if_pos (c := zt bs (a : Int) = true) ((zN _ _).2 ⟨hb, by omega, by omega⟩)]
  have hlim : ∀ x : Int × List Int, (out.length + ([x] : LF).length) * 32 ≤ lim := fun x => by simp [lim]; omega
  by_cases hlt : a < bs.length
  ·rw [qc2 bs a hlt]
   have hf : qgx bs a = match tk bs (a + 1) 4096 with
     | none => none
     | some (n, a2) => if a2 + n.toNat ≤ bs.length then some ((bs[a], (bs.drop a2).take n.toNat), a2 + n.toNat) else none := by
    unfold qgx
    rw [List.getElem?_eq_getElem hlt]
    all_goals rfl
   rw [hf]
   dsimp only
   generalize bs[a] = t at hf ⊢
   have hg := qd3 bs (a + 1) 4096 hb (by decide) (by decide) hlt
   cases ht : tk bs (a + 1) 4096 with
   | none =>
    rw [ht] at hg
    obtain ⟨a', bad, hg, h2⟩ := hg
    rw [hg]
    dsimp only
    rw [if_pos (c := zt bs (a' : Int) = true) ((zN _ _).2 ⟨hb, by omega, by omega⟩)]
    cases bad with
    | true =>
     rw [ql1]
     dsimp only
     rw [if_pos rfl, if_pos (hlim _)]
     exact hend a' true _ h2
    | false =>
     rw [qoO bs a' h2]
     dsimp only
     rw [if_neg (c := false = true) (by simp), if_pos (hlim _)]
     exact hend a' false _ h2
   | some p =>
    obtain ⟨w, a2⟩ := p
    rw [ht] at hg
    dsimp only at hg ⊢
    obtain ⟨e1, w0, w1, _, _, l1⟩ := qa2 hc ht
    rw [hg]
    dsimp only
    rw [if_pos (c := zt bs (a2 : Int) = true) ((zN _ _).2 ⟨hb, by omega, by omega⟩)]
    by_cases hin : a2 + w.toNat ≤ bs.length
    ·rw [qq1 bs w a2 w0 hin, if_pos hin]
     dsimp only
     rw [if_neg (c := false = true) (by simp), if_pos (hlim _), hw]
     have := ih (k + 1) (i + 1) (a2 + w.toNat) (out ++ [(t, (bs.drop a2).take w.toNat)]) (by omega) (by omega) hin (by simp; omega)
     cases hr : qdG bs m (a2 + w.toNat) with
     | none =>
      rw [hr] at this
      exact this
     | some q =>
      obtain ⟨l, a3⟩ := q
      rw [hr] at this
      dsimp only at this ⊢
      rw [this]
      simp
    ·rw [qpS bs w a2 w0 (by omega), if_neg hin]
     dsimp only
     rw [if_pos rfl, if_pos (hlim _)]
     exact hend a2 true _ l1
  ·have hf : qgx bs a = none := by
    unfold qgx
    rw [List.getElem?_eq_none (by omega)]
   rw [hf, qc3 bs a (by omega)]
   dsimp only
   rw [qnk bs a 4096 hb ha]
   dsimp only
   rw [if_pos (c := zt bs (a : Int) = true) ((zN _ _).2 ⟨hb, by omega, by omega⟩), ql1]
   dsimp only
   rw [if_pos rfl, if_pos (hlim _)]
   exact hend a true _ ha
theorem qiE (bs : List Int) (a : Int) (bad : Bool) : qS.f BIG bs a bad true = some (true, bs, a, bad, []) := by
 unfold qS.f qS.b
 simp only [veil_eq]
 rw [qhC]
 dsimp only
 rw [qaW]
 exact qfu _ bs a bad true _ _ _ true a bad [] (Or.inl rfl)
theorem qn3 (bs : List Int) (a : Nat) (hb : inB bs = true) (ha : a ≤ bs.length) :
  match qgA bs a with
  | some (l, a2) => qS.f BIG bs (a : Int) false false = some (false, bs, (a2 : Int), false, l)
  | none => ∃ (a' : Nat) (bad' : Bool) (l : LF), qS.f BIG bs (a : Int) false false = some (true, bs, (a' : Int), bad', l) ∧ a' ≤ bs.length := by
 obtain ⟨hl, hc⟩ := (QX bs).1 hb
 have hg := qd3 bs a 32 hb (by decide) (by decide) ha
 unfold qS.f qS.b qgA
 simp only [veil_eq]
 cases ht : tk bs a 32 with
 | none =>
  rw [ht] at hg
  obtain ⟨a', bad, hg, h2⟩ := hg
  rw [hg]
  dsimp only
  refine ⟨a', bad, [], ?_, h2⟩
  rw [qaW]
  exact qfu _ bs a false false _ _ _ true a' bad [] (Or.inl rfl)
 | some p =>
  obtain ⟨w, a2⟩ := p
  rw [ht] at hg
  dsimp only at hg ⊢
  obtain ⟨e1, w0, w1, _, _, l1⟩ := qa2 hc ht
  rw [hg]
  dsimp only
  have := qn2 BIG bs hb a false false w.toNat (by omega) w.toNat BIG 0 a2 [] (by omega) (by rw [Zw]; omega) l1 (by simp)
  rw [show ((w.toNat : Nat) : Int) = w from by omega] at this
  simpa using this
theorem qqx : (List.range 256).all (fun n => (bits BinOp.and .i64 (n : Int) 3 == (n : Int) % 4) && (((bits BinOp.and .i64 (n : Int) 4 != 0) == ((n : Int) / 4 % 2 == 1)) && (((bits BinOp.and .i64 (n : Int) 8 != 0) == ((n : Int) / 8 % 2 == 1)) && ((bits BinOp.and .i64 (n : Int) 16 != 0) == ((n : Int) / 16 % 2 == 1))))) = true := by kernel_rfl
theorem qjZ (v : Int) (h0 : 0 ≤ v) (h1 : v ≤ 255) : bits BinOp.and .i64 v 3 = v % 4 ∧ (bits BinOp.and .i64 v 4 != 0) = (v / 4 % 2 == 1) ∧ (bits BinOp.and .i64 v 8 != 0) = (v / 8 % 2 == 1) ∧ (bits BinOp.and .i64 v 16 != 0) = (v / 16 % 2 == 1) := by
 have := List.all_eq_true.1 qqx v.toNat (by simp; omega)
 rw [show ((v.toNat : Nat) : Int) = v from by omega] at this
 simp only [Bool.and_eq_true] at this
 obtain ⟨a, b, c, d⟩ := this
 exact ⟨by simpa using a, eq_of_beq b, eq_of_beq c, eq_of_beq d⟩
theorem qoF (a : Int) (h0 : 0 ≤ a) (h1 : a < 9223372036854775808) : bits BinOp.xor .i64 a 0 = a := by
 have e : bits BinOp.xor .i64 a 0 = IntKind.wrap .i64 ((BitVec.ofInt 64 a ^^^ 0#64).toNat : Int) := rfl
 rw [e, BitVec.xor_zero, BitVec.toNat_ofInt, qX]
 ·omega
 ·omega
 ·omega
theorem qoG (a : Int) (h0 : 0 ≤ a) (h1 : a < 9223372036854775808) : bits BinOp.xor .i64 a (-1) = -a - 1 := by
 have e : bits BinOp.xor .i64 a (-1) = IntKind.wrap .i64 ((BitVec.ofInt 64 a ^^^ BitVec.ofInt 64 (-1)).toNat : Int) := rfl
 rw [e, show BitVec.ofInt 64 (-1) = BitVec.allOnes 64 from by decide +kernel, BitVec.xor_allOnes, BitVec.toNat_not, BitVec.toNat_ofInt, IntKind.wrap_i64]
 omega
theorem qqK (z : Int) (h0 : 0 ≤ z) (h1 : z < 18446744073709551616) : bits BinOp.and .u64 z 1 = z % 2 := by
 obtain ⟨a, rfl⟩ := Int.eq_ofNat_of_zero_le h0
 have e : bits BinOp.and .u64 (a : Int) 1 = IntKind.wrap .u64 ((BitVec.ofInt 64 (a : Int) &&& 1#64).toNat : Int) := rfl
 rw [e, BitVec.toNat_and, BitVec.ofInt_natCast, BitVec.toNat_ofNat, Nat.mod_eq_of_lt (by omega), show (1#64 : BitVec 64).toNat = 1 from rfl, Nat.and_one_is_mod, qab _ (by omega) (by omega)]
 omega
theorem Zag.pure (z : Int) (h0 : 0 ≤ z) (h1 : z < 4611686018427387904) : Q6.f BIG z = some (qeF z) := by
 unfold Q6.f Q6.b qeF
 rw [show ((2 : Int) ^ (Min.min (Int.toNat (1 : Int)) (IntKind.bits .u64))) = 2 from rfl, Int.fdiv_eq_ediv_of_nonneg _ (by omega), qqK z h0 (by omega), qX (z / 2) (by omega) (by omega), qX (z % 2) (by omega) (by omega)]
 by_cases h : z % 2 = 0
 ·rw [if_pos h, h, show IntKind.wrap .i64 (0 - 0) = 0 from by decide, qoF _ (by omega) (by omega)]
 ·rw [if_neg h, show z % 2 = 1 from by omega, show IntKind.wrap .i64 (0 - 1) = -1 from by decide, qoG _ (by omega) (by omega)]
  congr 1
  omega
theorem qnX (bs : List Int) (a0 : Int) (bad0 wr0 : Bool) (qi : Int) (qb : LR) (v : Int) (ok : Bool) (a : Int) (bad : Bool) (id st lo hi : Int) (cut : Bool) (oid oinc ost olo ohi : Int) (ocut : Bool) (obag : LF) :
  ∃ inc bag, qE.l12 BIG bs a0 bad0 wr0 qi qb BIG v ok true bs a bad id st lo hi cut oid oinc ost olo ohi ocut obag = some (id, inc, st, lo, hi, cut, bag, true, bs, a, bad) := by
 rw [qE.l12_at BIG BIG (BIG - 1) qaW]
 unfold qE.b12
 simp only [veil_eq]
 rw [qhC]
 dsimp only
 obtain ⟨y, hy⟩ : ∃ y, Q6.f BIG (IntKind.wrap .u64 0) = some y := ⟨_, rfl⟩
 rw [hy]
 dsimp only
 cases cut with
 | true => exact ⟨_, _, rfl⟩
 | false =>
  rw [if_neg (c := false = true) (by simp)]
  split
  ·exact ⟨_, _, rfl⟩
  ·rw [qiE]
   exact ⟨_, _, rfl⟩
def qiM (bs : List Int) (o : Option (Int × Int × Int × Int × Int × Bool × LF × Bool × List Int × Int × Bool)) : Prop :=
 ∃ id inc st lo hi cut bag, ∃ (a' : Nat) (bad' : Bool), o = some (id, inc, st, lo, hi, cut, bag, true, bs, (a' : Int), bad') ∧ a' ≤ bs.length
theorem qe4 (bs : List Int) (a0 : Int) (bad0 wr0 : Bool) (qi : Int) (qb : LR) (v : Int) (ok : Bool) (a : Nat) (bad : Bool) (id st lo hi : Int) (cut : Bool) (oid oinc ost olo ohi : Int) (ocut : Bool) (obag : LF) (ha : a ≤ bs.length) :
  qiM bs (qE.l12 BIG bs a0 bad0 wr0 qi qb BIG v ok true bs (a : Int) bad id st lo hi cut oid oinc ost olo ohi ocut obag) := by
 obtain ⟨inc, bag, h⟩ := qnX bs a0 bad0 wr0 qi qb v ok a bad id st lo hi cut oid oinc ost olo ohi ocut obag
 exact ⟨id, inc, st, lo, hi, cut, bag, a, bad, h, ha⟩
theorem qgh {b : LF} (h1 : b.length ≤ 32) (h2 : ∀ x ∈ b, x.2.length ≤ 4096) : zx b = true := (qaQ _).2 ⟨by omega, fun x hx => by have := h2 x hx; omega⟩
theorem qme {qb : LR} (QC : ∀ x ∈ qb, zE x = true) (id : Int) : zx (zF qb id).1.2.2.2.2.2 = true := by
 rcases qjS (qb := qb) (id := id) with ⟨_, h⟩ | ⟨_, h, _⟩
 ·rw [h]; all_goals rfl
 ·have := zH (QC _ h)
  have hb2 := Zd this.2.2.2.2.2.2.2.1
  exact qgh hb2.1 (fun x hx => (qbD this.2.2.2.2.2.2.2.1 x hx).2.2)
theorem qpl (bs : List Int) (hb : inB bs = true) (a0 : Int) (bad0 wr0 : Bool) (qi : Int) (qb : LR) (QC : ∀ x ∈ qb, zE x = true) (id0 : Int) (v : Int) (v0 : 0 ≤ v) (hv : qbL (zF qb id0) v = false) (a : Nat) (ha : a ≤ bs.length) (id st lo hi oid ost olo ohi : Int) (ocut : Bool) :
  match (match tk bs a 562949953421310 with
   | none => none
   | some (z, a3) => match qev bs (zF qb id0) v a3 with
    | none => none
    | some (b, a4) => some ((zF qb id0).1.2.1 + qeF z, b, a4)) with
  | some (inc, b, a4) => qE.l12 BIG bs a0 bad0 wr0 qi qb BIG v (zF qb id0).2 false bs (a : Int) false id st lo hi (v / 4 % 2 == 1) oid (zF qb id0).1.2.1 ost olo ohi ocut (zF qb id0).1.2.2.2.2.2 = some (id, inc, st, lo, hi, (v / 4 % 2 == 1), b, false, bs, (a4 : Int), false)
  | none => qiM bs (qE.l12 BIG bs a0 bad0 wr0 qi qb BIG v (zF qb id0).2 false bs (a : Int) false id st lo hi (v / 4 % 2 == 1) oid (zF qb id0).1.2.1 ost olo ohi ocut (zF qb id0).1.2.2.2.2.2) := by
 obtain ⟨hl, hc⟩ := (QX bs).1 hb
 obtain ⟨f1, f2, f3⟩ := qk5 hv
 obtain ⟨o0, o1⟩ := qlH QC id0
 have hos := qme QC id0
 obtain ⟨_, _, _, b16⟩ := qjZ v v0 (by omega)
 have hg := qd3 bs a 562949953421310 hb (by decide) (by decide) ha
 rw [qE.l12_at BIG BIG (BIG - 1) qaW]
 unfold qE.b12
 simp only [veil_eq]
 generalize zF qb id0 = o at *
 cases ht : tk bs a 562949953421310 with
 | none =>
  rw [ht] at hg
  obtain ⟨a', bad, hg, h2⟩ := hg
  rw [hg]
  dsimp only
  obtain ⟨y, hy⟩ : ∃ y, Q6.f BIG (IntKind.wrap .u64 0) = some y := ⟨_, rfl⟩
  rw [hy]
  dsimp only
  cases (v / 4 % 2 == 1) with
  | true => exact ⟨_, _, _, _, _, _, _, a', bad, rfl, h2⟩
  | false =>
   rw [if_neg (c := false = true) (by simp)]
   split
   ·exact ⟨_, _, _, _, _, _, _, a', bad, rfl, h2⟩
   ·rw [qiE]
    exact ⟨_, _, _, _, _, _, _, a', bad, rfl, h2⟩
 | some p =>
  obtain ⟨z, a3⟩ := p
  rw [ht] at hg
  dsimp only at hg ⊢
  obtain ⟨e1, z0, z1, _, _, l3⟩ := qa2 hc ht
  have hz : -300000000000000 ≤ qeF z ∧ qeF z ≤ 300000000000000 := by unfold qeF; split <;> omega
  rw [hg]
  dsimp only
  rw [qab z z0 (by omega), Zag.pure z z0 (by omega)]
  dsimp only
  rw [qX _ (by omega) (by omega), b16]
  unfold qev
  by_cases h4 : v / 4 % 2 = 1
  ·rw [if_pos h4]
   have e4 : (v / 4 % 2 == 1) = true := by simpa using h4
   rw [e4]
   all_goals rfl
  ·rw [if_neg h4]
   have e4 : (v / 4 % 2 == 1) = false := by simpa using h4
   rw [e4, if_neg (c := false = true) (by simp)]
   by_cases h16 : 16 ≤ v
   ·rw [if_pos h16, if_pos (c := (v / 16 % 2 == 1) = true) (by simp; omega)]
   ·rw [if_neg h16, if_neg (c := (v / 16 % 2 == 1) = true) (by simp; omega)]
    have hf := qn3 bs a3 hb l3
    cases hbg : qgA bs a3 with
    | none =>
     rw [hbg] at hf
     obtain ⟨a', bad', l, hf, h2⟩ := hf
     rw [hf]
     exact ⟨_, _, _, _, _, _, _, a', bad', rfl, h2⟩
    | some q =>
     obtain ⟨b, a4⟩ := q
     rw [hbg] at hf
     dsimp only at hf ⊢
     rw [hf]
     dsimp only
     obtain ⟨_, l4, n4, s4⟩ := qhJ hc hbg
     rw [if_neg (c := false = true) (by simp)]
     cases ho : o.2 with
     | false =>
      rw [if_neg (c := false = true) (by simp)]
      simp
     | true =>
      cases hcm : ZP b o.1.2.2.2.2.2 == 0 with
      | true =>
       simp only [qgh n4 s4, hos, Bool.and_self, if_true]
       exact ⟨_, _, _, _, _, _, _, a4, false, rfl, l4⟩
      | false =>
       simp only [qgh n4 s4, hos, Bool.and_self, Bool.and_false, if_true, Bool.false_eq_true, if_false]
theorem qna (bs : List Int) (a0 : Int) (bad0 wr0 : Bool) (qi : Int) (qb : LR) (v : Int) (ok : Bool) (a : Nat) (bad : Bool) (id st : Int) (cut : Bool) (oid oinc ost olo ohi : Int) (ocut : Bool) (obag : LF) (hb : inB bs = true) (ha : a ≤ bs.length) (wr : Bool) (hw : wr = true ∨ (bad = true ∧ v = 0)) :
  qiM bs (qE.l8 BIG bs a0 bad0 wr0 qi qb BIG v ok wr bs (a : Int) bad id st cut oid oinc ost olo ohi ocut obag) := by
 rw [qE.l8_at BIG BIG (BIG - 1) qaW]
 unfold qE.b8
 simp only [veil_eq]
 by_cases h8 : (bits BinOp.and .i64 v 8 != 0) = true
 ·rw [if_pos h8]
  rcases hw with rfl | ⟨_, rfl⟩
  ·exact qe4 bs a0 bad0 wr0 qi qb v ok a bad id st _ _ cut oid oinc ost olo ohi ocut obag ha
  ·exact absurd h8 (by decide)
 ·rw [if_neg h8]
  have hr : Rel bs none wr (a : Int) bad := ⟨⟨a, rfl, ha⟩, by
   rcases hw with h | h
   ·exact Or.inl h
   ·exact Or.inr h.1⟩
  obtain ⟨lo, hi, wr', a', bad', e1, r1, _⟩ := qjB hb hr
  rw [e1]
  dsimp only
  obtain ⟨⟨n, rfl, hn⟩, hor⟩ := r1
  have hwr : wr' = true := by
   -- a span that is not read is q9
   have := e1
   unfold zp.f zp.b at this
   simp only [veil_eq] at this
   rw [if_pos ((zN _ _).2 ⟨hb, by omega, by omega⟩)] at this
   rcases hw with rfl | ⟨rfl, _⟩
   ·have := (Option.some.inj this)
    simp only [Prod.mk.injEq] at this
    rw [← this.2.2.1]
   ·rw [qir] at this
    cases wr with
    | true =>
     have := (Option.some.inj this)
     simp only [Prod.mk.injEq] at this
     rw [← this.2.2.1]
    | false =>
     rw [if_neg (by simp)] at this
     have := (Option.some.inj this)
     simp only [Prod.mk.injEq] at this
     rw [← this.2.2.1, qht 0 (by omega) (by omega)]
     all_goals rfl
  subst hwr
  rw [if_pos rfl]
  exact qe4 bs a0 bad0 wr0 qi qb v ok n bad' id st _ _ cut oid oinc ost olo ohi ocut obag hn
theorem qpU (bs : List Int) (a : Nat) (hb : inB bs = true) (ha : a ≤ bs.length) :
  match bs[a]? with
  | none => ∃ lo hi bad, zp.f BIG bs (a : Int) false false = some (lo, hi, true, bs, (a : Int), bad)
  | some c => if okS (c / 16) (c % 16) = true then zp.f BIG bs (a : Int) false false = some (c / 16, c % 16, false, bs, ((a + 1 : Nat) : Int), false)
   else ∃ lo hi, zp.f BIG bs (a : Int) false false = some (lo, hi, true, bs, ((a + 1 : Nat) : Int), false) := by
 obtain ⟨hl, hc⟩ := (QX bs).1 hb
 unfold zp.f zp.b
 simp only [veil_eq]
 rw [if_pos ((zN _ _).2 ⟨hb, by omega, by omega⟩)]
 by_cases hlt : a < bs.length
 ·rw [qc2 bs a hlt, List.getElem?_eq_getElem hlt]
  dsimp only
  obtain ⟨c0, c1⟩ := hc _ (List.getElem_mem hlt)
  have ht := qht _ c0 c1
  have hd := qhu _ c0 c1
  generalize bs[a] = c at c0 c1 ht hd ⊢
  rw [if_neg (c := false = true) (by simp), ht]
  cases ho : okS (c / 16) (c % 16) with
  | true => rw [if_pos rfl, hd.1 ho]; all_goals rfl
  | false => rw [if_neg (c := false = true) (by simp)]; exact ⟨_, _, rfl⟩
 ·rw [qc3 bs a (by omega), List.getElem?_eq_none (by omega)]
  dsimp only
  rw [if_neg (c := false = true) (by simp), qht 0 (by omega) (by omega)]
  exact ⟨_, _, _, rfl⟩
theorem qql (bs : List Int) (hb : inB bs = true) (a0 : Int) (bad0 wr0 : Bool) (qi : Int) (qb : LR) (o : REC × Bool) (v : Int) (v0 : 0 ≤ v) (v1 : v ≤ 255) (a : Nat) (ha : a ≤ bs.length) (id st : Int) (cut : Bool) :
  match qeW bs o v a with
  | some (sp, a2) => qE.l8 BIG bs a0 bad0 wr0 qi qb BIG v o.2 false bs (a : Int) false id st cut o.1.1 o.1.2.1 o.1.2.2.1 o.1.2.2.2.1.1 o.1.2.2.2.1.2 o.1.2.2.2.2.1 o.1.2.2.2.2.2 =
    qE.l12 BIG bs a0 bad0 wr0 qi qb BIG v o.2 false bs (a2 : Int) false id st sp.1 sp.2 cut o.1.1 o.1.2.1 o.1.2.2.1 o.1.2.2.2.1.1 o.1.2.2.2.1.2 o.1.2.2.2.2.1 o.1.2.2.2.2.2 ∧ a2 ≤ bs.length
  | none => qiM bs (qE.l8 BIG bs a0 bad0 wr0 qi qb BIG v o.2 false bs (a : Int) false id st cut o.1.1 o.1.2.1 o.1.2.2.1 o.1.2.2.2.1.1 o.1.2.2.2.1.2 o.1.2.2.2.2.1 o.1.2.2.2.2.2) := by
 obtain ⟨_, _, b8, _⟩ := qjZ v v0 v1
 have hs := qpU bs a hb ha
 rw [qE.l8_at BIG BIG (BIG - 1) qaW]
 unfold qE.b8 qeW
 simp only [veil_eq]
 rw [b8]
 by_cases h8 : v / 8 % 2 = 1
 ·rw [if_pos h8, if_pos (c := (v / 8 % 2 == 1) = true) (by simpa using h8)]
  exact ⟨rfl, ha⟩
 ·rw [if_neg h8, if_neg (c := (v / 8 % 2 == 1) = true) (by simpa using h8)]
  cases hc : bs[a]? with
  | none =>
   rw [hc] at hs
   obtain ⟨lo, hi, bad, hs⟩ := hs
   rw [hs]
   dsimp only
   rw [if_pos rfl]
   exact qe4 bs a0 bad0 wr0 qi qb v _ a bad id st _ _ cut _ _ _ _ _ _ _ ha
  | some c =>
   rw [hc] at hs
   dsimp only at hs ⊢
   have hlt := (qeR hc).2
   cases ho : okS (c / 16) (c % 16) with
   | false =>
    rw [ho, if_neg (by simp)] at hs
    obtain ⟨lo, hi, hs⟩ := hs
    rw [hs]
    dsimp only
    rw [if_pos (c := true = true) rfl, if_neg (by simp)]
    exact qe4 bs a0 bad0 wr0 qi qb v _ (a + 1) false id st _ _ cut _ _ _ _ _ _ _ hlt
   | true =>
    rw [ho, if_pos rfl] at hs
    rw [hs]
    dsimp only
    rw [if_neg (c := false = true) (by simp)]
    cases h2 : o.2 with
    | false =>
     simp only [Bool.false_and, and_self, if_true, Bool.false_eq_true, if_false]
     first | exact hlt | exact ⟨rfl, hlt⟩ | exact ⟨trivial, hlt⟩
    | true =>
     rw [if_pos (c := true = true) rfl]
     cases h3 : (c / 16 == o.1.2.2.2.1.1) <;> cases h4 : (c % 16 == o.1.2.2.2.1.2) <;> simp only [Bool.true_and, Bool.and_self, Bool.and_true, Bool.and_false, Bool.false_eq_true, and_self, and_false, true_and, Bool.true_eq_false, if_true, if_false]
     ·first | exact hlt | exact ⟨rfl, hlt⟩ | exact ⟨trivial, hlt⟩
     ·first | exact hlt | exact ⟨rfl, hlt⟩ | exact ⟨trivial, hlt⟩
     ·first | exact hlt | exact ⟨rfl, hlt⟩ | exact ⟨trivial, hlt⟩
     ·exact qe4 bs a0 bad0 wr0 qi qb v _ (a + 1) false id st _ _ cut _ _ _ _ _ _ _ hlt
theorem qnm {α : Type} (o : REC × Bool) (v : Int) (B E : α) : (if decide (v ≥ 32) = true then B else if (!o.2) = true then (if decide (v ≥ 8) = true then B else if (v / 4 % 2 == 1) = true then (if decide (v ≥ 16) = true then B else E) else E) else (if (v / 4 % 2 == 1) = true then (if decide (v ≥ 16) = true then B else E) else E)) = if qbL o v = true then B else E := by
 unfold qbL
 have e1 : (v / 4 % 2 == 1) = decide (v / 4 % 2 = 1) := rfl
 rw [e1]
 have g32 : decide (v ≥ 32) = decide (32 ≤ v) := rfl
 have g8 : decide (v ≥ 8) = decide (8 ≤ v) := rfl
 have g16 : decide (v ≥ 16) = decide (16 ≤ v) := rfl
 rw [g32, g8, g16]
 generalize decide (32 ≤ v) = p
 generalize decide (8 ≤ v) = q
 generalize decide (16 ≤ v) = s
 generalize decide (v / 4 % 2 = 1) = t
 generalize o.2 = u
 cases p <;> cases q <;> cases s <;> cases t <;> cases u <;> rfl
theorem qrf (bs : List Int) (hb : inB bs = true) (qi : Int) (h1 : -1 ≤ qi) (h2 : qi ≤ 100000000) (qb : LR) (QC : ∀ x ∈ qb, zE x = true) (hbn : qb.length < 1000000000) (a : Nat) (ha : a ≤ bs.length) :
  match qfU bs qb qi a with
  | some (r, a2) => qE.f BIG bs (a : Int) false false qi qb = some (r.1, r.2.1, r.2.2.1, r.2.2.2.1.1, r.2.2.2.1.2, r.2.2.2.2.1, r.2.2.2.2.2, false, bs, (a2 : Int), false)
  | none => qiM bs (qE.f BIG bs (a : Int) false false qi qb) := by
 obtain ⟨hl, hc⟩ := (QX bs).1 hb
 have hg := qd3 bs a 4095 hb (by decide) (by decide) ha
 have hfine := qok QC hbn
 unfold qE.f qE.b qfU
 simp only [veil_eq]
 cases ht : tk bs a 4095 with
 | none =>
  rw [ht] at hg
  obtain ⟨a', bad, hg, l1⟩ := hg
  rw [hg]
  dsimp only
  have hat : zt bs (a' : Int) = true := (zN _ _).2 ⟨hb, by omega, by omega⟩
  have hr := (zN _ _).1 (QD bs 1 (a' : Int) bad hat)
  obtain ⟨m, hm1, hm2⟩ : ∃ m : Nat, (qz bs 1 (a' : Int) bad).2.1 = (m : Int) ∧ m ≤ bs.length := ⟨(qz bs 1 (a' : Int) bad).2.1.toNat, by omega, by omega⟩
  rw [if_pos (c := zt bs (a' : Int) = true) hat, qrM.pure qb _ hfine, hm1]
  dsimp only
  repeat' split
  all_goals first
   | exact ⟨_, _, _, _, _, _, _, m, _, rfl, hm2⟩
   | exact qna bs a false false qi qb _ _ m _ _ _ _ _ _ _ _ _ _ _ hb hm2 true (Or.inl rfl)
 | some p =>
  obtain ⟨d, a1⟩ := p
  rw [ht] at hg
  dsimp only at hg ⊢
  obtain ⟨_, d0, d1, _, _, l1⟩ := qa2 hc ht
  rw [hg]
  dsimp only
  have hid : IntKind.wrap .i64 (IntKind.wrap .i64 (qi + 1) + d) = qi + 1 + d := by rw [qX (qi + 1) (by omega) (by omega), qX _ (by omega) (by omega)]
  rw [if_pos (c := zt bs (a1 : Int) = true) ((zN _ _).2 ⟨hb, by omega, by omega⟩), hid, qrM.pure qb _ hfine]
  dsimp only
  by_cases hlt : a1 < bs.length
  ·rw [qc2 bs a1 hlt, List.getElem?_eq_getElem hlt]
   dsimp only
   obtain ⟨c0, c1⟩ := hc _ (List.getElem_mem hlt)
   generalize bs[a1] = v at c0 c1 ⊢
   obtain ⟨b3, b4, _, _⟩ := qjZ v c0 c1
   rw [b3, b4, qnm]
   cases hf : qbL (zF qb (qi + 1 + d)) v with
   | true =>
    rw [if_pos rfl, if_pos rfl]
    exact ⟨_, _, _, _, _, _, _, a1 + 1, _, rfl, hlt⟩
   | false =>
    rw [if_neg (c := false = true) (by simp), if_neg (c := false = true) (by simp)]
    have h8 := qql bs hb a false false qi qb (zF qb (qi + 1 + d)) v c0 c1 (a1 + 1) hlt (qi + 1 + d) (v % 4) (v / 4 % 2 == 1)
    cases hs : qeW bs (zF qb (qi + 1 + d)) v (a1 + 1) with
    | none =>
     rw [hs] at h8
     exact h8
    | some q =>
     obtain ⟨sp, a2⟩ := q
     rw [hs] at h8
     dsimp only at h8 ⊢
     rw [h8.1]
     have h12 := qpl bs hb a false false qi qb QC (qi + 1 + d) v c0 hf a2 h8.2 (qi + 1 + d) (v % 4) sp.1 sp.2 (zF qb (qi + 1 + d)).1.1 (zF qb (qi + 1 + d)).1.2.2.1 (zF qb (qi + 1 + d)).1.2.2.2.1.1 (zF qb (qi + 1 + d)).1.2.2.2.1.2 (zF qb (qi + 1 + d)).1.2.2.2.2.1
     revert h12
     cases tk bs a2 562949953421310 with
     | none => intro h12; exact h12
     | some w =>
      obtain ⟨z, a3⟩ := w
      dsimp only
      cases qev bs (zF qb (qi + 1 + d)) v a3 with
      | none => intro h12; exact h12
      | some u =>
       obtain ⟨b, a4⟩ := u
       intro h12
       exact h12
  ·rw [qc3 bs a1 (by omega), List.getElem?_eq_none (by omega)]
   dsimp only
   rw [show (bits BinOp.and .i64 0 4 != 0) = ((0 : Int) / 4 % 2 == 1) from by decide, qnm]
   split
   ·exact ⟨_, _, _, _, _, _, _, a1, _, rfl, l1⟩
   ·exact qna bs a false false qi qb 0 _ a1 true _ _ _ _ _ _ _ _ _ _ hb l1 false (Or.inr ⟨rfl, rfl⟩)
theorem qpd {bs : List Int} (hb : ∀ c ∈ bs, 0 ≤ c ∧ c ≤ 255) {qb : LR} (QC : ∀ x ∈ qb, zE x = true) {qi : Int} {a : Nat} {r : REC} {a2 : Nat} (h : qfU bs qb qi a = some (r, a2)) : zx r.2.2.2.2.2 = true := by
 unfold qfU at h
 cases ht : tk bs a 4095 with
 | none => rw [ht] at h; cases h
 | some p =>
  obtain ⟨d, a1⟩ := p
  rw [ht] at h
  dsimp only at h
  cases hc : bs[a1]? with
  | none => rw [hc] at h; cases h
  | some v =>
   rw [hc] at h
   dsimp only at h
   cases hf : qbL (zF qb (qi + 1 + d)) v with
   | true => rw [hf] at h; cases h
   | false =>
    rw [hf, if_neg (by simp)] at h
    cases hs : qeW bs (zF qb (qi + 1 + d)) v (a1 + 1) with
    | none => rw [hs] at h; cases h
    | some q =>
     rw [hs] at h
     dsimp only at h
     cases hz : tk bs q.2 562949953421310 with
     | none => rw [hz] at h; cases h
     | some w =>
      rw [hz] at h
      dsimp only at h
      cases hg : qev bs (zF qb (qi + 1 + d)) v w.2 with
      | none => rw [hg] at h; cases h
      | some u =>
       rw [hg] at h
       cases h
       unfold qev at hg
       dsimp only
       split at hg
       ·cases hg; rfl
       ·split at hg
        ·cases hg; exact qme QC _
        ·cases hk : qgA bs w.2 with
         | none => rw [hk] at hg; cases hg
         | some y =>
          rw [hk] at hg
          dsimp only at hg
          split at hg
          ·cases hg
          ·cases hg
           obtain ⟨_, _, n4, s4⟩ := qhJ hb (l := y.1) (a2 := y.2) hk
           exact qgh n4 s4
abbrev HDR := Int × Int × Int × Int × Int × Int × Int × Int × Int × Int × Bool × List Int × Int × Bool
def qpB (k f i lo hi s t l e b : Int) (wr : Bool) (bs : List Int) (a : Int) (bad : Bool) : Option HDR :=
 if bad then some (k, f, i, lo, hi, s, t, l, e, b, true, bs, a, bad)
 else if (!(zb k f i lo hi s t l e b [])) then some (k, f, i, lo, hi, s, t, l, e, b, true, bs, a, bad)
 else some (k, f, i, lo, hi, s, t, l, e, b, wr, bs, a, bad)
def qnh (bs : List Int) (at0 : Int) (bad q9 : Bool) : Option HDR :=
 if zt bs at0 then
  qcv true 4095 q9 bs (qz bs 1 at0 bad).2.1 (qz bs 1 at0 bad).2.2 fun f w b1 a1 d1 =>
  qcv true 281474976710655 w b1 a1 d1 fun i w b2 a2 d2 =>
  match zp.f BIG b2 a2 d2 w with
  | none => none
  | some y =>
   qcv (qy (qz bs 1 at0 bad).1 0) 65535 y.2.2.1 y.2.2.2.1 y.2.2.2.2.1 y.2.2.2.2.2 fun s w b3 a3 d3 =>
   qcv (qy (qz bs 1 at0 bad).1 1) 4095 w b3 a3 d3 fun t w b4 a4 d4 =>
   qcv (qy (qz bs 1 at0 bad).1 2) 281474976710655 w b4 a4 d4 fun l w b5 a5 d5 =>
   qcv (qy (qz bs 1 at0 bad).1 2) 65535 w b5 a5 d5 fun e w b6 a6 d6 =>
   qcv (qy (qz bs 1 at0 bad).1 3) 65535 w b6 a6 d6 fun b w b7 a7 d7 =>
   qpB (qz bs 1 at0 bad).1 f i y.1 y.2.1 s t l e b w b7 a7 d7
 else none
theorem qrr (bs : List Int) (at0 : Int) (bad q9 : Bool) : zO.f BIG bs at0 bad q9 = qnh bs at0 bad q9 := by
 unfold zO.f zO.b qnh qcv qpB
 simp only [veil_eq]
 generalize qy (qz bs 1 at0 bad).1 0 = h0
 generalize qy (qz bs 1 at0 bad).1 1 = h1
 generalize qy (qz bs 1 at0 bad).1 2 = h2
 generalize qy (qz bs 1 at0 bad).1 3 = h3
 cases h0 <;> cases h1 <;> cases h2 <;> cases h3 <;> rfl
theorem qsI.pure (bs : List Int) (hb : inB bs = true) :
  match hdS bs with
  | some (k, f, i, lo, hi, s, t, l, e, b, a) => zO.f BIG bs 0 false false = some (k, f, i, lo, hi, s, t, l, e, b, false, bs, (a : Int), false) ∧ a ≤ bs.length ∧ zb k f i lo hi s t l e b [] = true
  | none => ∃ k f i lo hi s t l e b a bad, zO.f BIG bs 0 false false = some (k, f, i, lo, hi, s, t, l, e, b, true, bs, a, bad) := by
 rw [qrr]
 unfold qnh
 rw [if_pos ((zN _ _).2 ⟨hb, by omega, by omega⟩)]
 have h0 : (qz bs 1 0 false).1 = hdK bs ∧ Rel bs (qam bs) false (qz bs 1 0 false).2.1 (qz bs 1 0 false).2.2 := by
  unfold hdK qam
  by_cases h : 0 < bs.length
  ·rw [if_pos h, show (0 : Int) = ((0 : Nat) : Int) from rfl, qc2 bs 0 h]
   refine ⟨?_, ⟨1, rfl, h⟩, rfl, rfl, rfl⟩
   simp [List.getD, List.getElem?_eq_getElem h]
  ·rw [if_neg h, show (0 : Int) = ((0 : Nat) : Int) from rfl, qc3 bs 0 (by omega)]
   refine ⟨?_, ⟨0, rfl, by omega⟩, Or.inr rfl⟩
   simp [List.getD, List.getElem?_eq_none (show bs.length ≤ 0 by omega)]
 obtain ⟨e0, r0⟩ := h0
 rw [e0]
 obtain ⟨w1, a1, d1, e1, r1⟩ := qav hb r0 true 4095 (by decide) (by decide) _
 rw [e1]
 obtain ⟨w2, a2, d2, e2, r2⟩ := qav hb r1 true 281474976710655 (by decide) (by decide) _
 rw [e2]
 obtain ⟨lo, hi, w3, a3, d3, e3, r3, q3⟩ := qjB hb r2
 rw [e3]
 dsimp only
 obtain ⟨w4, a4, d4, e4, r4⟩ := qav hb r3 (qy (hdK bs) 0) 65535 (by decide) (by decide) _
 rw [e4]
 obtain ⟨w5, a5, d5, e5, r5⟩ := qav hb r4 (qy (hdK bs) 1) 4095 (by decide) (by decide) _
 rw [e5]
 obtain ⟨w6, a6, d6, e6, r6⟩ := qav hb r5 (qy (hdK bs) 2) 281474976710655 (by decide) (by decide) _
 rw [e6]
 obtain ⟨w7, a7, d7, e7, r7⟩ := qav hb r6 (qy (hdK bs) 2) 65535 (by decide) (by decide) _
 rw [e7]
 obtain ⟨w8, a8, d8, e8, r8⟩ := qav hb r7 (qy (hdK bs) 3) 65535 (by decide) (by decide) _
 rw [e8]
 have hs : (zr bs (qy (hdK bs) 3) (zr bs (qy (hdK bs) 2) (zr bs (qy (hdK bs) 2) (zr bs (qy (hdK bs) 1) (zr bs (qy (hdK bs) 0) (spS bs (zr bs true (zr bs true (qam bs) 4095).2 281474976710655).2).2.2 65535).2 4095).2 281474976710655).2 65535).2 65535).2 ≠ none → lo = (spS bs (zr bs true (zr bs true (qam bs) 4095).2 281474976710655).2).1 ∧ hi = (spS bs (zr bs true (zr bs true (qam bs) 4095).2 281474976710655).2).2.1 :=
  fun h => q3 (qbl (qbl (qbl (qbl (qbl h)))))
 unfold hdS qpB
 dsimp only
 generalize zr bs (qy (hdK bs) 3) _ 65535 = B at r8 hs ⊢
 obtain ⟨b, st⟩ := B
 dsimp only at r8 hs ⊢
 obtain ⟨⟨n, rfl, hn⟩, r8⟩ := r8
 cases st with
 | none =>
  dsimp only at r8 ⊢
  cases d8 with
  | true => exact ⟨_, _, _, _, _, _, _, _, _, _, _, _, rfl⟩
  | false =>
   obtain rfl : w8 = true := by rcases r8 with h | h; exact h; cases h
   rw [if_neg (by simp)]
   split <;> exact ⟨_, _, _, _, _, _, _, _, _, _, _, _, rfl⟩
 | some m =>
  obtain ⟨rfl, rfl, e⟩ := r8
  obtain ⟨rfl, rfl⟩ := hs (by simp)
  obtain rfl : n = m := by omega
  dsimp only
  rw [if_neg (c := false = true) (by simp)]
  by_cases hv : zb (hdK bs) (zr bs true (qam bs) 4095).1 (zr bs true (zr bs true (qam bs) 4095).2 281474976710655).1 (spS bs (zr bs true (zr bs true (qam bs) 4095).2 281474976710655).2).1 (spS bs (zr bs true (zr bs true (qam bs) 4095).2 281474976710655).2).2.1 (zr bs (qy (hdK bs) 0) (spS bs (zr bs true (zr bs true (qam bs) 4095).2 281474976710655).2).2.2 65535).1 (zr bs (qy (hdK bs) 1) (zr bs (qy (hdK bs) 0) (spS bs (zr bs true (zr bs true (qam bs) 4095).2 281474976710655).2).2.2 65535).2 4095).1 (zr bs (qy (hdK bs) 2) (zr bs (qy (hdK bs) 1) (zr bs (qy (hdK bs) 0) (spS bs (zr bs true (zr bs true (qam bs) 4095).2 281474976710655).2).2.2 65535).2 4095).2 281474976710655).1 (zr bs (qy (hdK bs) 2) (zr bs (qy (hdK bs) 2) (zr bs (qy (hdK bs) 1) (zr bs (qy (hdK bs) 0) (spS bs (zr bs true (zr bs true (qam bs) 4095).2 281474976710655).2).2.2 65535).2 4095).2 281474976710655).2 65535).1 b [] = true
  ·rw [if_pos hv, if_neg (by rw [Bool.not_eq_true, Bool.not_eq_false']; exact hv)]
   exact ⟨rfl, hn, hv⟩
  ·rw [if_neg hv, if_pos (by simpa using hv)]
   exact ⟨_, _, _, _, _, _, _, _, _, _, _, _, rfl⟩
def qj1 (b : List Int) (k f i lo hi s t l e bb : Int) (qc : LR) (a : Nat) : M12 :=
 if a = b.length ∧ b.length ≤ 65499 ∧ zb k f i lo hi s t l e bb qc = true then (k, f, i, lo, hi, s, t, l, e, bb, qc, 0) else z12 4
theorem qol (qa : Nat) (b : List Int) (qb : LR) (hb : inB b = true) (k : Nat) (bs2 : LR) (n qi i : Int) (a : Nat) (ha : a ≤ b.length) (hi : ¬ i < n) (kk f ii lo hi' s t l e bb : Int) (qc : LR) (hr : q0 qc = true) :
  zi.l11 qa b qb (k + 1) bs2 n qi i false b (a : Int) false kk f ii lo hi' s t l e bb qc = some (qj1 b kk f ii lo hi' s t l e bb qc a) := by
 rw [zi.l11]
 unfold zi.b11 qj1
 rw [if_neg (c := decide (i < n) = true) (by simpa using hi), if_neg (c := false = true) (by simp), if_pos (c := zt b (a : Int) = true) ((zN _ _).2 ⟨hb, by omega, by omega⟩)]
 unfold ZZ
 rw [if_neg (c := false = true) (by simp), hr, if_pos (c := true = true) rfl]
 by_cases h1 : a = b.length
 ·rw [if_neg (c := (!(!false && ((b.length : Int) - (a : Int) == 0))) = true) (by simp; omega)]
  by_cases h2 : b.length ≤ 65499
  ·rw [if_neg (c := decide ((b.length : Int) > 65499) = true) (by simp; omega)]
   cases hv : zb kk f ii lo hi' s t l e bb qc with
   | true => rw [if_neg (c := (!true) = true) (by simp), if_pos ⟨h1, h2, rfl⟩]
   | false => rw [if_pos (c := (!false) = true) rfl, if_neg (by simp)]; all_goals rfl
  ·rw [if_pos (c := decide ((b.length : Int) > 65499) = true) (by simp; omega), if_neg (by omega)]; all_goals rfl
 ·rw [if_pos (c := (!(!false && ((b.length : Int) - (a : Int) == 0))) = true) (by simp; omega), if_neg (fun h => h1 h.1)]; all_goals rfl
theorem qiI (qa : Nat) (b : List Int) (qb : LR) (k : Nat) (bs2 : LR) (n qi i : Int) (bs : List Int) (a : Int) (bad : Bool) (kk f ii lo hi' s t l e bb : Int) (qc : LR) :
  zi.l11 qa b qb (k + 1) bs2 n qi i true bs a bad kk f ii lo hi' s t l e bb qc = some (z12 4) := by
 rw [zi.l11]
 unfold zi.b11
 by_cases h : i < n
 ·rw [if_pos (c := decide (i < n) = true) (by simpa using h)]; all_goals rfl
 ·rw [if_neg (c := decide (i < n) = true) (by simpa using h)]; all_goals rfl
theorem qrB (qa : Nat) (b : List Int) (qb : LR) (hb : inB b = true) (bs2 : LR) (QC : ∀ x ∈ bs2, zE x = true) (hbn : bs2.length < 1000000000) (n : Nat) (hn : n ≤ 255) (kk f ii lo hi s t l e bb : Int) : ∀ (m k i : Nat) (qi : Int) (a : Nat) (out : LR), i + m = n → m < k → -1 ≤ qi → qi ≤ 4096 * (i : Int) → a ≤ b.length → out.length ≤ i → (∀ r ∈ out, zx r.2.2.2.2.2 = true) →
  zi.l11 qa b qb k bs2 (n : Int) qi (i : Int) false b (a : Int) false kk f ii lo hi s t l e bb out = some (match qdj b bs2 m qi a with
   | none => z12 4
   | some (rs, a2) => qj1 b kk f ii lo hi s t l e bb (out ++ rs) a2) := by
 obtain ⟨hl, hc⟩ := (QX b).1 hb
 intro m
 induction m with
 | zero =>
  intro k i qi a out hi' hk h1 h2 ha ho hs
  obtain ⟨k, rfl⟩ : ∃ k', k = k' + 1 := ⟨k - 1, by omega⟩
  rw [qol qa b qb hb k bs2 _ _ _ a ha (by omega) _ _ _ _ _ _ _ _ _ _ out ((Zn _).2 ⟨by omega, hs⟩), qdj]
  dsimp only
  rw [List.append_nil]
 | succ m ih =>
  intro k i qi a out hi' hk h1 h2 ha ho hs
  obtain ⟨k, rfl⟩ : ∃ k', k = k' + 2 := ⟨k - 2, by omega⟩
  have h3 := qrf b hb qi h1 (by omega) bs2 QC hbn a ha
  rw [show k + 2 = (k + 1) + 1 from rfl, zi.l11, qdj]
  unfold zi.b11
  simp only [veil_eq]
  rw [if_pos (c := decide ((i : Int) < (n : Int)) = true) (by simp; omega), if_pos (c := (!false) = true) rfl]
  have hw : IntKind.wrap .i64 ((i : Int) + 1) = ((i + 1 : Nat) : Int) := by rw [qX _ (by omega) (by omega)]; omega
  have hlim : ∀ x : REC, (out.length + ([x] : LR).length) * 72 ≤ lim := fun x => by simp [lim]; omega
  cases hr : qfU b bs2 qi a with
  | none =>
   rw [hr] at h3
   obtain ⟨id, inc, st, l1, l2, cut, bag, a', bad', h3, h4⟩ := h3
   rw [h3]
   dsimp only
   rw [if_pos (hlim _)]
   exact qiI qa b qb k bs2 _ _ _ _ _ _ _ _ _ _ _ _ _ _ _ _ _
  | some p =>
   obtain ⟨r, a2⟩ := p
   rw [hr] at h3
   dsimp only at h3 ⊢
   obtain ⟨_, l2, g1, g2⟩ := qkM hc hr
   have hsm := qpd hc QC hr
   rw [h3]
   dsimp only
   rw [if_pos (hlim _), hw, ih (k + 1) (i + 1) r.1 a2 (out ++ [r]) (by omega) (by omega) (by omega) (by omega) l2 (by simp; omega) (fun x hx => by
    rcases List.mem_append.1 hx with h | h
    ·exact hs x h
    ·rw [List.mem_singleton.1 h]; exact hsm)]
   cases qdj b bs2 m r.1 a2 with
   | none => rfl
   | some q =>
    obtain ⟨rs, a3⟩ := q
    dsimp only
    rw [List.append_assoc]
    all_goals rfl
theorem qma : ∀ (l : LR) (qi : Int), (∀ r ∈ l, r.1 ≤ 4095) → qgd qi l → -1 ≤ qi → qi ≤ 4095 → (l.length : Int) ≤ 4095 - qi
 | [], qi, _, _, _, h => by simp; omega
 | r :: l, qi, h, h1, h2, h3 => by
  have := qma l r.1 (fun x hx => h x (List.mem_cons_of_mem _ hx)) h1.2 (by have := h1.1; omega) (h r (List.mem_cons_self ..))
  have := h1.1
  simp
  omega
theorem qoP {l : LR} (h : Qo l = true) : l.length < 1000000000 := by
 obtain ⟨h1, h2⟩ := qbq h
 have := qma l (-1) (fun r hr => (zH (h1 r hr)).2.1) h2 (by omega) (by omega)
 omega
theorem qs3.pure (b : List Int) (qb : LR) (hb : inB b = true) (hs : q0 qb = true) : zi.f BIG b qb = some (qaV b qb) := by
 obtain ⟨hl, hc⟩ := (QX b).1 hb
 unfold zi.f zi.b qaV
 simp only [veil_eq]
 rw [hs, hb]
 cases hso : Qo qb with
 | false => rfl
 | true =>
  obtain ⟨QC, hris⟩ := qbq hso
  have hbn := qoP hso
  have hh := qsI.pure b hb
  rw [if_pos (c := true = true) rfl, if_neg (c := (!true) = true) (by simp), if_pos (c := true = true) rfl]
  unfold qiJ
  cases hd : hdS b with
  | none =>
   rw [hd] at hh
   obtain ⟨k, f, i, lo, hi, s, t, l, e, bb, a, bad, hh⟩ := hh
   rw [hh]
   dsimp only
   have hfw : ∀ m, qI.f BIG b a bad true m = some (0, true, b, a, bad) := fun m => qhC b a bad m
   have hdw : ∀ (bs2 : LR) (n qi i1 : Int) (bs : List Int) (a1 : Int) (bad1 : Bool) (kk f1 i2 lo1 hi1 s1 t1 l1 e1 b1 : Int) (qc : LR), zi.l11 BIG b qb BIG bs2 n qi i1 true bs a1 bad1 kk f1 i2 lo1 hi1 s1 t1 l1 e1 b1 qc = some (z12 4) := by
    intro bs2 n qi i1 bs a1 bad1 kk f1 i2 lo1 hi1 s1 t1 l1 e1 b1 qc
    have := qiI BIG b qb (BIG - 1) bs2 n qi i1 bs a1 bad1 kk f1 i2 lo1 hi1 s1 t1 l1 e1 b1 qc
    rw [← qaW] at this
    exact this
   simp only [hfw, hdw]
   cases (bb == 0) <;> cases qy k 4 <;> rfl
  | some p =>
   obtain ⟨k, f, i, lo, hi, s, t, l, e, bb, a⟩ := p
   rw [hd] at hh
   dsimp only at hh ⊢
   obtain ⟨hh, l1, hv⟩ := hh
   rw [hh]
   dsimp only
   have key : (if qy k 4 = true then (match qI.f BIG b (a : Int) false false 255 with
      | none => none
      | some y1 => zi.l11 BIG b qb BIG (qbh bb qb) y1.1 (-1) 0 y1.2.1 y1.2.2.1 y1.2.2.2.1 y1.2.2.2.2 k f i lo hi s t l e bb []) else some (qj1 b k f i lo hi s t l e bb [] a)) =
     some (match (match qge b (qbh bb qb) k a with
      | none => none
      | some (rs, a2) => if a2 = b.length ∧ b.length ≤ 65499 ∧ zb k f i lo hi s t l e bb rs = true then some (k, f, i, lo, hi, s, t, l, e, bb, rs) else none) with
      | none => z12 4
      | some m => okM m) := by
    unfold qge
    cases h4 : qy k 4 with
    | false =>
     rw [if_neg (by simp), if_neg (by simp)]
     dsimp only
     unfold qj1
     split <;> rfl
    | true =>
     rw [if_pos rfl, if_pos rfl]
     have hg := qd3 b a 255 hb (by decide) (by decide) l1
     cases ht : tk b a 255 with
     | none =>
      rw [ht] at hg
      obtain ⟨a', bad, hg, h2⟩ := hg
      rw [hg]
      dsimp only
      rw [qaW]
      exact qiI _ b qb _ _ _ _ _ _ _ _ _ _ _ _ _ _ _ _ _ _ _
     | some w =>
      obtain ⟨n, a1⟩ := w
      rw [ht] at hg
      dsimp only at hg ⊢
      obtain ⟨_, n0, n1, _, _, l2⟩ := qa2 hc ht
      rw [hg]
      dsimp only
      have hbl : (qbh bb qb).length < 1000000000 := by
       unfold qbh
       split
       ·simp
       ·exact hbn
      have := qrB BIG b qb hb (qbh bb qb) (qiL QC bb) hbl n.toNat (by omega) k f i lo hi s t l e bb n.toNat BIG 0 (-1) a1 [] (by omega) (by rw [Zw]; omega) (by omega) (by omega) l2 (by simp) (by simp)
      rw [show ((n.toNat : Nat) : Int) = n from by omega] at this
      rw [show ((0 : Nat) : Int) = 0 from rfl] at this
      rw [this]
      cases qdj b (qbh bb qb) n.toNat (-1) a1 with
      | none => rfl
      | some q =>
       obtain ⟨rs, a3⟩ := q
       dsimp only
       rw [List.nil_append]
       unfold qj1
       split <;> rfl
   have hend : (if zt b (a : Int) = true then (if (!(!false && (ZZ b (a : Int) false == 0))) = true then some (z12 4) else if decide (((b.length : Nat) : Int) > 65499) = true then some (z12 4) else if (!validF k f i lo hi s t l e bb []) = true then some (z12 4) else some (k, f, i, lo, hi, s, t, l, e, bb, [], 0)) else none) = some (qj1 b k f i lo hi s t l e bb [] a) := by
    have := qol 0 b qb hb 0 [] 0 0 0 a l1 (by omega) k f i lo hi s t l e bb [] rfl
    rw [← this, zi.l11]
    unfold zi.b11
    rfl
   refine Eq.trans ?_ key
   unfold qbh
   cases (bb == 0) <;> cases qy k 4 <;> first | exact hend | rfl
theorem qsP.pure {bs : List Int} (hb : inB bs = true) : ZS.f BIG bs = some (qg1 bs) := qsQ.pure hb
theorem qpW : q0 [] = true := rfl
def qh6 : Env := ⟨th, gam [(54, qb3), (16, qco), (19, ZU)], fun i => ⟨[], [], []⟩⟩
def ZI.k (rs : List AV) (os : List Den.Obj) : Option (Int × Int × Int × Int × Int × Int × Int × Int × Int × Int × LR × Int) :=
 match rs, os with
 | [.agg [.d (.int .i64) r0, .d (.int .i64) r1, .d (.int .i64) r2, .d (.int .i64) r3, .d (.int .i64) r4, .d (.int .i64) r5, .d (.int .i64) r6, .d (.int .i64) r7, .d (.int .i64) r8, .d (.int .i64) r9, .d (.sl (.pair (.int .i64) (.pair (.int .i64) (.pair (.int .i64) (.pair (.pair (.int .i64) (.int .i64)) (.pair .bool (.sl (.pair (.int .i64) (.sl (.int .u8)))))))))) r10], .d (.int .i64) r11], [] => some (r0, r1, r2, r3, r4, r5, r6, r7, r8, r9, r10, r11)
 | _, _ => none
def ZI.b (gen : Int) (b : List Int) : Option (Int × Int × Int × Int × Int × Int × Int × Int × Int × Int × LR × Int) :=
 (if (gen == (3 : Int)) then (match (veil (ZS.f BIG b)) with | none => none | some y0 => some (y0.1, y0.2.1, y0.2.2.1, y0.2.2.2.1, y0.2.2.2.2.1, y0.2.2.2.2.2.1, y0.2.2.2.2.2.2.1, y0.2.2.2.2.2.2.2.1, y0.2.2.2.2.2.2.2.2.1, y0.2.2.2.2.2.2.2.2.2.1, y0.2.2.2.2.2.2.2.2.2.2.1, y0.2.2.2.2.2.2.2.2.2.2.2)) else (match (veil (zV.f BIG gen b ([] : LR))) with | none => none | some y1 => (match (veil (qbB.f BIG y1.1 y1.2.1 y1.2.2.1 y1.2.2.2.1 y1.2.2.2.2.1 y1.2.2.2.2.2.1 y1.2.2.2.2.2.2.1 y1.2.2.2.2.2.2.2.1 y1.2.2.2.2.2.2.2.2.1 y1.2.2.2.2.2.2.2.2.2.1 y1.2.2.2.2.2.2.2.2.2.2.1)) with | none => none | some y2 => some (y2.1, y2.2.1, y2.2.2.1, y2.2.2.2.1, y2.2.2.2.2.1, y2.2.2.2.2.2.1, y2.2.2.2.2.2.2.1, y2.2.2.2.2.2.2.2.1, y2.2.2.2.2.2.2.2.2.1, y2.2.2.2.2.2.2.2.2.2.1, y2.2.2.2.2.2.2.2.2.2.2, y1.2.2.2.2.2.2.2.2.2.2.2))))
def ZI.f (qa : Nat) (gen : Int) (b : List Int) : Option (Int × Int × Int × Int × Int × Int × Int × Int × Int × Int × LR × Int) := ZI.b gen b
theorem ZI.eq (qa : Nat) (gen : Int) (b : List Int) : (denF qh6 loopN qa Tryz.f32 [.dat (.pair tQi (.pair tQi (.pair tQi (.pair (.pair tQi tQi) (.pair tQi (.pair tQi (.pair tQi (.pair tQi (.pair tQi (.sl tQr)))))))))) true, .raw] [.d tQi gen, .d (.sl (.int .u8)) b] [] ZI.k) = ZI.f qa gen b := by
 kernel_rfl
def qbr : Den.Sum := ⟨[.raw, .dat (.sl (.int .u8)) false], fun qK qm κ => match qK, qm with
 | [.d (.int .i64) gen, .d (.sl (.int .u8)) b], [] => (match veil (ZI.f BIG gen b) with | none => none | some y => κ [.agg [.d (.int .i64) y.1, .d (.int .i64) y.2.1, .d (.int .i64) y.2.2.1, .d (.int .i64) y.2.2.2.1, .d (.int .i64) y.2.2.2.2.1, .d (.int .i64) y.2.2.2.2.2.1, .d (.int .i64) y.2.2.2.2.2.2.1, .d (.int .i64) y.2.2.2.2.2.2.2.1, .d (.int .i64) y.2.2.2.2.2.2.2.2.1, .d (.int .i64) y.2.2.2.2.2.2.2.2.2.1, .d (.sl (.pair (.int .i64) (.pair (.int .i64) (.pair (.int .i64) (.pair (.pair (.int .i64) (.int .i64)) (.pair .bool (.sl (.pair (.int .i64) (.sl (.int .u8)))))))))) y.2.2.2.2.2.2.2.2.2.2.1], .d (.int .i64) y.2.2.2.2.2.2.2.2.2.2.2] [])
 | _, _ => none⟩
theorem qjC : SumDet qbr := zj fun _ _ _ _ => by
 unfold qbr
 simp only [veil_eq]
 split
 ·split <;> rfl
 ·rfl
theorem qkj : SumOk Tryz.prog 32 qbr := by
 have hE : EnvOk Tryz.prog qh6 := env_ok (l := [(54, qb3), (16, qco), (19, ZU)]) th_ok qZ ⟨⟨qlz, qkz⟩, ⟨qmx, qlw⟩, ⟨qfi, qe0⟩, trivial⟩ _
 refine sum_ok hE Tryz.func32 rfl (by kernel_rfl) qbr [.dat (.pair tQi (.pair tQi (.pair tQi (.pair (.pair tQi tQi) (.pair tQi (.pair tQi (.pair tQi (.pair tQi (.pair tQi (.sl tQr)))))))))) true, .raw] ZI.k ?_
 intro R avs qm κ r h
 unfold qbr at h
 simp only [veil_eq] at h
 split at h
 ·rename_i gen b
  split at h
  ·cases h
  ·rename_i y hy
   refine ⟨BIG, _, _, _, (ZI.eq BIG gen b).trans hy, ?_, h⟩
   intro rs ros hk
   unfold ZI.k at hk
   split at hk
   ·rw [← sj hk]; exact ⟨rfl, rfl⟩
   ·cases hk
 ·cases h
theorem qsZ.pure (gen k f i lo hi s t l e b : Int) (qc qb : LR) (hr : q0 qc = true) (hl : q0 qb = true) (hln : qb.length < 1000000000) :
  zU.f BIG gen k f i lo hi s t l e b qc qb = some (Qa gen k f i lo hi s t l e b qc qb) := by
 refine qd2 (gen := gen) (fun gen => zU.f BIG gen k f i lo hi s t l e b qc qb = some (Qa gen k f i lo hi s t l e b qc qb)) ?_ ?_ ?_ ?_
 ·rw [qgG]
  unfold zU.f zU.b
  simp only [veil_eq]
  rw [if_pos (c := ((1 : Int) == 1) = true) rfl]
  unfold ZB.f ZB.b
  rw [hr]
  all_goals rfl
 ·rw [qgF]
  unfold zU.f zU.b
  simp only [veil_eq]
  rw [if_neg (c := ((2 : Int) == 1) = true) (by decide), if_pos (c := ((2 : Int) == 2) = true) rfl]
  unfold Zz.f Zz.b
  rw [hr]
  all_goals rfl
 ·rw [qeG]
  unfold zU.f zU.b
  simp only [veil_eq]
  rw [if_neg (c := ((3 : Int) == 1) = true) (by decide), if_neg (c := ((3 : Int) == 2) = true) (by decide), if_pos (c := ((3 : Int) == 3) = true) rfl, qs2.pure k f i lo hi s t l e b qc qb hr hl hln]
 ·intro h1 h2 h3
  rw [qgH h1 h2 h3]
  unfold zU.f zU.b
  simp only [veil_eq]
  rw [if_neg (c := (gen == 1) = true) (by simpa using h1), if_neg (c := (gen == 2) = true) (by simpa using h2), if_neg (c := (gen == 3) = true) (by simpa using h3)]
theorem qsx.pure (gen : Int) (b : List Int) (qb : LR) (hb : isB b) (hl : b.length < 1000000000) (hs : q0 qb = true) :
  zV.f BIG gen b qb = some (QU gen b qb) := by
 have hin : inB b = true := (QX b).2 ⟨by omega, hb⟩
 have his : inS b = true := qnf hb hl
 refine qd2 (gen := gen) (fun gen => zV.f BIG gen b qb = some (QU gen b qb)) ?_ ?_ ?_ ?_
 ·rw [qkQ]
  unfold zV.f zV.b
  simp only [veil_eq]
  rw [if_pos (c := ((1 : Int) == 1) = true) rfl]
  unfold ZA.f ZA.b
  simp only [veil_eq]
  rw [hin]
  all_goals rfl
 ·rw [qkP]
  unfold zV.f zV.b
  simp only [veil_eq]
  rw [if_neg (c := ((2 : Int) == 1) = true) (by decide), if_pos (c := ((2 : Int) == 2) = true) rfl]
  unfold Zy.f Zy.b
  simp only [veil_eq]
  rw [his]
  all_goals rfl
 ·rw [qm7]
  unfold zV.f zV.b
  simp only [veil_eq]
  rw [if_neg (c := ((3 : Int) == 1) = true) (by decide), if_neg (c := ((3 : Int) == 2) = true) (by decide), if_pos (c := ((3 : Int) == 3) = true) rfl, qs3.pure b qb hin hs]
 ·intro h1 h2 h3
  unfold zV.f zV.b
  simp only [veil_eq]
  unfold QU
  simp only [show (gen == 1) = false from by simpa using h1, show (gen == 2) = false from by simpa using h2, show (gen == 3) = false from by simpa using h3, Bool.false_eq_true, if_false]
  all_goals rfl
theorem qsN.pure (gen : Int) (b : List Int) (hb : isB b) (hl : b.length < 1000000000) : ZI.f BIG gen b = some (QV gen b) := by
 have hin : inB b = true := (QX b).2 ⟨by omega, hb⟩
 unfold ZI.f ZI.b QV
 simp only [veil_eq]
 cases h3 : gen == 3
 ·simp only [Bool.false_eq_true, if_false]
  rw [qsx.pure gen b [] hb hl rfl]
  all_goals rfl
 ·simp only [if_true]
  rw [qsP.pure hin]
def qhX : Env := ⟨th, gam [(13, qat), (29, qaD), (30, qbw)], fun i => ⟨[], [], []⟩⟩
def QS.k (rs : List AV) (os : List Den.Obj) : Option ((List Int) × Int) :=
 match rs, os with
 | [.d (.sl (.int .u8)) r0, .d (.int .i64) r1], [] => some (r0, r1)
 | _, _ => none
def QS.b (gen qj qs qH qe qf qG qg qr ql qq : Int) (qh qb : LR) : Option ((List Int) × Int) :=
 (match (veil (QL.f BIG qj)) with | none => none | some y0 => (if y0 then (if (gen != (1 : Int)) then some (([] : List Int), (10 : Int)) else (match (veil (zU.f BIG gen qj qs qH qe qf qG qg qr ql qq qh qb)) with | none => none | some y1 => (if (y1.2 != (0 : Int)) then some (([] : List Int), y1.2) else (match (veil (Q1.f BIG gen y1.1)) with | none => none | some y2 => some (y2.1, y2.2))))) else (match (veil (zU.f BIG gen qj qs qH qe qf qG qg qr ql qq qh qb)) with | none => none | some y3 => (if (y3.2 != (0 : Int)) then some (([] : List Int), y3.2) else (match (veil (Q1.f BIG gen y3.1)) with | none => none | some y4 => some (y4.1, y4.2))))))
def QS.f (qa : Nat) (gen qj qs qH qe qf qG qg qr ql qq : Int) (qh qb : LR) : Option ((List Int) × Int) := QS.b gen qj qs qH qe qf qG qg qr ql qq qh qb
theorem QS.eq (qa : Nat) (gen qj qs qH qe qf qG qg qr ql qq : Int) (qh qb : LR) : (denF qhX loopN qa Tryz.f10 [.dat (.sl (.int .u8)) false, .raw] [.d tQi gen, .agg [.d tQi qj, .d tQi qs, .d tQi qH, .d tQi qe, .d tQi qf, .d tQi qG, .d tQi qg, .d tQi qr, .d tQi ql, .d tQi qq, .d (.sl tQr) qh], .d (.sl tQr) qb] [] QS.k) = QS.f qa gen qj qs qH qe qf qG qg qr ql qq qh qb := by
 kernel_rfl
def qa4 : Den.Sum := ⟨[.raw, .dat (.pair tQi (.pair tQi (.pair tQi (.pair (.pair tQi tQi) (.pair tQi (.pair tQi (.pair tQi (.pair tQi (.pair tQi (.sl tQr)))))))))) true, .dat (.sl tQr) false], fun qK qm κ => match qK, qm with
 | [.d (.int .i64) gen, .agg [.d (.int .i64) qj, .d (.int .i64) qs, .d (.int .i64) qH, .d (.int .i64) qe, .d (.int .i64) qf, .d (.int .i64) qG, .d (.int .i64) qg, .d (.int .i64) qr, .d (.int .i64) ql, .d (.int .i64) qq, .d (.sl (.pair (.int .i64) (.pair (.int .i64) (.pair (.int .i64) (.pair (.pair (.int .i64) (.int .i64)) (.pair .bool (.sl (.pair (.int .i64) (.sl (.int .u8)))))))))) qh], .d (.sl (.pair (.int .i64) (.pair (.int .i64) (.pair (.int .i64) (.pair (.pair (.int .i64) (.int .i64)) (.pair .bool (.sl (.pair (.int .i64) (.sl (.int .u8)))))))))) qb], [] => (match veil (QS.f BIG gen qj qs qH qe qf qG qg qr ql qq qh qb) with | none => none | some y => κ [.d (.sl (.int .u8)) y.1, .d (.int .i64) y.2] [])
 | _, _ => none⟩
theorem qi1 : SumDet qa4 := zj fun _ _ _ _ => by
 unfold qa4
 simp only [veil_eq]
 split
 ·split <;> rfl
 ·rfl
theorem qjH : SumOk Tryz.prog 10 qa4 := by
 have hE : EnvOk Tryz.prog qhX := env_ok (l := [(13, qat), (29, qaD), (30, qbw)]) th_ok qZ ⟨⟨qf8, qfL⟩, ⟨qiZ, qih⟩, ⟨qkA, qjN⟩, trivial⟩ _
 refine sum_ok hE Tryz.func10 rfl (by kernel_rfl) qa4 [.dat (.sl (.int .u8)) false, .raw] QS.k ?_
 intro R avs qm κ r h
 unfold qa4 at h
 simp only [veil_eq] at h
 split at h
 ·rename_i gen qj qs qH qe qf qG qg qr ql qq qh qb
  split at h
  ·cases h
  ·rename_i y hy
   refine ⟨BIG, _, _, _, (QS.eq BIG gen qj qs qH qe qf qG qg qr ql qq qh qb).trans hy, ?_, h⟩
   intro rs ros hk
   unfold QS.k at hk
   split at hk
   ·rw [← sj hk]; exact ⟨rfl, rfl⟩
   ·cases hk
 ·cases h
def qhY : Env := ⟨th, gam [(12, qcl), (13, qat), (31, qbx), (32, qbr)], fun i => ⟨[], [], []⟩⟩
def Qp.k (rs : List AV) (os : List Den.Obj) : Option (Int × Int × Int × Int × Int × Int × Int × Int × Int × Int × LR × Int × (List Int) × Int) :=
 match rs, os with
 | [.agg [.d (.int .i64) r0, .d (.int .i64) r1, .d (.int .i64) r2, .d (.int .i64) r3, .d (.int .i64) r4, .d (.int .i64) r5, .d (.int .i64) r6, .d (.int .i64) r7, .d (.int .i64) r8, .d (.int .i64) r9, .d (.sl (.pair (.int .i64) (.pair (.int .i64) (.pair (.int .i64) (.pair (.pair (.int .i64) (.int .i64)) (.pair .bool (.sl (.pair (.int .i64) (.sl (.int .u8)))))))))) r10, .d (.int .i64) r11, .d (.sl (.int .u8)) r12], .d (.int .i64) r13], [] => some (r0, r1, r2, r3, r4, r5, r6, r7, r8, r9, r10, r11, r12, r13)
 | _, _ => none
def Qp.b (b : List Int) (qej qek : Int) : Option (Int × Int × Int × Int × Int × Int × Int × Int × Int × Int × LR × Int × (List Int) × Int) :=
 (match (veil (QA.f BIG b)) with | none => none | some y0 => (if (y0.2.2 != (0 : Int)) then some (0, 0, 0, 0, 0, 0, 0, 0, 0, 0, ([] : LR), 0, ([] : List Int), y0.2.2) else (match (veil (ZI.f BIG y0.1 y0.2.1)) with | none => none | some y1 => (if (y1.2.2.2.2.2.2.2.2.2.2.2 == (0 : Int)) then (match (veil (QL.f BIG y1.1)) with | none => none | some y2 => (match (veil (ZQ.f BIG qej qek y0.1)) with | none => none | some y3 => (if (!y3) then (if (y0.1 != (1 : Int)) then some (0, 0, 0, 0, 0, 0, 0, 0, 0, 0, ([] : LR), y0.1, ([] : List Int), (9 : Int)) else (if (!y2) then some (0, 0, 0, 0, 0, 0, 0, 0, 0, 0, ([] : LR), y0.1, ([] : List Int), (9 : Int)) else (if (y1.2.2.2.2.2.2.2.2.2.2.2 != (0 : Int)) then some (0, 0, 0, 0, 0, 0, 0, 0, 0, 0, ([] : LR), 0, ([] : List Int), y1.2.2.2.2.2.2.2.2.2.2.2) else (if y2 then (if (y0.1 != (1 : Int)) then some (0, 0, 0, 0, 0, 0, 0, 0, 0, 0, ([] : LR), 0, ([] : List Int), (10 : Int)) else some (y1.1, y1.2.1, y1.2.2.1, y1.2.2.2.1, y1.2.2.2.2.1, y1.2.2.2.2.2.1, y1.2.2.2.2.2.2.1, y1.2.2.2.2.2.2.2.1, y1.2.2.2.2.2.2.2.2.1, y1.2.2.2.2.2.2.2.2.2.1, y1.2.2.2.2.2.2.2.2.2.2.1, y0.1, y0.2.1, (0 : Int))) else some (y1.1, y1.2.1, y1.2.2.1, y1.2.2.2.1, y1.2.2.2.2.1, y1.2.2.2.2.2.1, y1.2.2.2.2.2.2.1, y1.2.2.2.2.2.2.2.1, y1.2.2.2.2.2.2.2.2.1, y1.2.2.2.2.2.2.2.2.2.1, y1.2.2.2.2.2.2.2.2.2.2.1, y0.1, y0.2.1, (0 : Int)))))) else (if (y1.2.2.2.2.2.2.2.2.2.2.2 != (0 : Int)) then some (0, 0, 0, 0, 0, 0, 0, 0, 0, 0, ([] : LR), 0, ([] : List Int), y1.2.2.2.2.2.2.2.2.2.2.2) else (if y2 then (if (y0.1 != (1 : Int)) then some (0, 0, 0, 0, 0, 0, 0, 0, 0, 0, ([] : LR), 0, ([] : List Int), (10 : Int)) else some (y1.1, y1.2.1, y1.2.2.1, y1.2.2.2.1, y1.2.2.2.2.1, y1.2.2.2.2.2.1, y1.2.2.2.2.2.2.1, y1.2.2.2.2.2.2.2.1, y1.2.2.2.2.2.2.2.2.1, y1.2.2.2.2.2.2.2.2.2.1, y1.2.2.2.2.2.2.2.2.2.2.1, y0.1, y0.2.1, (0 : Int))) else some (y1.1, y1.2.1, y1.2.2.1, y1.2.2.2.1, y1.2.2.2.2.1, y1.2.2.2.2.2.1, y1.2.2.2.2.2.2.1, y1.2.2.2.2.2.2.2.1, y1.2.2.2.2.2.2.2.2.1, y1.2.2.2.2.2.2.2.2.2.1, y1.2.2.2.2.2.2.2.2.2.2.1, y0.1, y0.2.1, (0 : Int))))))) else (match (veil (ZQ.f BIG qej qek y0.1)) with | none => none | some y4 => (if (!y4) then (if (y0.1 != (1 : Int)) then some (0, 0, 0, 0, 0, 0, 0, 0, 0, 0, ([] : LR), y0.1, ([] : List Int), (9 : Int)) else some (0, 0, 0, 0, 0, 0, 0, 0, 0, 0, ([] : LR), y0.1, ([] : List Int), (9 : Int))) else (if (y1.2.2.2.2.2.2.2.2.2.2.2 != (0 : Int)) then some (0, 0, 0, 0, 0, 0, 0, 0, 0, 0, ([] : LR), 0, ([] : List Int), y1.2.2.2.2.2.2.2.2.2.2.2) else some (y1.1, y1.2.1, y1.2.2.1, y1.2.2.2.1, y1.2.2.2.2.1, y1.2.2.2.2.2.1, y1.2.2.2.2.2.2.1, y1.2.2.2.2.2.2.2.1, y1.2.2.2.2.2.2.2.2.1, y1.2.2.2.2.2.2.2.2.2.1, y1.2.2.2.2.2.2.2.2.2.2.1, y0.1, y0.2.1, (0 : Int)))))))))
def Qp.f (qa : Nat) (b : List Int) (qej qek : Int) : Option (Int × Int × Int × Int × Int × Int × Int × Int × Int × Int × LR × Int × (List Int) × Int) := Qp.b b qej qek
theorem Qp.eq (qa : Nat) (b : List Int) (qej qek : Int) : (denF qhY loopN qa Tryz.f11 [.dat (.pair (.pair tQi (.pair tQi (.pair tQi (.pair (.pair tQi tQi) (.pair tQi (.pair tQi (.pair tQi (.pair tQi (.pair tQi (.sl tQr)))))))))) (.pair tQi (.sl (.int .u8)))) true, .raw] [.d (.sl (.int .u8)) b, .agg [.d tQi qej, .d tQi qek]] [] Qp.k) = Qp.f qa b qej qek := by
 kernel_rfl
def Zs : Den.Sum := ⟨[.dat (.sl (.int .u8)) false, .dat (.pair tQi tQi) true], fun qK qm κ => match qK, qm with
 | [.d (.sl (.int .u8)) b, .agg [.d (.int .i64) qej, .d (.int .i64) qek]], [] => (match veil (Qp.f BIG b qej qek) with | none => none | some y => κ [.agg [.d (.int .i64) y.1, .d (.int .i64) y.2.1, .d (.int .i64) y.2.2.1, .d (.int .i64) y.2.2.2.1, .d (.int .i64) y.2.2.2.2.1, .d (.int .i64) y.2.2.2.2.2.1, .d (.int .i64) y.2.2.2.2.2.2.1, .d (.int .i64) y.2.2.2.2.2.2.2.1, .d (.int .i64) y.2.2.2.2.2.2.2.2.1, .d (.int .i64) y.2.2.2.2.2.2.2.2.2.1, .d (.sl (.pair (.int .i64) (.pair (.int .i64) (.pair (.int .i64) (.pair (.pair (.int .i64) (.int .i64)) (.pair .bool (.sl (.pair (.int .i64) (.sl (.int .u8)))))))))) y.2.2.2.2.2.2.2.2.2.2.1, .d (.int .i64) y.2.2.2.2.2.2.2.2.2.2.2.1, .d (.sl (.int .u8)) y.2.2.2.2.2.2.2.2.2.2.2.2.1], .d (.int .i64) y.2.2.2.2.2.2.2.2.2.2.2.2.2] [])
 | _, _ => none⟩
theorem qdp : SumDet Zs := zj fun _ _ _ _ => by
 unfold Zs
 simp only [veil_eq]
 split
 ·split <;> rfl
 ·rfl
theorem qdN : SumOk Tryz.prog 11 Zs := by
 have hE : EnvOk Tryz.prog qhY := env_ok (l := [(12, qcl), (13, qat), (31, qbx), (32, qbr)]) th_ok qZ ⟨⟨qmu, qlq⟩, ⟨qf8, qfL⟩, ⟨qkB, qjO⟩, ⟨qkj, qjC⟩, trivial⟩ _
 refine sum_ok hE Tryz.func11 rfl (by kernel_rfl) Zs [.dat (.pair (.pair tQi (.pair tQi (.pair tQi (.pair (.pair tQi tQi) (.pair tQi (.pair tQi (.pair tQi (.pair tQi (.pair tQi (.sl tQr)))))))))) (.pair tQi (.sl (.int .u8)))) true, .raw] Qp.k ?_
 intro R avs qm κ r h
 unfold Zs at h
 simp only [veil_eq] at h
 split at h
 ·rename_i b qej qek
  split at h
  ·cases h
  ·rename_i y hy
   refine ⟨BIG, _, _, _, (Qp.eq BIG b qej qek).trans hy, ?_, h⟩
   intro rs ros hk
   unfold Qp.k at hk
   split at hk
   ·rw [← sj hk]; exact ⟨rfl, rfl⟩
   ·cases hk
 ·cases h
def qha (gen k f i lo hi s t l e b : Int) (qc qb : LR) : List Int × Int :=
 if (1 ≤ k ∧ k ≤ 3) ∧ gen ≠ 1 then ([], 10) else if (Qa gen k f i lo hi s t l e b qc qb).2 ≠ 0 then ([], (Qa gen k f i lo hi s t l e b qc qb).2) else qki gen (Qa gen k f i lo hi s t l e b qc qb).1
theorem qh7 {gen k f i lo hi s t l e b : Int} {qc qb : LR} (hb : qaH qc) (h0 : (Qa gen k f i lo hi s t l e b qc qb).2 = 0) : isB (Qa gen k f i lo hi s t l e b qc qb).1 := by
 by_cases h3 : gen = 3 ∧ Qo qb = false
 ·obtain ⟨rfl, hs⟩ := h3
  rw [qeG] at h0
  unfold qdt at h0
  rw [hs] at h0
  simp at h0
 ·refine (qi8 (fun h => ?_) hb).1
  cases hs : Qo qb with
  | true => rfl
  | false => exact absurd ⟨h, hs⟩ h3
theorem QL.pure (k : Int) : QL.f BIG k = some (decide (1 ≤ k ∧ k ≤ 3)) := by
 unfold QL.f QL.b
 by_cases h : k ≥ 1
 ·rw [if_pos (by simpa using h)]
  by_cases h2 : k ≤ 3
  ·simp [h2]; omega
  ·simp [h2]
 ·rw [if_neg (by simpa using h)]
  simp; omega
theorem QS.pure (gen k f i lo hi s t l e b : Int) (qc qb : LR) (hr : q0 qc = true) (hl : q0 qb = true) (hln : qb.length < 1000000000) (hb : qaH qc) :
  QS.f BIG gen k f i lo hi s t l e b qc qb = some (qha gen k f i lo hi s t l e b qc qb) := by
 unfold QS.f QS.b qha
 rw [QL.pure, qsZ.pure gen k f i lo hi s t l e b qc qb hr hl hln]
 simp only [veil_eq]
 by_cases h0 : (Qa gen k f i lo hi s t l e b qc qb).2 = 0
 ·rw [Q1.pure gen _ (qh7 hb h0)]
  simp only [veil_eq]
  by_cases hg : 1 ≤ k ∧ k ≤ 3
  ·rw [if_pos (by simpa using hg)]
   by_cases g1 : gen = 1
   ·rw [if_neg (by simp [g1]), if_neg (by simp [h0]), if_neg (by simp [g1]), if_neg (by simp [h0])]
   ·rw [if_pos (by simp [g1]), if_pos ⟨hg, g1⟩]
  ·rw [if_neg (by simpa using hg), if_neg (by simp [h0]), if_neg (by intro h; exact hg h.1), if_neg (by simp [h0])]
 ·by_cases hg : 1 ≤ k ∧ k ≤ 3
  ·rw [if_pos (by simpa using hg)]
   by_cases g1 : gen = 1
   ·rw [if_neg (by simp [g1]), if_pos (by simpa using h0), if_neg (by simp [g1]), if_pos h0]
   ·rw [if_pos (by simp [g1]), if_pos ⟨hg, g1⟩]
  ·rw [if_neg (by simpa using hg), if_pos (by simpa using h0), if_neg (by intro h; exact hg h.1), if_pos h0]
def w4 : List Int := (Qa 1 4 0 0 2 3 0 0 0 0 0 [] []).1
def w1 : List Int := (Qa 1 1 0 0 2 3 7 0 0 0 0 [] []).1
theorem qpF : qaH [] := by
 intro r hr
 simp at hr
def zS (b : List Int) : Int × List Int × Int :=
 if b.length > 65507 then (0, [], 3)
 else if b.length < 8 then (0, [], 2)
 else if Q5 ((b.take 1).drop 0) ≠ 156 ∨ Q5 ((b.take 2).drop 1) < 1 ∨ Q5 ((b.take 2).drop 1) > 3 ∨ Q5 ((b.take 4).drop 2) ≠ ((b.length - 8 : Nat) : Int) then (0, [], 4)
 else if IntKind.wrap .u32 (Q5 (b.drop (b.length - 4))) ≠ (qgz (b.take (b.length - 4)) : Int) then (0, [], 8)
 else (Q5 ((b.take 2).drop 1), (b.take (b.length - 4)).drop 4, 0)
theorem qnd {l : List Int} (h : isB l) (n : Nat) : isB (l.take n) := fun c hc => h c (List.mem_of_mem_take hc)
theorem qro {l : List Int} (h : isB l) (n : Nat) : isB (l.drop n) := fun c hc => h c (List.mem_of_mem_drop hc)
theorem QA.pure (L : List Int) (hb : isB L) (hl : L.length ≤ 1000000) : QA.f BIG L = some (zS L) := by
 have hin := qqr hb hl
 unfold QA.f QA.b zS
 by_cases h1 : L.length > 65507
 ·rw [if_pos (by simp; omega), if_pos h1]
 rw [if_neg (by simp; omega), if_neg h1]
 by_cases h2 : L.length < 8
 ·rw [if_pos (by simp; omega), if_pos h2]
 rw [if_neg (by simp; omega), if_neg h2]
 have hat : ∀ a : Nat, a ≤ L.length → zt L (a : Int) = true := by
  intro a h1
  unfold zt
  rw [hin]
  simp
  omega
 have r0 := qdZ L 1 0 (by omega) (by omega) (by omega)
 have r1 := qdZ L 1 1 (by omega) (by omega) (by omega)
 have r2 := qdZ L 2 2 (by omega) (by omega) (by omega)
 simp only [show ((0 : Nat) : Int) = 0 from rfl, show ((1 : Nat) : Int) = 1 from rfl, show ((2 : Nat) : Int) = 2 from rfl, show ((0 + 1 : Nat) : Int) = 1 from rfl, show ((1 + 1 : Nat) : Int) = 2 from rfl, show ((2 + 2 : Nat) : Int) = 4 from rfl, show 0 + 1 = 1 from rfl, show 1 + 1 = 2 from rfl, show 2 + 2 = 4 from rfl] at r0 r1 r2
 have a0 := hat 0 (by omega)
 have a1 := hat 1 (by omega)
 have a2 := hat 2 (by omega)
 have a4 := hat 4 (by omega)
 simp only [show ((0 : Nat) : Int) = 0 from rfl, show ((1 : Nat) : Int) = 1 from rfl, show ((2 : Nat) : Int) = 2 from rfl, show ((4 : Nat) : Int) = 4 from rfl] at a0 a1 a2 a4
 rw [if_pos hin, if_pos a0]
 simp only [veil_eq, r0]
 rw [if_pos a1]
 simp only [veil_eq, r1]
 rw [if_pos a2]
 simp only [veil_eq, r2]
 have w8 : IntKind.wrap .i64 (((L.length : Nat) : Int) - 8) = ((L.length - 8 : Nat) : Int) := by rw [qX _ (by omega) (by omega)]; omega
 have w4 : IntKind.wrap .i64 (((L.length : Nat) : Int) - 4) = ((L.length - 4 : Nat) : Int) := by rw [qX _ (by omega) (by omega)]; omega
 rw [w8]
 by_cases c0' : Q5 ((L.take 1).drop 0) ≠ 156
 ·rw [if_pos (bne_iff_ne.2 c0'), if_pos (.inl c0')]
 have c0 : Q5 ((L.take 1).drop 0) = 156 := Decidable.not_not.1 c0'
 rw [if_neg (by rw [bne_iff_ne]; exact c0')]
 by_cases c1 : Q5 ((L.take 2).drop 1) < 1
 ·rw [if_pos (decide_eq_true c1), if_pos (.inr (.inl c1))]
 rw [if_neg (by rw [decide_eq_true_eq]; exact c1)]
 by_cases c3 : Q5 ((L.take 2).drop 1) > 3
 ·rw [if_pos (decide_eq_true c3), if_pos (.inr (.inr (.inl c3)))]
 rw [if_neg (by rw [decide_eq_true_eq]; exact c3)]
 by_cases cn' : Q5 ((L.take 4).drop 2) ≠ ((L.length - 8 : Nat) : Int)
 ·rw [if_pos (bne_iff_ne.2 cn'), if_pos (.inr (.inr (.inr cn')))]
 have cn : Q5 ((L.take 4).drop 2) = ((L.length - 8 : Nat) : Int) := Decidable.not_not.1 cn'
 have hno : ¬ (Q5 ((L.take 1).drop 0) ≠ 156 ∨ Q5 ((L.take 2).drop 1) < 1 ∨ Q5 ((L.take 2).drop 1) > 3 ∨ Q5 ((L.take 4).drop 2) ≠ ((L.length - 8 : Nat) : Int)) := by
  rintro (h | h | h | h)
  ·exact h c0
  ·exact c1 h
  ·exact c3 h
  ·exact h cn
 rw [if_neg (by rw [bne_iff_ne]; exact cn'), if_neg hno, if_pos a4, cn]
 have r3 := qln L (L.length - 8) 4 (by omega)
 have r4 := qdZ L 4 (4 + (L.length - 8)) (by omega) (by omega) (by omega)
 have a5 := hat (4 + (L.length - 8)) (by omega)
 have e4 : 4 + (L.length - 8) = L.length - 4 := by omega
 rw [e4] at r3 r4 a5
 rw [List.take_of_length_le (show L.length ≤ L.length - 4 + 4 by omega)] at r4
 simp only [show ((4 : Nat) : Int) = 4 from rfl] at r3 r4
 simp only [veil_eq, r3]
 rw [if_pos a5]
 simp only [veil_eq, r4]
 rw [w4, if_pos (by omega), Int.toNat_natCast, List.drop_zero, zX.pure _ (qnd hb _) (by simp; omega)]
 simp only [veil_eq]
 by_cases cs : IntKind.wrap .u32 (Q5 (L.drop (L.length - 4))) = (qgz (L.take (L.length - 4)) : Int)
 ·rw [if_neg (by rw [bne_iff_ne]; exact fun h => h cs), if_neg (fun h => h cs)]
 ·rw [if_pos (bne_iff_ne.2 cs), if_pos cs]
theorem qhs {b : List Int} (hb : isB b) : isB (zS b).2.1 ∧ (zS b).2.1.length ≤ b.length := by
 unfold zS
 split
 ·exact ⟨qaA, by simp⟩
 ·split
  ·exact ⟨qaA, by simp⟩
  ·split
   ·exact ⟨qaA, by simp⟩
   ·split
    ·exact ⟨qaA, by simp⟩
    ·exact ⟨qro (qnd hb _) _, by simp; omega⟩
def qiw (lo hi gen : Int) : Bool := okS lo hi && (decide (lo ≤ gen) && decide (gen ≤ hi))
theorem ZQ.pure (lo hi gen : Int) : ZQ.f BIG lo hi gen = some (qiw lo hi gen) := by
 unfold ZQ.f ZQ.b qiw
 cases okS lo hi with
 | false => rw [if_neg (by simp)]; rfl
 | true =>
  rw [if_pos rfl]
  by_cases h : lo ≤ gen
  ·rw [if_pos (decide_eq_true h), decide_eq_true h]; rfl
  ·rw [if_neg (by rw [decide_eq_true_eq]; exact h), decide_eq_false h]; rfl
abbrev P14 := Int × Int × Int × Int × Int × Int × Int × Int × Int × Int × LR × Int × List Int × Int
def zP (g e : Int) : P14 := (0, 0, 0, 0, 0, 0, 0, 0, 0, 0, [], g, [], e)
def qhB (g : Int) (zc : List Int) (h : M12) : P14 := (h.1, h.2.1, h.2.2.1, h.2.2.2.1, h.2.2.2.2.1, h.2.2.2.2.2.1, h.2.2.2.2.2.2.1, h.2.2.2.2.2.2.2.1, h.2.2.2.2.2.2.2.2.1, h.2.2.2.2.2.2.2.2.2.1, h.2.2.2.2.2.2.2.2.2.2.1, g, zc, 0)
def qdC (k : Int) : Bool := decide (1 ≤ k ∧ k ≤ 3)
def zI (b : List Int) (lo hi : Int) : P14 :=
 if (zS b).2.2 ≠ 0 then zP 0 (zS b).2.2
 else if qiw lo hi (zS b).1 = false ∧ ((zS b).1 ≠ 1 ∨ ¬ (qaB (QV (zS b).1 (zS b).2.1) = 0 ∧ qdC (QV (zS b).1 (zS b).2.1).1 = true)) then zP (zS b).1 9
 else if qaB (QV (zS b).1 (zS b).2.1) ≠ 0 then zP 0 (qaB (QV (zS b).1 (zS b).2.1))
 else if qdC (QV (zS b).1 (zS b).2.1).1 = true ∧ (zS b).1 ≠ 1 then zP 0 10
 else qhB (zS b).1 (zS b).2.1 (QV (zS b).1 (zS b).2.1)
theorem Qp.pure (b : List Int) (lo hi : Int) (hb : isB b) (hl : b.length ≤ 1000000) : Qp.f BIG b lo hi = some (zI b lo hi) := by
 obtain ⟨h1, h2⟩ := qhs hb
 unfold Qp.f Qp.b zI
 rw [QA.pure b hb hl]
 simp only [veil_eq]
 rw [qsN.pure _ _ h1 (by omega), ZQ.pure]
 simp only [veil_eq]
 rw [QL.pure]
 simp only [veil_eq]
 rw [show (decide (1 ≤ (QV (zS b).1 (zS b).2.1).1 ∧ (QV (zS b).1 (zS b).2.1).1 ≤ 3)) = qdC (QV (zS b).1 (zS b).2.1).1 from rfl]
 rw [show (QV (zS b).1 (zS b).2.1).2.2.2.2.2.2.2.2.2.2.2 = qaB (QV (zS b).1 (zS b).2.1) from rfl]
 generalize zS b = O
 generalize hH : QV O.1 O.2.1 = H
 generalize qiw lo hi O.1 = has
 generalize qdC H.1 = gr
 by_cases e0 : O.2.2 = 0
 ·by_cases eh : qaB H = 0
  ·by_cases g1 : O.1 = 1
   ·cases has <;> cases gr <;> simp [e0, eh, g1, zP, qhB]
   ·cases has <;> cases gr <;> simp [e0, eh, g1, zP, qhB]
  ·by_cases g1 : O.1 = 1
   ·cases has <;> cases gr <;> simp [e0, eh, g1, zP, qhB]
   ·cases has <;> cases gr <;> simp [e0, eh, g1, zP, qhB]
 ·simp [e0, zP]
theorem qqf (gen : Int) (b : List Int) : 0 ≤ qsL (QV gen b) := by
 unfold QV
 by_cases h3 : gen = 3
 ·rw [if_pos (by simp [h3])]
  unfold qg1
  cases hh : hdS b with
  | none => exact Int.le_refl _
  | some m =>
   obtain ⟨k, f, i, lo, hi, s, t, l, e, bb, a⟩ := m
   show 0 ≤ bb
   unfold hdS at hh
   dsimp only at hh
   split at hh
   ·cases hh
   ·split at hh
    ·rename_i hv
     cases hh
     exact (qdA (Qk hv).2.2.2.2.2.2.2.2.2.2.2.1).2.2.2.2.1
    ·cases hh
 ·rw [if_neg (by simp [h3])]
  unfold QU
  split
  ·exact Int.le_refl _
  ·split
   ·exact Int.le_refl _
   ·split
    ·rename_i h; exact absurd (by simpa using h) h3
    ·exact Int.le_refl _
theorem qqi (b : List Int) (lo hi : Int) : 0 ≤ (zI b lo hi).2.2.2.2.2.2.2.2.2.1 := by
 unfold zI
 split
 ·exact Int.le_refl _
 ·split
  ·exact Int.le_refl _
  ·split
   ·exact Int.le_refl _
   ·split
    ·exact Int.le_refl _
    ·exact qqf _ _
theorem qgg {b : List Int} (lo hi : Int) (hb : isB b) : isB (zI b lo hi).2.2.2.2.2.2.2.2.2.2.2.2.1 ∧ (zI b lo hi).2.2.2.2.2.2.2.2.2.2.2.2.1.length ≤ b.length := by
 have hz : ∀ g e : Int, isB (zP g e).2.2.2.2.2.2.2.2.2.2.2.2.1 ∧ (zP g e).2.2.2.2.2.2.2.2.2.2.2.2.1.length ≤ b.length := fun g e => ⟨qaA, Nat.zero_le _⟩
 unfold zI
 split
 ·exact hz _ _
 ·split
  ·exact hz _ _
  ·split
   ·exact hz _ _
   ·split
    ·exact hz _ _
    ·exact qhs hb
def qdF : Env := ⟨th, gam [(11, Zs), (14, Ql), (22, Q2), (23, qaM), (24, qaL), (45, qaN), (46, qbg)], fun i => if i = 12 then ⟨[6, 7, 9, 10], [(9, 3, tQi)], []⟩ else if i = 17 then ⟨[6, 7, 9, 11], [], []⟩ else ⟨[], [], []⟩⟩
def qY.k (rs : List AV) (os : List Den.Obj) : Option ((List ByteArray) × (List Int)) :=
 match rs, os with
 | [.row 0, .row 1], [.row 9 .str r0 false, .row 3 (.int .i64) r1 false] => some (r0, r1)
 | _, _ => none
def qY.s17 (b : List Int) (x21 : Int) (x22 : (List ByteArray)) (x23 x24 x25 x26 x27 x28 x29 x30 x31 x32 : Int) (x33 : LR) (x34 : (List Int)) : St := ⟨[dD, dD, dD, dD, dD, dD, .row 64, .ptr 65 0, .dead, .row 66, .dead, .d tQi x21, dD, dD, dD, dD, dD, dD, dD, dD, dD, dD, dD, dD, dD, dD, dD, dD, dD, dD, dD, dD, dD, dD, dD, dD, dD, dD, dD, dD, dD, dD, dD, dD, dD, dD, dD, dD, dD, dD, dD, dD, dD, dD, dD, dD, dD, dD, dD, dD, dD, dD, dD, dD, dD, dD, dD, dD, dD, dD, dD, dD, dD, dD, dD, dD, dD, dD, dD, dD, dD, dD, dD, .dead], ofL [(64, .row 9 .str x22 false), (65, .box [.d tQi x23, .d tQi x24, .d tQi x25, .d tQi x26, .d tQi x27, .d tQi x28, .d tQi x29, .d tQi x30, .d tQi x31, .d tQi x32, .d (.sl tQr) x33]), (66, .row 3 tQi x34 false)], 0⟩
def qY.p17 (qa : Nat) (b : List Int) (k : Nat) := fun x21 x22 x23 x24 x25 x26 x27 x28 x29 x30 x31 x32 x33 x34 => lp qdF qa Tryz.f25 [.own 9 .str, .own 3 tQi] 0 qY.k 17 [] k (qY.s17 b x21 x22 x23 x24 x25 x26 x27 x28 x29 x30 x31 x32 x33 x34)
def qY.b17 (b : List Int) (A17 : Int → (List ByteArray) → Int → Int → Int → Int → Int → Int → Int → Int → Int → Int → LR → (List Int) → Option ((List ByteArray) × (List Int))) (x21 : Int) (x22 : (List ByteArray)) (x23 : Int) (x24 : Int) (x25 : Int) (x26 : Int) (x27 : Int) (x28 : Int) (x29 : Int) (x30 : Int) (x31 : Int) (x32 : Int) (x33 : LR) (x34 : (List Int)) : Option ((List ByteArray) × (List Int)) :=
 (if (decide (x21 < ((((List.length x33)) : Nat) : Int))) then (match (idx x33 x21) with | none => none | some y35 => (match (veil (zy.f BIG y35.1 y35.2.1 y35.2.2.1 y35.2.2.2.1.1 y35.2.2.2.1.2 y35.2.2.2.2.1 y35.2.2.2.2.2)) with | none => none | some y36 => (if (((ByteArray.size (⟨((32 :: (32 :: ([] : List UInt8)))).toArray⟩ : ByteArray)) + (ByteArray.size y36)) ≤ (1099511627776 : Nat)) then (if ((((List.length x22) + (List.length (((⟨((32 :: (32 :: ([] : List UInt8)))).toArray⟩ : ByteArray) ++ y36) :: ([] : List ByteArray)))) * (16 : Nat)) ≤ lim) then A17 (IntKind.wrap .i64 (x21 + (1 : Int))) (x22 ++ (((⟨((32 :: (32 :: ([] : List UInt8)))).toArray⟩ : ByteArray) ++ y36) :: ([] : List ByteArray))) x23 x24 x25 x26 x27 x28 x29 x30 x31 x32 x33 x34 else none) else none))) else some (x22, x34))
def qY.l17 (qa : Nat) (b : List Int) : Nat → Int → (List ByteArray) → Int → Int → Int → Int → Int → Int → Int → Int → Int → Int → LR → (List Int) → Option ((List ByteArray) × (List Int))
 | 0, _, _, _, _, _, _, _, _, _, _, _, _, _, _ => none
 | k + 1, x21, x22, x23, x24, x25, x26, x27, x28, x29, x30, x31, x32, x33, x34 => qY.b17 b (qY.l17 qa b k) x21 x22 x23 x24 x25 x26 x27 x28 x29 x30 x31 x32 x33 x34
def qY.s12 (b : List Int) (x6 : Int) (x7 : (List ByteArray)) (x8 x9 x10 x11 x12 x13 x14 x15 x16 x17 : Int) (x18 : LR) (x19 : (List Int)) : St := ⟨[dD, dD, dD, dD, dD, dD, .row 64, .ptr 65 0, .dead, .row 66, .d tQi x6, dD, dD, dD, dD, dD, dD, dD, dD, dD, dD, dD, dD, dD, dD, dD, dD, dD, dD, dD, dD, dD, dD, dD, dD, dD, dD, dD, dD, dD, dD, dD, dD, dD, dD, dD, dD, dD, dD, dD, dD, dD, dD, dD, dD, dD, dD, dD, dD, dD, dD, dD, dD, dD, dD, dD, dD, dD, dD, dD, dD, dD, dD, dD, dD, dD, dD, dD, dD, dD, dD, dD, dD, .dead], ofL [(64, .row 9 .str x7 false), (65, .box [.d tQi x8, .d tQi x9, .d tQi x10, .d tQi x11, .d tQi x12, .d tQi x13, .d tQi x14, .d tQi x15, .d tQi x16, .d tQi x17, .d (.sl tQr) x18]), (66, .row 3 tQi x19 false)], 0⟩
def qY.p12 (qa : Nat) (b : List Int) (k : Nat) := fun x6 x7 x8 x9 x10 x11 x12 x13 x14 x15 x16 x17 x18 x19 => lp qdF qa Tryz.f25 [.own 9 .str, .own 3 tQi] 0 qY.k 12 [] k (qY.s12 b x6 x7 x8 x9 x10 x11 x12 x13 x14 x15 x16 x17 x18 x19)
def qY.b12 (b : List Int) (A12 : Int → (List ByteArray) → Int → Int → Int → Int → Int → Int → Int → Int → Int → Int → LR → (List Int) → Option ((List ByteArray) × (List Int))) (E17 : Int → (List ByteArray) → Int → Int → Int → Int → Int → Int → Int → Int → Int → Int → LR → (List Int) → Option ((List ByteArray) × (List Int))) (x6 : Int) (x7 : (List ByteArray)) (x8 : Int) (x9 : Int) (x10 : Int) (x11 : Int) (x12 : Int) (x13 : Int) (x14 : Int) (x15 : Int) (x16 : Int) (x17 : Int) (x18 : LR) (x19 : (List Int)) : Option ((List ByteArray) × (List Int)) :=
 (if (decide (x6 ≤ (3 : Int))) then (match (veil (qao.f BIG x8 x9 x10 x11 x12 x13 x14 x15 x16 x17 x18 x6)) with | none => none | some y20 => (if y20 then (if ((((List.length x19) + (List.length (x6 :: ([] : List Int)))) * (8 : Nat)) ≤ lim) then A12 (IntKind.wrap .i64 (x6 + (1 : Int))) x7 x8 x9 x10 x11 x12 x13 x14 x15 x16 x17 x18 (x19 ++ (x6 :: ([] : List Int))) else none) else A12 (IntKind.wrap .i64 (x6 + (1 : Int))) x7 x8 x9 x10 x11 x12 x13 x14 x15 x16 x17 x18 x19)) else E17 (0 : Int) x7 x8 x9 x10 x11 x12 x13 x14 x15 x16 x17 x18 x19)
def qY.l12 (qa : Nat) (b : List Int) : Nat → Int → (List ByteArray) → Int → Int → Int → Int → Int → Int → Int → Int → Int → Int → LR → (List Int) → Option ((List ByteArray) × (List Int))
 | 0, _, _, _, _, _, _, _, _, _, _, _, _, _, _ => none
 | k + 1, x6, x7, x8, x9, x10, x11, x12, x13, x14, x15, x16, x17, x18, x19 => qY.b12 b (qY.l12 qa b k) (qY.l17 qa b qa) x6 x7 x8 x9 x10 x11 x12 x13 x14 x15 x16 x17 x18 x19
def qY.b (b : List Int) (E12 : Int → (List ByteArray) → Int → Int → Int → Int → Int → Int → Int → Int → Int → Int → LR → (List Int) → Option ((List ByteArray) × (List Int))) : Option ((List ByteArray) × (List Int)) :=
 (match (veil (Qp.f BIG b (1 : Int) (3 : Int))) with | none => none | some y0 => (if (y0.2.2.2.2.2.2.2.2.2.2.2.2.2 != (0 : Int)) then (match (veil (ZD.f BIG y0.2.2.2.2.2.2.2.2.2.2.2.2.2)) with | none => none | some y1 => (if (((ByteArray.size (⟨((98 :: (97 :: (100 :: (32 :: ([] : List UInt8)))))).toArray⟩ : ByteArray)) + (ByteArray.size y1)) ≤ (1099511627776 : Nat)) then some ((((⟨((98 :: (97 :: (100 :: (32 :: ([] : List UInt8)))))).toArray⟩ : ByteArray) ++ y1) :: ([] : List ByteArray)), ([] : List Int)) else none)) else (match (veil (zl.f BIG y0.2.2.2.2.2.2.2.2.2.2.2.1)) with | none => none | some y2 => (if (((ByteArray.size (⟨((103 :: (101 :: (110 :: (32 :: ([] : List UInt8)))))).toArray⟩ : ByteArray)) + (ByteArray.size y2)) ≤ (1099511627776 : Nat)) then (if (((ByteArray.size ((⟨((103 :: (101 :: (110 :: (32 :: ([] : List UInt8)))))).toArray⟩ : ByteArray) ++ y2)) + (ByteArray.size (⟨((32 :: ([] : List UInt8))).toArray⟩ : ByteArray))) ≤ (1099511627776 : Nat)) then (match (veil (qJ.f BIG y0.1 y0.2.1 y0.2.2.1 y0.2.2.2.1 y0.2.2.2.2.1 y0.2.2.2.2.2.1 y0.2.2.2.2.2.2.1 y0.2.2.2.2.2.2.2.1 y0.2.2.2.2.2.2.2.2.1 y0.2.2.2.2.2.2.2.2.2.1 y0.2.2.2.2.2.2.2.2.2.2.1)) with | none => none | some y3 => (if (((ByteArray.size (((⟨((103 :: (101 :: (110 :: (32 :: ([] : List UInt8)))))).toArray⟩ : ByteArray) ++ y2) ++ (⟨((32 :: ([] : List UInt8))).toArray⟩ : ByteArray))) + (ByteArray.size y3)) ≤ (1099511627776 : Nat)) then (if (decide (y0.2.2.2.2.2.2.2.2.2.1 > (0 : Int))) then some (((((((⟨((103 :: (101 :: (110 :: (32 :: ([] : List UInt8)))))).toArray⟩ : ByteArray) ++ y2) ++ (⟨((32 :: ([] : List UInt8))).toArray⟩ : ByteArray)) ++ y3) :: ([] : List ByteArray)) ++ ((⟨((32 :: (32 :: (117 :: (110 :: (114 :: (101 :: (97 :: (100 :: ([] : List UInt8)))))))))).toArray⟩ : ByteArray) :: ([] : List ByteArray))), ([] : List Int)) else (match (veil (zK.f BIG y0.1 y0.2.1 y0.2.2.1 y0.2.2.2.1 y0.2.2.2.2.1 y0.2.2.2.2.2.1 y0.2.2.2.2.2.2.1 y0.2.2.2.2.2.2.2.1 y0.2.2.2.2.2.2.2.2.1 y0.2.2.2.2.2.2.2.2.2.1 y0.2.2.2.2.2.2.2.2.2.2.1 y0.2.2.2.2.2.2.2.2.2.2.2.1 y0.2.2.2.2.2.2.2.2.2.2.2.2.1 ([] : LR))) with | none => none | some y4 => (if (y4.2.2.2.2.2.2.2.2.2.2.2 != (0 : Int)) then (match (veil (ZD.f BIG y4.2.2.2.2.2.2.2.2.2.2.2)) with | none => none | some y5 => (if (((ByteArray.size (⟨((32 :: (32 :: (98 :: (97 :: (100 :: (32 :: ([] : List UInt8)))))))).toArray⟩ : ByteArray)) + (ByteArray.size y5)) ≤ (1099511627776 : Nat)) then some (((((((⟨((103 :: (101 :: (110 :: (32 :: ([] : List UInt8)))))).toArray⟩ : ByteArray) ++ y2) ++ (⟨((32 :: ([] : List UInt8))).toArray⟩ : ByteArray)) ++ y3) :: ([] : List ByteArray)) ++ (((⟨((32 :: (32 :: (98 :: (97 :: (100 :: (32 :: ([] : List UInt8)))))))).toArray⟩ : ByteArray) ++ y5) :: ([] : List ByteArray))), ([] : List Int)) else none)) else E12 (1 : Int) (((((⟨((103 :: (101 :: (110 :: (32 :: ([] : List UInt8)))))).toArray⟩ : ByteArray) ++ y2) ++ (⟨((32 :: ([] : List UInt8))).toArray⟩ : ByteArray)) ++ y3) :: ([] : List ByteArray)) y4.1 y4.2.1 y4.2.2.1 y4.2.2.2.1 y4.2.2.2.2.1 y4.2.2.2.2.2.1 y4.2.2.2.2.2.2.1 y4.2.2.2.2.2.2.2.1 y4.2.2.2.2.2.2.2.2.1 y4.2.2.2.2.2.2.2.2.2.1 y4.2.2.2.2.2.2.2.2.2.2.1 ([] : List Int)))) else none)) else none) else none))))
def qY.f (qa : Nat) (b : List Int) : Option ((List ByteArray) × (List Int)) := qY.b b (qY.l12 qa b qa)
theorem qY.l17_eq (qa : Nat) (b : List Int) : ∀ k : Nat, qY.p17 qa b k = qY.l17 qa b k
 | 0 => by kernel_rfl
 | k + 1 => by
  refine Eq.trans (b := qY.b17 b (qY.p17 qa b k)) (by kernel_rfl) ?_
  rw [qY.l17_eq qa b k]
  kernel_rfl
theorem qY.l12_eq (qa : Nat) (b : List Int) : ∀ k : Nat, qY.p12 qa b k = qY.l12 qa b k
 | 0 => by kernel_rfl
 | k + 1 => by
  refine Eq.trans (b := qY.b12 b (qY.p12 qa b k) (qY.p17 qa b qa)) (by kernel_rfl) ?_
  rw [qY.l12_eq qa b k, qY.l17_eq qa b qa]
  kernel_rfl
theorem qY.eq (qa : Nat) (b : List Int) : (denF qdF loopN qa Tryz.f25 [.own 9 .str, .own 3 tQi] [.d (.sl (.int .u8)) b] [] qY.k) = qY.f qa b := by
 refine Eq.trans (b := qY.b b (qY.p12 qa b qa)) (by kernel_rfl) ?_
 rw [qY.l12_eq qa b qa]
 kernel_rfl
def qa5 : Den.Sum := ⟨[.dat (.sl (.int .u8)) false], fun qK qm κ => match qK, qm with
 | [.d (.sl (.int .u8)) b], [] => (match veil (qY.f BIG b) with | none => none | some y => κ [.row 0, .row 1] [.row 9 .str y.1 false, .row 3 (.int .i64) y.2 false])
 | _, _ => none⟩
theorem qi2 : SumDet qa5 := zj fun _ _ _ _ => by
 unfold qa5
 simp only [veil_eq]
 split
 ·split <;> rfl
 ·rfl
theorem qjJ : SumOk Tryz.prog 25 qa5 := by
 have hE : EnvOk Tryz.prog qdF := env_ok (l := [(11, Zs), (14, Ql), (22, Q2), (23, qaM), (24, qaL), (45, qaN), (46, qbg)]) th_ok qZ ⟨⟨qdN, qdp⟩, ⟨qbG, qbv⟩, ⟨qcc, qbP⟩, ⟨qgS, qga⟩, ⟨qgR, qf9⟩, ⟨qgT, qgb⟩, ⟨qhU, qgY⟩, trivial⟩ _
 refine sum_ok hE Tryz.func25 rfl (by kernel_rfl) qa5 [.own 9 .str, .own 3 tQi] qY.k ?_
 intro R avs qm κ r h
 unfold qa5 at h
 simp only [veil_eq] at h
 split at h
 ·rename_i b
  split at h
  ·cases h
  ·rename_i y hy
   refine ⟨BIG, _, _, _, (qY.eq BIG b).trans hy, ?_, h⟩
   intro rs ros hk
   unfold qY.k at hk
   split at hk
   ·rw [← sj hk]; exact ⟨rfl, rfl⟩
   ·cases hk
 ·cases h
def qh3 : Env := ⟨th, gam [], fun i => ⟨[], [], []⟩⟩
def ZC.k (rs : List AV) (os : List Den.Obj) : Option (Int × Int) :=
 match rs, os with
 | [.agg [.d (.int .i64) r0, .d (.int .i64) r1]], [] => some (r0, r1)
 | _, _ => none
def ZC.b (u : Unit) : Option (Int × Int) :=
 some ((1 : Int), (3 : Int))
def ZC.f (qa : Nat) (u : Unit) : Option (Int × Int) := ZC.b u
theorem ZC.eq (qa : Nat) (u : Unit) : (denF qh3 loopN qa Tryz.f36 [.dat (.pair tQi tQi) true] [] [] ZC.k) = ZC.f qa u := by
 kernel_rfl
def qai : Den.Sum := ⟨[], fun qK qm κ => match qK, qm with
 | [], [] => (match veil (ZC.f BIG ()) with | none => none | some y => κ [.agg [.d (.int .i64) y.1, .d (.int .i64) y.2]] [])
 | _, _ => none⟩
theorem qfk : SumDet qai := zj fun _ _ _ _ => by
 unfold qai
 simp only [veil_eq]
 split
 ·split <;> rfl
 ·rfl
theorem qfQ : SumOk Tryz.prog 36 qai := by
 have hE : EnvOk Tryz.prog qh3 := env_ok (l := []) th_ok qZ trivial _
 refine sum_ok hE Tryz.func36 rfl (by kernel_rfl) qai [.dat (.pair tQi tQi) true] ZC.k ?_
 intro R avs qm κ r h
 unfold qai at h
 simp only [veil_eq] at h
 split at h
 ·skip
  split at h
  ·cases h
  ·rename_i y hy
   refine ⟨BIG, _, _, _, (ZC.eq BIG ()).trans hy, ?_, h⟩
   intro rs ros hk
   unfold ZC.k at hk
   split at hk
   ·rw [← sj hk]; exact ⟨rfl, rfl⟩
   ·cases hk
 ·cases h
def qh2 : Env := ⟨th, gam [(45, qaN)], fun i => ⟨[], [], []⟩⟩
def Q3.k (rs : List AV) (os : List Den.Obj) : Option ByteArray :=
 match rs, os with
 | [.d .str r0], [] => some r0
 | _, _ => none
def Q3.b (e : Int) : Option ByteArray :=
 (match (veil (ZD.f BIG e)) with | none => none | some y0 => (if (((ByteArray.size (⟨((98 :: (97 :: (100 :: (32 :: ([] : List UInt8)))))).toArray⟩ : ByteArray)) + (ByteArray.size y0)) ≤ (1099511627776 : Nat)) then some (((⟨((98 :: (97 :: (100 :: (32 :: ([] : List UInt8)))))).toArray⟩ : ByteArray) ++ y0)) else none))
def Q3.f (qa : Nat) (e : Int) : Option ByteArray := Q3.b e
theorem Q3.eq (qa : Nat) (e : Int) : (denF qh2 loopN qa Tryz.f37 [.raw] [.d tQi e] [] Q3.k) = Q3.f qa e := by
 kernel_rfl
def qa9 : Den.Sum := ⟨[.raw], fun qK qm κ => match qK, qm with
 | [.d (.int .i64) e], [] => (match veil (Q3.f BIG e) with | none => none | some y => κ [.d .str y] [])
 | _, _ => none⟩
theorem qi6 : SumDet qa9 := zj fun _ _ _ _ => by
 unfold qa9
 simp only [veil_eq]
 split
 ·split <;> rfl
 ·rfl
theorem qjQ : SumOk Tryz.prog 37 qa9 := by
 have hE : EnvOk Tryz.prog qh2 := env_ok (l := [(45, qaN)]) th_ok qZ ⟨⟨qgT, qgb⟩, trivial⟩ _
 refine sum_ok hE Tryz.func37 rfl (by kernel_rfl) qa9 [.raw] Q3.k ?_
 intro R avs qm κ r h
 unfold qa9 at h
 simp only [veil_eq] at h
 split at h
 ·rename_i e
  split at h
  ·cases h
  ·rename_i y hy
   refine ⟨BIG, _, _, _, (Q3.eq BIG e).trans hy, ?_, h⟩
   intro rs ros hk
   unfold Q3.k at hk
   split at hk
   ·rw [← sj hk]; exact ⟨rfl, rfl⟩
   ·cases hk
 ·cases h
def qes : Env := ⟨th, gam [(11, Zs), (14, Ql), (18, Qz), (22, Q2), (23, qaM), (24, qaL), (36, qai), (37, qa9)], fun i => if i = 11 then ⟨[5, 49, 50, 51], [], []⟩ else ⟨[], [], []⟩⟩
def zh.k (rs : List AV) (os : List Den.Obj) : Option (List ByteArray) :=
 match rs, os with
 | [.row 0], [.row 9 .str r0 false] => some r0
 | _, _ => none
def zh.s11 (b : List Int) (x8 : LR) (x9 x10 : Int) (x11 : (List ByteArray)) : St := ⟨[dD, dD, dD, dD, dD, .row 64, dD, dD, dD, dD, dD, dD, dD, dD, dD, dD, dD, dD, dD, dD, dD, dD, dD, dD, dD, dD, dD, dD, dD, dD, dD, dD, dD, dD, dD, dD, dD, dD, dD, dD, dD, dD, dD, dD, dD, dD, dD, dD, dD, .d (.sl tQr) x8, .d tQi x9, .d tQi x10, dD, dD, dD, dD, dD, dD, dD, dD, dD, dD, .dead], ofL [(64, .row 9 .str x11 false)], 0⟩
def zh.p11 (qa : Nat) (b : List Int) (k : Nat) := fun x8 x9 x10 x11 => lp qes qa Tryz.f21 [.own 9 .str] 0 zh.k 11 [] k (zh.s11 b x8 x9 x10 x11)
def zh.b11 (b : List Int) (A11 : LR → Int → Int → (List ByteArray) → Option (List ByteArray)) (x8 : LR) (x9 : Int) (x10 : Int) (x11 : (List ByteArray)) : Option (List ByteArray) :=
 (if (decide (x10 < x9)) then (match (idx x8 x10) with | none => none | some y12 => (match (veil (zy.f BIG y12.1 y12.2.1 y12.2.2.1 y12.2.2.2.1.1 y12.2.2.2.1.2 y12.2.2.2.2.1 y12.2.2.2.2.2)) with | none => none | some y13 => (if (((ByteArray.size (⟨((32 :: (32 :: ([] : List UInt8)))).toArray⟩ : ByteArray)) + (ByteArray.size y13)) ≤ (1099511627776 : Nat)) then (if ((((List.length x11) + (List.length (((⟨((32 :: (32 :: ([] : List UInt8)))).toArray⟩ : ByteArray) ++ y13) :: ([] : List ByteArray)))) * (16 : Nat)) ≤ lim) then A11 x8 x9 (IntKind.wrap .i64 (x10 + (1 : Int))) (x11 ++ (((⟨((32 :: (32 :: ([] : List UInt8)))).toArray⟩ : ByteArray) ++ y13) :: ([] : List ByteArray))) else none) else none))) else some (x11))
def zh.l11 (qa : Nat) (b : List Int) : Nat → LR → Int → Int → (List ByteArray) → Option (List ByteArray)
 | 0, _, _, _, _ => none
 | k + 1, x8, x9, x10, x11 => zh.b11 b (zh.l11 qa b k) x8 x9 x10 x11
def zh.b (b : List Int) (E11 : LR → Int → Int → (List ByteArray) → Option (List ByteArray)) : Option (List ByteArray) :=
 (match (veil (ZC.f BIG ())) with | none => none | some y0 => (match (veil (Qp.f BIG b y0.1 y0.2)) with | none => none | some y1 => (if (y1.2.2.2.2.2.2.2.2.2.2.2.2.2 != (0 : Int)) then (match (veil (Q3.f BIG y1.2.2.2.2.2.2.2.2.2.2.2.2.2)) with | none => none | some y2 => some ((y2 :: ([] : List ByteArray)))) else (match (veil (zl.f BIG y1.2.2.2.2.2.2.2.2.2.2.2.1)) with | none => none | some y3 => (if (((ByteArray.size (⟨((103 :: (101 :: (110 :: (32 :: ([] : List UInt8)))))).toArray⟩ : ByteArray)) + (ByteArray.size y3)) ≤ (1099511627776 : Nat)) then (if (((ByteArray.size ((⟨((103 :: (101 :: (110 :: (32 :: ([] : List UInt8)))))).toArray⟩ : ByteArray) ++ y3)) + (ByteArray.size (⟨((32 :: ([] : List UInt8))).toArray⟩ : ByteArray))) ≤ (1099511627776 : Nat)) then (match (veil (qJ.f BIG y1.1 y1.2.1 y1.2.2.1 y1.2.2.2.1 y1.2.2.2.2.1 y1.2.2.2.2.2.1 y1.2.2.2.2.2.2.1 y1.2.2.2.2.2.2.2.1 y1.2.2.2.2.2.2.2.2.1 y1.2.2.2.2.2.2.2.2.2.1 y1.2.2.2.2.2.2.2.2.2.2.1)) with | none => none | some y4 => (if (((ByteArray.size (((⟨((103 :: (101 :: (110 :: (32 :: ([] : List UInt8)))))).toArray⟩ : ByteArray) ++ y3) ++ (⟨((32 :: ([] : List UInt8))).toArray⟩ : ByteArray))) + (ByteArray.size y4)) ≤ (1099511627776 : Nat)) then (match (veil (Qd.f BIG y1.1 y1.2.1 y1.2.2.1 y1.2.2.2.1 y1.2.2.2.2.1 y1.2.2.2.2.2.1 y1.2.2.2.2.2.2.1 y1.2.2.2.2.2.2.2.1 y1.2.2.2.2.2.2.2.2.1 y1.2.2.2.2.2.2.2.2.2.1 y1.2.2.2.2.2.2.2.2.2.2.1 y1.2.2.2.2.2.2.2.2.2.2.2.1 y1.2.2.2.2.2.2.2.2.2.2.2.2.1)) with | none => none | some y5 => (if y5 then some (((((((⟨((103 :: (101 :: (110 :: (32 :: ([] : List UInt8)))))).toArray⟩ : ByteArray) ++ y3) ++ (⟨((32 :: ([] : List UInt8))).toArray⟩ : ByteArray)) ++ y4) :: ([] : List ByteArray)) ++ ((⟨((32 :: (32 :: (117 :: (110 :: (114 :: (101 :: (97 :: (100 :: ([] : List UInt8)))))))))).toArray⟩ : ByteArray) :: ([] : List ByteArray)))) else (match (veil (zK.f BIG y1.1 y1.2.1 y1.2.2.1 y1.2.2.2.1 y1.2.2.2.2.1 y1.2.2.2.2.2.1 y1.2.2.2.2.2.2.1 y1.2.2.2.2.2.2.2.1 y1.2.2.2.2.2.2.2.2.1 y1.2.2.2.2.2.2.2.2.2.1 y1.2.2.2.2.2.2.2.2.2.2.1 y1.2.2.2.2.2.2.2.2.2.2.2.1 y1.2.2.2.2.2.2.2.2.2.2.2.2.1 ([] : LR))) with | none => none | some y6 => (if (y6.2.2.2.2.2.2.2.2.2.2.2 != (0 : Int)) then (match (veil (Q3.f BIG y6.2.2.2.2.2.2.2.2.2.2.2)) with | none => none | some y7 => (if (((ByteArray.size (⟨((32 :: (32 :: ([] : List UInt8)))).toArray⟩ : ByteArray)) + (ByteArray.size y7)) ≤ (1099511627776 : Nat)) then some (((((((⟨((103 :: (101 :: (110 :: (32 :: ([] : List UInt8)))))).toArray⟩ : ByteArray) ++ y3) ++ (⟨((32 :: ([] : List UInt8))).toArray⟩ : ByteArray)) ++ y4) :: ([] : List ByteArray)) ++ (((⟨((32 :: (32 :: ([] : List UInt8)))).toArray⟩ : ByteArray) ++ y7) :: ([] : List ByteArray)))) else none)) else E11 y6.2.2.2.2.2.2.2.2.2.2.1 ((((List.length y6.2.2.2.2.2.2.2.2.2.2.1)) : Nat) : Int) (0 : Int) (((((⟨((103 :: (101 :: (110 :: (32 :: ([] : List UInt8)))))).toArray⟩ : ByteArray) ++ y3) ++ (⟨((32 :: ([] : List UInt8))).toArray⟩ : ByteArray)) ++ y4) :: ([] : List ByteArray)))))) else none)) else none) else none)))))
def zh.f (qa : Nat) (b : List Int) : Option (List ByteArray) := zh.b b (zh.l11 qa b qa)
theorem zh.l11_eq (qa : Nat) (b : List Int) : ∀ k : Nat, zh.p11 qa b k = zh.l11 qa b k
 | 0 => by kernel_rfl
 | k + 1 => by
  refine Eq.trans (b := zh.b11 b (zh.p11 qa b k)) (by kernel_rfl) ?_
  rw [zh.l11_eq qa b k]
  kernel_rfl
theorem zh.eq (qa : Nat) (b : List Int) : (denF qes loopN qa Tryz.f21 [.own 9 .str] [.d (.sl (.int .u8)) b] [] zh.k) = zh.f qa b := by
 refine Eq.trans (b := zh.b b (zh.p11 qa b qa)) (by kernel_rfl) ?_
 rw [zh.l11_eq qa b qa]
 kernel_rfl
def ZK : Den.Sum := ⟨[.dat (.sl (.int .u8)) false], fun qK qm κ => match qK, qm with
 | [.d (.sl (.int .u8)) b], [] => (match veil (zh.f BIG b) with | none => none | some y => κ [.row 0] [.row 9 .str y false])
 | _, _ => none⟩
theorem qeD : SumDet ZK := zj fun _ _ _ _ => by
 unfold ZK
 simp only [veil_eq]
 split
 ·split <;> rfl
 ·rfl
theorem qe3 : SumOk Tryz.prog 21 ZK := by
 have hE : EnvOk Tryz.prog qes := env_ok (l := [(11, Zs), (14, Ql), (18, Qz), (22, Q2), (23, qaM), (24, qaL), (36, qai), (37, qa9)]) th_ok qZ ⟨⟨qdN, qdp⟩, ⟨qbG, qbv⟩, ⟨qcV, qcG⟩, ⟨qcc, qbP⟩, ⟨qgS, qga⟩, ⟨qgR, qf9⟩, ⟨qfQ, qfk⟩, ⟨qjQ, qi6⟩, trivial⟩ _
 refine sum_ok hE Tryz.func21 rfl (by kernel_rfl) ZK [.own 9 .str] zh.k ?_
 intro R avs qm κ r h
 unfold ZK at h
 simp only [veil_eq] at h
 split at h
 ·rename_i b
  split at h
  ·cases h
  ·rename_i y hy
   refine ⟨BIG, _, _, _, (zh.eq BIG b).trans hy, ?_, h⟩
   intro rs ros hk
   unfold zh.k at hk
   split at hk
   ·rw [← sj hk]; exact ⟨rfl, rfl⟩
   ·cases hk
 ·cases h
def qeS : Env := ⟨th, gam [(11, Zs), (14, Ql), (18, Qz), (36, qai), (46, qbg)], fun i => if i = 9 then ⟨[5, 6, 7], [(6, 3, tQi)], []⟩ else ⟨[], [], []⟩⟩
def zg.k (rs : List AV) (os : List Den.Obj) : Option (List Int) :=
 match rs, os with
 | [.row 0], [.row 3 (.int .i64) r0 false] => some r0
 | _, _ => none
def zg.s9 (b : List Int) (x4 x5 x6 x7 x8 x9 x10 x11 x12 x13 x14 : Int) (x15 : LR) (x16 : (List Int)) : St := ⟨[dD, dD, dD, dD, dD, .ptr 64 0, .row 65, .d tQi x4, dD, dD, dD, dD, dD, dD, dD, dD, dD, dD, dD, dD, dD, dD, dD, dD, dD, dD, dD, dD, dD, dD, dD, dD, dD, dD, dD, dD, dD, dD, .dead], ofL [(64, .box [.d tQi x5, .d tQi x6, .d tQi x7, .d tQi x8, .d tQi x9, .d tQi x10, .d tQi x11, .d tQi x12, .d tQi x13, .d tQi x14, .d (.sl tQr) x15]), (65, .row 3 tQi x16 false)], 0⟩
def zg.p9 (qa : Nat) (b : List Int) (k : Nat) := fun x4 x5 x6 x7 x8 x9 x10 x11 x12 x13 x14 x15 x16 => lp qeS qa Tryz.f26 [.own 3 tQi] 0 zg.k 9 [] k (zg.s9 b x4 x5 x6 x7 x8 x9 x10 x11 x12 x13 x14 x15 x16)
def zg.b9 (b : List Int) (A9 : Int → Int → Int → Int → Int → Int → Int → Int → Int → Int → Int → LR → (List Int) → Option (List Int)) (x4 : Int) (x5 : Int) (x6 : Int) (x7 : Int) (x8 : Int) (x9 : Int) (x10 : Int) (x11 : Int) (x12 : Int) (x13 : Int) (x14 : Int) (x15 : LR) (x16 : (List Int)) : Option (List Int) :=
 (if (decide (x4 ≤ (3 : Int))) then (match (veil (qao.f BIG x5 x6 x7 x8 x9 x10 x11 x12 x13 x14 x15 x4)) with | none => none | some y17 => (if y17 then (if ((((List.length x16) + (List.length (x4 :: ([] : List Int)))) * (8 : Nat)) ≤ lim) then A9 (IntKind.wrap .i64 (x4 + (1 : Int))) x5 x6 x7 x8 x9 x10 x11 x12 x13 x14 x15 (x16 ++ (x4 :: ([] : List Int))) else none) else A9 (IntKind.wrap .i64 (x4 + (1 : Int))) x5 x6 x7 x8 x9 x10 x11 x12 x13 x14 x15 x16)) else some (x16))
def zg.l9 (qa : Nat) (b : List Int) : Nat → Int → Int → Int → Int → Int → Int → Int → Int → Int → Int → Int → LR → (List Int) → Option (List Int)
 | 0, _, _, _, _, _, _, _, _, _, _, _, _, _ => none
 | k + 1, x4, x5, x6, x7, x8, x9, x10, x11, x12, x13, x14, x15, x16 => zg.b9 b (zg.l9 qa b k) x4 x5 x6 x7 x8 x9 x10 x11 x12 x13 x14 x15 x16
def zg.b (b : List Int) (E9 : Int → Int → Int → Int → Int → Int → Int → Int → Int → Int → Int → LR → (List Int) → Option (List Int)) : Option (List Int) :=
 (match (veil (ZC.f BIG ())) with | none => none | some y0 => (match (veil (Qp.f BIG b y0.1 y0.2)) with | none => none | some y1 => (if (y1.2.2.2.2.2.2.2.2.2.2.2.2.2 != (0 : Int)) then some (([] : List Int)) else (match (veil (Qd.f BIG y1.1 y1.2.1 y1.2.2.1 y1.2.2.2.1 y1.2.2.2.2.1 y1.2.2.2.2.2.1 y1.2.2.2.2.2.2.1 y1.2.2.2.2.2.2.2.1 y1.2.2.2.2.2.2.2.2.1 y1.2.2.2.2.2.2.2.2.2.1 y1.2.2.2.2.2.2.2.2.2.2.1 y1.2.2.2.2.2.2.2.2.2.2.2.1 y1.2.2.2.2.2.2.2.2.2.2.2.2.1)) with | none => none | some y2 => (if y2 then some (([] : List Int)) else (match (veil (zK.f BIG y1.1 y1.2.1 y1.2.2.1 y1.2.2.2.1 y1.2.2.2.2.1 y1.2.2.2.2.2.1 y1.2.2.2.2.2.2.1 y1.2.2.2.2.2.2.2.1 y1.2.2.2.2.2.2.2.2.1 y1.2.2.2.2.2.2.2.2.2.1 y1.2.2.2.2.2.2.2.2.2.2.1 y1.2.2.2.2.2.2.2.2.2.2.2.1 y1.2.2.2.2.2.2.2.2.2.2.2.2.1 ([] : LR))) with | none => none | some y3 => (if (y3.2.2.2.2.2.2.2.2.2.2.2 != (0 : Int)) then some (([] : List Int)) else E9 (1 : Int) y3.1 y3.2.1 y3.2.2.1 y3.2.2.2.1 y3.2.2.2.2.1 y3.2.2.2.2.2.1 y3.2.2.2.2.2.2.1 y3.2.2.2.2.2.2.2.1 y3.2.2.2.2.2.2.2.2.1 y3.2.2.2.2.2.2.2.2.2.1 y3.2.2.2.2.2.2.2.2.2.2.1 ([] : List Int))))))))
def zg.f (qa : Nat) (b : List Int) : Option (List Int) := zg.b b (zg.l9 qa b qa)
theorem zg.l9_eq (qa : Nat) (b : List Int) : ∀ k : Nat, zg.p9 qa b k = zg.l9 qa b k
 | 0 => by kernel_rfl
 | k + 1 => by
  refine Eq.trans (b := zg.b9 b (zg.p9 qa b k)) (by kernel_rfl) ?_
  rw [zg.l9_eq qa b k]
  kernel_rfl
theorem zg.eq (qa : Nat) (b : List Int) : (denF qeS loopN qa Tryz.f26 [.own 3 tQi] [.d (.sl (.int .u8)) b] [] zg.k) = zg.f qa b := by
 refine Eq.trans (b := zg.b b (zg.p9 qa b qa)) (by kernel_rfl) ?_
 rw [zg.l9_eq qa b qa]
 kernel_rfl
def qaF : Den.Sum := ⟨[.dat (.sl (.int .u8)) false], fun qK qm κ => match qK, qm with
 | [.d (.sl (.int .u8)) b], [] => (match veil (zg.f BIG b) with | none => none | some y => κ [.row 0] [.row 3 (.int .i64) y false])
 | _, _ => none⟩
theorem qin : SumDet qaF := zj fun _ _ _ _ => by
 unfold qaF
 simp only [veil_eq]
 split
 ·split <;> rfl
 ·rfl
theorem qi7 : SumOk Tryz.prog 26 qaF := by
 have hE : EnvOk Tryz.prog qeS := env_ok (l := [(11, Zs), (14, Ql), (18, Qz), (36, qai), (46, qbg)]) th_ok qZ ⟨⟨qdN, qdp⟩, ⟨qbG, qbv⟩, ⟨qcV, qcG⟩, ⟨qfQ, qfk⟩, ⟨qhU, qgY⟩, trivial⟩ _
 refine sum_ok hE Tryz.func26 rfl (by kernel_rfl) qaF [.own 3 tQi] zg.k ?_
 intro R avs qm κ r h
 unfold qaF at h
 simp only [veil_eq] at h
 split at h
 ·rename_i b
  split at h
  ·cases h
  ·rename_i y hy
   refine ⟨BIG, _, _, _, (zg.eq BIG b).trans hy, ?_, h⟩
   intro rs ros hk
   unfold zg.k at hk
   split at hk
   ·rw [← sj hk]; exact ⟨rfl, rfl⟩
   ·cases hk
 ·cases h
theorem qpi {gen : Int} {b : List Int} (hb : isB b) (hl : b.length < 1000000000) (h : qaB (QV gen b) = 0) :
  zb (QV gen b).1 (QV gen b).2.1 (QV gen b).2.2.1 (QV gen b).2.2.2.1 (QV gen b).2.2.2.2.1 (QV gen b).2.2.2.2.2.1 (QV gen b).2.2.2.2.2.2.1 (QV gen b).2.2.2.2.2.2.2.1 (QV gen b).2.2.2.2.2.2.2.2.1 (QV gen b).2.2.2.2.2.2.2.2.2.1 [] = true := by
 unfold QV at h ⊢
 by_cases h3 : gen = 3
 ·rw [if_pos (by simp [h3])] at h ⊢
  unfold qg1 at h ⊢
  cases hh : hdS b with
  | none => rw [hh] at h; exact absurd h (by decide)
  | some m =>
   obtain ⟨k, f, i, lo, hi, s, t, l, e, bb, a⟩ := m
   show zb k f i lo hi s t l e bb [] = true
   unfold hdS at hh
   dsimp only at hh
   split at hh
   ·cases hh
   ·split at hh
    ·rename_i hv
     cases hh
     exact hv
    ·cases hh
 ·rw [if_neg (by simp [h3])] at h ⊢
  have h' : qaB (QU gen b []) = 0 := h
  exact qkd (qjR hb hl h').1
theorem qqj {b : List Int} (h : (zS b).2.2 = 0) : 1 ≤ (zS b).1 ∧ (zS b).1 ≤ 3 := by
 unfold zS at h ⊢
 split at h
 ·exact absurd h (by decide)
 ·rename_i c1
  rw [if_neg c1]
  split at h
  ·exact absurd h (by decide)
  ·rename_i c2
   rw [if_neg c2]
   split at h
   ·exact absurd h (by decide)
   ·rename_i c3
    rw [if_neg c3]
    split at h
    ·exact absurd h (by decide)
    ·rename_i c4
     rw [if_neg c4]
     show 1 ≤ Q5 ((b.take 2).drop 1) ∧ Q5 ((b.take 2).drop 1) ≤ 3
     constructor
     ·apply Decidable.byContradiction
      intro k
      exact c3 (.inr (.inl (by omega)))
     ·apply Decidable.byContradiction
      intro k
      exact c3 (.inr (.inr (.inl (by omega))))
theorem qre {b : List Int} (lo hi : Int) (hb : isB b) (hl : b.length ≤ 1000000) (h : (zI b lo hi).2.2.2.2.2.2.2.2.2.2.2.2.2 = 0) :
  (zS b).2.2 = 0 ∧ qaB (QV (zS b).1 (zS b).2.1) = 0 ∧ zI b lo hi = qhB (zS b).1 (zS b).2.1 (QV (zS b).1 (zS b).2.1) := by
 unfold zI at h ⊢
 split at h
 ·rename_i c; exact absurd h c
 ·rename_i c
  rw [if_neg c]
  split at h
  ·exact absurd h (show (9 : Int) ≠ 0 by decide)
  ·rename_i c2
   rw [if_neg c2]
   split at h
   ·rename_i c3; exact absurd h c3
   ·rename_i c3
    rw [if_neg c3]
    split at h
    ·exact absurd h (show (10 : Int) ≠ 0 by decide)
    ·rename_i c4
     rw [if_neg c4]
     exact ⟨Decidable.not_not.1 c, Decidable.not_not.1 c3, rfl⟩
def qj8 : List ByteArray := (Za.b ()).getD []
def qep (e : Int) : ByteArray := if e < 0 then wQ else if e ≥ 18 then wQ else (idx qj8 e).getD wQ
theorem qpL : (List.range 18).all (fun n => match idx qj8 (n : Int) with | some w => decide (w.size ≤ 10) | none => false) = true := by kernel_rfl
theorem qlT.pure (e : Int) : ZD.f BIG e = some (qep e) ∧ (qep e).size ≤ 10 := by
 unfold ZD.f ZD.b qep Za.f
 have hw : Za.b () = some qj8 := rfl
 simp only [veil_eq]
 rw [hw]
 dsimp only
 by_cases h : e < 0
 ·rw [if_pos (decide_eq_true h), if_pos h]; exact ⟨rfl, by decide⟩
 rw [if_neg (by rw [decide_eq_true_eq]; exact h), if_neg h]
 by_cases h2 : e ≥ 18
 ·rw [if_pos (decide_eq_true h2), if_pos h2]; exact ⟨rfl, by decide⟩
 rw [if_neg (by rw [decide_eq_true_eq]; exact h2), if_neg h2]
 have ht := List.all_eq_true.1 qpL e.toNat (List.mem_range.2 (by omega))
 rw [show ((e.toNat : Nat) : Int) = e from by omega] at ht
 cases hi : idx qj8 e with
 | none => rw [hi] at ht; cases ht
 | some w => rw [hi] at ht; exact ⟨rfl, of_decide_eq_true ht⟩
theorem qsk {b : LF} (h : qcx b = true) (hb : ∀ x ∈ b, isB x.2) : qpG b := by
 refine ⟨by have := (Zd h).1; omega, fun x hx => ?_⟩
 obtain ⟨h1, h2, h3⟩ := qbD h x hx
 exact ⟨⟨by omega, by omega⟩, hb x hx, by omega⟩
theorem qq9 {r : REC} (h : zE r = true) (hb : ∀ x ∈ r.2.2.2.2.2, isB x.2) :
  zy.f BIG r.1 r.2.1 r.2.2.1 r.2.2.2.1.1 r.2.2.2.1.2 r.2.2.2.2.1 r.2.2.2.2.2 = some (qho r) ∧ (qho r).size ≤ 1000000 := by
 obtain ⟨h1, h2, h3, h4, h5, h6, h7, h8, h9⟩ := zH h
 have hn := qsk h8 hb
 refine ⟨qrK.pure r ⟨by omega, by omega⟩ ⟨by omega, by omega⟩ hn, ?_⟩
 have hs := qib (qfd r) (qlG r) r.2.2.2.2.2 hn r.2.2.2.2.2.length (Nat.le_refl _)
 rw [List.take_length] at hs
 have h0 := qmb r
 have hl := (Zd h8).1
 unfold qho
 have : r.2.2.2.2.2.length * 20100 ≤ 32 * 20100 := Nat.mul_le_mul_right _ hl
 omega
abbrev qeH : ByteArray := ⟨((98 :: (97 :: (100 :: (32 :: ([] : List UInt8)))))).toArray⟩
abbrev qiS : ByteArray := ⟨((32 :: (32 :: (98 :: (97 :: (100 :: (32 :: ([] : List UInt8)))))))).toArray⟩
abbrev qg6 : ByteArray := ⟨((32 :: (32 :: ([] : List UInt8)))).toArray⟩
abbrev qfb : ByteArray := ⟨((103 :: (101 :: (110 :: (32 :: ([] : List UInt8)))))).toArray⟩
abbrev qgj : ByteArray := ⟨((32 :: ([] : List UInt8))).toArray⟩
abbrev qn9 : ByteArray := ⟨((32 :: (32 :: (117 :: (110 :: (114 :: (101 :: (97 :: (100 :: ([] : List UInt8)))))))))).toArray⟩
theorem qr1 (w : ByteArray) : qg6 ++ (qeH ++ w) = qiS ++ w := by
 apply qiW
 simp
def qiX (W : P14) : ByteArray := ((qfb ++ ZF W.2.2.2.2.2.2.2.2.2.2.2.1) ++ qgj) ++ qfV W.1 W.2.1 W.2.2.1 W.2.2.2.1 W.2.2.2.2.1 W.2.2.2.2.2.1 W.2.2.2.2.2.2.1 W.2.2.2.2.2.2.2.1 W.2.2.2.2.2.2.2.2.1 W.2.2.2.2.2.2.2.2.2.1
def qhv (r : REC) : ByteArray := qg6 ++ qho r
def qsJ (m : M12) : List Int := [1, 2, 3].filter fun g => qc6 m.1 m.2.1 m.2.2.1 m.2.2.2.1 m.2.2.2.2.1 m.2.2.2.2.2.1 m.2.2.2.2.2.2.1 m.2.2.2.2.2.2.2.1 m.2.2.2.2.2.2.2.2.1 m.2.2.2.2.2.2.2.2.2.1 m.2.2.2.2.2.2.2.2.2.2.1 g
def qaf (b : List Int) : List ByteArray × List Int :=
 if (zI b 1 3).2.2.2.2.2.2.2.2.2.2.2.2.2 ≠ 0 then ([qeH ++ qep (zI b 1 3).2.2.2.2.2.2.2.2.2.2.2.2.2], [])
 else if (zI b 1 3).2.2.2.2.2.2.2.2.2.1 ≠ 0 then ([qiX (zI b 1 3), qn9], [])
 else if qaB (QU (zI b 1 3).2.2.2.2.2.2.2.2.2.2.2.1 (zI b 1 3).2.2.2.2.2.2.2.2.2.2.2.2.1 []) ≠ 0 then ([qiX (zI b 1 3), qiS ++ qep (qaB (QU (zI b 1 3).2.2.2.2.2.2.2.2.2.2.2.1 (zI b 1 3).2.2.2.2.2.2.2.2.2.2.2.2.1 []))], [])
 else (qiX (zI b 1 3) :: (qkH (QU (zI b 1 3).2.2.2.2.2.2.2.2.2.2.2.1 (zI b 1 3).2.2.2.2.2.2.2.2.2.2.2.2.1 [])).map qhv, qsJ (QU (zI b 1 3).2.2.2.2.2.2.2.2.2.2.2.1 (zI b 1 3).2.2.2.2.2.2.2.2.2.2.2.2.1 []))
def qoK (l : LR) : Prop := l.length ≤ 255 ∧ ∀ r ∈ l, zE r = true ∧ ∀ x ∈ r.2.2.2.2.2, isB x.2
theorem qpo (b : List Int) (l : LR) (h : qoK l) : ∀ (m k i : Nat) (acc : List ByteArray), i + m = l.length → m < k → acc.length ≤ 1 + i →
  zh.l11 BIG b k l (l.length : Int) (i : Int) acc = some (acc ++ (l.drop i).map qhv) := by
 intro m
 induction m with
 | zero =>
  intro k i acc hi hk ha
  obtain ⟨k, rfl⟩ : ∃ k', k = k' + 1 := ⟨k - 1, by omega⟩
  rw [zh.l11]
  unfold zh.b11
  rw [if_neg (by simp; omega), List.drop_of_length_le (by omega)]
  simp
 | succ m ih =>
  intro k i acc hi hk ha
  obtain ⟨k, rfl⟩ : ∃ k', k = k' + 1 := ⟨k - 1, by omega⟩
  have hlt : i < l.length := by omega
  have h1 := h.1
  obtain ⟨hr, hb⟩ := h.2 _ (List.getElem_mem hlt)
  obtain ⟨hL, hS⟩ := qq9 hr hb
  rw [zh.l11]
  unfold zh.b11
  simp only [veil_eq]
  rw [if_pos (by simp; omega), Qm, List.getElem?_eq_getElem hlt]
  dsimp only
  rw [hL]
  dsimp only
  have e2 : qg6.size = 2 := rfl
  rw [if_pos (show ByteArray.size qg6 + (qho l[i]).size ≤ 1099511627776 by omega), if_pos (by simp [lim]; omega), qX _ (by omega) (by omega), show ((i : Int) + 1) = ((i + 1 : Nat) : Int) from by omega]
  rw [ih k (i + 1) _ (by omega) (by omega) (by simp; omega), List.drop_eq_getElem_cons hlt, List.map_cons]
  simp [qhv]
theorem qrm (b : List Int) (x1 x2 x3 x4 x5 x6 x7 x8 x9 x10 : Int) (l : LR) (F : List Int) (h : qoK l) : ∀ (m k i : Nat) (acc : List ByteArray), i + m = l.length → m < k → acc.length ≤ 1 + i →
  qY.l17 BIG b k (i : Int) acc x1 x2 x3 x4 x5 x6 x7 x8 x9 x10 l F = some (acc ++ (l.drop i).map qhv, F) := by
 intro m
 induction m with
 | zero =>
  intro k i acc hi hk ha
  obtain ⟨k, rfl⟩ : ∃ k', k = k' + 1 := ⟨k - 1, by omega⟩
  rw [qY.l17]
  unfold qY.b17
  rw [if_neg (by simp; omega), List.drop_of_length_le (by omega)]
  simp
 | succ m ih =>
  intro k i acc hi hk ha
  obtain ⟨k, rfl⟩ : ∃ k', k = k' + 1 := ⟨k - 1, by omega⟩
  have hlt : i < l.length := by omega
  have h1 := h.1
  obtain ⟨hr, hb⟩ := h.2 _ (List.getElem_mem hlt)
  obtain ⟨hL, hS⟩ := qq9 hr hb
  rw [qY.l17]
  unfold qY.b17
  simp only [veil_eq]
  rw [if_pos (by simp; omega), Qm, List.getElem?_eq_getElem hlt]
  dsimp only
  rw [hL]
  dsimp only
  have e2 : qg6.size = 2 := rfl
  rw [if_pos (show ByteArray.size qg6 + (qho l[i]).size ≤ 1099511627776 by omega), if_pos (by simp [lim]; omega), qX _ (by omega) (by omega), show ((i : Int) + 1) = ((i + 1 : Nat) : Int) from by omega]
  rw [ih k (i + 1) _ (by omega) (by omega) (by simp; omega), List.drop_eq_getElem_cons hlt, List.map_cons]
  simp [qhv]
theorem qiA (b : List Int) (n : Nat) (g k f i lo hi s t l e bb : Int) (qc : LR) (acc : List Int) (hr : q0 qc = true) (g3 : g ≤ 3) (ha : acc.length ≤ 10) :
  zg.l9 BIG b (n + 1) g k f i lo hi s t l e bb qc acc = zg.l9 BIG b n (IntKind.wrap .i64 (g + 1)) k f i lo hi s t l e bb qc (acc ++ if qc6 k f i lo hi s t l e bb qc g = true then [g] else []) := by
 rw [zg.l9]
 unfold zg.b9
 simp only [veil_eq]
 rw [if_pos (decide_eq_true g3), qsB.pure _ _ _ _ _ _ _ _ _ _ _ _ hr]
 dsimp only
 cases qc6 k f i lo hi s t l e bb qc g with
 | true => rw [if_pos rfl, if_pos (by simp [lim]; omega), if_pos rfl]
 | false => rw [if_neg (by simp), if_neg (by simp), List.append_nil]
theorem qrw (b : List Int) (n : Nat) (k f i lo hi s t l e bb : Int) (qc : LR) (acc : List Int) :
  zg.l9 BIG b (n + 1) 4 k f i lo hi s t l e bb qc acc = some acc := by
 rw [zg.l9]
 unfold zg.b9
 rw [if_neg (by decide)]
theorem qrT (p : Int → Bool) : ((([] ++ if p 1 = true then [1] else []) ++ if p 2 = true then [2] else []) ++ if p 3 = true then [3] else []) = ([1, 2, 3] : List Int).filter p := by
 cases h1 : p 1 <;> cases h2 : p 2 <;> cases h3 : p 3 <;> simp [List.filter, h1, h2, h3]
theorem qsC : ∃ n, BIG = n + 4 := ⟨BIG - 4, by rw [Zw]⟩
theorem qk0 (c : Bool) (g : Int) : (if c = true then [g] else ([] : List Int)).length ≤ 1 := by cases c <;> simp
theorem qqy (b : List Int) (k f i lo hi s t l e bb : Int) (qc : LR) (hr : q0 qc = true) :
  zg.l9 BIG b BIG 1 k f i lo hi s t l e bb qc [] = some (([1, 2, 3] : List Int).filter fun g => qc6 k f i lo hi s t l e bb qc g) := by
 obtain ⟨n, hn⟩ := qsC
 have key : zg.l9 BIG b (n + 4) 1 k f i lo hi s t l e bb qc [] = some (([1, 2, 3] : List Int).filter fun g => qc6 k f i lo hi s t l e bb qc g) := by
  rw [qiA b (n + 3) 1 k f i lo hi s t l e bb qc [] hr (by decide) (by simp)]
  rw [show IntKind.wrap .i64 ((1 : Int) + 1) = 2 from rfl]
  have l1 := qk0 (qc6 k f i lo hi s t l e bb qc 1) 1
  rw [qiA b (n + 2) 2 k f i lo hi s t l e bb qc _ hr (by decide) (by simp; omega)]
  rw [show IntKind.wrap .i64 ((2 : Int) + 1) = 3 from rfl]
  have l2 := qk0 (qc6 k f i lo hi s t l e bb qc 2) 2
  rw [qiA b (n + 1) 3 k f i lo hi s t l e bb qc _ hr (by decide) (by simp; omega)]
  rw [show IntKind.wrap .i64 ((3 : Int) + 1) = 4 from rfl, qrw, qrT fun g => qc6 k f i lo hi s t l e bb qc g]
 exact (congrArg (fun q => zg.l9 BIG b q 1 k f i lo hi s t l e bb qc []) hn).trans key
theorem qjW (b : List Int) (n : Nat) (g k f i lo hi s t l e bb : Int) (qc : LR) (X : List ByteArray) (acc : List Int) (hr : q0 qc = true) (g3 : g ≤ 3) (ha : acc.length ≤ 10) :
  qY.l12 BIG b (n + 1) g X k f i lo hi s t l e bb qc acc = qY.l12 BIG b n (IntKind.wrap .i64 (g + 1)) X k f i lo hi s t l e bb qc (acc ++ if qc6 k f i lo hi s t l e bb qc g = true then [g] else []) := by
 rw [qY.l12]
 unfold qY.b12
 simp only [veil_eq]
 rw [if_pos (decide_eq_true g3), qsB.pure _ _ _ _ _ _ _ _ _ _ _ _ hr]
 dsimp only
 cases qc6 k f i lo hi s t l e bb qc g with
 | true => rw [if_pos rfl, if_pos (by simp [lim]; omega), if_pos rfl]
 | false => rw [if_neg (by simp), if_neg (by simp), List.append_nil]
theorem qsd (b : List Int) (n : Nat) (k f i lo hi s t l e bb : Int) (qc : LR) (X : List ByteArray) (acc : List Int) :
  qY.l12 BIG b (n + 1) 4 X k f i lo hi s t l e bb qc acc = qY.l17 BIG b BIG 0 X k f i lo hi s t l e bb qc acc := by
 rw [qY.l12]
 unfold qY.b12
 rw [if_neg (by decide)]
theorem qrn (b : List Int) (k f i lo hi s t l e bb : Int) (qc : LR) (X : List ByteArray) (hr : q0 qc = true) :
  qY.l12 BIG b BIG 1 X k f i lo hi s t l e bb qc [] = qY.l17 BIG b BIG 0 X k f i lo hi s t l e bb qc (([1, 2, 3] : List Int).filter fun g => qc6 k f i lo hi s t l e bb qc g) := by
 obtain ⟨n, hn⟩ := qsC
 have key : qY.l12 BIG b (n + 4) 1 X k f i lo hi s t l e bb qc [] = qY.l17 BIG b BIG 0 X k f i lo hi s t l e bb qc (([1, 2, 3] : List Int).filter fun g => qc6 k f i lo hi s t l e bb qc g) := by
  rw [qjW b (n + 3) 1 k f i lo hi s t l e bb qc X [] hr (by decide) (by simp)]
  rw [show IntKind.wrap .i64 ((1 : Int) + 1) = 2 from rfl]
  have l1 := qk0 (qc6 k f i lo hi s t l e bb qc 1) 1
  rw [qjW b (n + 2) 2 k f i lo hi s t l e bb qc X _ hr (by decide) (by simp; omega)]
  rw [show IntKind.wrap .i64 ((2 : Int) + 1) = 3 from rfl]
  have l2 := qk0 (qc6 k f i lo hi s t l e bb qc 2) 2
  rw [qjW b (n + 1) 3 k f i lo hi s t l e bb qc X _ hr (by decide) (by simp; omega)]
  rw [show IntKind.wrap .i64 ((3 : Int) + 1) = 4 from rfl, qsd, qrT fun g => qc6 k f i lo hi s t l e bb qc g]
 exact (congrArg (fun q => qY.l12 BIG b q 1 X k f i lo hi s t l e bb qc []) hn).trans key
theorem qia {gen : Int} {b : List Int} (hb : isB b) (hl : b.length < 1000000000) (h : qaB (QU gen b []) = 0) : qoK (qkH (QU gen b [])) := by
 obtain ⟨hv, hp, _, _⟩ := qjR hb hl h
 have hbag := qoH hp hb
 unfold qmL at hv
 obtain ⟨_, _, _, _, _, _, _, _, _, _, _, _, hn, hr⟩ := Qk hv
 exact ⟨hn, fun r hr' => ⟨hr r hr', fun x hx => hbag r hr' x hx⟩⟩
theorem qfX {v : Int} (h0 : 0 ≤ v) (h1 : v ≤ 281474976710655) : qiu v := ⟨by omega, by omega⟩
theorem qoi {b : List Int} (hb : isB b) (hl : b.length ≤ 1000000) (h : (zI b 1 3).2.2.2.2.2.2.2.2.2.2.2.2.2 = 0) :
  zl.f BIG (zI b 1 3).2.2.2.2.2.2.2.2.2.2.2.1 = some (ZF (zI b 1 3).2.2.2.2.2.2.2.2.2.2.2.1) ∧
  ∀ qc : LR, qJ.f BIG (zI b 1 3).1 (zI b 1 3).2.1 (zI b 1 3).2.2.1 (zI b 1 3).2.2.2.1 (zI b 1 3).2.2.2.2.1 (zI b 1 3).2.2.2.2.2.1 (zI b 1 3).2.2.2.2.2.2.1 (zI b 1 3).2.2.2.2.2.2.2.1 (zI b 1 3).2.2.2.2.2.2.2.2.1 (zI b 1 3).2.2.2.2.2.2.2.2.2.1 qc = some (qfV (zI b 1 3).1 (zI b 1 3).2.1 (zI b 1 3).2.2.1 (zI b 1 3).2.2.2.1 (zI b 1 3).2.2.2.2.1 (zI b 1 3).2.2.2.2.2.1 (zI b 1 3).2.2.2.2.2.2.1 (zI b 1 3).2.2.2.2.2.2.2.1 (zI b 1 3).2.2.2.2.2.2.2.2.1 (zI b 1 3).2.2.2.2.2.2.2.2.2.1) := by
 obtain ⟨h0, he, hW⟩ := qre 1 3 hb hl h
 have hg := qqj h0
 obtain ⟨ob, ol⟩ := qhs hb
 have hv := qpi ob (by omega) he
 rw [hW]
 generalize QV (zS b).1 (zS b).2.1 = P at *
 obtain ⟨_, _, f0, f1, i0, i1, _, s0, s1, t0, t1, hlv, _, _⟩ := Qk hv
 obtain ⟨l0, l1, e0, e1, b0, b1, _⟩ := qdA hlv
 unfold qhB
 dsimp only
 refine ⟨qf0.pure _ (by omega) (by omega), fun qc => qs1.pure _ _ _ _ _ _ _ _ _ _ qc (qfX f0 (by omega)) (qfX i0 (by omega)) (qfX s0 (by omega)) (qfX t0 (by omega)) (qfX l0 (by omega)) (qfX e0 (by omega)) (qfX b0 (by omega))⟩
theorem qrV.pure (k f i lo hi s t l e b : Int) (qc : LR) (g : Int) (zc : List Int) : Qd.f BIG k f i lo hi s t l e b qc g zc = some (b != 0) := rfl
theorem qpK.pure (k f i lo hi s t l e b : Int) (qc : LR) (g : Int) (zc : List Int) (hb : isB zc) (hl : zc.length < 1000000000) : zK.f BIG k f i lo hi s t l e b qc g zc [] = some (QU g zc []) := by
 unfold zK.f zK.b
 rw [qsx.pure g zc [] hb hl qpW]
 simp only [veil_eq]
theorem Bad.pure (e : Int) : Q3.f BIG e = some (qeH ++ qep e) := by
 obtain ⟨h1, h2⟩ := qlT.pure e
 unfold Q3.f Q3.b
 simp only [veil_eq]
 rw [h1]
 dsimp only
 rw [if_pos (show qeH.size + (qep e).size ≤ 1099511627776 by have : qeH.size = 4 := rfl; omega)]
theorem All.pure : ZC.f BIG () = some (1, 3) := rfl
theorem qrG (b : List Int) (lo hi : Int) : ((zI b lo hi).2.2.2.2.2.2.2.2.2.1 != 0) = decide ((zI b lo hi).2.2.2.2.2.2.2.2.2.1 > 0) := by
 have := qqi b lo hi
 by_cases h : (zI b lo hi).2.2.2.2.2.2.2.2.2.1 = 0
 ·rw [h]; rfl
 ·rw [bne_iff_ne.2 h]; simp; omega
theorem qrW.pure (b : List Int) (hb : isB b) (hl : b.length ≤ 1000000) : zh.f BIG b = some (qaf b).1 := by
 unfold zh.f zh.b qaf
 simp only [veil_eq]
 rw [All.pure]
 dsimp only
 rw [Qp.pure b 1 3 hb hl]
 dsimp only
 have hhead := qoi hb hl
 obtain ⟨ob, ol⟩ := qgg 1 3 hb
 have htell := @qia (zI b 1 3).2.2.2.2.2.2.2.2.2.2.2.1 _ ob (by omega)
 have hread := fun k f i lo hi s t l e bb qc => qpK.pure k f i lo hi s t l e bb qc (zI b 1 3).2.2.2.2.2.2.2.2.2.2.2.1 _ ob (by omega)
 generalize zI b 1 3 = W at *
 by_cases h0 : W.2.2.2.2.2.2.2.2.2.2.2.2.2 = 0
 ·obtain ⟨hN, hM⟩ := hhead h0
  have hns := Z7 W.2.2.2.2.2.2.2.2.2.2.2.1
  have hms := (qfs W.1 W.2.1 W.2.2.1 W.2.2.2.1 W.2.2.2.2.1 W.2.2.2.2.2.1 W.2.2.2.2.2.2.1 W.2.2.2.2.2.2.2.1 W.2.2.2.2.2.2.2.2.1 W.2.2.2.2.2.2.2.2.2.1).2
  have g4 : qfb.size = 4 := rfl
  have g1 : qgj.size = 1 := rfl
  rw [if_neg (by simp [h0]), if_neg (by simp [h0]), hN]
  dsimp only
  rw [if_pos (show qfb.size + (ZF W.2.2.2.2.2.2.2.2.2.2.2.1).size ≤ 1099511627776 by omega), if_pos (show (qfb ++ ZF W.2.2.2.2.2.2.2.2.2.2.2.1).size + qgj.size ≤ 1099511627776 by rw [Qu]; omega), hM]
  dsimp only
  rw [if_pos (show ((qfb ++ ZF W.2.2.2.2.2.2.2.2.2.2.2.1) ++ qgj).size + (qfV W.1 W.2.1 W.2.2.1 W.2.2.2.1 W.2.2.2.2.1 W.2.2.2.2.2.1 W.2.2.2.2.2.2.1 W.2.2.2.2.2.2.2.1 W.2.2.2.2.2.2.2.2.1 W.2.2.2.2.2.2.2.2.2.1).size ≤ 1099511627776 by rw [Qu, Qu]; omega), qrV.pure]
  dsimp only
  by_cases hz : W.2.2.2.2.2.2.2.2.2.1 = 0
  ·rw [if_neg (by simp [hz]), if_neg (by simp [hz]), hread]
   dsimp only
   have hsm := qgs (gen := W.2.2.2.2.2.2.2.2.2.2.2.1) (qb := []) ob (by omega)
   generalize QU W.2.2.2.2.2.2.2.2.2.2.2.1 W.2.2.2.2.2.2.2.2.2.2.2.2.1 [] = M at *
   unfold qaB at htell ⊢
   by_cases hm : M.2.2.2.2.2.2.2.2.2.2.2 = 0
   ·rw [if_neg (by simp [hm]), if_neg (by simp [hm])]
    have ht := htell hm
    unfold qkH at ht ⊢
    rw [show (0 : Int) = ((0 : Nat) : Int) from rfl, qpo b _ ht _ BIG 0 _ (Nat.zero_add _) (by rw [Zw]; have := ht.1; omega) (by simp), List.drop_zero]
    rfl
   ·rw [if_pos (bne_iff_ne.2 hm), if_pos hm, Bad.pure]
    dsimp only
    have he := (qlT.pure M.2.2.2.2.2.2.2.2.2.2.2).2
    rw [if_pos (show qg6.size + (qeH ++ qep M.2.2.2.2.2.2.2.2.2.2.2).size ≤ 1099511627776 by rw [Qu]; have : qg6.size = 2 := rfl; have : qeH.size = 4 := rfl; omega), ← qr1]
    rfl
  ·rw [if_pos (bne_iff_ne.2 hz), if_pos hz]
   rfl
 ·rw [if_pos (bne_iff_ne.2 h0), if_pos h0, Bad.pure]
theorem qsS.pure (b : List Int) (hb : isB b) (hl : b.length ≤ 1000000) : zg.f BIG b = some (qaf b).2 := by
 unfold zg.f zg.b qaf
 simp only [veil_eq]
 rw [All.pure]
 dsimp only
 rw [Qp.pure b 1 3 hb hl]
 dsimp only
 obtain ⟨ob, ol⟩ := qgg 1 3 hb
 have hread := fun k f i lo hi s t l e bb qc => qpK.pure k f i lo hi s t l e bb qc (zI b 1 3).2.2.2.2.2.2.2.2.2.2.2.1 _ ob (by omega)
 generalize zI b 1 3 = W at *
 by_cases h0 : W.2.2.2.2.2.2.2.2.2.2.2.2.2 = 0
 ·rw [if_neg (by simp [h0]), if_neg (by simp [h0]), qrV.pure]
  dsimp only
  by_cases hz : W.2.2.2.2.2.2.2.2.2.1 = 0
  ·rw [if_neg (by simp [hz]), if_neg (by simp [hz]), hread]
   dsimp only
   have hsm := qgs (gen := W.2.2.2.2.2.2.2.2.2.2.2.1) (qb := []) ob (by omega)
   generalize QU W.2.2.2.2.2.2.2.2.2.2.2.1 W.2.2.2.2.2.2.2.2.2.2.2.2.1 [] = M at *
   unfold qaB
   by_cases hm : M.2.2.2.2.2.2.2.2.2.2.2 = 0
   ·rw [if_neg (by simp [hm]), if_neg (by simp [hm]), qqy b _ _ _ _ _ _ _ _ _ _ _ (show q0 M.2.2.2.2.2.2.2.2.2.2.1 = true from hsm)]
    rfl
   ·rw [if_pos (bne_iff_ne.2 hm), if_pos hm]
  ·rw [if_pos (bne_iff_ne.2 hz), if_pos hz]
 ·rw [if_pos (bne_iff_ne.2 h0), if_pos h0]
theorem qsc.pure (b : List Int) (hb : isB b) (hl : b.length ≤ 1000000) : qY.f BIG b = some (qaf b) := by
 unfold qY.f qY.b qaf
 simp only [veil_eq]
 rw [Qp.pure b 1 3 hb hl]
 dsimp only
 rw [← qrG]
 have hhead := qoi hb hl
 obtain ⟨ob, ol⟩ := qgg 1 3 hb
 have htell := @qia (zI b 1 3).2.2.2.2.2.2.2.2.2.2.2.1 _ ob (by omega)
 have hread := fun k f i lo hi s t l e bb qc => qpK.pure k f i lo hi s t l e bb qc (zI b 1 3).2.2.2.2.2.2.2.2.2.2.2.1 _ ob (by omega)
 generalize zI b 1 3 = W at *
 by_cases h0 : W.2.2.2.2.2.2.2.2.2.2.2.2.2 = 0
 ·obtain ⟨hN, hM⟩ := hhead h0
  have hns := Z7 W.2.2.2.2.2.2.2.2.2.2.2.1
  have hms := (qfs W.1 W.2.1 W.2.2.1 W.2.2.2.1 W.2.2.2.2.1 W.2.2.2.2.2.1 W.2.2.2.2.2.2.1 W.2.2.2.2.2.2.2.1 W.2.2.2.2.2.2.2.2.1 W.2.2.2.2.2.2.2.2.2.1).2
  have g4 : qfb.size = 4 := rfl
  have g1 : qgj.size = 1 := rfl
  rw [if_neg (by simp [h0]), if_neg (by simp [h0]), hN]
  dsimp only
  rw [if_pos (show qfb.size + (ZF W.2.2.2.2.2.2.2.2.2.2.2.1).size ≤ 1099511627776 by omega), if_pos (show (qfb ++ ZF W.2.2.2.2.2.2.2.2.2.2.2.1).size + qgj.size ≤ 1099511627776 by rw [Qu]; omega), hM]
  dsimp only
  rw [if_pos (show ((qfb ++ ZF W.2.2.2.2.2.2.2.2.2.2.2.1) ++ qgj).size + (qfV W.1 W.2.1 W.2.2.1 W.2.2.2.1 W.2.2.2.2.1 W.2.2.2.2.2.1 W.2.2.2.2.2.2.1 W.2.2.2.2.2.2.2.1 W.2.2.2.2.2.2.2.2.1 W.2.2.2.2.2.2.2.2.2.1).size ≤ 1099511627776 by rw [Qu, Qu]; omega)]
  by_cases hz : W.2.2.2.2.2.2.2.2.2.1 = 0
  ·rw [if_neg (by simp [hz]), if_neg (by simp [hz]), hread]
   dsimp only
   have hsm := qgs (gen := W.2.2.2.2.2.2.2.2.2.2.2.1) (qb := []) ob (by omega)
   generalize QU W.2.2.2.2.2.2.2.2.2.2.2.1 W.2.2.2.2.2.2.2.2.2.2.2.2.1 [] = M at *
   unfold qaB at htell ⊢
   by_cases hm : M.2.2.2.2.2.2.2.2.2.2.2 = 0
   ·rw [if_neg (by simp [hm]), if_neg (by simp [hm])]
    have ht := htell hm
    rw [qrn b _ _ _ _ _ _ _ _ _ _ _ _ (show q0 M.2.2.2.2.2.2.2.2.2.2.1 = true from hsm)]
    unfold qkH at ht ⊢
    rw [show (0 : Int) = ((0 : Nat) : Int) from rfl, qrm b _ _ _ _ _ _ _ _ _ _ _ _ ht _ BIG 0 _ (Nat.zero_add _) (by rw [Zw]; have := ht.1; omega) (by simp), List.drop_zero]
    rfl
   ·rw [if_pos (bne_iff_ne.2 hm), if_pos hm]
    obtain ⟨he1, he⟩ := qlT.pure M.2.2.2.2.2.2.2.2.2.2.2
    rw [he1]
    dsimp only
    rw [if_pos (show qiS.size + (qep M.2.2.2.2.2.2.2.2.2.2.2).size ≤ 1099511627776 by have : qiS.size = 6 := rfl; omega)]
    rfl
  ·rw [if_pos (bne_iff_ne.2 hz), if_pos hz]
   rfl
 ·obtain ⟨he1, he⟩ := qlT.pure W.2.2.2.2.2.2.2.2.2.2.2.2.2
  rw [if_pos (bne_iff_ne.2 h0), if_pos h0, he1]
  dsimp only
  rw [if_pos (show qeH.size + (qep W.2.2.2.2.2.2.2.2.2.2.2.2.2).size ≤ 1099511627776 by have : qeH.size = 4 := rfl; omega)]
theorem qqu (gen : Int) (zc : List Int) : (qar gen zc).length = zc.length + 4 := by simp [qar]
theorem qmT (gen : Int) (zc : List Int) : (qbE gen zc).length = zc.length + 8 := by simp [qbE, qqu, qg8]
theorem qpj (gen : Int) (zc : List Int) (h1 : 1 ≤ gen) (h3 : gen ≤ 3) (hb : isB zc) (hl : zc.length ≤ 65499) : zS (qbE gen zc) = (gen, zc, 0) := by
 have h := QA.pure (qbE gen zc) (qg9 h1 h3 hb hl) (by rw [qmT]; omega)
 rw [qqh gen zc h1 h3 hb hl] at h
 exact (Option.some.inj h).symm
theorem qqk {b : List Int} (lo hi : Int) (h : (zS b).2.2 ≠ 0) : zI b lo hi = zP 0 (zS b).2.2 := by
 unfold zI
 rw [if_pos h]
theorem qph {gen : Int} {k f i lo hi s t l e b : Int} {qc qb : LR} (hb : qaH qc) (QC : gen = 3 → Qo qb = true) (h : (Qa gen k f i lo hi s t l e b qc qb).2 = 0) :
  QV gen (Qa gen k f i lo hi s t l e b qc qb).1 = (k, f, i, lo, hi, s, t, l, e, b, [], 0) := by
 have hw := qh7 hb h
 obtain ⟨hr, _, _, g1, g3⟩ := qg5 QC h
 generalize (Qa gen k f i lo hi s t l e b qc qb).1 = w at *
 unfold QV
 by_cases h3 : gen = 3
 ·subst h3
  rw [qm7] at hr
  have h0 : qaB (qaV w qb) = 0 := by rw [hr]; rfl
  rw [if_pos (by simp), (qom hw h0).2.2, hr]
  rfl
 ·rw [if_neg (by simp [h3])]
  have e : QU gen w [] = QU gen w qb := by
   rcases (show gen = 1 ∨ gen = 2 by omega) with rfl | rfl
   ·rw [qkQ, qkQ]
   ·rw [qkP, qkP]
  rw [e, hr]
  rfl
theorem qos {gen : Int} {k f i lo hi s t l e b : Int} {qc qb : LR} (h : (Qa gen k f i lo hi s t l e b qc qb).2 = 0) : gen = 3 → Qo qb = true := by
 rintro rfl
 cases hs : Qo qb with
 | true => rfl
 | false =>
  rw [qeG] at h
  unfold qdt at h
  rw [hs] at h
  simp at h
theorem qq4 {gen k f i lo hi s t l e b : Int} {qc qb : LR} (hb : qaH qc) (h : (qha gen k f i lo hi s t l e b qc qb).2 = 0) :
  ∃ w, qha gen k f i lo hi s t l e b qc qb = (qbE gen w, 0) ∧ 1 ≤ gen ∧ gen ≤ 3 ∧ isB w ∧ w.length ≤ 65499 ∧ (qdC k = true → gen = 1) ∧ QU gen w qb = (k, f, i, lo, hi, s, t, l, e, b, qc, 0) ∧ QV gen w = (k, f, i, lo, hi, s, t, l, e, b, [], 0) ∧ zb k f i lo hi s t l e b qc = true := by
 unfold qha at h ⊢
 by_cases hg : (1 ≤ k ∧ k ≤ 3) ∧ gen ≠ 1
 ·rw [if_pos hg] at h; exact absurd h (show (10 : Int) ≠ 0 by decide)
 rw [if_neg hg] at h ⊢
 by_cases h0 : (Qa gen k f i lo hi s t l e b qc qb).2 = 0
 ·rw [if_neg (fun k => k h0)] at h ⊢
  have hw := qh7 hb h0
  have hp := qph hb (qos h0) h0
  obtain ⟨hr, hv, hl, g1, g3⟩ := qg5 (qos h0) h0
  generalize (Qa gen k f i lo hi s t l e b qc qb).1 = w at *
  refine ⟨w, ?_, g1, g3, hw, hl, ?_, hr, hp, hv⟩
  ·unfold qki
   rw [if_neg (by omega), if_neg (by omega)]
  ·intro hk
   unfold qdC at hk
   have := of_decide_eq_true hk
   apply Decidable.byContradiction
   intro hn
   exact hg ⟨this, hn⟩
 ·rw [if_pos h0] at h
  exact absurd h h0
theorem qpk {gen k f i lo hi s t l e b : Int} {w : List Int} (olo ohi : Int) (h1 : 1 ≤ gen) (h3 : gen ≤ 3) (hb : isB w) (hl : w.length ≤ 65499) (hg : qdC k = true → gen = 1) (hp : QV gen w = (k, f, i, lo, hi, s, t, l, e, b, [], 0)) :
  zI (qbE gen w) olo ohi = if qiw olo ohi gen = true ∨ qdC k = true then (k, f, i, lo, hi, s, t, l, e, b, [], gen, w, 0) else zP gen 9 := by
 unfold zI
 rw [qpj gen w h1 h3 hb hl]
 dsimp only
 rw [hp]
 rw [if_neg (by simp)]
 have he : qaB (k, f, i, lo, hi, s, t, l, e, b, ([] : LR), (0 : Int)) = 0 := rfl
 rw [he]
 cases hh : qiw olo ohi gen with
 | true =>
  rw [if_neg (by simp), if_neg (by simp), if_neg (by rintro ⟨a, c⟩; exact c (hg a)), if_pos (.inl rfl)]
  rfl
 | false =>
  cases hk : qdC k with
  | true =>
   have := hg hk
   subst this
   rw [if_neg (by simp [hk]), if_neg (by simp), if_neg (by simp), if_pos (.inr rfl)]
   rfl
  | false =>
   rw [if_pos ⟨rfl, .inr (by simp [hk])⟩, if_neg (by simp)]
def qdQ (T : Nat) : Sum := ⟨[.raw], fun qK qm κ => match qK, qm with
 | [.ptr 0 0], [.bld T' (.row 1), .row e t l frz] => if T' = T then κ [] [.bld T' (.row 1), .row e t l frz] else none
 | _, _ => none⟩
theorem qm4 (T : Nat) : SumDet (qdQ T) := fun avs qm R κ => by
 show (qdQ T).run avs qm (two κ) = ((qdQ T).run avs qm (two some)).bind κ
 unfold qdQ
 simp only
 split
 ·split <;> rfl
 ·rfl
theorem qnL {w : World} {b : Nat} {q v : qbi} {T : TypeId} (h : w.heap[b]? = some (.cells #[q, v] T (0, 0))) (q' : qbi) : w.setCell ⟨b, 0, none⟩ q' = w.setRow b #[q', v] := by
 have hb := (Array.getElem?_eq_some_iff.1 h)
 obtain ⟨hlt, he⟩ := hb
 unfold World.setCell World.setRow
 congr 1
 apply Array.ext_getElem?
 intro k
 by_cases hk : k = b
 ·subst hk
  simp [Array.getElem?_modify, h]
 ·simp [Array.getElem?_modify, Ne.symm hk]
theorem qpN {o : Objs} {n : Nat} {x : Den.Obj} (h : o n = some x) : upd o n x = o := by
 funext k
 unfold upd
 split
 ·rename_i e; subst e; exact h.symm
 ·rfl
theorem qnU (L : Lays.n240 P ρ) (X : Builder.X72 P ρ) {fn : Func} {c : Code} (hf : P.funcs[ρ.f 240]? = some fn) (hb : fn.body = some c) (hn : (fn.name == "runtime.NumGoroutine") = false) : SumOk P (ρ.f 240) (qdQ (ρ.t 72)) := by
 refine ⟨⟨fn, c, hf, hb, hn⟩, ?_⟩
 intro R avs qm κ r h B g w vs hw hv
 unfold qdQ at h
 simp only at h
 split at h
 ·rename_i T' e t l frz
  split at h
  case isFalse => cases h
  rename_i hT
  subst hT
  match vs, hv with
  | [v1], ⟨h1, _⟩ =>
   have h0 : atL [Den.Obj.bld (ρ.t 72) (.row 1), .row e t l frz] 0 = some (.bld (ρ.t 72) (.row 1)) := rfl
   obtain ⟨b, q, v, hE, hh, hq, hc, h1c, hM⟩ := hw.objs 0 _ h0
   obtain ⟨p, z, hE2, rfl⟩ := h1
   rw [hE] at hE2
   cases hE2
   have hc0 : w.cell? ⟨b, 0, none⟩ = some q := by simp [World.cell?, hh]
   have hvt : VR g (tupOf []) (.tuple #[]) := ⟨[], rfl, trivial⟩
   rw [add_at]
   rcases hq with rfl | rfl
   ·refine (Any.Builder_copyCheck_fresh L X b w hc0 (by simp [World.shape?, hh]) (by simp [World.frozen?, hh])).mono ?_
    rintro e' w' ⟨rfl, rfl⟩
    have hp := bld_put hw h0 hE hh hM (.pointer (some ⟨b, 0, none⟩)) (.inr rfl) (.row 1) v hc h1c
    rw [qpN h0, ← qnL hh] at hp
    exact ⟨_, rfl, _, _, g, h, hp, GE.refl g, hvt⟩
   ·refine (Any.Builder_copyCheck_used L X b w hc0).mono ?_
    rintro e' w' ⟨rfl, rfl⟩
    exact ⟨_, rfl, _, _, g, h, hw, GE.refl g, hvt⟩
 ·cases h
theorem qiq (w : World) : ∀ (l : List Int) (a : Addr) (acc : ByteArray), (∀ j x, l[j]? = some x → w.cell? (a.add j) = some (.int .u8 x)) →
  (loadBytes a acc l.length).run P w = .ok ⟨acc.data ++ (strOfNums l).data⟩ w
 | [], a, acc, _ => by simp [loadBytes, strOfNums]
 | x :: l, a, acc, h => by
  have h0 : w.cell? a = some (.int .u8 x) := by
   have := h 0 x rfl
   simpa [Addr.add] using this
  have ih := qiq w l (a.add 1) (acc.push (UInt8.ofNat x.toNat)) (fun j y hy => by
   have := h (j + 1) y (by simpa using hy)
   rw [add_add, Nat.add_comm 1 j]; exact this)
  simp only [List.length_cons, loadBytes, Sem.run_bind, run_load, h0, Result.andThen]
  refine Eq.trans ih ?_
  congr 1
  apply ByteArray.ext
  simp [ByteArray.push, strOfNums]
theorem qhm (w : World) (pt it ty e : TypeId) (hp : P.underlying pt = some (.pointer e)) (hc : P.cellsOf e = 1) (g cells : Nat) (hsh : w.shape? g = some (e, cells)) (l : List Int) (h0 : l ≠ []) (hn : l.length ≤ cells) (h63 : l.length ≤ 9223372036854775807)
  (hcell : ∀ j x, l[j]? = some x → w.cell? ((⟨g, 0, none⟩ : Addr).add j) = some (.int .u8 x)) :
  (Builtin.unsafeString_ #[pt, it] ty #[.pointer (some ⟨g, 0, none⟩), .int .i64 l.length]).run P w = .ok (.string (strOfNums l)) (w.freeze ⟨g, 0, none⟩ l.length) := by
 have hl : l.length ≠ 0 := by simpa using h0
 have hlb := qiq (P := P) w l ⟨g, 0, none⟩ .empty hcell
 have hlies := Lib.liesAt_bytes (P := P) hc (cells / P.cellsOf e) l.length (by rw [hc]; simpa using hn)
 have h1 : ¬ (9223372036854775807 : Int) < (l.length : Int) := by omega
 have h2 : ¬ (l.length : Int) < 0 := by omega
 have hmax : IntKind.i64.max = 9223372036854775807 := rfl
 have hdo : Builtin.unsafeString_ #[pt, it] ty #[.pointer (some ⟨g, 0, none⟩), .int .i64 l.length] = (do
   let k ← asInt (.int .i64 l.length)
   if k < 0 then runtimePanic (.error "unsafe.String: len out of range")
   if k > IntKind.i64.max then unsupported (.unsafePointer "String: a length above the largest int")
   if k = 0 then pure (.string .empty)
   else if ← variablesAt ⟨g, 0, none⟩ (← elemOf pt) k.toNat then do
    let s ← loadBytes ⟨g, 0, none⟩ .empty k.toNat
    freeze ⟨g, 0, none⟩ k.toNat
    pure (.string s)
   else unsupported (.unsafePointer "String: not so many bytes at ptr")) := rfl
 rw [hdo]
 simp [asInt, asIntOf, hmax, h1, h2, hl, variablesAt, hsh, elemOf, run_underlying hp, hlies, hlb]
set_option maxHeartbeats 4000000 in
set_option maxRecDepth 100000 in
theorem qfv (L : Lays.n169 P ρ) (X : Builder.Extra P ρ) (b : Nat) (w W1 W2 : World) (ao : Option Addr) (n cap : Nat) (q : Option Addr) (s : ByteArray)
  (c0 : w.cell? ⟨b, 1, none⟩ = some (.slice ao n cap)) (c1 : w.drew.cell? ⟨b, 1, none⟩ = some (.slice ao n cap)) (c2 : W1.cell? ⟨b, 1, none⟩ = some (.slice ao n cap))
  (hSD : (Builtin.unsafeSliceData_ #[(ρ.t 37)] (ρ.t 127) #[.slice ao n cap]).run P w.drew = .ok (.pointer q) W1)
  (hUS : (Builtin.unsafeString_ #[(ρ.t 127), (ρ.t 3)] (ρ.t 9) #[.pointer q, .int .i64 n]).run P W1 = .ok (.string s) W2) :
  Calls P (ρ.f 169) #[.pointer (some ⟨b, 0, none⟩)] w fun e w' => e = .returned (.string s) ∧ w' = W2 := by
 have mixed := L.mixed
 have t72 := L.t72; have a72 := L.a72; have z72 := L.z72; have v72 := L.v72; have u72 := run_underlying L.t72
 have t70 := L.t70; have a70 := L.a70; have z70 := L.z70; have v70 := L.v70; have u70 := run_underlying L.t70
 have t37 := L.t37; have a37 := L.a37; have z37 := L.z37; have v37 := L.v37; have u37 := run_underlying L.t37
 have t127 := L.t127; have a127 := L.a127; have z127 := L.z127; have v127 := L.v127; have u127 := run_underlying L.t127
 have t3 := L.t3; have a3 := L.a3; have z3 := L.z3; have v3 := L.v3; have u3 := run_underlying L.t3
 have t9 := L.t9; have a9 := L.a9; have z9 := L.z9; have v9 := L.v9; have u9 := run_underlying L.t9
 have t5 := X.t5; have a5 := X.a5; have z5 := X.z5; have v5 := X.v5; have u5 := run_underlying X.t5
 go_enter L.f169, Body.n169_ntmps ρ
 go_wp2
 go_region_o
 all_goals (go_wp2; go_ret; exact ⟨rfl, rfl⟩)
def qcZ (T e0 : Nat) : Sum := ⟨[.raw], fun qK qm κ => match qK, qm with
 | [.ptr 0 0], [.bld T' (.row 1), .row e t l frz] => if h : t = .int .u8 then (if T' = T ∧ e = e0 then κ [.d .str (strOf (h ▸ l : List (Ty.int .u8).I))] [.gone, .gone] else none) else none
 | _, _ => none⟩
theorem qmB (T e0 : Nat) : SumDet (qcZ T e0) := fun avs qm R κ => by
 show (qcZ T e0).run avs qm (two κ) = ((qcZ T e0).run avs qm (two some)).bind κ
 unfold qcZ
 simp only
 split
 ·split
  ·split <;> rfl
  ·rfl
 ·rfl
theorem qpv {B : Base} {g : G} {o : Objs} {w w' : World} (hw : WInv B g o w) (hg : ∀ n x, o n = some x → live x = false) (n : Nat) (x : Den.Obj) (hn : o n = some x)
  (h1 : w'.os = w.os ∧ w'.tape = w.tape ∧ w'.output = w.output ∧ w.heap.size ≤ w'.heap.size) (hm : ∀ a v, w.cell? a = some v → w'.cell? a = some v)
  (hf : ∀ b, b < B.w0.heap.size → ¬ B.X b → w'.heap[b]? = w.heap[b]?) : WInv B g (upd o n .gone) w' := by
 refine hw.put2 n .gone (GE.refl g) (fun _ _ => rfl) rfl (OR_some (hw.objs n x hn)) h1 ?_ (fun a v ha => hm a v (hw.mem a v ha).1) hf (fun b hl => by cases hl)
 intro m y b _ hy hl
 rw [hg m y hy] at hl
 cases hl
theorem qnZ (w : World) (a b : Addr) (n : Nat) : (w.freeze a n).cell? b = w.cell? b := by
 unfold World.freeze
 split
 ·rfl
 ·unfold World.cell?
  simp only [Array.getElem?_modify]
  by_cases h : a.block = b.block
  ·rw [if_pos h]
   cases hk : w.heap[b.block]? with
   | none => rfl
   | some x => cases x <;> rfl
  ·rw [if_neg h]
theorem qnj (w : World) (a : Addr) (n k : Nat) (h : a.block ≠ k) : (w.freeze a n).heap[k]? = w.heap[k]? := by
 unfold World.freeze
 split
 ·rfl
 ·simp only [Array.getElem?_modify]
  rw [if_neg h]
theorem qm3 (L : Lays.n169 P ρ) (X : Builder.Extra P ρ) {fn : Func} {c : Code} (hf : P.funcs[ρ.f 169]? = some fn) (hb : fn.body = some c) (hn : (fn.name == "runtime.NumGoroutine") = false) : SumOk P (ρ.f 169) (qcZ (ρ.t 72) (ρ.t 5)) := by
 refine ⟨⟨fn, c, hf, hb, hn⟩, ?_⟩
 intro R avs qm κ r h B g w vs hw hv
 unfold qcZ at h
 simp only at h
 split at h
 ·rename_i T' e t l frz
  split at h
  case isFalse => cases h
  rename_i ht
  subst ht
  split at h
  case isFalse => cases h
  rename_i hT
  obtain ⟨rfl, rfl⟩ := hT
  match vs, hv with
  | [v1], ⟨h1, _⟩ =>
   have h0 : atL [Den.Obj.bld (ρ.t 72) (.row 1), .row (ρ.t 5) (.int .u8) l frz] 0 = some (.bld (ρ.t 72) (.row 1)) := rfl
   have hr0 : atL [Den.Obj.bld (ρ.t 72) (.row 1), .row (ρ.t 5) (.int .u8) l frz] 1 = some (.row (ρ.t 5) (.int .u8) l frz) := rfl
   obtain ⟨b, q, v, hE, hh, hq, ⟨z1, hE1, _⟩, h1c, hM⟩ := hw.objs 0 _ h0
   obtain ⟨v', ws, hE3, hfl, hown, hr, hMr⟩ := hw.objs 1 _ hr0
   rw [hE3] at hE1
   cases hE1
   obtain ⟨p, z, hE2, rfl⟩ := h1
   rw [hE] at hE2
   cases hE2
   rw [add_at]
   have hwsl : ws = l.map (qbi.int .u8) := by
    clear h hE3 hown hMr h0 hr0 hw
    induction l generalizing ws with
    | nil => exact hr
    | cons x l ih =>
     obtain ⟨a, b, rfl, h1, h2⟩ := hr
     rw [ih b h2, show a = _ from h1]
     rfl
   have fin : ∀ W2 : World, (W2.os = w.os ∧ W2.tape = w.tape ∧ W2.output = w.output ∧ w.heap.size ≤ W2.heap.size) → (∀ a v, w.cell? a = some v → W2.cell? a = some v) →
     (∀ k, k < w.heap.size → (∀ gb, v.ownBlock = some gb → gb ≠ k) → W2.heap[k]? = w.heap[k]?) →
     ∃ u, (Ending.returned (.string (strOfNums l)) : Ending) = .returned u ∧ ∃ rs os g', κ rs os = some r ∧ WInv B g' (atL os) W2 ∧ GE g g' ∧ VR g' (tupOf rs) u := by
    intro W2 hs hcell hfar
    have w1 := gone_put hw h0
    have w2 := gone_put w1 (n := 1) (x := .row (ρ.t 5) (.int .u8) l frz) (by simp [upd, hr0])
    have e2 : upd (upd (atL [Den.Obj.bld (ρ.t 72) (.row 1), .row (ρ.t 5) (.int .u8) l frz]) 0 .gone) 1 .gone = atL [.gone, .gone] := by
     funext k
     match k with
     | 0 => rfl
     | 1 => rfl
     | k + 2 => simp [upd, atL]
    rw [e2] at w2
    have w3 := qpv (w' := W2) w2 (fun n x hx => by
     match n, hx with
     | 0, hx => cases hx; rfl
     | 1, hx => cases hx; rfl
     | k + 2, hx => simp [atL] at hx) 0 .gone rfl hs hcell (fun k hk hX => hfar k (Nat.lt_of_lt_of_le hk hw.ext.size) (fun gb hgb e => by
      have hbk : blkOf g 1 = some gb := by
       simp only [blkOf, hE3, Option.bind_some]
       rw [ownBlock_base hown]; exact hgb
      rcases hw.mine 1 _ gb hr0 rfl hbk with k1 | k1
      ·rw [e] at k1; exact hX k1
      ·omega))
    rw [qpN rfl] at w3
    exact ⟨_, rfl, _, _, g, h, w3, GE.refl g, rfl⟩
   have hlt : b < w.heap.size := (Array.getElem?_eq_some_iff.1 hh).1
   have hc1 : w.cell? ⟨b, 1, none⟩ = some v := by simp [World.cell?, hh]
   rcases hown.2 with ⟨rfl, hl0⟩ | ⟨gb, cap, cur, fz, rfl, _, hg, hfz, hnc, hcm, hcs, htk⟩
   ·have : l = [] := List.eq_nil_of_length_eq_zero hl0
    subst this
    refine (qfv L X b w w.drew w.drew none 0 0 none (strOfNums []) hc1 hc1 hc1 rfl (Any.unsafeString_none L X w.drew none)).mono ?_
    rintro e' w' ⟨rfl, rfl⟩
    exact fin w.drew ⟨rfl, rfl, rfl, Nat.le_refl _⟩ (fun _ _ h => h) (fun _ _ _ => rfl)
   ·have hsz1 : cur.size = cap := by rw [hcs]; simp [Ty.sz]
    by_cases hl0 : l = []
    ·subst hl0
     by_cases hcap : cap = 0
     ·subst hcap
      have hsh : w.drew.shape? gb = some (ρ.t 5, cur.size) := by
       have hg' : w.drew.heap[gb]? = some (.cells cur (ρ.t 5) fz) := hg
       simp [World.shape?, hg']
      have hSD := Lib.run_unsafeSliceData_zero (P := P) w.drew #[(ρ.t 37)] (ρ.t 127) (ρ.t 5) L.t127 ⟨gb, 0, none⟩ 0 (ρ.t 5, cur.size) hsh
      have hold : ∀ k, k < w.heap.size → (w.drew.alloc (.view ⟨gb, 0, none⟩ (ρ.t 5))).heap[k]? = w.heap[k]? := fun k hk => heap_alloc_old w.drew _ hk
      have hcell : ∀ a v, w.cell? a = some v → (w.drew.alloc (.view ⟨gb, 0, none⟩ (ρ.t 5))).cell? a = some v := fun a v ha => by
       rw [World.cell?_of_block (hold a.block (World.block_lt_of_cell? w a ha))]
       exact ha
      refine (qfv L X b w _ _ (some ⟨gb, 0, none⟩) 0 0 _ (strOfNums []) hc1 hc1 (hcell _ _ hc1) hSD (Any.unsafeString_none L X _ _)).mono ?_
      rintro e' w' ⟨rfl, rfl⟩
      exact fin _ ⟨rfl, rfl, rfl, by show w.drew.heap.size ≤ _; simp⟩ hcell (fun k hk _ => hold k hk)
     ·refine (qfv L X b w w.drew w.drew (some ⟨gb, 0, none⟩) 0 cap (some ⟨gb, 0, none⟩) (strOfNums []) hc1 hc1 hc1 (Lib.run_unsafeSliceData_row _ _ _ _ _ _ hcap) (Any.unsafeString_none L X w.drew _)).mono ?_
      rintro e' w' ⟨rfl, rfl⟩
      exact fin w.drew ⟨rfl, rfl, rfl, Nat.le_refl _⟩ (fun _ _ h => h) (fun _ _ _ => rfl)
    ·have hpos : 0 < l.length := by
      rcases Nat.eq_zero_or_pos l.length with k | k
      ·exact absurd (List.eq_nil_of_length_eq_zero k) hl0
      ·exact k
     have hsh : w.drew.shape? gb = some (ρ.t 5, cur.size) := by
      have hg' : w.drew.heap[gb]? = some (.cells cur (ρ.t 5) fz) := hg
      simp [World.shape?, hg']
     have hUS := qhm (P := P) w.drew (ρ.t 127) (ρ.t 3) (ρ.t 9) (ρ.t 5) L.t127 X.cellsByte gb cur.size hsh l hl0 (by omega) (by unfold maxLen at hcm; omega) (fun j x hx => by
      have := World.ownsR.cells hown (g := gb) rfl j (.int .u8 x) (by rw [hwsl]; simp [hx])
      exact this)
     refine (qfv L X b w w.drew _ (some ⟨gb, 0, none⟩) l.length cap (some ⟨gb, 0, none⟩) (strOfNums l) hc1 hc1 hc1 (Lib.run_unsafeSliceData_row _ _ _ _ _ _ (by omega)) hUS).mono ?_
     rintro e' w' ⟨rfl, rfl⟩
     refine fin _ ⟨?_, ?_, ?_, ?_⟩ ?_ ?_
     ·unfold World.freeze; split <;> rfl
     ·unfold World.freeze; split <;> rfl
     ·unfold World.freeze; split <;> rfl
     ·unfold World.freeze; split
      ·exact Nat.le_refl _
      ·show w.drew.heap.size ≤ _; simp
     ·intro a v ha
      rw [qnZ]; exact ha
     ·intro k _ hk
      rw [qnj _ _ _ _ (hk gb rfl)]; rfl
 ·cases h
def qdY : Den.Sum := qdQ 91
theorem qhV : SumDet qdY := qm4 91
theorem qip : SumOk Tryz.prog 71 qdY := qnU (ρ := qiV) { qjV with } qiF.toX72 Tryz.func71 rfl (by kernel_rfl)
def qfq : Den.Sum := qcZ 91 5
theorem qlD : SumDet qfq := qmB 91 5
theorem qmC : SumOk Tryz.prog 49 qfq := qm3 (ρ := qiV) { qjV with } qiF Tryz.func49 rfl (by kernel_rfl)
def qb6 : Env := ⟨th, gam [(71, qdY)], fun i => ⟨[], [], []⟩⟩
def zv.k (rs : List AV) (os : List Den.Obj) : Option (Int × (List Int)) :=
 match rs, os with
 | [.d (.int .i64) r0, .nili], [.bld 91 (.row 2), .gone, .row 5 (.int .u8) r1 false] => some (r0, r1)
 | _, _ => none
def zv.b (buf : List Int) (s : ByteArray) : Option (Int × (List Int)) :=
 (if ((((List.length buf) + (List.length (bytesOf s))) * (1 : Nat)) ≤ lim) then some (((((ByteArray.size s)) : Nat) : Int), (buf ++ (bytesOf s))) else none)
def zv.f (qa : Nat) (buf : List Int) (s : ByteArray) : Option (Int × (List Int)) := zv.b buf s
theorem zv.eq (qa : Nat) (buf : List Int) (s : ByteArray) : (denF qb6 loopN qa Tryz.f47 [.raw, .raw] [.ptr 0 0, .d .str s] [.bld 91 (.row 1), .row 5 (.int .u8) buf false] zv.k) = zv.f qa buf s := by
 kernel_rfl
def Qn : Den.Sum := ⟨[.raw, .raw], fun qK qm κ => match qK, qm with
 | [.ptr 0 0, .d .str s], [.bld 91 (.row 1), .row 5 (.int .u8) buf false] => (match veil (zv.f BIG buf s) with | none => none | some y => κ [.d (.int .i64) y.1, .nili] [.bld 91 (.row 2), .gone, .row 5 (.int .u8) y.2 false])
 | _, _ => none⟩
theorem qdv : SumDet Qn := zj fun _ _ _ _ => by
 unfold Qn
 simp only [veil_eq]
 split
 ·split <;> rfl
 ·rfl
theorem qdM : SumOk Tryz.prog 47 Qn := by
 have hE : EnvOk Tryz.prog qb6 := env_ok (l := [(71, qdY)]) th_ok qZ ⟨⟨qip, qhV⟩, trivial⟩ _
 refine sum_ok hE Tryz.func47 rfl (by kernel_rfl) Qn [.raw, .raw] zv.k ?_
 intro R avs qm κ r h
 unfold Qn at h
 simp only [veil_eq] at h
 split at h
 ·rename_i s buf
  split at h
  ·cases h
  ·rename_i y hy
   refine ⟨BIG, _, _, _, (zv.eq BIG buf s).trans hy, ?_, h⟩
   intro rs ros hk
   unfold zv.k at hk
   split at hk
   ·rw [← sj hk]; exact ⟨rfl, rfl⟩
   ·cases hk
 ·cases h
def qch : Env := ⟨th, gam [(71, qdY)], fun i => ⟨[], [], []⟩⟩
def zC.k (rs : List AV) (os : List Den.Obj) : Option (List Int) :=
 match rs, os with
 | [.nili], [.bld 91 (.row 2), .gone, .row 5 (.int .u8) r0 false] => some r0
 | _, _ => none
def zC.b (buf : List Int) (c : Int) : Option (List Int) :=
 (if ((((List.length buf) + (List.length (c :: ([] : List Int)))) * (1 : Nat)) ≤ lim) then some ((buf ++ (c :: ([] : List Int)))) else none)
def zC.f (qa : Nat) (buf : List Int) (c : Int) : Option (List Int) := zC.b buf c
theorem zC.eq (qa : Nat) (buf : List Int) (c : Int) : (denF qch loopN qa Tryz.f48 [.raw] [.ptr 0 0, .d (.int .u8) c] [.bld 91 (.row 1), .row 5 (.int .u8) buf false] zC.k) = zC.f qa buf c := by
 kernel_rfl
def Qw : Den.Sum := ⟨[.raw, .raw], fun qK qm κ => match qK, qm with
 | [.ptr 0 0, .d (.int .u8) c], [.bld 91 (.row 1), .row 5 (.int .u8) buf false] => (match veil (zC.f BIG buf c) with | none => none | some y => κ [.nili] [.bld 91 (.row 2), .gone, .row 5 (.int .u8) y false])
 | _, _ => none⟩
theorem qd5 : SumDet Qw := zj fun _ _ _ _ => by
 unfold Qw
 simp only [veil_eq]
 split
 ·split <;> rfl
 ·rfl
theorem qec : SumOk Tryz.prog 48 Qw := by
 have hE : EnvOk Tryz.prog qch := env_ok (l := [(71, qdY)]) th_ok qZ ⟨⟨qip, qhV⟩, trivial⟩ _
 refine sum_ok hE Tryz.func48 rfl (by kernel_rfl) Qw [.raw] zC.k ?_
 intro R avs qm κ r h
 unfold Qw at h
 simp only [veil_eq] at h
 split at h
 ·rename_i c buf
  split at h
  ·cases h
  ·rename_i y hy
   refine ⟨BIG, _, _, _, (zC.eq BIG buf c).trans hy, ?_, h⟩
   intro rs ros hk
   unfold zC.k at hk
   split at hk
   ·rw [← sj hk]; exact ⟨rfl, rfl⟩
   ·cases hk
 ·cases h
def qdk : Env := ⟨th, gam [(21, ZK), (47, Qn), (48, Qw), (49, qfq)], fun i => if i = 888887 then ⟨[91], [], []⟩ else if i = 3 then ⟨[3, 8, 9, 10], [], []⟩ else if i = 6 then ⟨[3, 8, 9, 10, 15, 16, 17], [], []⟩ else ⟨[], [], []⟩⟩
def qV.k (rs : List AV) (os : List Den.Obj) : Option ByteArray :=
 match rs, os with
 | [.d .str r0], [] => some r0
 | _, _ => none
def qV.s6 (zd : List (List Int)) (x5 : Int) (x6 : Int) (x7 : Int) (x8 : Int) (x9 : (List Int)) (x10 : (List ByteArray)) : St := ⟨[dD, dD, dD, .ptr 64 0, dD, dD, dD, dD, .d (.sl (.sl (.int .u8))) (zd), .d tQi x5, .d tQi x6, dD, dD, dD, dD, .row 66, .d tQi x7, .d tQi x8, dD, dD, dD, dD, dD, dD, dD, dD, .dead], ofL [(64, .bld 91 (.row 65)), (65, .row 5 (.int .u8) x9 false), (66, .row 9 .str x10 false)], 0⟩
def qV.p6 (qa : Nat) (zd : List (List Int)) (k3 : Nat) (k : Nat) := fun x5 x6 x7 x8 x9 x10 => lp qdk qa Tryz.f27 [.raw] 0 qV.k 6 [k3] k (qV.s6 zd x5 x6 x7 x8 x9 x10)
def qV.b6 (zd : List (List Int)) (A3 : Int → Int → (List Int) → Option ByteArray) (A6 : Int → Int → Int → Int → (List Int) → (List ByteArray) → Option ByteArray) (x5 : Int) (x6 : Int) (x7 : Int) (x8 : Int) (x9 : (List Int)) (x10 : (List ByteArray)) : Option ByteArray :=
 (if (decide (x8 < x7)) then (match (idx x10 x8) with | none => none | some y11 => (match (idx x10 x8) with | none => none | some y12 => (match (veil (zv.f BIG x9 y12)) with | none => none | some y13 => (match (veil (zC.f BIG y13.2 (10 : Int))) with | none => none | some y14 => A6 x5 x6 x7 (IntKind.wrap .i64 (x8 + (1 : Int))) y14 x10)))) else A3 x5 (IntKind.wrap .i64 (x6 + (1 : Int))) x9)
def qV.l6 (qa : Nat) (zd : List (List Int)) (A3 : Int → Int → (List Int) → Option ByteArray) : Nat → Int → Int → Int → Int → (List Int) → (List ByteArray) → Option ByteArray
 | 0, _, _, _, _, _, _ => none
 | k + 1, x5, x6, x7, x8, x9, x10 => qV.b6 zd A3 (qV.l6 qa zd A3 k) x5 x6 x7 x8 x9 x10
def qV.s3 (zd : List (List Int)) (x0 : Int) (x1 : Int) (x2 : (List Int)) : St := ⟨[dD, dD, dD, .ptr 64 0, dD, dD, dD, dD, .d (.sl (.sl (.int .u8))) (zd), .d tQi x0, .d tQi x1, dD, dD, dD, dD, dD, dD, dD, dD, dD, dD, dD, dD, dD, dD, dD, .dead], ofL [(64, .bld 91 (.row 65)), (65, .row 5 (.int .u8) x2 false)], 0⟩
def qV.p3 (qa : Nat) (zd : List (List Int)) (k : Nat) := fun x0 x1 x2 => lp qdk qa Tryz.f27 [.raw] 0 qV.k 3 [] k (qV.s3 zd x0 x1 x2)
def qV.b3 (zd : List (List Int)) (A3 : Int → Int → (List Int) → Option ByteArray) (E6 : Int → Int → Int → Int → (List Int) → (List ByteArray) → Option ByteArray) (x0 : Int) (x1 : Int) (x2 : (List Int)) : Option ByteArray :=
 (if (decide (x1 < x0)) then (match (idx zd x1) with | none => none | some y3 => (match (veil (zh.f BIG y3)) with | none => none | some y4 => E6 x0 x1 ((((List.length y4)) : Nat) : Int) (0 : Int) x2 y4)) else some ((strOf x2)))
def qV.l3 (qa : Nat) (zd : List (List Int)) : Nat → Int → Int → (List Int) → Option ByteArray
 | 0, _, _, _ => none
 | k + 1, x0, x1, x2 => qV.b3 zd (qV.l3 qa zd k) (qV.l6 qa zd (qV.l3 qa zd k) qa) x0 x1 x2
def qV.b (zd : List (List Int)) (E3 : Int → Int → (List Int) → Option ByteArray) : Option ByteArray :=
 E3 ((((List.length zd)) : Nat) : Int) (0 : Int) ([] : List Int)
def qV.f (qa : Nat) (zd : List (List Int)) : Option ByteArray := qV.b zd (qV.l3 qa zd qa)
theorem qV.l6_eq (qa : Nat) (zd : List (List Int)) (k3 : Nat) : ∀ k : Nat, qV.p6 qa zd k3 k = qV.l6 qa zd (qV.p3 qa zd k3) k
 | 0 => by kernel_rfl
 | k + 1 => by
  refine Eq.trans (b := qV.b6 zd (qV.p3 qa zd k3) (qV.p6 qa zd k3 k)) (by kernel_rfl) ?_
  rw [qV.l6_eq qa zd k3 k]
  kernel_rfl
theorem qV.l3_eq (qa : Nat) (zd : List (List Int)) : ∀ k : Nat, qV.p3 qa zd k = qV.l3 qa zd k
 | 0 => by kernel_rfl
 | k + 1 => by
  refine Eq.trans (b := qV.b3 zd (qV.p3 qa zd k) (qV.p6 qa zd k qa)) (by kernel_rfl) ?_
  rw [qV.l3_eq qa zd k, qV.l6_eq qa zd k qa, qV.l3_eq qa zd k]
  kernel_rfl
theorem qV.eq (qa : Nat) (zd : List (List Int)) : (denF qdk loopN qa Tryz.f27 [.raw] [.d (.sl (.sl (.int .u8))) zd] [] qV.k) = qV.f qa zd := by
 refine Eq.trans (b := qV.b zd (qV.p3 qa zd qa)) (by kernel_rfl) ?_
 rw [qV.l3_eq qa zd qa]
 kernel_rfl
def ZV : Den.Sum := ⟨[.dat (.sl (.sl (.int .u8))) false], fun qK qm κ => match qK, qm with
 | [.d (.sl (.sl (.int .u8))) zd], [] => (match veil (qV.f BIG zd) with | none => none | some y => κ [.d .str y] [])
 | _, _ => none⟩
theorem qe2 : SumDet ZV := zj fun _ _ _ _ => by
 unfold ZV
 simp only [veil_eq]
 split
 ·split <;> rfl
 ·rfl
theorem qfl : SumOk Tryz.prog 27 ZV := by
 have hE : EnvOk Tryz.prog qdk := env_ok (l := [(21, ZK), (47, Qn), (48, Qw), (49, qfq)]) th_ok qZ ⟨⟨qe3, qeD⟩, ⟨qdM, qdv⟩, ⟨qec, qd5⟩, ⟨qmC, qlD⟩, trivial⟩ _
 refine sum_ok hE Tryz.func27 rfl (by kernel_rfl) ZV [.raw] qV.k ?_
 intro R avs qm κ r h
 unfold ZV at h
 simp only [veil_eq] at h
 split at h
 ·rename_i zd
  split at h
  ·cases h
  ·rename_i y hy
   refine ⟨BIG, _, _, _, (qV.eq BIG zd).trans hy, ?_, h⟩
   intro rs ros hk
   unfold qV.k at hk
   split at hk
   ·rw [← sj hk]; exact ⟨rfl, rfl⟩
   ·cases hk
 ·cases h
def qhZ : Env := ⟨th, gam [(10, qa4), (27, ZV)], fun i => ⟨[], [], []⟩⟩
def QT.k (rs : List AV) (os : List Den.Obj) : Option Bool :=
 match rs, os with
 | [.d .bool r0], [] => some r0
 | _, _ => none
def QT.b (u : Unit) : Option Bool :=
 (match (veil (QS.f BIG (1 : Int) (1 : Int) (5 : Int) 0 (1 : Int) (3 : Int) (7 : Int) 0 0 0 0 ([] : LR) ([] : LR))) with | none => none | some y0 => (if (y0.2 == (0 : Int)) then (match (veil (qV.f BIG (y0.1 :: ([] : List (List Int))))) with | none => none | some y1 => (if ((ByteArray.toList y1) == (ByteArray.toList (⟨((103 :: (101 :: (110 :: (32 :: (49 :: (32 :: (104 :: (101 :: (108 :: (108 :: (111 :: (32 :: (102 :: (114 :: (111 :: (109 :: (32 :: (53 :: (32 :: (105 :: (110 :: (99 :: (32 :: (48 :: (32 :: (115 :: (112 :: (97 :: (110 :: (32 :: (49 :: (45 :: (51 :: (32 :: (115 :: (101 :: (113 :: (32 :: (55 :: (10 :: ([] : List UInt8)))))))))))))))))))))))))))))))))))))))))).toArray⟩ : ByteArray))) then (match (veil (qV.f BIG (([] : List Int) :: ([] : List (List Int))))) with | none => none | some y2 => some (((ByteArray.toList y2) == (ByteArray.toList (⟨((98 :: (97 :: (100 :: (32 :: (115 :: (104 :: (111 :: (114 :: (116 :: (10 :: ([] : List UInt8)))))))))))).toArray⟩ : ByteArray))))) else some (false))) else some (false)))
def QT.f (qa : Nat) (u : Unit) : Option Bool := QT.b u
theorem QT.eq (qa : Nat) (u : Unit) : (denF qhZ loopN qa Tryz.f20 [.raw] [] [] QT.k) = QT.f qa u := by
 kernel_rfl
def qa6 : Den.Sum := ⟨[], fun qK qm κ => match qK, qm with
 | [], [] => (match veil (QT.f BIG ()) with | none => none | some y => κ [.d .bool y] [])
 | _, _ => none⟩
theorem qi3 : SumDet qa6 := zj fun _ _ _ _ => by
 unfold qa6
 simp only [veil_eq]
 split
 ·split <;> rfl
 ·rfl
theorem qjK : SumOk Tryz.prog 20 qa6 := by
 have hE : EnvOk Tryz.prog qhZ := env_ok (l := [(10, qa4), (27, ZV)]) th_ok qZ ⟨⟨qjH, qi1⟩, ⟨qfl, qe2⟩, trivial⟩ _
 refine sum_ok hE Tryz.func20 rfl (by kernel_rfl) qa6 [.raw] QT.k ?_
 intro R avs qm κ r h
 unfold qa6 at h
 simp only [veil_eq] at h
 split at h
 ·skip
  split at h
  ·cases h
  ·rename_i y hy
   refine ⟨BIG, _, _, _, (QT.eq BIG ()).trans hy, ?_, h⟩
   intro rs ros hk
   unfold QT.k at hk
   split at hk
   ·rw [← sj hk]; exact ⟨rfl, rfl⟩
   ·cases hk
 ·cases h
def Z0 : Env := ⟨th, gam [(20, qa6), (21, ZK), (25, qa5), (26, qaF), (27, ZV)], fun i => if i = 5 then ⟨[0, 3, 4], [], []⟩ else if i = 15 then ⟨[0, 3, 4, 5, 6, 7, 8, 9], [], []⟩ else if i = 21 then ⟨[0, 3, 4, 6, 8, 10], [], []⟩ else ⟨[], [], []⟩⟩
def qp.k (rs : List AV) (os : List Den.Obj) : Option Bool :=
 match rs, os with
 | [.d .bool r0], [] => some r0
 | _, _ => none
def qp.s21 (l : List (List Int)) (x24 : ByteArray) (x25 : Int) (x26 : Int) (x27 : (List Int)) (x28 : (List Int)) : St := ⟨[.d (.sl (.sl (.int .u8))) (l), .dead, .dead, .d .str x24, .d tQi x25, .dead, .row 64, .dead, .row 65, .dead, .d tQi x26, dD, dD, dD, dD, dD, dD, dD, dD, dD, dD, dD, dD, dD, dD, dD, dD, dD, dD, dD, dD, dD, dD, dD, dD, dD, dD, dD, dD, dD, dD, dD, dD, dD, dD, dD, dD, dD, dD, dD, dD, dD, dD, dD, dD, dD, dD, dD, dD, dD, dD, dD, dD, dD, dD, dD, dD, dD, dD, dD, dD, dD, dD, dD, dD, dD, dD, dD, dD, dD, dD, dD, dD, dD, dD, dD, dD, dD, dD, dD, dD, dD, dD, dD, dD, dD, dD, dD, dD, dD, dD, .dead], ofL [(64, .row 3 tQi x27 false), (65, .row 3 tQi x28 false)], 0⟩
def qp.p21 (qa : Nat) (l : List (List Int)) (k5 : Nat) (k : Nat) := fun x24 x25 x26 x27 x28 => lp Z0 qa Tryz.f6 [.raw] 0 qp.k 21 [k5] k (qp.s21 l x24 x25 x26 x27 x28)
def qp.b21 (l : List (List Int)) (A5 : ByteArray → Int → Option Bool) (A21 : ByteArray → Int → Int → (List Int) → (List Int) → Option Bool) (x24 : ByteArray) (x25 : Int) (x26 : Int) (x27 : (List Int)) (x28 : (List Int)) : Option Bool :=
 (if (decide (x26 < ((((List.length x27)) : Nat) : Int))) then (match (idx x28 x26) with | none => none | some y29 => (match (idx x28 x26) with | none => none | some y30 => (match (idx x27 x26) with | none => none | some y31 => (match (idx x27 x26) with | none => none | some y32 => (if (y30 != y32) then some (false) else A21 x24 x25 (IntKind.wrap .i64 (x26 + (1 : Int))) x27 x28))))) else A5 x24 (IntKind.wrap .i64 (x25 + (1 : Int))))
def qp.l21 (qa : Nat) (l : List (List Int)) (A5 : ByteArray → Int → Option Bool) : Nat → ByteArray → Int → Int → (List Int) → (List Int) → Option Bool
 | 0, _, _, _, _, _ => none
 | k + 1, x24, x25, x26, x27, x28 => qp.b21 l A5 (qp.l21 qa l A5 k) x24 x25 x26 x27 x28
def qp.s15 (l : List (List Int)) (x11 : ByteArray) (x12 : Int) (x13 : Int) (x14 : (List ByteArray)) (x15 : (List Int)) (x16 : (List ByteArray)) (x17 : (List Int)) : St := ⟨[.d (.sl (.sl (.int .u8))) (l), .dead, .dead, .d .str x11, .d tQi x12, .row 64, .row 65, .row 66, .row 67, .d tQi x13, dD, dD, dD, dD, dD, dD, dD, dD, dD, dD, dD, dD, dD, dD, dD, dD, dD, dD, dD, dD, dD, dD, dD, dD, dD, dD, dD, dD, dD, dD, dD, dD, dD, dD, dD, dD, dD, dD, dD, dD, dD, dD, dD, dD, dD, dD, dD, dD, dD, dD, dD, dD, dD, dD, dD, dD, dD, dD, dD, dD, dD, dD, dD, dD, dD, dD, dD, dD, dD, dD, dD, dD, dD, dD, dD, dD, dD, dD, dD, dD, dD, dD, dD, dD, dD, dD, dD, dD, dD, dD, dD, .dead], ofL [(64, .row 9 .str x14 false), (65, .row 3 tQi x15 false), (66, .row 9 .str x16 false), (67, .row 3 tQi x17 false)], 0⟩
def qp.p15 (qa : Nat) (l : List (List Int)) (k5 : Nat) (k : Nat) := fun x11 x12 x13 x14 x15 x16 x17 => lp Z0 qa Tryz.f6 [.raw] 0 qp.k 15 [k5] k (qp.s15 l x11 x12 x13 x14 x15 x16 x17)
def qp.b15 (l : List (List Int)) (A5 : ByteArray → Int → Option Bool) (A15 : ByteArray → Int → Int → (List ByteArray) → (List Int) → (List ByteArray) → (List Int) → Option Bool) (E21 : ByteArray → Int → Int → (List Int) → (List Int) → Option Bool) (x11 : ByteArray) (x12 : Int) (x13 : Int) (x14 : (List ByteArray)) (x15 : (List Int)) (x16 : (List ByteArray)) (x17 : (List Int)) : Option Bool :=
 (if (decide (x13 < ((((List.length x14)) : Nat) : Int))) then (match (idx x16 x13) with | none => none | some y18 => (match (idx x16 x13) with | none => none | some y19 => (match (idx x14 x13) with | none => none | some y20 => (match (idx x14 x13) with | none => none | some y21 => (if (!((ByteArray.toList y19) == (ByteArray.toList y21))) then some (false) else (match (idx x14 x13) with | none => none | some y22 => (match (idx x14 x13) with | none => none | some y23 => (if (((ByteArray.size x11) + (ByteArray.size y23)) ≤ (1099511627776 : Nat)) then (if (((ByteArray.size (x11 ++ y23)) + (ByteArray.size (⟨((10 :: ([] : List UInt8))).toArray⟩ : ByteArray))) ≤ (1099511627776 : Nat)) then A15 ((x11 ++ y23) ++ (⟨((10 :: ([] : List UInt8))).toArray⟩ : ByteArray)) x12 (IntKind.wrap .i64 (x13 + (1 : Int))) x14 x15 x16 x17 else none) else none)))))))) else E21 x11 x12 (0 : Int) x15 x17)
def qp.l15 (qa : Nat) (l : List (List Int)) (A5 : ByteArray → Int → Option Bool) : Nat → ByteArray → Int → Int → (List ByteArray) → (List Int) → (List ByteArray) → (List Int) → Option Bool
 | 0, _, _, _, _, _, _, _ => none
 | k + 1, x11, x12, x13, x14, x15, x16, x17 => qp.b15 l A5 (qp.l15 qa l A5 k) (qp.l21 qa l A5 qa) x11 x12 x13 x14 x15 x16 x17
def qp.s5 (l : List (List Int)) (x1 : ByteArray) (x2 : Int) : St := ⟨[.d (.sl (.sl (.int .u8))) (l), .dead, .dead, .d .str x1, .d tQi x2, dD, dD, dD, dD, dD, dD, dD, dD, dD, dD, dD, dD, dD, dD, dD, dD, dD, dD, dD, dD, dD, dD, dD, dD, dD, dD, dD, dD, dD, dD, dD, dD, dD, dD, dD, dD, dD, dD, dD, dD, dD, dD, dD, dD, dD, dD, dD, dD, dD, dD, dD, dD, dD, dD, dD, dD, dD, dD, dD, dD, dD, dD, dD, dD, dD, dD, dD, dD, dD, dD, dD, dD, dD, dD, dD, dD, dD, dD, dD, dD, dD, dD, dD, dD, dD, dD, dD, dD, dD, dD, dD, dD, dD, dD, dD, dD, .dead], ofL [], 0⟩
def qp.p5 (qa : Nat) (l : List (List Int)) (k : Nat) := fun x1 x2 => lp Z0 qa Tryz.f6 [.raw] 0 qp.k 5 [] k (qp.s5 l x1 x2)
end
end Go.Proofs.YtneiiplppcjjlaaGreatDoor
