/- TrafficRows, part 3: what the row leans on. -/
import Derived.Test.YtgaakgeemnkeeaaGreatDoorZTrafficRows2
set_option linter.unusedVariables false
set_option linter.unusedSimpArgs false
set_option maxRecDepth 100000
namespace Go.Proofs.YtgaakgeemnkeeaaGreatDoor
open Go.Den
open Go.Den Go.RowKit
noncomputable section
theorem zT.eq (qa : Nat) (gen : Int) (b : List Int) (qc : LR) : (denF qeL loopN qa Tryz.f27 [.dat (.pair tQi (.pair tQi (.pair tQi (.pair (.pair tQi tQi) (.pair tQi (.pair tQi (.pair tQi (.pair tQi (.pair tQi (.sl tQr)))))))))) true, .raw] [.d tQi gen, .d (.sl (.int .u8)) b, .d (.sl tQr) qc] [] zT.k) = zT.f qa gen b qc := by
 kernel_rfl
def ZT : Den.Sum := ⟨[.raw, .dat (.sl (.int .u8)) false, .dat (.sl tQr) false], fun qA qj κ => match qA, qj with
 | [.d (.int .i64) gen, .d (.sl (.int .u8)) b, .d (.sl (.pair (.int .i64) (.pair (.int .i64) (.pair (.int .i64) (.pair (.pair (.int .i64) (.int .i64)) (.pair .bool (.sl (.pair (.int .i64) (.sl (.int .u8)))))))))) qc], [] => (match veil (zT.f BIG gen b qc) with | none => none | some y => κ [.agg [.d (.int .i64) y.1, .d (.int .i64) y.2.1, .d (.int .i64) y.2.2.1, .d (.int .i64) y.2.2.2.1, .d (.int .i64) y.2.2.2.2.1, .d (.int .i64) y.2.2.2.2.2.1, .d (.int .i64) y.2.2.2.2.2.2.1, .d (.int .i64) y.2.2.2.2.2.2.2.1, .d (.int .i64) y.2.2.2.2.2.2.2.2.1, .d (.int .i64) y.2.2.2.2.2.2.2.2.2.1, .d (.sl (.pair (.int .i64) (.pair (.int .i64) (.pair (.int .i64) (.pair (.pair (.int .i64) (.int .i64)) (.pair .bool (.sl (.pair (.int .i64) (.sl (.int .u8)))))))))) y.2.2.2.2.2.2.2.2.2.2.1], .d (.int .i64) y.2.2.2.2.2.2.2.2.2.2.2] [])
 | _, _ => none⟩
theorem qfZ : SumDet ZT := zi fun _ _ _ _ => by
 unfold ZT
 simp only [veil_eq]
 split
 ·split <;> rfl
 ·rfl
theorem qgC : SumOk Tryz.prog 27 ZT := by
 have hE : EnvOk Tryz.prog qeL := env_ok (l := [(48, QW), (49, QX), (21, qbV), (40, QV), (42, QU), (44, QT), (46, QS)]) th_ok qU ⟨⟨qcr, qca⟩, ⟨qcs, qcb⟩, ⟨qfF, qeO⟩, ⟨qcp, qb9⟩, ⟨qco, qb8⟩, ⟨qcn, qb7⟩, ⟨qcm, qb6⟩, trivial⟩ _
 refine sum_ok hE Tryz.func27 rfl (by kernel_rfl) ZT [.dat (.pair tQi (.pair tQi (.pair tQi (.pair (.pair tQi tQi) (.pair tQi (.pair tQi (.pair tQi (.pair tQi (.pair tQi (.sl tQr)))))))))) true, .raw] zT.k ?_
 intro R avs qj κ r h
 unfold ZT at h
 simp only [veil_eq] at h
 split at h
 ·rename_i gen b qc
  split at h
  ·cases h
  ·rename_i y hy
   refine ⟨BIG, _, _, _, (zT.eq BIG gen b qc).trans hy, ?_, h⟩
   intro rs ros hk
   unfold zT.k at hk
   split at hk
   ·rw [← sj hk]; exact ⟨rfl, rfl⟩
   ·cases hk
 ·cases h
def qfN : Env := ⟨th, gam [(26, qa0), (28, qbd), (27, ZT)], fun i => ⟨[], [], []⟩⟩
def Q7.k (rs : List AV) (os : List Den.Obj) : Option (Int × Int × Int × Int × Int × Int × Int × Int × Int × Int × LR × Int) :=
 match rs, os with
 | [.agg [.d (.int .i64) r0, .d (.int .i64) r1, .d (.int .i64) r2, .d (.int .i64) r3, .d (.int .i64) r4, .d (.int .i64) r5, .d (.int .i64) r6, .d (.int .i64) r7, .d (.int .i64) r8, .d (.int .i64) r9, .d (.sl (.pair (.int .i64) (.pair (.int .i64) (.pair (.int .i64) (.pair (.pair (.int .i64) (.int .i64)) (.pair .bool (.sl (.pair (.int .i64) (.sl (.int .u8)))))))))) r10], .d (.int .i64) r11], [] => some (r0, r1, r2, r3, r4, r5, r6, r7, r8, r9, r10, r11)
 | _, _ => none
def Q7.b (gen : Int) (b : List Int) : Option (Int × Int × Int × Int × Int × Int × Int × Int × Int × Int × LR × Int) :=
 (if (gen == (3 : Int)) then (match (veil (Zj.f BIG b)) with | none => none | some y0 => some (y0.1, y0.2.1, y0.2.2.1, y0.2.2.2.1, y0.2.2.2.2.1, y0.2.2.2.2.2.1, y0.2.2.2.2.2.2.1, y0.2.2.2.2.2.2.2.1, y0.2.2.2.2.2.2.2.2.1, y0.2.2.2.2.2.2.2.2.2.1, y0.2.2.2.2.2.2.2.2.2.2.1, y0.2.2.2.2.2.2.2.2.2.2.2)) else (match (veil (zT.f BIG gen b ([] : LR))) with | none => none | some y1 => (match (veil (qaD.f BIG y1.1 y1.2.1 y1.2.2.1 y1.2.2.2.1 y1.2.2.2.2.1 y1.2.2.2.2.2.1 y1.2.2.2.2.2.2.1 y1.2.2.2.2.2.2.2.1 y1.2.2.2.2.2.2.2.2.1 y1.2.2.2.2.2.2.2.2.2.1 y1.2.2.2.2.2.2.2.2.2.2.1)) with | none => none | some y2 => some (y2.1, y2.2.1, y2.2.2.1, y2.2.2.2.1, y2.2.2.2.2.1, y2.2.2.2.2.2.1, y2.2.2.2.2.2.2.1, y2.2.2.2.2.2.2.2.1, y2.2.2.2.2.2.2.2.2.1, y2.2.2.2.2.2.2.2.2.2.1, y2.2.2.2.2.2.2.2.2.2.2, y1.2.2.2.2.2.2.2.2.2.2.2))))
def Q7.f (qa : Nat) (gen : Int) (b : List Int) : Option (Int × Int × Int × Int × Int × Int × Int × Int × Int × Int × LR × Int) := Q7.b gen b
theorem Q7.eq (qa : Nat) (gen : Int) (b : List Int) : (denF qfN loopN qa Tryz.f17 [.dat (.pair tQi (.pair tQi (.pair tQi (.pair (.pair tQi tQi) (.pair tQi (.pair tQi (.pair tQi (.pair tQi (.pair tQi (.sl tQr)))))))))) true, .raw] [.d tQi gen, .d (.sl (.int .u8)) b] [] Q7.k) = Q7.f qa gen b := by
 kernel_rfl
def qat : Den.Sum := ⟨[.raw, .dat (.sl (.int .u8)) false], fun qA qj κ => match qA, qj with
 | [.d (.int .i64) gen, .d (.sl (.int .u8)) b], [] => (match veil (Q7.f BIG gen b) with | none => none | some y => κ [.agg [.d (.int .i64) y.1, .d (.int .i64) y.2.1, .d (.int .i64) y.2.2.1, .d (.int .i64) y.2.2.2.1, .d (.int .i64) y.2.2.2.2.1, .d (.int .i64) y.2.2.2.2.2.1, .d (.int .i64) y.2.2.2.2.2.2.1, .d (.int .i64) y.2.2.2.2.2.2.2.1, .d (.int .i64) y.2.2.2.2.2.2.2.2.1, .d (.int .i64) y.2.2.2.2.2.2.2.2.2.1, .d (.sl (.pair (.int .i64) (.pair (.int .i64) (.pair (.int .i64) (.pair (.pair (.int .i64) (.int .i64)) (.pair .bool (.sl (.pair (.int .i64) (.sl (.int .u8)))))))))) y.2.2.2.2.2.2.2.2.2.2.1], .d (.int .i64) y.2.2.2.2.2.2.2.2.2.2.2] [])
 | _, _ => none⟩
theorem qg6 : SumDet qat := zi fun _ _ _ _ => by
 unfold qat
 simp only [veil_eq]
 split
 ·split <;> rfl
 ·rfl
theorem qhD : SumOk Tryz.prog 17 qat := by
 have hE : EnvOk Tryz.prog qfN := env_ok (l := [(26, qa0), (28, qbd), (27, ZT)]) th_ok qU ⟨⟨qiB, qhQ⟩, ⟨qjq, qiy⟩, ⟨qgC, qfZ⟩, trivial⟩ _
 refine sum_ok hE Tryz.func17 rfl (by kernel_rfl) qat [.dat (.pair tQi (.pair tQi (.pair tQi (.pair (.pair tQi tQi) (.pair tQi (.pair tQi (.pair tQi (.pair tQi (.pair tQi (.sl tQr)))))))))) true, .raw] Q7.k ?_
 intro R avs qj κ r h
 unfold qat at h
 simp only [veil_eq] at h
 split at h
 ·rename_i gen b
  split at h
  ·cases h
  ·rename_i y hy
   refine ⟨BIG, _, _, _, (Q7.eq BIG gen b).trans hy, ?_, h⟩
   intro rs ros hk
   unfold Q7.k at hk
   split at hk
   ·rw [← sj hk]; exact ⟨rfl, rfl⟩
   ·cases hk
 ·cases h
def qf7 : Env := ⟨th, gam [], fun i => ⟨[], [], []⟩⟩
def Qf.k (rs : List AV) (os : List Den.Obj) : Option Bool :=
 match rs, os with
 | [.d .bool r0], [] => some r0
 | _, _ => none
def Qf.b (qh : Int) : Option Bool :=
 (if (decide (qh ≥ (1 : Int))) then some ((decide (qh ≤ (3 : Int)))) else some (false))
def Qf.f (qa : Nat) (qh : Int) : Option Bool := Qf.b qh
theorem Qf.eq (qa : Nat) (qh : Int) : (denF qf7 loopN qa Tryz.f13 [.raw] [.d tQi qh] [] Qf.k) = Qf.f qa qh := by
 kernel_rfl
def Zh : Den.Sum := ⟨[.raw], fun qA qj κ => match qA, qj with
 | [.d (.int .i64) qh], [] => (match veil (Qf.f BIG qh) with | none => none | some y => κ [.d .bool y] [])
 | _, _ => none⟩
theorem qcq : SumDet Zh := zi fun _ _ _ _ => by
 unfold Zh
 simp only [veil_eq]
 split
 ·split <;> rfl
 ·rfl
theorem qcN : SumOk Tryz.prog 13 Zh := by
 have hE : EnvOk Tryz.prog qf7 := env_ok (l := []) th_ok qU trivial _
 refine sum_ok hE Tryz.func13 rfl (by kernel_rfl) Zh [.raw] Qf.k ?_
 intro R avs qj κ r h
 unfold Zh at h
 simp only [veil_eq] at h
 split at h
 ·rename_i qh
  split at h
  ·cases h
  ·rename_i y hy
   refine ⟨BIG, _, _, _, (Qf.eq BIG qh).trans hy, ?_, h⟩
   intro rs ros hk
   unfold Qf.k at hk
   split at hk
   ·rw [← sj hk]; exact ⟨rfl, rfl⟩
   ·cases hk
 ·cases h
def qhB : Env := ⟨th, gam [(29, qdc)], fun i => ⟨[], [], []⟩⟩
def Zg.k (rs : List AV) (os : List Den.Obj) : Option Bool :=
 match rs, os with
 | [.d .bool r0], [] => some r0
 | _, _ => none
def Zg.b (sLo sHi gen : Int) : Option Bool :=
 (if (okS sLo sHi) then (if (decide (sLo ≤ gen)) then some ((decide (gen ≤ sHi))) else some (false)) else some (false))
def Zg.f (qa : Nat) (sLo sHi gen : Int) : Option Bool := Zg.b sLo sHi gen
theorem Zg.eq (qa : Nat) (sLo sHi gen : Int) : (denF qhB loopN qa Tryz.f18 [.raw] [.agg [.d tQi sLo, .d tQi sHi], .d tQi gen] [] Zg.k) = Zg.f qa sLo sHi gen := by
 kernel_rfl
def qbc : Den.Sum := ⟨[.dat (.pair tQi tQi) true, .raw], fun qA qj κ => match qA, qj with
 | [.agg [.d (.int .i64) sLo, .d (.int .i64) sHi], .d (.int .i64) gen], [] => (match veil (Zg.f BIG sLo sHi gen) with | none => none | some y => κ [.d .bool y] [])
 | _, _ => none⟩
theorem qiw : SumDet qbc := zi fun _ _ _ _ => by
 unfold qbc
 simp only [veil_eq]
 split
 ·split <;> rfl
 ·rfl
theorem qjp : SumOk Tryz.prog 18 qbc := by
 have hE : EnvOk Tryz.prog qhB := env_ok (l := [(29, qdc)]) th_ok qU ⟨⟨qgw, qe8⟩, trivial⟩ _
 refine sum_ok hE Tryz.func18 rfl (by kernel_rfl) qbc [.raw] Zg.k ?_
 intro R avs qj κ r h
 unfold qbc at h
 simp only [veil_eq] at h
 split at h
 ·rename_i sLo sHi gen
  split at h
  ·cases h
  ·rename_i y hy
   refine ⟨BIG, _, _, _, (Zg.eq BIG sLo sHi gen).trans hy, ?_, h⟩
   intro rs ros hk
   unfold Zg.k at hk
   split at hk
   ·rw [← sj hk]; exact ⟨rfl, rfl⟩
   ·cases hk
 ·cases h
def qfv : Env := ⟨th, gam [], fun i => if i = 2 then ⟨[0, 7, 8, 9], [], []⟩ else ⟨[], [], []⟩⟩
def zl.k (rs : List AV) (os : List Den.Obj) : Option Int :=
 match rs, os with
 | [.d (.int .u32) r0], [] => some r0
 | _, _ => none
def zl.s2 (reg : Int) (b : List Int) (x0 x1 x2 : Int) : St := ⟨[.d (.int .u32) x0, dD, dD, dD, dD, dD, dD, .d (.sl (.int .u8)) (b), .d tQi x1, .d tQi x2, dD, dD, dD, dD, dD, dD, dD, dD, dD, dD, dD, dD, dD, dD, dD, dD, dD, dD, dD, dD, dD, dD, dD, dD, dD, dD, .dead], ofL [], 0⟩
def zl.p2 (qa : Nat) (reg : Int) (b : List Int) (k : Nat) := fun x0 x1 x2 => lp qfv qa Tryz.f50 [.raw] 0 zl.k 2 [] k (zl.s2 reg b x0 x1 x2)
def zl.b2 (reg : Int) (b : List Int) (A2 : Int → Int → Int → Option Int) (x0 x1 x2 : Int) : Option Int :=
 (if (decide (x2 < x1)) then (match (idx b x2) with | none => none | some y3 => (match (idx halves (bits BinOp.xor .u32 (Int.fdiv x0 ((2 : Int) ^ (Min.min (Int.toNat (28 : Int)) (IntKind.bits .u32)))) (IntKind.wrap .u32 (Int.fdiv y3 ((2 : Int) ^ (Min.min (Int.toNat (4 : Int)) (IntKind.bits .u8))))))) with | none => none | some y4 => (match (idx halves (bits BinOp.xor .u32 (Int.fdiv (bits BinOp.xor .u32 (IntKind.wrap .u32 (x0 * ((2 : Int) ^ (Min.min (Int.toNat (4 : Int)) (IntKind.bits .u32))))) y4) ((2 : Int) ^ (Min.min (Int.toNat (28 : Int)) (IntKind.bits .u32)))) (IntKind.wrap .u32 (bits BinOp.and .u8 y3 (15 : Int))))) with | none => none | some y5 => A2 (bits BinOp.xor .u32 (IntKind.wrap .u32 ((bits BinOp.xor .u32 (IntKind.wrap .u32 (x0 * ((2 : Int) ^ (Min.min (Int.toNat (4 : Int)) (IntKind.bits .u32))))) y4) * ((2 : Int) ^ (Min.min (Int.toNat (4 : Int)) (IntKind.bits .u32))))) y5) x1 (IntKind.wrap .i64 (x2 + (1 : Int)))))) else some (x0))
def zl.l2 (qa : Nat) (reg : Int) (b : List Int) : Nat → Int → Int → Int → Option Int
 | 0, _, _, _ => none
 | k + 1, x0, x1, x2 => zl.b2 reg b (zl.l2 qa reg b k) x0 x1 x2
def zl.b (reg : Int) (b : List Int) (E2 : Int → Int → Int → Option Int) : Option Int :=
 E2 reg ((((List.length b)) : Nat) : Int) (0 : Int)
def zl.f (qa : Nat) (reg : Int) (b : List Int) : Option Int := zl.b reg b (zl.l2 qa reg b qa)
theorem zl.l2_eq (qa : Nat) (reg : Int) (b : List Int) : ∀ k : Nat, zl.p2 qa reg b k = zl.l2 qa reg b k
 | 0 => by kernel_rfl
 | k + 1 => by
  refine Eq.trans (b := zl.b2 reg b (zl.p2 qa reg b k)) (by kernel_rfl) ?_
  rw [zl.l2_eq qa reg b k]
  kernel_rfl
theorem zl.eq (qa : Nat) (reg : Int) (b : List Int) : (denF qfv loopN qa Tryz.f50 [.raw] [.d (.int .u32) reg, .d (.sl (.int .u8)) b] [] zl.k) = zl.f qa reg b := by
 refine Eq.trans (b := zl.b reg b (zl.p2 qa reg b qa)) (by kernel_rfl) ?_
 rw [zl.l2_eq qa reg b qa]
 kernel_rfl
theorem zl.l2_at (qa nN kK : Nat) (hN : nN = kK + 1) (reg : Int) (b : List Int) (x0 : Int) (x1 : Int) (x2 : Int) : zl.l2 qa reg b nN x0 x1 x2 = zl.b2 reg b (zl.l2 qa reg b kK) x0 x1 x2 := by
 subst hN
 rfl
def qbg : Den.Sum := ⟨[.raw, .dat (.sl (.int .u8)) false], fun qA qj κ => match qA, qj with
 | [.d (.int .u32) reg, .d (.sl (.int .u8)) b], [] => (match veil (zl.f BIG reg b) with | none => none | some y => κ [.d (.int .u32) y] [])
 | _, _ => none⟩
theorem qiC : SumDet qbg := zi fun _ _ _ _ => by
 unfold qbg
 simp only [veil_eq]
 split
 ·split <;> rfl
 ·rfl
theorem qjs : SumOk Tryz.prog 50 qbg := by
 have hE : EnvOk Tryz.prog qfv := env_ok (l := []) th_ok qU trivial _
 refine sum_ok hE Tryz.func50 rfl (by kernel_rfl) qbg [.raw] zl.k ?_
 intro R avs qj κ r h
 unfold qbg at h
 simp only [veil_eq] at h
 split at h
 ·rename_i reg b
  split at h
  ·cases h
  ·rename_i y hy
   refine ⟨BIG, _, _, _, (zl.eq BIG reg b).trans hy, ?_, h⟩
   intro rs ros hk
   unfold zl.k at hk
   split at hk
   ·rw [← sj hk]; exact ⟨rfl, rfl⟩
   ·cases hk
 ·cases h
def qhp : Env := ⟨th, gam [(50, qbg)], fun i => if i = 3 then ⟨[3, 6, 7, 8], [], []⟩ else ⟨[], [], []⟩⟩
def zG.k (rs : List AV) (os : List Den.Obj) : Option Int :=
 match rs, os with
 | [.d (.int .u32) r0], [] => some r0
 | _, _ => none
def zG.s3 (QG : List (List Int)) (x0 : Int) (x1 : Int) (x2 : Int) : St := ⟨[dD, dD, dD, .d (.int .u32) x0, .dead, .dead, .d (.sl (.sl (.int .u8))) (QG), .d tQi x1, .d tQi x2, dD, dD, dD, dD, dD, dD, dD, dD, .dead], ofL [], 0⟩
def zG.p3 (qa : Nat) (QG : List (List Int)) (k : Nat) := fun x0 x1 x2 => lp qhp qa Tryz.f22 [.raw] 0 zG.k 3 [] k (zG.s3 QG x0 x1 x2)
def zG.b3 (QG : List (List Int)) (A3 : Int → Int → Int → Option Int) (x0 : Int) (x1 : Int) (x2 : Int) : Option Int :=
 (if (decide (x2 < x1)) then (match (idx QG x2) with | none => none | some y3 => (match (veil (zl.f BIG x0 y3)) with | none => none | some y4 => A3 y4 x1 (IntKind.wrap .i64 (x2 + (1 : Int))))) else some ((bits BinOp.xor .u32 (if (IntKind.signed .u32) then (-(1 : Int)) else (IntKind.max .u32)) x0)))
def zG.l3 (qa : Nat) (QG : List (List Int)) : Nat → Int → Int → Int → Option Int
 | 0, _, _, _ => none
 | k + 1, x0, x1, x2 => zG.b3 QG (zG.l3 qa QG k) x0 x1 x2
def zG.b (QG : List (List Int)) (E3 : Int → Int → Int → Option Int) : Option Int :=
 E3 (veil (4294967295 : Int)) ((((List.length QG)) : Nat) : Int) (0 : Int)
def zG.f (qa : Nat) (QG : List (List Int)) : Option Int := zG.b QG (zG.l3 qa QG qa)
theorem zG.l3_eq (qa : Nat) (QG : List (List Int)) : ∀ k : Nat, zG.p3 qa QG k = zG.l3 qa QG k
 | 0 => by kernel_rfl
 | k + 1 => by
  refine Eq.trans (b := zG.b3 QG (zG.p3 qa QG k)) (by kernel_rfl) ?_
  rw [zG.l3_eq qa QG k]
  kernel_rfl
theorem zG.eq (qa : Nat) (QG : List (List Int)) : (denF qhp loopN qa Tryz.f22 [.raw] [.d (.sl (.sl (.int .u8))) QG] [] zG.k) = zG.f qa QG := by
 refine Eq.trans (b := zG.b QG (zG.p3 qa QG qa)) (by kernel_rfl) ?_
 rw [zG.l3_eq qa QG qa]
 kernel_rfl
theorem zG.l3_at (qa nN kK : Nat) (hN : nN = kK + 1) (QG : List (List Int)) (x0 : Int) (x1 : Int) (x2 : Int) : zG.l3 qa QG nN x0 x1 x2 = zG.b3 QG (zG.l3 qa QG kK) x0 x1 x2 := by
 subst hN
 rfl
def qbh : Den.Sum := ⟨[.dat (.sl (.sl (.int .u8))) false], fun qA qj κ => match qA, qj with
 | [.d (.sl (.sl (.int .u8))) QG], [] => (match veil (zG.f BIG QG) with | none => none | some y => κ [.d (.int .u32) y] [])
 | _, _ => none⟩
theorem qf5 : SumDet qbh := zi fun _ _ _ _ => by
 unfold qbh
 simp only [veil_eq]
 split
 ·split <;> rfl
 ·rfl
theorem qgR : SumOk Tryz.prog 22 qbh := by
 have hE : EnvOk Tryz.prog qhp := env_ok (l := [(50, qbg)]) th_ok qU ⟨⟨qjs, qiC⟩, trivial⟩ _
 refine sum_ok hE Tryz.func22 rfl (by kernel_rfl) qbh [.raw] zG.k ?_
 intro R avs qj κ r h
 unfold qbh at h
 simp only [veil_eq] at h
 split at h
 ·rename_i QG
  split at h
  ·cases h
  ·rename_i y hy
   refine ⟨BIG, _, _, _, (zG.eq BIG QG).trans hy, ?_, h⟩
   intro rs ros hk
   unfold zG.k at hk
   split at hk
   ·rw [← sj hk]; exact ⟨rfl, rfl⟩
   ·cases hk
 ·cases h
def qgd : Env := ⟨th, gam [(22, qbh)], fun i => if i = 888888 then ⟨[1], [], []⟩ else ⟨[], [], []⟩⟩
def QB.k (rs : List AV) (os : List Den.Obj) : Option ((List Int) × Int) :=
 match rs, os with
 | [.d (.sl (.int .u8)) r0, .d (.int .i64) r1], [] => some (r0, r1)
 | _, _ => none
def QB.b (gen : Int) (qT : List Int) : Option ((List Int) × Int) :=
 (if (decide (gen < (1 : Int))) then some (([] : List Int), (5 : Int)) else (if (decide (gen > (3 : Int))) then some (([] : List Int), (5 : Int)) else (if (decide (((((List.length qT)) : Nat) : Int) > (65499 : Int))) then some (([] : List Int), (3 : Int)) else (if (((0 : Int) ≤ (IntKind.wrap .i64 ((4 : Int) + ((((List.length qT)) : Nat) : Int)))) ∧ (((IntKind.wrap .i64 ((4 : Int) + ((((List.length qT)) : Nat) : Int))) ≤ (IntKind.wrap .i64 ((8 : Int) + ((((List.length qT)) : Nat) : Int)))) ∧ ((((IntKind.wrap .i64 ((8 : Int) + ((((List.length qT)) : Nat) : Int))) * ((((1 : Nat)) : Nat) : Int)) ≤ (1099511627776 : Int)) ∧ ((IntKind.wrap .i64 ((8 : Int) + ((((List.length qT)) : Nat) : Int))) ≤ (1099511627776 : Int))))) then (match (idx (List.replicate (Int.toNat (IntKind.wrap .i64 ((4 : Int) + ((((List.length qT)) : Nat) : Int)))) (zeroI (Go.Den.Ty.int .u8))) (0 : Int)) with | none => none | some y0 => (match (idx (List.replicate (Int.toNat (IntKind.wrap .i64 ((4 : Int) + ((((List.length qT)) : Nat) : Int)))) (zeroI (Go.Den.Ty.int .u8))) (0 : Int)) with | none => none | some y1 => (match (idx (List.set (List.replicate (Int.toNat (IntKind.wrap .i64 ((4 : Int) + ((((List.length qT)) : Nat) : Int)))) (zeroI (Go.Den.Ty.int .u8))) (Int.toNat (0 : Int)) (156 : Int)) (1 : Int)) with | none => none | some y2 => (match (idx (List.set (List.replicate (Int.toNat (IntKind.wrap .i64 ((4 : Int) + ((((List.length qT)) : Nat) : Int)))) (zeroI (Go.Den.Ty.int .u8))) (Int.toNat (0 : Int)) (156 : Int)) (1 : Int)) with | none => none | some y3 => (match (idx (List.set (List.set (List.replicate (Int.toNat (IntKind.wrap .i64 ((4 : Int) + ((((List.length qT)) : Nat) : Int)))) (zeroI (Go.Den.Ty.int .u8))) (Int.toNat (0 : Int)) (156 : Int)) (Int.toNat (1 : Int)) (IntKind.wrap .u8 gen)) (2 : Int)) with | none => none | some y4 => (match (idx (List.set (List.set (List.replicate (Int.toNat (IntKind.wrap .i64 ((4 : Int) + ((((List.length qT)) : Nat) : Int)))) (zeroI (Go.Den.Ty.int .u8))) (Int.toNat (0 : Int)) (156 : Int)) (Int.toNat (1 : Int)) (IntKind.wrap .u8 gen)) (2 : Int)) with | none => none | some y5 => (match (idx (List.set (List.set (List.set (List.replicate (Int.toNat (IntKind.wrap .i64 ((4 : Int) + ((((List.length qT)) : Nat) : Int)))) (zeroI (Go.Den.Ty.int .u8))) (Int.toNat (0 : Int)) (156 : Int)) (Int.toNat (1 : Int)) (IntKind.wrap .u8 gen)) (Int.toNat (2 : Int)) (IntKind.wrap .u8 (Int.fdiv ((((List.length qT)) : Nat) : Int) ((2 : Int) ^ (Min.min (Int.toNat (8 : Int)) (IntKind.bits .i64)))))) (3 : Int)) with | none => none | some y6 => (match (idx (List.set (List.set (List.set (List.replicate (Int.toNat (IntKind.wrap .i64 ((4 : Int) + ((((List.length qT)) : Nat) : Int)))) (zeroI (Go.Den.Ty.int .u8))) (Int.toNat (0 : Int)) (156 : Int)) (Int.toNat (1 : Int)) (IntKind.wrap .u8 gen)) (Int.toNat (2 : Int)) (IntKind.wrap .u8 (Int.fdiv ((((List.length qT)) : Nat) : Int) ((2 : Int) ^ (Min.min (Int.toNat (8 : Int)) (IntKind.bits .i64)))))) (3 : Int)) with | none => none | some y7 => (if (((0 : Int) ≤ (4 : Int)) ∧ ((4 : Int) ≤ ((((List.length (List.set (List.set (List.set (List.set (List.replicate (Int.toNat (IntKind.wrap .i64 ((4 : Int) + ((((List.length qT)) : Nat) : Int)))) (zeroI (Go.Den.Ty.int .u8))) (Int.toNat (0 : Int)) (156 : Int)) (Int.toNat (1 : Int)) (IntKind.wrap .u8 gen)) (Int.toNat (2 : Int)) (IntKind.wrap .u8 (Int.fdiv ((((List.length qT)) : Nat) : Int) ((2 : Int) ^ (Min.min (Int.toNat (8 : Int)) (IntKind.bits .i64)))))) (Int.toNat (3 : Int)) (IntKind.wrap .u8 ((((List.length qT)) : Nat) : Int))))) : Nat) : Int))) then (if ((((Int.toNat (4 : Int)) + (List.length qT)) ≤ (List.length (List.set (List.set (List.set (List.set (List.replicate (Int.toNat (IntKind.wrap .i64 ((4 : Int) + ((((List.length qT)) : Nat) : Int)))) (zeroI (Go.Den.Ty.int .u8))) (Int.toNat (0 : Int)) (156 : Int)) (Int.toNat (1 : Int)) (IntKind.wrap .u8 gen)) (Int.toNat (2 : Int)) (IntKind.wrap .u8 (Int.fdiv ((((List.length qT)) : Nat) : Int) ((2 : Int) ^ (Min.min (Int.toNat (8 : Int)) (IntKind.bits .i64)))))) (Int.toNat (3 : Int)) (IntKind.wrap .u8 ((((List.length qT)) : Nat) : Int))))) ∧ ((List.length (List.set (List.set (List.set (List.set (List.replicate (Int.toNat (IntKind.wrap .i64 ((4 : Int) + ((((List.length qT)) : Nat) : Int)))) (zeroI (Go.Den.Ty.int .u8))) (Int.toNat (0 : Int)) (156 : Int)) (Int.toNat (1 : Int)) (IntKind.wrap .u8 gen)) (Int.toNat (2 : Int)) (IntKind.wrap .u8 (Int.fdiv ((((List.length qT)) : Nat) : Int) ((2 : Int) ^ (Min.min (Int.toNat (8 : Int)) (IntKind.bits .i64)))))) (Int.toNat (3 : Int)) (IntKind.wrap .u8 ((((List.length qT)) : Nat) : Int)))) ≤ (List.length (List.set (List.set (List.set (List.set (List.replicate (Int.toNat (IntKind.wrap .i64 ((4 : Int) + ((((List.length qT)) : Nat) : Int)))) (zeroI (Go.Den.Ty.int .u8))) (Int.toNat (0 : Int)) (156 : Int)) (Int.toNat (1 : Int)) (IntKind.wrap .u8 gen)) (Int.toNat (2 : Int)) (IntKind.wrap .u8 (Int.fdiv ((((List.length qT)) : Nat) : Int) ((2 : Int) ^ (Min.min (Int.toNat (8 : Int)) (IntKind.bits .i64)))))) (Int.toNat (3 : Int)) (IntKind.wrap .u8 ((((List.length qT)) : Nat) : Int)))))) then (match (veil (zG.f BIG ((((List.take (Int.toNat (4 : Int)) (List.set (List.set (List.set (List.set (List.replicate (Int.toNat (IntKind.wrap .i64 ((4 : Int) + ((((List.length qT)) : Nat) : Int)))) (zeroI (Go.Den.Ty.int .u8))) (Int.toNat (0 : Int)) (156 : Int)) (Int.toNat (1 : Int)) (IntKind.wrap .u8 gen)) (Int.toNat (2 : Int)) (IntKind.wrap .u8 (Int.fdiv ((((List.length qT)) : Nat) : Int) ((2 : Int) ^ (Min.min (Int.toNat (8 : Int)) (IntKind.bits .i64)))))) (Int.toNat (3 : Int)) (IntKind.wrap .u8 ((((List.length qT)) : Nat) : Int)))) ++ qT) ++ (List.drop ((Int.toNat (4 : Int)) + (List.length qT)) (List.set (List.set (List.set (List.set (List.replicate (Int.toNat (IntKind.wrap .i64 ((4 : Int) + ((((List.length qT)) : Nat) : Int)))) (zeroI (Go.Den.Ty.int .u8))) (Int.toNat (0 : Int)) (156 : Int)) (Int.toNat (1 : Int)) (IntKind.wrap .u8 gen)) (Int.toNat (2 : Int)) (IntKind.wrap .u8 (Int.fdiv ((((List.length qT)) : Nat) : Int) ((2 : Int) ^ (Min.min (Int.toNat (8 : Int)) (IntKind.bits .i64)))))) (Int.toNat (3 : Int)) (IntKind.wrap .u8 ((((List.length qT)) : Nat) : Int))))) :: ([] : List (List Int))))) with | none => none | some y8 => (if ((((List.length (((List.take (Int.toNat (4 : Int)) (List.set (List.set (List.set (List.set (List.replicate (Int.toNat (IntKind.wrap .i64 ((4 : Int) + ((((List.length qT)) : Nat) : Int)))) (zeroI (Go.Den.Ty.int .u8))) (Int.toNat (0 : Int)) (156 : Int)) (Int.toNat (1 : Int)) (IntKind.wrap .u8 gen)) (Int.toNat (2 : Int)) (IntKind.wrap .u8 (Int.fdiv ((((List.length qT)) : Nat) : Int) ((2 : Int) ^ (Min.min (Int.toNat (8 : Int)) (IntKind.bits .i64)))))) (Int.toNat (3 : Int)) (IntKind.wrap .u8 ((((List.length qT)) : Nat) : Int)))) ++ qT) ++ (List.drop ((Int.toNat (4 : Int)) + (List.length qT)) (List.set (List.set (List.set (List.set (List.replicate (Int.toNat (IntKind.wrap .i64 ((4 : Int) + ((((List.length qT)) : Nat) : Int)))) (zeroI (Go.Den.Ty.int .u8))) (Int.toNat (0 : Int)) (156 : Int)) (Int.toNat (1 : Int)) (IntKind.wrap .u8 gen)) (Int.toNat (2 : Int)) (IntKind.wrap .u8 (Int.fdiv ((((List.length qT)) : Nat) : Int) ((2 : Int) ^ (Min.min (Int.toNat (8 : Int)) (IntKind.bits .i64)))))) (Int.toNat (3 : Int)) (IntKind.wrap .u8 ((((List.length qT)) : Nat) : Int)))))) + (List.length ((IntKind.wrap .u8 (Int.fdiv y8 ((2 : Int) ^ (Min.min (Int.toNat (24 : Int)) (IntKind.bits .u32))))) :: ((IntKind.wrap .u8 (Int.fdiv y8 ((2 : Int) ^ (Min.min (Int.toNat (16 : Int)) (IntKind.bits .u32))))) :: ((IntKind.wrap .u8 (Int.fdiv y8 ((2 : Int) ^ (Min.min (Int.toNat (8 : Int)) (IntKind.bits .u32))))) :: ((IntKind.wrap .u8 y8) :: ([] : List Int))))))) * (1 : Nat)) ≤ lim) then some (((((List.take (Int.toNat (4 : Int)) (List.set (List.set (List.set (List.set (List.replicate (Int.toNat (IntKind.wrap .i64 ((4 : Int) + ((((List.length qT)) : Nat) : Int)))) (zeroI (Go.Den.Ty.int .u8))) (Int.toNat (0 : Int)) (156 : Int)) (Int.toNat (1 : Int)) (IntKind.wrap .u8 gen)) (Int.toNat (2 : Int)) (IntKind.wrap .u8 (Int.fdiv ((((List.length qT)) : Nat) : Int) ((2 : Int) ^ (Min.min (Int.toNat (8 : Int)) (IntKind.bits .i64)))))) (Int.toNat (3 : Int)) (IntKind.wrap .u8 ((((List.length qT)) : Nat) : Int)))) ++ qT) ++ (List.drop ((Int.toNat (4 : Int)) + (List.length qT)) (List.set (List.set (List.set (List.set (List.replicate (Int.toNat (IntKind.wrap .i64 ((4 : Int) + ((((List.length qT)) : Nat) : Int)))) (zeroI (Go.Den.Ty.int .u8))) (Int.toNat (0 : Int)) (156 : Int)) (Int.toNat (1 : Int)) (IntKind.wrap .u8 gen)) (Int.toNat (2 : Int)) (IntKind.wrap .u8 (Int.fdiv ((((List.length qT)) : Nat) : Int) ((2 : Int) ^ (Min.min (Int.toNat (8 : Int)) (IntKind.bits .i64)))))) (Int.toNat (3 : Int)) (IntKind.wrap .u8 ((((List.length qT)) : Nat) : Int))))) ++ ((IntKind.wrap .u8 (Int.fdiv y8 ((2 : Int) ^ (Min.min (Int.toNat (24 : Int)) (IntKind.bits .u32))))) :: ((IntKind.wrap .u8 (Int.fdiv y8 ((2 : Int) ^ (Min.min (Int.toNat (16 : Int)) (IntKind.bits .u32))))) :: ((IntKind.wrap .u8 (Int.fdiv y8 ((2 : Int) ^ (Min.min (Int.toNat (8 : Int)) (IntKind.bits .u32))))) :: ((IntKind.wrap .u8 y8) :: ([] : List Int)))))), (0 : Int)) else none)) else none) else none))))))))) else none))))
def QB.f (qa : Nat) (gen : Int) (qT : List Int) : Option ((List Int) × Int) := QB.b gen qT
theorem QB.eq (qa : Nat) (gen : Int) (qT : List Int) : (denF qgd loopN qa Tryz.f15 [.dat (.sl (.int .u8)) false, .raw] [.d tQi gen, .d (.sl (.int .u8)) qT] [] QB.k) = QB.f qa gen qT := by
 kernel_rfl
def qaz : Den.Sum := ⟨[.raw, .dat (.sl (.int .u8)) false], fun qA qj κ => match qA, qj with
 | [.d (.int .i64) gen, .d (.sl (.int .u8)) qT], [] => (match veil (QB.f BIG gen qT) with | none => none | some y => κ [.d (.sl (.int .u8)) y.1, .d (.int .i64) y.2] [])
 | _, _ => none⟩
theorem qhf : SumDet qaz := zi fun _ _ _ _ => by
 unfold qaz
 simp only [veil_eq]
 split
 ·split <;> rfl
 ·rfl
theorem qhR : SumOk Tryz.prog 15 qaz := by
 have hE : EnvOk Tryz.prog qgd := env_ok (l := [(22, qbh)]) th_ok qU ⟨⟨qgR, qf5⟩, trivial⟩ _
 refine sum_ok hE Tryz.func15 rfl (by kernel_rfl) qaz [.dat (.sl (.int .u8)) false, .raw] QB.k ?_
 intro R avs qj κ r h
 unfold qaz at h
 simp only [veil_eq] at h
 split at h
 ·rename_i gen qT
  split at h
  ·cases h
  ·rename_i y hy
   refine ⟨BIG, _, _, _, (QB.eq BIG gen qT).trans hy, ?_, h⟩
   intro rs ros hk
   unfold QB.k at hk
   split at hk
   ·rw [← sj hk]; exact ⟨rfl, rfl⟩
   ·cases hk
 ·cases h
def qge : Env := ⟨th, gam [(22, qbh), (23, Z1), (24, QO), (25, qbs)], fun i => ⟨[], [], []⟩⟩
def Qg.k (rs : List AV) (os : List Den.Obj) : Option (Int × (List Int) × Int) :=
 match rs, os with
 | [.d (.int .i64) r0, .d (.sl (.int .u8)) r1, .d (.int .i64) r2], [] => some (r0, r1, r2)
 | _, _ => none
def Qg.b (b : List Int) : Option (Int × (List Int) × Int) :=
 (if (decide (((((List.length b)) : Nat) : Int) > (65507 : Int))) then some ((0 : Int), ([] : List Int), (3 : Int)) else (if (decide (((((List.length b)) : Nat) : Int) < (8 : Int))) then some ((0 : Int), ([] : List Int), (2 : Int)) else (if (inB b) then (if (zk b 0) then (match (veil (Option.some (ql b (1 : Int) 0 false))) with | none => none | some y0 => (if (zk b y0.2.1) then (match (veil (Option.some (ql b (1 : Int) y0.2.1 y0.2.2))) with | none => none | some y1 => (if (zk b y1.2.1) then (match (veil (Option.some (ql b (2 : Int) y1.2.1 y1.2.2))) with | none => none | some y2 => (if (y0.1 != (156 : Int)) then some ((0 : Int), ([] : List Int), (4 : Int)) else (if (decide (y1.1 < (1 : Int))) then some ((0 : Int), ([] : List Int), (4 : Int)) else (if (decide (y1.1 > (3 : Int))) then some ((0 : Int), ([] : List Int), (4 : Int)) else (if (y2.1 != (IntKind.wrap .i64 (((((List.length b)) : Nat) : Int) - (8 : Int)))) then some ((0 : Int), ([] : List Int), (4 : Int)) else (if (zk b y2.2.1) then (match (veil (Option.some (qY b y2.1 y2.2.1 y2.2.2))) with | none => none | some y3 => (if (zk b y3.2.2.1) then (match (veil (Option.some (ql b (4 : Int) y3.2.2.1 y3.2.2.2))) with | none => none | some y4 => (if (((0 : Int) ≤ (IntKind.wrap .i64 (((((List.length b)) : Nat) : Int) - (4 : Int)))) ∧ ((IntKind.wrap .i64 (((((List.length b)) : Nat) : Int) - (4 : Int))) ≤ ((((List.length b)) : Nat) : Int))) then (match (veil (zG.f BIG ((List.drop (0 : Nat) (List.take (Int.toNat (IntKind.wrap .i64 (((((List.length b)) : Nat) : Int) - (4 : Int)))) b)) :: ([] : List (List Int))))) with | none => none | some y5 => (if ((IntKind.wrap .u32 y4.1) != y5) then some ((0 : Int), ([] : List Int), (8 : Int)) else some (y1.1, y3.1, (0 : Int)))) else none)) else none)) else none)))))) else none)) else none)) else none) else none)))
def Qg.f (qa : Nat) (b : List Int) : Option (Int × (List Int) × Int) := Qg.b b
theorem Qg.eq (qa : Nat) (b : List Int) : (denF qge loopN qa Tryz.f16 [.raw, .dat (.sl (.int .u8)) false, .raw] [.d (.sl (.int .u8)) b] [] Qg.k) = Qg.f qa b := by
 kernel_rfl
def qaA : Den.Sum := ⟨[.dat (.sl (.int .u8)) false], fun qA qj κ => match qA, qj with
 | [.d (.sl (.int .u8)) b], [] => (match veil (Qg.f BIG b) with | none => none | some y => κ [.d (.int .i64) y.1, .d (.sl (.int .u8)) y.2.1, .d (.int .i64) y.2.2] [])
 | _, _ => none⟩
theorem qhg : SumDet qaA := zi fun _ _ _ _ => by
 unfold qaA
 simp only [veil_eq]
 split
 ·split <;> rfl
 ·rfl
theorem qhS : SumOk Tryz.prog 16 qaA := by
 have hE : EnvOk Tryz.prog qge := env_ok (l := [(22, qbh), (23, Z1), (24, QO), (25, qbs)]) th_ok qU ⟨⟨qgR, qf5⟩, ⟨qcx, qbW⟩, ⟨qai, ZX⟩, ⟨qe7, qer⟩, trivial⟩ _
 refine sum_ok hE Tryz.func16 rfl (by kernel_rfl) qaA [.raw, .dat (.sl (.int .u8)) false, .raw] Qg.k ?_
 intro R avs qj κ r h
 unfold qaA at h
 simp only [veil_eq] at h
 split at h
 ·rename_i b
  split at h
  ·cases h
  ·rename_i y hy
   refine ⟨BIG, _, _, _, (Qg.eq BIG b).trans hy, ?_, h⟩
   intro rs ros hk
   unfold Qg.k at hk
   split at hk
   ·rw [← sj hk]; exact ⟨rfl, rfl⟩
   ·cases hk
 ·cases h
def qfI : Env := ⟨th, gam [(13, Zh), (14, ZS), (15, qaz)], fun i => ⟨[], [], []⟩⟩
def Qh.k (rs : List AV) (os : List Den.Obj) : Option ((List Int) × Int) :=
 match rs, os with
 | [.d (.sl (.int .u8)) r0, .d (.int .i64) r1], [] => some (r0, r1)
 | _, _ => none
def Qh.b (gen qC q9 zh qH qI zg qM qZ qS qV : Int) (qx qc : LR) : Option ((List Int) × Int) :=
 (match (veil (Qf.f BIG qC)) with | none => none | some y0 => (if y0 then (if (gen != (1 : Int)) then some (([] : List Int), (10 : Int)) else (match (veil (zE.f BIG gen qC q9 zh qH qI zg qM qZ qS qV qx qc)) with | none => none | some y1 => (if (y1.2 != (0 : Int)) then some (([] : List Int), y1.2) else (match (veil (QB.f BIG gen y1.1)) with | none => none | some y2 => some (y2.1, y2.2))))) else (match (veil (zE.f BIG gen qC q9 zh qH qI zg qM qZ qS qV qx qc)) with | none => none | some y3 => (if (y3.2 != (0 : Int)) then some (([] : List Int), y3.2) else (match (veil (QB.f BIG gen y3.1)) with | none => none | some y4 => some (y4.1, y4.2))))))
def Qh.f (qa : Nat) (gen qC q9 zh qH qI zg qM qZ qS qV : Int) (qx qc : LR) : Option ((List Int) × Int) := Qh.b gen qC q9 zh qH qI zg qM qZ qS qV qx qc
theorem Qh.eq (qa : Nat) (gen qC q9 zh qH qI zg qM qZ qS qV : Int) (qx qc : LR) : (denF qfI loopN qa Tryz.f9 [.dat (.sl (.int .u8)) false, .raw] [.d tQi gen, .agg [.d tQi qC, .d tQi q9, .d tQi zh, .d tQi qH, .d tQi qI, .d tQi zg, .d tQi qM, .d tQi qZ, .d tQi qS, .d tQi qV, .d (.sl tQr) qx], .d (.sl tQr) qc] [] Qh.k) = Qh.f qa gen qC q9 zh qH qI zg qM qZ qS qV qx qc := by
 kernel_rfl
def qad : Den.Sum := ⟨[.raw, .dat (.pair tQi (.pair tQi (.pair tQi (.pair (.pair tQi tQi) (.pair tQi (.pair tQi (.pair tQi (.pair tQi (.pair tQi (.sl tQr)))))))))) true, .dat (.sl tQr) false], fun qA qj κ => match qA, qj with
 | [.d (.int .i64) gen, .agg [.d (.int .i64) qC, .d (.int .i64) q9, .d (.int .i64) zh, .d (.int .i64) qH, .d (.int .i64) qI, .d (.int .i64) zg, .d (.int .i64) qM, .d (.int .i64) qZ, .d (.int .i64) qS, .d (.int .i64) qV, .d (.sl (.pair (.int .i64) (.pair (.int .i64) (.pair (.int .i64) (.pair (.pair (.int .i64) (.int .i64)) (.pair .bool (.sl (.pair (.int .i64) (.sl (.int .u8)))))))))) qx], .d (.sl (.pair (.int .i64) (.pair (.int .i64) (.pair (.int .i64) (.pair (.pair (.int .i64) (.int .i64)) (.pair .bool (.sl (.pair (.int .i64) (.sl (.int .u8)))))))))) qc], [] => (match veil (Qh.f BIG gen qC q9 zh qH qI zg qM qZ qS qV qx qc) with | none => none | some y => κ [.d (.sl (.int .u8)) y.1, .d (.int .i64) y.2] [])
 | _, _ => none⟩
theorem qgE : SumDet qad := zi fun _ _ _ _ => by
 unfold qad
 simp only [veil_eq]
 split
 ·split <;> rfl
 ·rfl
theorem qhc : SumOk Tryz.prog 9 qad := by
 have hE : EnvOk Tryz.prog qfI := env_ok (l := [(13, Zh), (14, ZS), (15, qaz)]) th_ok qU ⟨⟨qcN, qcq⟩, ⟨qgB, qfY⟩, ⟨qhR, qhf⟩, trivial⟩ _
 refine sum_ok hE Tryz.func9 rfl (by kernel_rfl) qad [.dat (.sl (.int .u8)) false, .raw] Qh.k ?_
 intro R avs qj κ r h
 unfold qad at h
 simp only [veil_eq] at h
 split at h
 ·rename_i gen qC q9 zh qH qI zg qM qZ qS qV qx qc
  split at h
  ·cases h
  ·rename_i y hy
   refine ⟨BIG, _, _, _, (Qh.eq BIG gen qC q9 zh qH qI zg qM qZ qS qV qx qc).trans hy, ?_, h⟩
   intro rs ros hk
   unfold Qh.k at hk
   split at hk
   ·rw [← sj hk]; exact ⟨rfl, rfl⟩
   ·cases hk
 ·cases h
def qfJ : Env := ⟨th, gam [(13, Zh), (16, qaA), (17, qat), (18, qbc)], fun i => ⟨[], [], []⟩⟩
def Qi.k (rs : List AV) (os : List Den.Obj) : Option (Int × Int × Int × Int × Int × Int × Int × Int × Int × Int × LR × Int × (List Int) × Int) :=
 match rs, os with
 | [.agg [.d (.int .i64) r0, .d (.int .i64) r1, .d (.int .i64) r2, .d (.int .i64) r3, .d (.int .i64) r4, .d (.int .i64) r5, .d (.int .i64) r6, .d (.int .i64) r7, .d (.int .i64) r8, .d (.int .i64) r9, .d (.sl (.pair (.int .i64) (.pair (.int .i64) (.pair (.int .i64) (.pair (.pair (.int .i64) (.int .i64)) (.pair .bool (.sl (.pair (.int .i64) (.sl (.int .u8)))))))))) r10, .d (.int .i64) r11, .d (.sl (.int .u8)) r12], .d (.int .i64) r13], [] => some (r0, r1, r2, r3, r4, r5, r6, r7, r8, r9, r10, r11, r12, r13)
 | _, _ => none
def Qi.b (b : List Int) (qcQ qcR : Int) : Option (Int × Int × Int × Int × Int × Int × Int × Int × Int × Int × LR × Int × (List Int) × Int) :=
 (match (veil (Qg.f BIG b)) with | none => none | some y0 => (if (y0.2.2 != (0 : Int)) then some (0, 0, 0, 0, 0, 0, 0, 0, 0, 0, ([] : LR), 0, ([] : List Int), y0.2.2) else (match (veil (Q7.f BIG y0.1 y0.2.1)) with | none => none | some y1 => (if (y1.2.2.2.2.2.2.2.2.2.2.2 == (0 : Int)) then (match (veil (Qf.f BIG y1.1)) with | none => none | some y2 => (match (veil (Zg.f BIG qcQ qcR y0.1)) with | none => none | some y3 => (if (!y3) then (if (y0.1 != (1 : Int)) then some (0, 0, 0, 0, 0, 0, 0, 0, 0, 0, ([] : LR), y0.1, ([] : List Int), (9 : Int)) else (if (!y2) then some (0, 0, 0, 0, 0, 0, 0, 0, 0, 0, ([] : LR), y0.1, ([] : List Int), (9 : Int)) else (if (y1.2.2.2.2.2.2.2.2.2.2.2 != (0 : Int)) then some (0, 0, 0, 0, 0, 0, 0, 0, 0, 0, ([] : LR), 0, ([] : List Int), y1.2.2.2.2.2.2.2.2.2.2.2) else (if y2 then (if (y0.1 != (1 : Int)) then some (0, 0, 0, 0, 0, 0, 0, 0, 0, 0, ([] : LR), 0, ([] : List Int), (10 : Int)) else some (y1.1, y1.2.1, y1.2.2.1, y1.2.2.2.1, y1.2.2.2.2.1, y1.2.2.2.2.2.1, y1.2.2.2.2.2.2.1, y1.2.2.2.2.2.2.2.1, y1.2.2.2.2.2.2.2.2.1, y1.2.2.2.2.2.2.2.2.2.1, y1.2.2.2.2.2.2.2.2.2.2.1, y0.1, y0.2.1, (0 : Int))) else some (y1.1, y1.2.1, y1.2.2.1, y1.2.2.2.1, y1.2.2.2.2.1, y1.2.2.2.2.2.1, y1.2.2.2.2.2.2.1, y1.2.2.2.2.2.2.2.1, y1.2.2.2.2.2.2.2.2.1, y1.2.2.2.2.2.2.2.2.2.1, y1.2.2.2.2.2.2.2.2.2.2.1, y0.1, y0.2.1, (0 : Int)))))) else (if (y1.2.2.2.2.2.2.2.2.2.2.2 != (0 : Int)) then some (0, 0, 0, 0, 0, 0, 0, 0, 0, 0, ([] : LR), 0, ([] : List Int), y1.2.2.2.2.2.2.2.2.2.2.2) else (if y2 then (if (y0.1 != (1 : Int)) then some (0, 0, 0, 0, 0, 0, 0, 0, 0, 0, ([] : LR), 0, ([] : List Int), (10 : Int)) else some (y1.1, y1.2.1, y1.2.2.1, y1.2.2.2.1, y1.2.2.2.2.1, y1.2.2.2.2.2.1, y1.2.2.2.2.2.2.1, y1.2.2.2.2.2.2.2.1, y1.2.2.2.2.2.2.2.2.1, y1.2.2.2.2.2.2.2.2.2.1, y1.2.2.2.2.2.2.2.2.2.2.1, y0.1, y0.2.1, (0 : Int))) else some (y1.1, y1.2.1, y1.2.2.1, y1.2.2.2.1, y1.2.2.2.2.1, y1.2.2.2.2.2.1, y1.2.2.2.2.2.2.1, y1.2.2.2.2.2.2.2.1, y1.2.2.2.2.2.2.2.2.1, y1.2.2.2.2.2.2.2.2.2.1, y1.2.2.2.2.2.2.2.2.2.2.1, y0.1, y0.2.1, (0 : Int))))))) else (match (veil (Zg.f BIG qcQ qcR y0.1)) with | none => none | some y4 => (if (!y4) then (if (y0.1 != (1 : Int)) then some (0, 0, 0, 0, 0, 0, 0, 0, 0, 0, ([] : LR), y0.1, ([] : List Int), (9 : Int)) else some (0, 0, 0, 0, 0, 0, 0, 0, 0, 0, ([] : LR), y0.1, ([] : List Int), (9 : Int))) else (if (y1.2.2.2.2.2.2.2.2.2.2.2 != (0 : Int)) then some (0, 0, 0, 0, 0, 0, 0, 0, 0, 0, ([] : LR), 0, ([] : List Int), y1.2.2.2.2.2.2.2.2.2.2.2) else some (y1.1, y1.2.1, y1.2.2.1, y1.2.2.2.1, y1.2.2.2.2.1, y1.2.2.2.2.2.1, y1.2.2.2.2.2.2.1, y1.2.2.2.2.2.2.2.1, y1.2.2.2.2.2.2.2.2.1, y1.2.2.2.2.2.2.2.2.2.1, y1.2.2.2.2.2.2.2.2.2.2.1, y0.1, y0.2.1, (0 : Int)))))))))
def Qi.f (qa : Nat) (b : List Int) (qcQ qcR : Int) : Option (Int × Int × Int × Int × Int × Int × Int × Int × Int × Int × LR × Int × (List Int) × Int) := Qi.b b qcQ qcR
theorem Qi.eq (qa : Nat) (b : List Int) (qcQ qcR : Int) : (denF qfJ loopN qa Tryz.f10 [.dat (.pair (.pair tQi (.pair tQi (.pair tQi (.pair (.pair tQi tQi) (.pair tQi (.pair tQi (.pair tQi (.pair tQi (.pair tQi (.sl tQr)))))))))) (.pair tQi (.sl (.int .u8)))) true, .raw] [.d (.sl (.int .u8)) b, .agg [.d tQi qcQ, .d tQi qcR]] [] Qi.k) = Qi.f qa b qcQ qcR := by
 kernel_rfl
def ZB : Den.Sum := ⟨[.dat (.sl (.int .u8)) false, .dat (.pair tQi tQi) true], fun qA qj κ => match qA, qj with
 | [.d (.sl (.int .u8)) b, .agg [.d (.int .i64) qcQ, .d (.int .i64) qcR]], [] => (match veil (Qi.f BIG b qcQ qcR) with | none => none | some y => κ [.agg [.d (.int .i64) y.1, .d (.int .i64) y.2.1, .d (.int .i64) y.2.2.1, .d (.int .i64) y.2.2.2.1, .d (.int .i64) y.2.2.2.2.1, .d (.int .i64) y.2.2.2.2.2.1, .d (.int .i64) y.2.2.2.2.2.2.1, .d (.int .i64) y.2.2.2.2.2.2.2.1, .d (.int .i64) y.2.2.2.2.2.2.2.2.1, .d (.int .i64) y.2.2.2.2.2.2.2.2.2.1, .d (.sl (.pair (.int .i64) (.pair (.int .i64) (.pair (.int .i64) (.pair (.pair (.int .i64) (.int .i64)) (.pair .bool (.sl (.pair (.int .i64) (.sl (.int .u8)))))))))) y.2.2.2.2.2.2.2.2.2.2.1, .d (.int .i64) y.2.2.2.2.2.2.2.2.2.2.2.1, .d (.sl (.int .u8)) y.2.2.2.2.2.2.2.2.2.2.2.2.1], .d (.int .i64) y.2.2.2.2.2.2.2.2.2.2.2.2.2] [])
 | _, _ => none⟩
theorem qdI : SumDet ZB := zi fun _ _ _ _ => by
 unfold ZB
 simp only [veil_eq]
 split
 ·split <;> rfl
 ·rfl
theorem qd3 : SumOk Tryz.prog 10 ZB := by
 have hE : EnvOk Tryz.prog qfJ := env_ok (l := [(13, Zh), (16, qaA), (17, qat), (18, qbc)]) th_ok qU ⟨⟨qcN, qcq⟩, ⟨qhS, qhg⟩, ⟨qhD, qg6⟩, ⟨qjp, qiw⟩, trivial⟩ _
 refine sum_ok hE Tryz.func10 rfl (by kernel_rfl) ZB [.dat (.pair (.pair tQi (.pair tQi (.pair tQi (.pair (.pair tQi tQi) (.pair tQi (.pair tQi (.pair tQi (.pair tQi (.pair tQi (.sl tQr)))))))))) (.pair tQi (.sl (.int .u8)))) true, .raw] Qi.k ?_
 intro R avs qj κ r h
 unfold ZB at h
 simp only [veil_eq] at h
 split at h
 ·rename_i b qcQ qcR
  split at h
  ·cases h
  ·rename_i y hy
   refine ⟨BIG, _, _, _, (Qi.eq BIG b qcQ qcR).trans hy, ?_, h⟩
   intro rs ros hk
   unfold Qi.k at hk
   split at hk
   ·rw [← sj hk]; exact ⟨rfl, rfl⟩
   ·cases hk
 ·cases h
def qfQ : Env := ⟨th, gam [(10, ZB)], fun i => ⟨[], [], []⟩⟩
def Q9.k (rs : List AV) (os : List Den.Obj) : Option (Int × Int) :=
 match rs, os with
 | [.agg [.d (.int .i64) r0, .d (.int .i64) r1]], [] => some (r0, r1)
 | _, _ => none
def Q9.b (wLetterTo wLetterGen : Int) (wLetterData : List Int) (wLetterSays : LR) (wNo wFrom wBorn : Int) (wSpoilt : Bool) : Option (Int × Int) :=
 (match (veil (Qi.f BIG wLetterData (1 : Int) (3 : Int))) with | none => none | some y0 => (if (y0.2.2.2.2.2.2.2.2.2.2.2.2.2 != (0 : Int)) then some (wLetterGen, 0) else some (wLetterGen, y0.1)))
def Q9.f (qa : Nat) (wLetterTo wLetterGen : Int) (wLetterData : List Int) (wLetterSays : LR) (wNo wFrom wBorn : Int) (wSpoilt : Bool) : Option (Int × Int) := Q9.b wLetterTo wLetterGen wLetterData wLetterSays wNo wFrom wBorn wSpoilt
theorem Q9.eq (qa : Nat) (wLetterTo wLetterGen : Int) (wLetterData : List Int) (wLetterSays : LR) (wNo wFrom wBorn : Int) (wSpoilt : Bool) : (denF qfQ loopN qa Tryz.f5 [.dat (.pair tQi tQi) true] [.agg [.d tQi wLetterTo, .d tQi wLetterGen, .d (.sl (.int .u8)) wLetterData, .d (.sl tQr) wLetterSays, .d tQi wNo, .d tQi wFrom, .d tQi wBorn, .d .bool wSpoilt]] [] Q9.k) = Q9.f qa wLetterTo wLetterGen wLetterData wLetterSays wNo wFrom wBorn wSpoilt := by
 kernel_rfl
def Z0 : Den.Sum := ⟨[.dat (.pair (.pair tQi (.pair tQi (.pair (.sl (.int .u8)) (.sl tQr)))) (.pair tQi (.pair tQi (.pair tQi .bool)))) true], fun qA qj κ => match qA, qj with
 | [.agg [.d (.int .i64) wLetterTo, .d (.int .i64) wLetterGen, .d (.sl (.int .u8)) wLetterData, .d (.sl (.pair (.int .i64) (.pair (.int .i64) (.pair (.int .i64) (.pair (.pair (.int .i64) (.int .i64)) (.pair .bool (.sl (.pair (.int .i64) (.sl (.int .u8)))))))))) wLetterSays, .d (.int .i64) wNo, .d (.int .i64) wFrom, .d (.int .i64) wBorn, .d .bool wSpoilt]], [] => (match veil (Q9.f BIG wLetterTo wLetterGen wLetterData wLetterSays wNo wFrom wBorn wSpoilt) with | none => none | some y => κ [.agg [.d (.int .i64) y.1, .d (.int .i64) y.2]] [])
 | _, _ => none⟩
theorem qhb : SumDet Z0 := zi fun _ _ _ _ => by
 unfold Z0
 simp only [veil_eq]
 split
 ·split <;> rfl
 ·rfl
theorem qeh : SumOk Tryz.prog 5 Z0 := by
 have hE : EnvOk Tryz.prog qfQ := env_ok (l := [(10, ZB)]) th_ok qU ⟨⟨qd3, qdI⟩, trivial⟩ _
 refine sum_ok hE Tryz.func5 rfl (by kernel_rfl) Z0 [.dat (.pair tQi tQi) true] Q9.k ?_
 intro R avs qj κ r h
 unfold Z0 at h
 simp only [veil_eq] at h
 split at h
 ·rename_i wLetterTo wLetterGen wLetterData wLetterSays wNo wFrom wBorn wSpoilt
  split at h
  ·cases h
  ·rename_i y hy
   refine ⟨BIG, _, _, _, (Q9.eq BIG wLetterTo wLetterGen wLetterData wLetterSays wNo wFrom wBorn wSpoilt).trans hy, ?_, h⟩
   intro rs ros hk
   unfold Q9.k at hk
   split at hk
   ·rw [← sj hk]; exact ⟨rfl, rfl⟩
   ·cases hk
 ·cases h
def qf8 : Env := ⟨th, gam [(10, ZB)], fun i => ⟨[], [], []⟩⟩
def QR.k (rs : List AV) (os : List Den.Obj) : Option Int :=
 match rs, os with
 | [.d (.int .i64) r0], [] => some r0
 | _, _ => none
def QR.b (wLetterTo wLetterGen : Int) (wLetterData : List Int) (wLetterSays : LR) (wNo wFrom wBorn : Int) (wSpoilt : Bool) : Option Int :=
 (match (veil (Qi.f BIG wLetterData (1 : Int) (3 : Int))) with | none => none | some y0 => (if (y0.2.2.2.2.2.2.2.2.2.2.2.2.2 != (0 : Int)) then some ((0 : Int)) else some (y0.1)))
def QR.f (qa : Nat) (wLetterTo wLetterGen : Int) (wLetterData : List Int) (wLetterSays : LR) (wNo wFrom wBorn : Int) (wSpoilt : Bool) : Option Int := QR.b wLetterTo wLetterGen wLetterData wLetterSays wNo wFrom wBorn wSpoilt
theorem QR.eq (qa : Nat) (wLetterTo wLetterGen : Int) (wLetterData : List Int) (wLetterSays : LR) (wNo wFrom wBorn : Int) (wSpoilt : Bool) : (denF qf8 loopN qa Tryz.f6 [.raw] [.agg [.d tQi wLetterTo, .d tQi wLetterGen, .d (.sl (.int .u8)) wLetterData, .d (.sl tQr) wLetterSays, .d tQi wNo, .d tQi wFrom, .d tQi wBorn, .d .bool wSpoilt]] [] QR.k) = QR.f qa wLetterTo wLetterGen wLetterData wLetterSays wNo wFrom wBorn wSpoilt := by
 kernel_rfl
def qay : Den.Sum := ⟨[.dat (.pair (.pair tQi (.pair tQi (.pair (.sl (.int .u8)) (.sl tQr)))) (.pair tQi (.pair tQi (.pair tQi .bool)))) true], fun qA qj κ => match qA, qj with
 | [.agg [.d (.int .i64) wLetterTo, .d (.int .i64) wLetterGen, .d (.sl (.int .u8)) wLetterData, .d (.sl (.pair (.int .i64) (.pair (.int .i64) (.pair (.int .i64) (.pair (.pair (.int .i64) (.int .i64)) (.pair .bool (.sl (.pair (.int .i64) (.sl (.int .u8)))))))))) wLetterSays, .d (.int .i64) wNo, .d (.int .i64) wFrom, .d (.int .i64) wBorn, .d .bool wSpoilt]], [] => (match veil (QR.f BIG wLetterTo wLetterGen wLetterData wLetterSays wNo wFrom wBorn wSpoilt) with | none => none | some y => κ [.d (.int .i64) y] [])
 | _, _ => none⟩
theorem qhd : SumDet qay := zi fun _ _ _ _ => by
 unfold qay
 simp only [veil_eq]
 split
 ·split <;> rfl
 ·rfl
theorem qhO : SumOk Tryz.prog 6 qay := by
 have hE : EnvOk Tryz.prog qf8 := env_ok (l := [(10, ZB)]) th_ok qU ⟨⟨qd3, qdI⟩, trivial⟩ _
 refine sum_ok hE Tryz.func6 rfl (by kernel_rfl) qay [.raw] QR.k ?_
 intro R avs qj κ r h
 unfold qay at h
 simp only [veil_eq] at h
 split at h
 ·rename_i wLetterTo wLetterGen wLetterData wLetterSays wNo wFrom wBorn wSpoilt
  split at h
  ·cases h
  ·rename_i y hy
   refine ⟨BIG, _, _, _, (QR.eq BIG wLetterTo wLetterGen wLetterData wLetterSays wNo wFrom wBorn wSpoilt).trans hy, ?_, h⟩
   intro rs ros hk
   unfold QR.k at hk
   split at hk
   ·rw [← sj hk]; exact ⟨rfl, rfl⟩
   ·cases hk
 ·cases h
theorem qig (g k : Int) : ∀ (es : List Ent) (i : Nat), findE g k es i = none → ∀ e ∈ es, ¬ (e.g = g ∧ e.k = k)
 | [], _, _, e, he => by cases he
 | x :: es, i, h, e, he => by
  unfold findE at h
  split at h
  ·cases h
  ·rename_i hx
   rcases List.mem_cons.1 he with rfl | he
   ·exact hx
   ·exact qig g k es (i + 1) h e he
def qcc (e : Ent) : Int × Int := (e.g, e.k)
theorem qh5 (g k n b : Int) : ∀ (es : List Ent) (i : Nat) (e : Ent), es[i]? = some e → e.g = g → e.k = k → (es.modify i fun e => { e with g := g, k := k, n := n, b := b }).map qcc = es.map qcc
 | [], i, e, h, _, _ => by simp at h
 | x :: es, 0, e, h, h1, h2 => by
  simp at h
  subst h
  simp [qcc, h1, h2]
 | x :: es, i + 1, e, h, h1, h2 => by
  have := qh5 g k n b es i e (by simpa using h) h1 h2
  simpa using this
theorem qlp (es : List Ent) (g k n b : Int) (h : (es.map qcc).Nodup) : ((stepE es g k n b).map qcc).Nodup := by
 unfold stepE
 cases hf : findE g k es 0 with
 | none =>
  simp only
  rw [List.map_append]
  refine List.nodup_append.2 ⟨h, by simp, ?_⟩
  intro x hx y hy e
  obtain ⟨z, hz, rfl⟩ := List.mem_map.1 hx
  rw [List.map_singleton, List.mem_singleton] at hy
  rw [hy] at e
  have e1 := congrArg Prod.fst e
  have e2 := congrArg Prod.snd e
  exact qig g k es 0 hf z hz ⟨e1, e2⟩
 | some x =>
  obtain ⟨i, e⟩ := x
  obtain ⟨_, h2, h3, h4⟩ := findE_at g k es 0 i e hf
  simp only
  rw [qh5 g k n b es i e (by simpa using h2) h3 h4]
  exact h
theorem qeo (kg kk : Nat → Int) (dl : Nat → Nat) : ∀ k, ((accE kg kk dl k).map qcc).Nodup
 | 0 => List.nodup_nil
 | k + 1 => qlp _ _ _ _ _ (qeo kg kk dl k)
theorem qnE {es : List Ent} (h : (es.map qcc).Nodup) {x y : Ent} (hx : x ∈ es) (hy : y ∈ es) (e : qcc x = qcc y) : x = y := by
 obtain ⟨i, hi, rfl⟩ := List.getElem_of_mem hx
 obtain ⟨j, hj, rfl⟩ := List.getElem_of_mem hy
 have hp := List.pairwise_iff_getElem.1 h
 rcases Nat.lt_trichotomy i j with hij | hij | hij
 ·exact absurd (by rw [List.getElem_map, List.getElem_map]; exact e) (hp i j (by simpa using hi) (by simpa using hj) hij)
 ·subst hij; rfl
 ·exact absurd (by rw [List.getElem_map, List.getElem_map]; exact e.symm) (hp j i (by simpa using hj) (by simpa using hi) hij)
def leR (x y : R4) : Bool := !(ltOf cmpR y x)
theorem qdT (x y : R4) : leR x y = true ↔ x.1 < y.1 ∨ (x.1 = y.1 ∧ x.2.1 ≤ y.2.1) := by
 unfold leR
 rw [ltR]
 simp only [Bool.not_eq_true', decide_eq_false_iff_not]
 omega
def qhC (l : List R4) : List R4 := l.mergeSort leR
theorem qgJ : ∀ (l m : List R4), l.Perm m → l.Pairwise (fun x y => leR x y = true) → m.Pairwise (fun x y => leR x y = true) → (∀ x ∈ l, ∀ y ∈ l, (x.1, x.2.1) = (y.1, y.2.1) → x = y) → l = m
 | [], m, hp, _, _, _ => hp.nil_eq
 | x :: l, [], hp, _, _, _ => absurd hp.length_eq (by simp)
 | x :: l, y :: m, hp, h1, h2, hk => by
  have e : x = y := by
   have hx : x ∈ y :: m := hp.subset List.mem_cons_self
   have hy : y ∈ x :: l := hp.symm.subset List.mem_cons_self
   rcases List.mem_cons.1 hx with hx | hx
   ·exact hx
   rcases List.mem_cons.1 hy with hy | hy
   ·exact hy.symm
   have a := (qdT _ _).1 ((List.pairwise_cons.1 h1).1 y hy)
   have b := (qdT _ _).1 ((List.pairwise_cons.1 h2).1 x hx)
   exact hk x List.mem_cons_self y (List.mem_cons_of_mem _ hy) (Prod.ext (by simp only; omega) (by simp only; omega))
  subst e
  rw [qgJ l m ((List.perm_cons x).1 hp) (List.pairwise_cons.1 h1).2 (List.pairwise_cons.1 h2).2 fun a ha b hb => hk a (List.mem_cons_of_mem _ ha) b (List.mem_cons_of_mem _ hb)]
theorem qe4 (l : List R4) : (qhC l).Perm l := List.mergeSort_perm l leR
theorem qfW (l : List R4) : (qhC l).Pairwise (fun x y => leR x y = true) :=
 List.pairwise_mergeSort (fun a b c h1 h2 => by rw [qdT] at *; omega) (fun a b => by
  rw [Bool.or_eq_true, qdT, qdT]; omega) l
theorem qn5 {es : List Ent} (h : (es.map qcc).Nodup) {L : List R4} (hp : L.Perm (es.map toR)) (hs : L.Pairwise (fun x y => ltOf cmpR y x = false)) : L = qhC (es.map toR) := by
 refine qgJ _ _ (hp.trans (qe4 _).symm) (hs.imp fun h => by unfold leR; rw [h]; rfl) (qfW _) ?_
 intro x hx y hy e
 obtain ⟨a, ha, rfl⟩ := List.mem_map.1 (hp.subset hx)
 obtain ⟨b, hb, rfl⟩ := List.mem_map.1 (hp.subset hy)
 rw [qnE h ha hb e]
abbrev qoY : Ty := .pair tQi (.pair tQi (.pair tQi (.pair (.pair tQi tQi) (.pair .bool (.sl (.pair tQi (.sl (.int .u8))))))))
abbrev qhq : Ty := .pair (.pair tQi (.pair tQi (.pair (.sl (.int .u8)) (.sl qoY)))) (.pair tQi (.pair tQi (.pair tQi .bool)))
abbrev qhr : Ty := .pair (.pair tQi tQi) (.pair tQi tQi)
abbrev Zt := (Int × Int × List Int × LR) × Int × Int × Int × Bool
def qbl (x : Zt) : Option (Int × Int) := Q9.f BIG x.1.1 x.1.2.1 x.1.2.2.1 x.1.2.2.2 x.2.1 x.2.2.1 x.2.2.2.1 x.2.2.2.2
def QZ (l : List Zt) (i : Nat) : Int × Int := ((l[i]?).bind qbl).getD (0, 0)
def qaG (l : List Zt) (i : Nat) : Nat := ((l[i]?).map fun x => x.1.2.2.1.length).getD 0
def qfp (l : List Zt) : List Ent := accE (fun i => (QZ l i).1) (fun i => (QZ l i).2) (qaG l) l.length
def qlP (x : R4) : (Int × Int) × Int × Int := ((x.1, x.2.1), (x.2.2.1, x.2.2.2))
def Qa (l : List Zt) : List ((Int × Int) × Int × Int) := (qhC ((qfp l).map toR)).map qlP
def okL (l : List Zt) : Prop := l.length ≤ 1000000 ∧ ∀ x ∈ l, (qbl x).isSome = true ∧ x.1.2.2.1.length ≤ 1000000
noncomputable instance qo1 (l : List Zt) : Decidable (okL l) := Classical.propDecidable _
def qbt : Den.Sum := ⟨[.dat (.sl (.pair (.pair tQi (.pair tQi (.pair (.sl (.int .u8)) (.sl tQr)))) (.pair tQi (.pair tQi (.pair tQi .bool))))) false], fun qA qj κ => match qA, qj with
 | [.d (.sl (.pair (.pair (.int .i64) (.pair (.int .i64) (.pair (.sl (.int .u8)) (.sl (.pair (.int .i64) (.pair (.int .i64) (.pair (.int .i64) (.pair (.pair (.int .i64) (.int .i64)) (.pair .bool (.sl (.pair (.int .i64) (.sl (.int .u8))))))))))))) (.pair (.int .i64) (.pair (.int .i64) (.pair (.int .i64) .bool))))) l], [] => if okL l then κ [.row 0] [.row 37 (.pair (.pair (.int .i64) (.int .i64)) (.pair (.int .i64) (.int .i64))) (Qa l) false] else none
 | _, _ => none⟩
theorem qet : SumDet qbt := zi fun _ _ _ _ => by
 unfold qbt
 simp only
 split
 ·split <;> rfl
 ·rfl
theorem qkQ (M : Mem) : ∀ l : List R4, RR M qhr (l.map qlP) (l.flatMap rowCells)
 | [] => rfl
 | x :: l => ⟨rowCells x, l.flatMap rowCells, by rw [List.flatMap_cons], ⟨[.int .i64 x.1, .int .i64 x.2.1], [.int .i64 x.2.2.1, .int .i64 x.2.2.2], rfl, ⟨[_], [_], rfl, rfl, rfl⟩, ⟨[_], [_], rfl, rfl, rfl⟩⟩, qkQ M l⟩
theorem qn6 {B : Base} {g : G} {o : Objs} {w w' : World} (h : WInv B g o w) {n : Nat} (hn : o n = none) (e : Nat) (t : Ty) (l : List t.I) (ws : List Value) (v : Value) (hf : t.flat = true) (hr : RR g.M t l ws)
  (ho : w'.ownsRow w.heap.size e t.sz v l.length ws) (hw : Below w.heap.size w w') : WInv B (setE g n (v, t.sz)) (upd o n (.row e t l false)) w' := by
 have hown : w'.ownsR 0 e t.sz v l.length ws := by
  refine ⟨ho.1, ?_⟩
  rcases ho.2 with h2 | ⟨b, cap, cur, rfl, hb, hg, h3⟩
  ·exact .inl h2
  ·exact .inr ⟨b, cap, cur, (0, 0), rfl, Nat.zero_le _, hg, .inl rfl, h3⟩
 have hge : ∀ b, (baseOf v).map (·.block) = some b → w.heap.size ≤ b := by
  intro b hb
  rcases ho.2 with ⟨rfl, _⟩ | ⟨b', cap, cur, rfl, hb', hg, h3⟩
  ·simp [baseOf] at hb
  ·simp [baseOf] at hb; omega
 refine new_put h hn _ _ ⟨v, ws, setE_at g n _, hf, hown, hr, fun a ha hc => ?_⟩ ⟨hw.os, hw.tape, hw.output, hw.size, fun b hb _ => hw.block b hb⟩ hge
 rw [← ownBlock_base hown] at ha
 exact M_new h a (hge _ ha)
theorem qoo {B : Base} {g : G} {w W : World} (hw : WInv B g (atL []) w) (hB : Below w.heap.size w W) : WInv ⟨W, g.M, fun _ => False⟩ g (atL []) W := by
 have hmem : ∀ a v, g.M a = some v → W.cell? a = some v ∧ v.oneCell' = true := fun a v ha => by
  have h1 := hw.mem a v ha
  exact ⟨(hB.cell (World.block_lt_of_cell? w a h1.1)).trans h1.1, h1.2⟩
 refine ⟨fun n x hn => by simp [atL] at hn, hw.dom, fun n m x y _ hn => by simp [atL] at hn, hmem, ⟨rfl, rfl, rfl, Nat.le_refl _, fun _ _ _ => rfl⟩, fun _ _ ha => ha, fun _ _ _ => rfl, fun n x b hn => by simp [atL] at hn, ⟨fun n k l hn j x hj => hw.grow _ _ (hw.glob.tab n k l hn j x hj), fun n hn => ⟨Nat.lt_of_lt_of_le (Nat.lt_of_lt_of_le (hw.glob.far n hn).1 hw.ext.size) hB.size, fun k => k⟩, ?_⟩⟩
 exact trivial
theorem qjB {M : Mem} {x : Zt} {ws : List Value} (h : CR M qhq x ws) : ∃ dA dc sA sc, ws = [.int .i64 x.1.1, .int .i64 x.1.2.1, .slice dA x.1.2.2.1.length dc, .slice sA x.1.2.2.2.length sc, .int .i64 x.2.1, .int .i64 x.2.2.1, .int .i64 x.2.2.2.1, .bool x.2.2.2.2] := by
 obtain ⟨v1, v2, rfl, ⟨_, _, rfl, rfl, ⟨_, _, rfl, rfl, ⟨_, _, rfl, ⟨dA, dc, rfl, _⟩, ⟨sA, sc, rfl, _⟩⟩⟩⟩, ⟨_, _, rfl, rfl, ⟨_, _, rfl, rfl, ⟨_, _, rfl, rfl, rfl⟩⟩⟩⟩ := h
 exact ⟨dA, dc, sA, sc, rfl⟩
theorem qoe {B : Base} {g : G} {w W : World} (hw : WInv B g (atL []) w) (hB : Below w.heap.size w W) {x : Zt} {ws : List Value} (hc : CR g.M qhq x ws) {y : Int × Int} (hy : qbl x = some y) :
  Calls Tryz.prog 5 #[.agg ws.toArray] W fun e W' => e = .returned (.agg #[.int .i64 y.1, .int .i64 y.2]) ∧ Below W.heap.size W W' := by
 have hv : VRL g [.agg (leaves qhq x)] [.agg ws.toArray] := by
  refine ⟨⟨ws, rfl, leaves_VRL qhq x ws rfl hc, ?_⟩, trivial⟩
  obtain ⟨dA, dc, sA, sc, rfl⟩ := qjB hc
  intro u hu
  simp only [List.mem_cons, List.not_mem_nil, or_false] at hu
  rcases hu with rfl | rfl | rfl | rfl | rfl | rfl | rfl | rfl <;> rfl
 have hrun : Z0.run [.agg (leaves qhq x)] [] (fun (rs : List AV) (os : List Den.Obj) => some (rs, os)) = some ([AV.agg [.d tQi y.1, .d tQi y.2]], []) := by
  show (match veil (qbl x) with | none => none | some y => some ([AV.agg [.d tQi y.1, .d tQi y.2]], ([] : List Den.Obj))) = _
  rw [veil_eq, hy]
 refine (qeh.2 _ _ _ _ hrun ⟨W, g.M, fun _ => False⟩ g W [.agg ws.toArray] (qoo hw hB) hv).mono ?_
 rintro e W' ⟨v, rfl, rs, os, g', hk, hw', _, hr⟩
 cases hk
 obtain ⟨us, rfl, hu, _⟩ := hr
 match us, hu with
 | [u1, u2], ⟨h1, h2, _⟩ =>
  rw [show u1 = .int .i64 y.1 from h1, show u2 = .int .i64 y.2 from h2]
  exact ⟨rfl, hw'.ext.os, hw'.ext.tape, hw'.ext.output, hw'.ext.size, fun b hb => hw'.ext.block b hb (fun k => k)⟩
def qjZ (M : Mem) (a : Addr) : Option Addr := match M a with
 | some (.slice A _ _) => A
 | _ => none
def qnB (M : Mem) (a : Addr) : Nat := match M a with
 | some (.slice _ n _) => n
 | _ => 0
def qjY (M : Mem) (a : Addr) : Nat := match M a with
 | some (.slice _ _ c) => c
 | _ => 0
theorem qmK {B : Base} {g : G} {w : World} (hw : WInv B g (atL []) w) (l : List Zt) (hok : okL l) (ad : Addr) (c : Nat) (h0 : ad.block < w.heap.size) (hcell : ∀ (i : Nat) (x : Zt), l[i]? = some x → ∃ ws, CR g.M qhq x ws ∧ ∀ (j : Nat) (v : Value), ws[j]? = some v → g.M (ad.add (i * 8 + j)) = some v) :
  Calls Tryz.prog 7 #[.slice (some ad) l.length c] w (rowsPost w.heap.size w (qfp l)) := by
 obtain ⟨hlen, hx⟩ := hok
 have key : ∀ i, i < l.length → ∃ (x : Zt) (ws : List Value), l[i]? = some x ∧ x ∈ l ∧ CR g.M qhq x ws ∧ (∀ (j : Nat) (v : Value), ws[j]? = some v → g.M (ad.add (i * 8 + j)) = some v) ∧
   [Value.int .i64 ((l[i]?.map fun x => x.1.1).getD 0), .int .i64 ((l[i]?.map fun x => x.1.2.1).getD 0), .slice (qjZ g.M (ad.add (i * 8 + 2))) (qaG l i) (qjY g.M (ad.add (i * 8 + 2))), .slice (qjZ g.M (ad.add (i * 8 + 3))) (qnB g.M (ad.add (i * 8 + 3))) (qjY g.M (ad.add (i * 8 + 3))), .int .i64 ((l[i]?.map fun x => x.2.1).getD 0), .int .i64 ((l[i]?.map fun x => x.2.2.1).getD 0), .int .i64 ((l[i]?.map fun x => x.2.2.2.1).getD 0), .bool ((l[i]?.map fun x => x.2.2.2.2).getD false)] = ws := by
  intro i hi
  have hl := List.getElem?_eq_getElem hi
  obtain ⟨ws, hcr, hm⟩ := hcell i l[i] hl
  refine ⟨l[i], ws, hl, List.getElem_mem hi, hcr, hm, ?_⟩
  obtain ⟨dA, dc, sA, sc, rfl⟩ := qjB hcr
  have e2 := hm 2 _ rfl
  have e3 := hm 3 _ rfl
  unfold qaG qjZ qjY qnB
  rw [e2, e3, hl]
  rfl
 refine rows_any ad l.length c (fun i => (l[i]?.map fun x => x.1.1).getD 0) (fun i => (l[i]?.map fun x => x.1.2.1).getD 0) (fun i => (l[i]?.map fun x => x.2.1).getD 0) (fun i => (l[i]?.map fun x => x.2.2.1).getD 0) (fun i => (l[i]?.map fun x => x.2.2.2.1).getD 0) (fun i => (l[i]?.map fun x => x.2.2.2.2).getD false)
  (fun i => qjZ g.M (ad.add (i * 8 + 2))) (qaG l) (fun i => qjY g.M (ad.add (i * 8 + 2))) (fun i => qjZ g.M (ad.add (i * 8 + 3))) (fun i => qnB g.M (ad.add (i * 8 + 3))) (fun i => qjY g.M (ad.add (i * 8 + 3))) (fun i => (QZ l i).1) (fun i => (QZ l i).2) w hlen h0 ?_ ?_ ?_
 ·intro i hi
  obtain ⟨x, ws, hl, hm, _⟩ := key i hi
  unfold qaG
  rw [hl]
  exact (hx x hm).2
 ·intro i hi j v hv
  obtain ⟨x, ws, hl, hm, _, hmem, e⟩ := key i hi
  rw [e] at hv
  exact (hw.mem _ _ (hmem j v hv)).1
 ·intro i hi W hB
  obtain ⟨x, ws, hl, hm, hcr, hmem, e⟩ := key i hi
  obtain ⟨y, hy⟩ := Option.isSome_iff_exists.1 (hx x hm).1
  have := qoe hw hB hcr hy
  rw [← e] at this
  have ek : QZ l i = y := by unfold QZ; rw [hl]; show (qbl x).getD _ = y; rw [hy]; rfl
  rw [ek]
  exact this
theorem qfa : SumOk Tryz.prog 7 qbt := by
 refine ⟨⟨_, _, Tryz.func7, rfl, by kernel_rfl⟩, ?_⟩
 intro R avs qj κ r h B g w vs hw hv
 unfold qbt at h
 simp only at h
 split at h
 case h_2 => cases h
 rename_i l
 split at h
 case isFalse => cases h
 rename_i hok
 obtain ⟨hlen, hx⟩ := hok
 match vs, hv with
 | [v], ⟨⟨_, A, c, hv1, _, hcell⟩, _⟩ =>
  have fin : ∀ (e : Ending) (w' : World), rowsPost w.heap.size w (qfp l) e w' → ∃ v, e = .returned v ∧ ∃ rs os g', κ rs os = some r ∧ WInv B g' (atL os) w' ∧ GE g g' ∧ VR g' (tupOf rs) v := by
   rintro e w' ⟨v, L, rfl, hp, hs, hown, hbl⟩
   have hL := qn5 (qeo _ _ _ _) hp hs
   have hln : (Qa l).length = L.length := by unfold Qa; rw [List.length_map, hL]; rfl
   have hnew := qn6 hw (n := 0) rfl 37 qhr (Qa l) (L.flatMap rowCells) v rfl (by unfold Qa; rw [hL]; exact qkQ g.M _) (by rw [hln]; exact hown) hbl
   refine ⟨v, rfl, [.row 0], [.row 37 qhr (Qa l) false], setE g 0 (v, qhr.sz), h, ?_, setE_ge hw (n := 0) rfl _, ⟨qhr.sz, setE_at g 0 _, ?_⟩⟩
   ·have e2 : atL [Den.Obj.row 37 qhr (Qa l) false] = upd (atL []) 0 (Den.Obj.row 37 qhr (Qa l) false) := by
     funext k
     match k with
     | 0 => rfl
     | k + 1 => simp [upd, atL]
    rw [e2]
    exact hnew
   ·rcases hown.2 with ⟨rfl, _⟩ | ⟨b', cap, cur, rfl, _⟩ <;> rfl
  rw [show v = .slice A l.length c from (List.cons.inj hv1).1]
  match l, hlen, hx, hcell, h, fin with
  | [], _, _, _, _, fin => exact (rows_zero A c w).mono fin
  | x0 :: l0, hlen, hx, hcell, h, fin =>
   obtain ⟨ad, ws0, rfl, hc0, hm0⟩ := hcell 0 x0 rfl
   refine (qmK hw (x0 :: l0) ⟨hlen, hx⟩ ad c ?_ ?_).mono fin
   ·obtain ⟨dA, dc, sA, sc, rfl⟩ := qjB hc0
    have := World.block_lt_of_cell? w _ (hw.mem _ _ (hm0 0 _ rfl)).1
    rwa [add_block] at this
   ·intro i x hi
    obtain ⟨ad', ws, e, hcr, hm⟩ := hcell i x hi
    cases e
    exact ⟨ws, hcr, hm⟩
def Qq (p : Int → Int → Bool) (w : Nat → Int) (kg kk : Nat → Int) : Nat → Int
 | 0 => 0
 | k + 1 => Qq p w kg kk k + (if p (kg k) (kk k) = true then w k else 0)
theorem qam (p : Int → Int → Bool) (w : Nat → Int) (kg kk : Nat → Int) (M : Int) : ∀ k, (∀ i, i < k → 0 ≤ w i ∧ w i ≤ M) → 0 ≤ Qq p w kg kk k ∧ Qq p w kg kk k ≤ M * k
 | 0, _ => by simp [Qq]
 | k + 1, h => by
  have ih := qam p w kg kk M k fun i hi => h i (by omega)
  have h1 := h k (by omega)
  have e : M * ((k + 1 : Nat) : Int) = M * (k : Int) + M := by rw [Int.natCast_add, Int.mul_add]; simp
  rw [Qq, e]
  split <;> omega
def qag (p : Int → Int → Bool) (f : Ent → Int) : List Ent → Int
 | [] => 0
 | e :: es => (if p e.g e.k = true then f e else 0) + qag p f es
theorem qjE (p : Int → Int → Bool) (f : Ent → Int) : ∀ a b : List Ent, qag p f (a ++ b) = qag p f a + qag p f b
 | [], b => by simp [qag]
 | e :: a, b => by rw [List.cons_append, qag, qag, qjE p f a b]; omega
theorem qgH (p : Int → Int → Bool) (f : Ent → Int) (g k n b d : Int) : ∀ (es : List Ent) (i : Nat) (e : Ent), es[i]? = some e → e.g = g → e.k = k → f { e with g := g, k := k, n := n, b := b } = f e + d →
  qag p f (es.modify i fun e => { e with g := g, k := k, n := n, b := b }) = qag p f es + (if p g k = true then d else 0)
 | [], i, e, h, _, _, _ => by simp at h
 | x :: es, 0, e, h, h1, h2, hf => by
  simp at h
  subst h
  rw [List.modify_zero_cons, qag, qag, hf]
  simp only [h1, h2]
  split <;> omega
 | x :: es, i + 1, e, h, h1, h2, hf => by
  rw [List.modify_succ_cons, qag, qag, qgH p f g k n b d es i e (by simpa using h) h1 h2 hf]
  omega
def qfr (c : Bool) (e : Ent) : Int := if c = true then e.n else e.b
theorem qmp (c : Bool) (p : Int → Int → Bool) (es : List Ent) (g k dn db : Int) :
  qag p (qfr c) (stepE es g k ((oldE es g k).2.2.1 + dn) ((oldE es g k).2.2.2 + db)) = qag p (qfr c) es + (if p g k = true then (if c = true then dn else db) else 0) := by
 unfold stepE oldE
 cases hf : findE g k es 0 with
 | none =>
  simp only
  rw [qjE]
  simp [qag, qfr]
 | some x =>
  obtain ⟨i, e⟩ := x
  obtain ⟨_, h2, h3, h4⟩ := findE_at g k es 0 i e hf
  simp only
  exact qgH p (qfr c) g k _ _ _ es i e (by simpa using h2) h3 h4 (by unfold qfr; cases c <;> simp)
theorem qg3 (c : Bool) (p : Int → Int → Bool) (kg kk : Nat → Int) (dl : Nat → Nat) : ∀ k, qag p (qfr c) (accE kg kk dl k) = Qq p (fun i => if c = true then 1 else (dl i : Int)) kg kk k
 | 0 => rfl
 | k + 1 => by
  rw [accE, qmp c p (accE kg kk dl k) (kg k) (kk k) 1 (dl k), qg3 c p kg kk dl k, Qq]
def isK (g k : Int) (g' k' : Int) : Bool := g' == g && k' == k
theorem qgx (g k g' k' : Int) : isK g k g' k' = true ↔ g' = g ∧ k' = k := by simp [isK]
theorem qiX (f : Ent → Int) (g k : Int) : ∀ es : List Ent, (g, k) ∉ es.map qcc → qag (isK g k) f es = 0
 | [], _ => rfl
 | x :: es, h => by
  rw [List.map_cons, List.mem_cons, not_or] at h
  rw [qag, qiX f g k es h.2, if_neg]
  ·rfl
  ·rw [qgx]
   rintro ⟨h1, h2⟩
   exact h.1 (by unfold qcc; rw [h1, h2])
theorem qg2 (f : Ent → Int) : ∀ (es : List Ent), (es.map qcc).Nodup → ∀ e ∈ es, qag (isK e.g e.k) f es = f e
 | [], _, e, he => by cases he
 | x :: es, h, e, he => by
  rw [List.map_cons, List.nodup_cons] at h
  rcases List.mem_cons.1 he with rfl | he
  ·rw [qag, qiX f e.g e.k es h.1, if_pos ((qgx _ _ _ _).2 ⟨rfl, rfl⟩), Int.add_zero]
  ·rw [qag, qg2 f es h.2 e he, if_neg, Int.zero_add]
   rw [qgx]
   rintro ⟨h1, h2⟩
   exact h.1 (by
    have : qcc x = qcc e := by unfold qcc; rw [h1, h2]
    rw [this]
    exact List.mem_map_of_mem he)
theorem qke (kg kk : Nat → Int) (dl : Nat → Nat) (len : Nat) (hd : ∀ i, i < len → dl i ≤ 1000000) : ∀ k, k ≤ len → ∀ e ∈ accE kg kk dl k, 1 ≤ e.n
 | 0, _, e, he => by cases he
 | k + 1, hk, e, he => by
  have ih := qke kg kk dl len hd k (by omega)
  have hin := accE_in kg kk dl len hd k (by omega)
  have ho := oldE_in (p := fun n b => 0 ≤ n) (by omega) (accE kg kk dl k) (fun e he => (hin e he).1.1) (kg k) (kk k)
  exact stepE_in (p := fun n b => 1 ≤ n) (accE kg kk dl k) ih (kg k) (kk k) _ _ (by omega) e he
theorem qms (es : List Ent) (g k n b : Int) : ∀ e ∈ stepE es g k n b, e ∈ es ∨ (e.g = g ∧ e.k = k) := by
 intro e he
 unfold stepE at he
 split at he
 ·rcases modify_mem _ es _ e he with h1 | ⟨y, _, rfl⟩
  ·exact .inl h1
  ·exact .inr ⟨rfl, rfl⟩
 ·rcases List.mem_append.1 he with h1 | h1
  ·exact .inl h1
  ·rw [List.mem_singleton.1 h1]; exact .inr ⟨rfl, rfl⟩
theorem qkf (kg kk : Nat → Int) (dl : Nat → Nat) : ∀ k, ∀ e ∈ accE kg kk dl k, ∃ i, i < k ∧ e.g = kg i ∧ e.k = kk i
 | 0, e, he => by cases he
 | k + 1, e, he => by
  rcases qms _ _ _ _ _ e he with h | ⟨h1, h2⟩
  ·obtain ⟨i, hi, h1⟩ := qkf kg kk dl k e h
   exact ⟨i, by omega, h1⟩
  ·exact ⟨k, by omega, h1, h2⟩
abbrev qeI := (Int × Int) × Int × Int
def QH (p : Int → Int → Bool) : List qeI → Int
 | [] => 0
 | r :: rs => (if p r.1.1 r.1.2 = true then r.2.1 else 0) + QH p rs
theorem qmn (p : Int → Int → Bool) {a b : List qeI} (h : a.Perm b) : QH p a = QH p b := by
 induction h with
 | nil => rfl
 | cons x _ ih => rw [QH, QH, ih]
 | swap x y l => simp only [QH]; omega
 | trans _ _ h1 h2 => exact h1.trans h2
def qon (e : Ent) : qeI := ((e.g, e.k), (e.n, e.b))
theorem qmo (p : Int → Int → Bool) : ∀ es : List Ent, QH p (es.map qon) = qag p (qfr true) es
 | [] => rfl
 | e :: es => by rw [List.map_cons, QH, qag, qmo p es]; rfl
theorem qhW (l : List Zt) : (Qa l).Perm ((qfp l).map qon) := by
 unfold Qa
 have := (qe4 ((qfp l).map toR)).map qlP
 rw [List.map_map] at this
 exact this
def ltK (x y : qeI) : Prop := x.1.1 < y.1.1 ∨ (x.1.1 = y.1.1 ∧ x.1.2 < y.1.2)
theorem qjT (l : List Zt) : (Qa l).Pairwise ltK := by
 have h1 := qfW ((qfp l).map toR)
 have h2 : ((qhC ((qfp l).map toR)).map fun x => (x.1, x.2.1)).Nodup := by
  have hp := (qe4 ((qfp l).map toR)).map fun x => (x.1, x.2.1)
  rw [List.map_map] at hp
  exact hp.symm.nodup (qeo _ _ _ _)
 unfold Qa
 rw [List.pairwise_map]
 rw [List.Nodup, List.pairwise_map] at h2
 refine (h1.and h2).imp ?_
 rintro a b ⟨hab, hne⟩
 have := (qdT a b).1 hab
 unfold ltK qlP
 simp only
 rcases this with h | ⟨h, h'⟩
 ·exact .inl h
 ·refine .inr ⟨h, ?_⟩
  have : a.2.1 ≠ b.2.1 := fun e => hne (by rw [h, e])
  omega
structure qoA (l : List Zt) (kg kk : Nat → Int) : Prop where
 len : (Qa l).length ≤ l.length
 row : ∀ r ∈ Qa l, r.2.1 = Qq (isK r.1.1 r.1.2) (fun _ => 1) kg kk l.length ∧ r.2.2 = Qq (isK r.1.1 r.1.2) (fun i => (qaG l i : Int)) kg kk l.length ∧ 1 ≤ r.2.1
 key : ∀ r ∈ Qa l, ∃ i, i < l.length ∧ r.1.1 = kg i ∧ r.1.2 = kk i
 sum : ∀ p, QH p (Qa l) = Qq p (fun _ => 1) kg kk l.length
theorem qiE (l : List Zt) (hl : ∀ i, i < l.length → qaG l i ≤ 1000000) : qoA l (fun i => (QZ l i).1) (fun i => (QZ l i).2) := by
 have hp := qhW l
 refine ⟨?_, ?_, ?_, ?_⟩
 ·rw [hp.length_eq, List.length_map]
  exact accE_len _ _ _ _
 ·intro r hr
  obtain ⟨e, he, rfl⟩ := List.mem_map.1 (hp.subset hr)
  have hk := qeo (fun i => (QZ l i).1) (fun i => (QZ l i).2) (qaG l) l.length
  have h1 := qg2 (qfr true) _ hk e he
  have h2 := qg2 (qfr false) _ hk e he
  rw [qg3] at h1 h2
  exact ⟨h1.symm, h2.symm, qke _ _ _ l.length hl l.length (Nat.le_refl _) e he⟩
 ·intro r hr
  obtain ⟨e, he, rfl⟩ := List.mem_map.1 (hp.subset hr)
  exact qkf _ _ _ _ e he
 ·intro p
  rw [qmn p hp, qmo]
  exact qg3 true p _ _ _ _
theorem qd.l17_at (qa n k : Nat) (hn : n = k + 1) (l : List Int) (qW : Int) (qO : Int) (qs : Int) (qp : Int) (qq : Int) (qN : Bool) (qL : LF) (qe : Int) (qc : LR) (x41 : Int) (x42 : Int) (x43 : (List Int)) : qd.l17 qa l qW qO qs qp qq qN qL qe qc n x41 x42 x43 = qd.b17 l qW qO qs qp qq qN qL qe qc (qd.l17 qa l qW qO qs qp qq qN qL qe qc k) x41 x42 x43 := by
 subst hn
 rfl
theorem qd.l13_at (qa n k : Nat) (hn : n = k + 1) (l : List Int) (qW : Int) (qO : Int) (qs : Int) (qp : Int) (qq : Int) (qN : Bool) (qL : LF) (qe : Int) (qc : LR) (x28 : Int) (x29 : (List Int)) (x30 : Int) (x31 : Int) (x32 : Int) (x33 : Int) (x34 : Int) (x35 : Bool) (x36 : LF) : qd.l13 qa l qW qO qs qp qq qN qL qe qc n x28 x29 x30 x31 x32 x33 x34 x35 x36 = qd.b13 l qW qO qs qp qq qN qL qe qc (qd.l13 qa l qW qO qs qp qq qN qL qe qc k) (qd.l17 qa l qW qO qs qp qq qN qL qe qc qa) x28 x29 x30 x31 x32 x33 x34 x35 x36 := by
 subst hn
 rfl
theorem qd.l9_at (qa n k : Nat) (hn : n = k + 1) (l : List Int) (qW : Int) (qO : Int) (qs : Int) (qp : Int) (qq : Int) (qN : Bool) (qL : LF) (qe : Int) (qc : LR) (x19 : Int) (x20 : Int) (x21 : Int) (x22 : Int) (x23 : Int) (x24 : Int) (x25 : Bool) (x26 : LF) : qd.l9 qa l qW qO qs qp qq qN qL qe qc n x19 x20 x21 x22 x23 x24 x25 x26 = qd.b9 l qW qO qs qp qq qN qL qe qc (qd.l9 qa l qW qO qs qp qq qN qL qe qc k) (qd.l13 qa l qW qO qs qp qq qN qL qe qc qa) x19 x20 x21 x22 x23 x24 x25 x26 := by
 subst hn
 rfl
theorem qd.l7_at (qa n k : Nat) (hn : n = k + 1) (l : List Int) (qW : Int) (qO : Int) (qs : Int) (qp : Int) (qq : Int) (qN : Bool) (qL : LF) (qe : Int) (qc : LR) (x10 : Bool) (x11 : Int) (x12 : Int) (x13 : Int) (x14 : Int) (x15 : Int) (x16 : Int) (x17 : Bool) (x18 : LF) : qd.l7 qa l qW qO qs qp qq qN qL qe qc n x10 x11 x12 x13 x14 x15 x16 x17 x18 = qd.b7 l qW qO qs qp qq qN qL qe qc (qd.l7 qa l qW qO qs qp qq qN qL qe qc k) (qd.l9 qa l qW qO qs qp qq qN qL qe qc qa) x10 x11 x12 x13 x14 x15 x16 x17 x18 := by
 subst hn
 rfl
theorem qd.l5_at (qa n k : Nat) (hn : n = k + 1) (l : List Int) (qW : Int) (qO : Int) (qs : Int) (qp : Int) (qq : Int) (qN : Bool) (qL : LF) (qe : Int) (qc : LR) (x1 : Bool) (x2 : Int) (x3 : Int) (x4 : Int) (x5 : Int) (x6 : Int) (x7 : Int) (x8 : Bool) (x9 : LF) : qd.l5 qa l qW qO qs qp qq qN qL qe qc n x1 x2 x3 x4 x5 x6 x7 x8 x9 = qd.b5 l qW qO qs qp qq qN qL qe qc (qd.l5 qa l qW qO qs qp qq qN qL qe qc k) (qd.l7 qa l qW qO qs qp qq qN qL qe qc qa) x1 x2 x3 x4 x5 x6 x7 x8 x9 := by
 subst hn
 rfl
theorem qiV {x : Int × List Int} {m : LF} {t n : Int} (h1 : x.1 = t) (h2 : (x.2.length : Int) = n) : zp (x :: m) false t n = (QL x.2, m, false) := by
 unfold zp qc9
 simp [h1, h2]
theorem qml {l : LF} {bad : Bool} {t n : Int} (h : (zp l bad t n).2.2 = false) : bad = false ∧ ∃ x m, l = x :: m ∧ x.1 = t ∧ (x.2.length : Int) = n ∧ zp l bad t n = (QL x.2, m, false) := by
 cases l with
 | nil => simp [zp] at h
 | cons x m =>
  unfold zp at h
  dsimp only at h
  split at h
  ·cases h
  ·rename_i c
   simp at c
   unfold qc9 at h
   split at h
   ·rename_i c2
    simp at c2
    exact ⟨c.1, x, m, rfl, c.2, by omega, by rw [c.1]; exact qiV c.2 (by omega)⟩
   ·cases h
def hit (t n : Int) : LF → Option (Int × LF)
 | [] => none
 | x :: m => if x.1 == t && ((x.2.length : Int) == n) then some (QL x.2, m) else none
def qcS (c : Bool) (t : Int) (m : LF) : Option (Int × LF) := if c then hit t 2 m else some (0, m)
theorem qnH {t n : Int} {l : LF} {v : Int} {m : LF} (h : hit t n l = some (v, m)) : ∃ x, l = x :: m ∧ v = QL x.2 ∧ x.1 = t ∧ (x.2.length : Int) = n := by
 cases l with
 | nil => simp [hit] at h
 | cons x l =>
  have h' : (if (x.1 == t && ((x.2.length : Int) == n)) = true then some (QL x.2, l) else none) = some (v, m) := h
  by_cases c : (x.1 == t && ((x.2.length : Int) == n)) = true
  ·rw [if_pos c] at h'
   simp at c
   cases h'
   exact ⟨x, rfl, rfl, c.1, c.2⟩
  ·rw [if_neg c] at h'
   cases h'
theorem Qp {t n : Int} {l : LF} {v : Int} {m : LF} (h : hit t n l = some (v, m)) : zp l false t n = (v, m, false) := by
 obtain ⟨x, rfl, rfl, h1, h2⟩ := qnH h
 exact qiV h1 h2
theorem qaN (l : LF) (t n : Int) : (zp l true t n).2.2 = true := by
 unfold zp
 cases l <;> simp
theorem qaf {t n : Int} {l : LF} (h : hit t n l = none) : (zp l false t n).2.2 = true := by
 cases hb : (zp l false t n).2.2 with
 | true => rfl
 | false =>
  obtain ⟨_, x, m, rfl, h1, h2, _⟩ := qml hb
  simp [hit, h1, h2] at h
theorem qbU (k p : Int) (l : LF) (t : Int) : (Qd k p l true t).2.2 = true := by
 unfold Qd
 split
 ·exact qaN l t 2
 ·rfl
theorem qfE {k p t : Int} {l : LF} {v : Int} {m : LF} (h : qcS (qt k p) t l = some (v, m)) : Qd k p l false t = (v, m, false) := by
 unfold Qd
 unfold qcS at h
 split
 ·rename_i c; rw [if_pos c] at h; exact Qp h
 ·rename_i c; rw [if_neg c] at h; cases h; rfl
theorem qgG {k p t : Int} {l : LF} (h : qcS (qt k p) t l = none) : (Qd k p l false t).2.2 = true := by
 unfold Qd
 unfold qcS at h
 split
 ·rename_i c; rw [if_pos c] at h; exact qaf h
 ·rename_i c; rw [if_neg c] at h; cases h
def qlX (b : List Int) : Option (Int × Int × Int × Int × Int × Int × LF) :=
 if (zU b).2 != 0 || decide ((b.length : Int) > 65499) then none else
 match hit 1 1 (zU b).1 with
 | none => none
 | some (K, m1) => match hit 2 2 m1 with
  | none => none
  | some (f, m2) => match hit 3 6 m2 with
   | none => none
   | some (i, m3) => match hit 4 1 m3 with
    | none => none
    | some (c, m4) => match qcS (qt K 0) 5 m4 with
     | none => none
     | some (s, m5) => match qcS (qt K 1) 6 m5 with
      | none => none
      | some (t, m6) => some (K, f, i, c, s, t, m6)
theorem qcu (k f i lo hi s t : Int) (r : Option LR) : qgh true k f i lo hi s t r = (0, 0, 0, 0, 0, 0, 0, [], 4) := by
 cases r <;> rfl
theorem qoi (b : List Int) : zO b = match qlX b with
  | none => (0, 0, 0, 0, 0, 0, 0, [], 4)
  | some (K, f, i, c, s, t, m) => qgh false K f i (zF z8 c).1 (zF z8 c).2.1 s t (qbv m) := by
 unfold zO qlX
 dsimp only
 unfold QY
 dsimp only
 cases hb : ((zU b).2 != 0 || decide ((b.length : Int) > 65499))
 ·simp only [Bool.false_eq_true, if_false]
  cases h1 : hit 1 1 (zU b).1 with
  | none =>
   dsimp only
   rw [qaf h1]
   simp only [qaN, qbU, qcu]
  | some p1 =>
   obtain ⟨K, m1⟩ := p1
   dsimp only
   rw [Qp h1]
   dsimp only
   cases h2 : hit 2 2 m1 with
   | none =>
    dsimp only
    rw [qaf h2]
    simp only [qaN, qbU, qcu]
   | some p2 =>
    obtain ⟨f, m2⟩ := p2
    dsimp only
    rw [Qp h2]
    dsimp only
    cases h3 : hit 3 6 m2 with
    | none =>
     dsimp only
     rw [qaf h3]
     simp only [qaN, qbU, qcu]
    | some p3 =>
     obtain ⟨i, m3⟩ := p3
     dsimp only
     rw [Qp h3]
     dsimp only
     cases h4 : hit 4 1 m3 with
     | none =>
      dsimp only
      rw [qaf h4]
      simp only [qbU, qcu]
     | some p4 =>
      obtain ⟨c, m4⟩ := p4
      dsimp only
      rw [Qp h4]
      dsimp only
      cases h5 : qcS (qt K 0) 5 m4 with
      | none =>
       dsimp only
       rw [qgG h5]
       simp only [qbU, qcu]
      | some p5 =>
       obtain ⟨s, m5⟩ := p5
       dsimp only
       rw [qfE h5]
       dsimp only
       cases h6 : qcS (qt K 1) 6 m5 with
       | none =>
        dsimp only
        rw [qgG h6]
        simp only [qcu]
       | some p6 =>
        obtain ⟨t, m6⟩ := p6
        dsimp only
        rw [qfE h6]
 ·simp only [qaN, qbU, qcu]
  rfl
theorem qfm (c : Int) (h0 : 0 ≤ c) (h1 : c ≤ 255) : (okS (c / 16) (c % 16) = true → zF z8 c = (c / 16, c % 16, true)) ∧ (okS (c / 16) (c % 16) = false → okS (zF z8 c).1 (zF z8 c).2.1 = false) := by
 constructor
 ·intro h
  simp [okS] at h
  have : c = 17 ∨ c = 18 ∨ c = 19 ∨ c = 34 ∨ c = 35 ∨ c = 51 := by omega
  rcases this with rfl | rfl | rfl | rfl | rfl | rfl <;> decide +kernel
 ·intro h
  cases hk : okS (zF z8 c).1 (zF z8 c).2.1 with
  | false => rfl
  | true =>
   have he := qiH hk
   have hk2 := hk
   simp [okS] at hk2
   rw [show c / 16 = (zF z8 c).1 from by omega, show c % 16 = (zF z8 c).2.1 from by omega, hk] at h
   cases h
theorem qn8 (b : List Int) : QE b = match (if (zU b).2 != 0 then none else match hit 1 2 (zU b).1 with
  | none => none
  | some (a1, m1) => match hit 2 4 m1 with
   | none => none
   | some (a2, m2) => match hit 3 1 m2 with
    | none => none
    | some (a3, m3) => match hit 4 1 m3 with
     | none => none
     | some (a4, m4) => some (a1, a2, a3, a4, m4)) with
  | none => ((QE b).1, false)
  | some (a1, a2, a3, a4, m) => ((a1, a2, a3 % 128, ((zF z8 a4).1, (zF z8 a4).2.1), decide (a3 ≥ 128), m), true) := by
 have key : ∀ r, (QE b).2 = false → r = ((QE b).1, false) → QE b = r := fun r h1 h2 => by rw [h2, ← h1]
 cases hb : ((zU b).2 != 0)
 ·simp only [Bool.false_eq_true, if_false]
  cases h1 : hit 1 2 (zU b).1 with
  | none =>
   refine key _ ?_ rfl
   unfold QE QY
   dsimp only
   rw [hb, qaf h1]
   simp only [qaN, Bool.not_true]
  | some p1 =>
   obtain ⟨a1, m1⟩ := p1
   dsimp only
   cases h2 : hit 2 4 m1 with
   | none =>
    refine key _ ?_ rfl
    unfold QE QY
    dsimp only
    rw [hb, Qp h1]
    dsimp only
    rw [qaf h2]
    simp only [qaN, Bool.not_true]
   | some p2 =>
    obtain ⟨a2, m2⟩ := p2
    dsimp only
    cases h3 : hit 3 1 m2 with
    | none =>
     refine key _ ?_ rfl
     unfold QE QY
     dsimp only
     rw [hb, Qp h1]
     dsimp only
     rw [Qp h2]
     dsimp only
     rw [qaf h3]
     simp only [qaN, Bool.not_true]
    | some p3 =>
     obtain ⟨a3, m3⟩ := p3
     dsimp only
     cases h4 : hit 4 1 m3 with
     | none =>
      refine key _ ?_ rfl
      unfold QE QY
      dsimp only
      rw [hb, Qp h1]
      dsimp only
      rw [Qp h2]
      dsimp only
      rw [Qp h3]
      dsimp only
      rw [qaf h4, Bool.not_true]
     | some p4 =>
      obtain ⟨a4, m4⟩ := p4
      dsimp only
      unfold QE QY
      dsimp only
      rw [hb, Qp h1]
      dsimp only
      rw [Qp h2]
      dsimp only
      rw [Qp h3]
      dsimp only
      rw [Qp h4]
      rfl
 ·refine key _ ?_ rfl
  unfold QE QY
  dsimp only
  rw [hb]
  simp only [qaN, Bool.not_true]
theorem qgI : ∀ (items : LF) (k : Nat), items.length ≤ k → QN k (items.flatMap zX) = some items
 | [], k, _ => by cases k <;> rfl
 | x :: items, 0, h => by simp at h
 | x :: items, k + 1, h => by
  have ih := qgI items k (by simp at h; omega)
  have e : (x :: items).flatMap zX = x.1 :: ((x.2.length / 256 : Nat) : Int) :: ((x.2.length % 256 : Nat) : Int) :: (x.2 ++ items.flatMap zX) := by
   rw [List.flatMap_cons]; rfl
  rw [e, QN]
  have e2 : ((x.2.length / 256 : Nat) : Int) * 256 + ((x.2.length % 256 : Nat) : Int) = (x.2.length : Int) := by omega
  rw [e2, if_neg (by simp; omega)]
  rw [show (x.2.length : Int).toNat = x.2.length from rfl, List.drop_left, List.take_left, ih]
  rfl
theorem qnL (items : LF) : items.length ≤ (items.flatMap zX).length := by
 induction items with
 | nil => simp
 | cons x l ih => rw [List.flatMap_cons, List.length_append, qfu, List.length_cons]; omega
theorem qfU (items : LF) : zU (items.flatMap zX) = (items, 0) := by
 unfold zU
 rw [qgI items _ (qnL items)]
theorem Z3 {t n v : Int} (n1 : 1 ≤ n) (n7 : n ≤ 7) : itB t n v = zX (t, be n.toNat v) := by
 unfold itB zX
 dsimp only
 rw [zw]
 have e1 : ((n.toNat / 256 : Nat) : Int) = 0 := by omega
 have e2 : ((n.toNat % 256 : Nat) : Int) = n := by omega
 rw [e1, e2]
theorem qcj {t n v : Int} {m : LF} (n1 : 1 ≤ n) (h0 : 0 ≤ v) (h1 : v < 256 ^ n.toNat) : hit t n ((t, be n.toNat v) :: m) = some (v, m) := by
 rw [hit, if_pos (by simp [zw]; omega)]
 dsimp only
 rw [qiI _ _ h0 h1]
theorem qga (r : Int × Int × Int × (Int × Int) × Bool × LF) : QM r = (qaq r).flatMap zX := by
 unfold QM qaq
 rw [List.flatMap_append, Z3 (by omega) (by omega), Z3 (by omega) (by omega), Z3 (by omega) (by omega), Z3 (by omega) (by omega)]
 simp [List.flatMap_cons]
theorem qmM {r : Int × Int × Int × (Int × Int) × Bool × LF} (h : zu r = true) (hi : r.2.1 ≤ 4294967295) : QE (QM r) = (r, true) := by
 obtain ⟨id, inc, st, ⟨lo, hi'⟩, cut, bag⟩ := r
 obtain ⟨f1, f2, f3, f4, f5, f6, f7, f8⟩ := zy h
 dsimp only at f1 f2 f3 f4 f5 f6 f7 hi
 have hs := (ZP _ _).1 f7
 have e := qn8 (QM (id, inc, st, (lo, hi'), cut, bag))
 rw [qga, qfU] at e
 have hc : 0 ≤ qcW (id, inc, st, (lo, hi'), cut, bag) ∧ qcW (id, inc, st, (lo, hi'), cut, bag) < 256 := by
  unfold qcW
  dsimp only
  split <;> omega
 have w : qaq (id, inc, st, (lo, hi'), cut, bag) = (1, be (2 : Int).toNat id) :: (2, be (4 : Int).toNat inc) :: (3, be (1 : Int).toNat (qcW (id, inc, st, (lo, hi'), cut, bag))) :: (4, be (1 : Int).toNat (lo * 16 + hi')) :: bag := rfl
 rw [← qga, w] at e
 dsimp only at e
 rw [qcj (by omega) (by omega) (by simp; omega)] at e
 dsimp only at e
 rw [qcj (by omega) (by omega) (by simp; omega)] at e
 dsimp only at e
 rw [qcj (by omega) hc.1 (by simpa using hc.2)] at e
 dsimp only at e
 rw [qcj (by omega) (by omega) (by simp; omega)] at e
 rw [if_neg (by simp)] at e
 dsimp only at e
 rw [e]
 have o := (qfm (lo * 16 + hi') (by omega) (by omega)).1 (by rw [show (lo * 16 + hi') / 16 = lo from by omega, show (lo * 16 + hi') % 16 = hi' from by omega]; exact f7)
 rw [o, show (lo * 16 + hi') / 16 = lo from by omega, show (lo * 16 + hi') % 16 = hi' from by omega]
 dsimp only
 have s1 : qcW (id, inc, st, (lo, hi'), cut, bag) % 128 = st := by
  unfold qcW
  dsimp only
  split <;> omega
 have s2 : decide (qcW (id, inc, st, (lo, hi'), cut, bag) ≥ 128) = cut := by
  unfold qcW
  dsimp only
  cases cut
  ·simp; omega
  ·simp; omega
 rw [s1, s2]
theorem qhY : ∀ r : LR, (∀ x ∈ r, zu x = true ∧ x.2.1 ≤ 4294967295) → qbv (r.map fun x => ((7 : Int), QM x)) = some r
 | [], _ => rfl
 | x :: r, h => by
  obtain ⟨h1, h2⟩ := h x (by simp)
  rw [List.map_cons, qbv, qhY r fun y hy => h y (by simp [hy])]
  dsimp only
  rw [qmM h1 h2]
  rfl
theorem qhy {qh qv inc lo hi seq qk qQ qB qc : Int} {qg : LR} (h : qR qh qv inc lo hi seq qk qQ qB qc qg = true) :
  (qt qh 0 = false → seq = 0) ∧ (qt qh 1 = false → qk = 0) := by
 unfold qR at h
 have h1 : ((ofF qh).1.toList == (⟨#[]⟩ : ByteArray).toList || (decide (qv < 0) || (decide (qv > 4095) || (decide (inc < 0) || (decide (inc > 281474976710655) || !okS lo hi))))) = false := by
  cases hc : ((ofF qh).1.toList == (⟨#[]⟩ : ByteArray).toList || (decide (qv < 0) || (decide (qv > 4095) || (decide (inc < 0) || (decide (inc > 281474976710655) || !okS lo hi))))) with
  | false => rfl
  | true => rw [hc] at h; cases h
 rw [h1] at h
 have h2 : (!zH (qt qh 0) seq 0 65535 || (!zH (qt qh 1) qk (if qh == 3 then 1 else 0) (if qh == 3 then 3 else 4095) || !ZF qh qQ qB qc)) = false := by
  cases hc : (!zH (qt qh 0) seq 0 65535 || (!zH (qt qh 1) qk (if qh == 3 then 1 else 0) (if qh == 3 then 3 else 4095) || !ZF qh qQ qB qc)) with
  | false => rfl
  | true => rw [hc] at h; cases h
 simp only [Bool.or_eq_false_iff, Bool.not_eq_false'] at h2
 obtain ⟨c1, c2, c3⟩ := h2
 constructor
 ·intro h0
  rw [h0] at c1
  simpa [zH] using c1
 ·intro h0
  rw [h0] at c2
  simpa [zH] using c2
def qh9 (qh qv inc lo hi seq qk : Int) (qg : LR) : LF :=
 (1, be (1 : Int).toNat qh) :: (2, be (2 : Int).toNat qv) :: (3, be (6 : Int).toNat inc) :: (4, be (1 : Int).toNat (lo * 16 + hi)) :: ((if qt qh 0 then [((5 : Int), be (2 : Int).toNat seq)] else []) ++ ((if qt qh 1 then [((6 : Int), be (2 : Int).toNat qk)] else []) ++ qg.map fun x => ((7 : Int), QM x)))
theorem qkJ (qh qv inc lo hi seq qk : Int) (qg : LR) : ZQ qh qv inc lo hi seq qk qg = (qh9 qh qv inc lo hi seq qk qg).flatMap zX := by
 unfold ZQ qh9
 rw [Z3 (by omega) (by omega), Z3 (by omega) (by omega), Z3 (by omega) (by omega), Z3 (by omega) (by omega)]
 simp only [List.flatMap_cons, List.flatMap_append, List.append_assoc]
 have e : qg.flatMap qdq = (qg.map fun x => ((7 : Int), QM x)).flatMap zX := by
  rw [List.flatMap_map]
  rfl
 rw [e]
 cases qt qh 0 <;> cases qt qh 1 <;> simp [Z3 (t := 5) (n := 2), Z3 (t := 6) (n := 2)]
theorem qoL {qh qv inc lo hi seq qk : Int} {qg : LR} (hv : qR qh qv inc lo hi seq qk 0 0 0 qg = true) (h9 : qh ≠ 9) (hf : qbS qg = true) (hlen : (ZQ qh qv inc lo hi seq qk qg).length ≤ 65499) :
  zO (ZQ qh qv inc lo hi seq qk qg) = (qh, qv, inc, lo, hi, seq, qk, qg, 0) := by
 obtain ⟨v1, v2, v3, v4, v5, v6, v7, v8, v9, v10, v11, _, v12, v13⟩ := Ql hv
 have hs := (ZP _ _).1 v7
 obtain ⟨z0, z1⟩ := qhy hv
 have hP : qlX (ZQ qh qv inc lo hi seq qk qg) = some (qh, qv, inc, lo * 16 + hi, seq, qk, qg.map fun x => ((7 : Int), QM x)) := by
  have hsp : zU (ZQ qh qv inc lo hi seq qk qg) = (qh9 qh qv inc lo hi seq qk qg, 0) := by rw [qkJ, qfU]
  unfold qlX
  rw [if_neg (by rw [hsp]; simp; omega), hsp]
  dsimp only
  unfold qh9
  rw [qcj (by omega) (by omega) (by simp; omega)]
  dsimp only
  rw [qcj (by omega) (by omega) (by simp; omega)]
  dsimp only
  rw [qcj (by omega) (by omega) (by simp; omega)]
  dsimp only
  rw [qcj (by omega) (by omega) (by simp; omega)]
  dsimp only
  have hq : qcS (qt qh 0) 5 ((if qt qh 0 then [((5 : Int), be (2 : Int).toNat seq)] else []) ++ ((if qt qh 1 then [((6 : Int), be (2 : Int).toNat qk)] else []) ++ qg.map fun x => ((7 : Int), QM x))) = some (seq, (if qt qh 1 then [((6 : Int), be (2 : Int).toNat qk)] else []) ++ qg.map fun x => ((7 : Int), QM x)) := by
   cases h : qt qh 0
   ·simp [qcS, z0 h]
   ·simp only [qcS, if_true, List.singleton_append]
    exact qcj (by omega) (by omega) (by simp; omega)
  have ht : qcS (qt qh 1) 6 ((if qt qh 1 then [((6 : Int), be (2 : Int).toNat qk)] else []) ++ qg.map fun x => ((7 : Int), QM x)) = some (qk, qg.map fun x => ((7 : Int), QM x)) := by
   cases h : qt qh 1
   ·simp [qcS, z1 h]
   ·simp only [qcS, if_true, List.singleton_append]
    exact qcj (by omega) (by omega) (by simp; omega)
  rw [hq]
  dsimp only
  rw [ht]
 rw [qoi, hP]
 dsimp only
 have o := (qfm (lo * 16 + hi) (by omega) (by omega)).1 (by rw [show (lo * 16 + hi) / 16 = lo from by omega, show (lo * 16 + hi) % 16 = hi from by omega]; exact v7)
 rw [o, qhY qg fun x hx => ⟨v13 x hx, qhl _ hf x hx⟩, show (lo * 16 + hi) / 16 = lo from by omega, show (lo * 16 + hi) % 16 = hi from by omega]
 unfold qgh
 dsimp only
 have hz := qiZ hv
 have : qaH qh qv inc lo hi seq qk 0 0 0 qg = true := by
  unfold qaH
  rw [hv, hz, if_neg, hf]
  simp [h9]
  omega
 rw [this]
 rfl
def qcv (l : LR) : Prop := ∀ r ∈ l, ∀ x ∈ r.2.2.2.2.2, ∀ c ∈ x.2, 0 ≤ c ∧ c ≤ 255
theorem qec {x : Int × List Int} (h1 : 0 ≤ x.1) (h2 : x.1 ≤ 255) (h3 : x.2.length ≤ 65535) (h4 : ∀ c ∈ x.2, 0 ≤ c ∧ c ≤ 255) : ∀ c ∈ zX x, 0 ≤ c ∧ c ≤ 255 := by
 intro c hc
 unfold zX at hc
 simp at hc
 rcases hc with rfl | rfl | rfl | hc
 ·omega
 ·omega
 ·omega
 ·exact h4 c hc
theorem qao {t n v : Int} (t0 : 0 ≤ t) (t1 : t ≤ 255) (n1 : 1 ≤ n) (n7 : n ≤ 7) : ∀ c ∈ itB t n v, 0 ≤ c ∧ c ≤ 255 := by
 rw [Z3 n1 n7]
 exact qec t0 t1 (by rw [zw]; omega) (fun c hc => qij _ _ c hc)
theorem qhj {α : Type} {l : List α} {f : α → List Int} {Q : Int → Prop} (h : ∀ x ∈ l, ∀ c ∈ f x, Q c) : ∀ c ∈ l.flatMap f, Q c := by
 intro c hc
 obtain ⟨x, hx, hc⟩ := List.mem_flatMap.1 hc
 exact h x hx c hc
theorem qlZ {r : Int × Int × Int × (Int × Int) × Bool × LF} (h : zu r = true) : (QM r).length ≤ 5000 := by
 have hb := Zv (zy h).2.2.2.2.2.2.2.1
 have := qgf r.2.2.2.2.2
 unfold QM
 simp only [List.length_append, itB, List.length_cons, zw]
 omega
theorem qj3 {r : Int × Int × Int × (Int × Int) × Bool × LF} (h : zu r = true) (hb : ∀ x ∈ r.2.2.2.2.2, ∀ c ∈ x.2, 0 ≤ c ∧ c ≤ 255) : ∀ c ∈ QM r, 0 ≤ c ∧ c ≤ 255 := by
 have ht := qbn (zy h).2.2.2.2.2.2.2.1
 intro c hc
 unfold QM at hc
 simp only [List.mem_append] at hc
 rcases hc with hc | hc | hc | hc | hc
 ·exact qao (by omega) (by omega) (by omega) (by omega) c hc
 ·exact qao (by omega) (by omega) (by omega) (by omega) c hc
 ·exact qao (by omega) (by omega) (by omega) (by omega) c hc
 ·exact qao (by omega) (by omega) (by omega) (by omega) c hc
 ·exact qhj (fun x hx => qec (by have := ht x hx; omega) (ht x hx).2.1 (by have := ht x hx; omega) (hb x hx)) c hc
theorem qkK {qh qv inc lo hi seq qk : Int} {qg : LR} (hr : ∀ x ∈ qg, zu x = true) (hb : qcv qg) : ∀ c ∈ ZQ qh qv inc lo hi seq qk qg, 0 ≤ c ∧ c ≤ 255 := by
 intro c hc
 unfold ZQ at hc
 simp only [List.mem_append] at hc
 rcases hc with hc | hc | hc | hc | hc | hc | hc
 ·exact qao (by omega) (by omega) (by omega) (by omega) c hc
 ·exact qao (by omega) (by omega) (by omega) (by omega) c hc
 ·exact qao (by omega) (by omega) (by omega) (by omega) c hc
 ·exact qao (by omega) (by omega) (by omega) (by omega) c hc
 ·split at hc
  ·exact qao (by omega) (by omega) (by omega) (by omega) c hc
  ·simp at hc
 ·split at hc
  ·exact qao (by omega) (by omega) (by omega) (by omega) c hc
  ·simp at hc
 ·exact qhj (fun x hx => qec (x := (7, QM x)) (by simp) (by simp) (by have := qlZ (hr x hx); dsimp only; omega) (qj3 (hr x hx) (hb x hx))) c hc
theorem qka {qh qv inc lo hi seq qk qQ qB qc : Int} {qg : LR} (h : qif qh qv inc lo hi seq qk qQ qB qc qg = true) :
  qR qh qv inc lo hi seq qk qQ qB qc qg = true ∧ qh ≠ 9 ∧ qQ = 0 ∧ qB = 0 ∧ qc = 0 ∧ qbS qg = true ∧ (ZQ qh qv inc lo hi seq qk qg).length ≤ 65499 := by
 unfold qif at h
 split at h
 ·cases h
 rename_i c
 split at h
 ·cases h
 rename_i c2
 simp at c c2 h
 exact ⟨c.1, c.2.1, c.2.2.1, c.2.2.2.1, c.2.2.2.2, c2, by omega⟩
abbrev REC := Int × Int × Int × (Int × Int) × Bool × LF
theorem ZK : BIG = (BIG - 1) + 1 := by rw [Z4]
def viF : Nat → Int → List Int
 | 0, v => [v]
 | k + 1, v => if v ≥ 128 then (v % 128 + 128) :: viF k (v / 128) else [v]
def vi (v : Int) : List Int := viF 9 v
theorem qmS : (List.range 256).all (fun n => bits BinOp.or .u8 (n : Int) 128 == (n : Int) % 128 + 128) = true := by kernel_rfl
theorem qoF (c : Int) (h0 : 0 ≤ c) (h1 : c < 256) : bits BinOp.or .u8 c 128 = c % 128 + 128 := by
 have := List.all_eq_true.1 qmS c.toNat (by simp; omega)
 rw [show ((c.toNat : Nat) : Int) = c from by omega] at this
 simpa using this
theorem qhw (n : Int) : IntKind.wrap .u8 n = n % 256 := by
 simp [IntKind.wrap, IntKind.signed, IntKind.bits]
theorem Of.loop (qa : Nat) (v : Int) : ∀ (j k : Nat) (x0 : Int) (x1 : List Int), 0 ≤ x0 → x0 < 128 ^ (j + 1) → j < k → x1.length + j < 1000 →
  zo.l2 qa v k x0 x1 = some (x1 ++ viF j x0) := by
 intro j
 induction j with
 | zero =>
  intro k x0 x1 h0 h1 hk hl
  obtain ⟨k, rfl⟩ : ∃ k', k = k' + 1 := ⟨k - 1, by omega⟩
  rw [zo.l2]
  unfold zo.b2
  rw [if_neg (by simp at h1 ⊢; omega), if_pos (by simp [lim]; omega), qhw, show x0 % 256 = x0 from by simp at h1; omega]
  rfl
 | succ j ih =>
  intro k x0 x1 h0 h1 hk hl
  obtain ⟨k, rfl⟩ : ∃ k', k = k' + 1 := ⟨k - 1, by omega⟩
  rw [zo.l2]
  unfold zo.b2
  rw [viF]
  by_cases hc : x0 ≥ 128
  ·rw [if_pos (by simpa using hc), if_pos (by simp [lim]; omega), if_pos hc, qhw, qoF _ (by omega) (by omega)]
   rw [show ((2 : Int) ^ (Min.min (Int.toNat (7 : Int)) (IntKind.bits .u64))) = 128 from rfl, Int.fdiv_eq_ediv_of_nonneg _ (by omega)]
   rw [ih k (x0 / 128) _ (by omega) (by rw [Int.pow_succ] at h1; generalize (128 : Int) ^ (j + 1) = M at h1 ⊢; omega) (by omega) (by simp; omega), show x0 % 256 % 128 = x0 % 128 from by omega]
   simp
  ·rw [if_neg (by simpa using hc), if_pos (by simp [lim]; omega), if_neg hc, qhw, show x0 % 256 = x0 from by omega]
theorem Of.pure (v : Int) (h0 : 0 ≤ v) (h1 : v < 18446744073709551616) : zo.f BIG v = some (vi v) := by
 unfold zo.f zo.b vi
 rw [Of.loop BIG v 9 BIG v [] h0 (by simp; omega) (by rw [Z4]; omega) (by simp)]
 rfl
theorem qkM : ∀ (j : Nat) (v : Int), 1 ≤ (viF j v).length ∧ (viF j v).length ≤ j + 1
 | 0, v => by simp [viF]
 | j + 1, v => by
  rw [viF]
  split
  ·have := qkM j (v / 128)
   simp; omega
  ·simp
theorem ZR (v : Int) : 1 ≤ (vi v).length ∧ (vi v).length ≤ 10 := qkM 9 v
theorem Raw.pure (l b : List Int) (h : l.length + b.length ≤ 1099511627776) : zJ.f BIG l b = some (l ++ b) := by
 unfold zJ.f zJ.b
 rw [if_pos (by simp [lim]; omega)]
theorem Z5 (n : Int) (h0 : 0 ≤ n) (h1 : n < 18446744073709551616) : IntKind.wrap .u64 n = n := by
 simp [IntKind.wrap, IntKind.signed, IntKind.bits]
 omega
theorem qht.loop (qa : Nat) (l0 vs : List Int) (hv : ∀ v ∈ vs, 0 ≤ v ∧ v < 9223372036854775808) (hn : vs.length < 1000) : ∀ (k i : Nat) (acc : List Int), i ≤ vs.length → vs.length - i < k → acc.length + 10 * (vs.length - i) ≤ 1099511627776 →
  qf.l2 qa l0 vs k (vs.length : Int) (i : Int) acc = some (acc ++ (vs.drop i).flatMap vi) := by
 intro k
 induction k with
 | zero => intro i acc h1 h2; omega
 | succ k ih =>
  intro i acc h1 h2 h3
  rw [qf.l2]
  unfold qf.b2
  simp only [veil_eq]
  by_cases hi : i < vs.length
  ·rw [if_pos (by simp; omega), Qn, List.getElem?_eq_getElem hi]
   dsimp only
   obtain ⟨v0, v1⟩ := hv vs[i] (List.getElem_mem hi)
   have hl := ZR vs[i]
   rw [Z5 _ v0 (by omega), Of.pure _ v0 (by omega)]
   dsimp only
   rw [Raw.pure _ _ (by omega)]
   dsimp only
   rw [qK _ (by omega) (by omega), show ((i : Int) + 1) = ((i + 1 : Nat) : Int) from by omega, ih (i + 1) _ (by omega) (by omega) (by simp; omega), List.drop_eq_getElem_cons hi, List.flatMap_cons]
   simp
  ·rw [if_neg (by simp; omega), List.drop_of_length_le (by omega)]
   simp
theorem qht.pure (l vs : List Int) (hv : ∀ v ∈ vs, 0 ≤ v ∧ v < 9223372036854775808) (hn : vs.length < 1000) (hl : l.length + 10 * vs.length ≤ 1099511627776) : qf.f BIG l vs = some (l ++ vs.flatMap vi) := by
 unfold qf.f qf.b
 exact qht.loop BIG l vs hv hn BIG 0 l (by omega) (by rw [Z4]; omega) (by omega)
def qar (n : Int) : Int := if n ≥ 0 then 2 * n else -2 * n - 1
theorem qnk (a : Int) (h0 : 0 ≤ a) (h1 : a < 18446744073709551616) : bits BinOp.xor .u64 a 0 = a := by
 have e : bits BinOp.xor .u64 a 0 = IntKind.wrap .u64 ((BitVec.ofInt 64 a ^^^ 0#64).toNat : Int) := rfl
 rw [e, BitVec.xor_zero, BitVec.toNat_ofInt, Z5]
 ·omega
 ·omega
 ·omega
theorem qnl (a : Int) (h0 : 0 ≤ a) (h1 : a < 18446744073709551616) : bits BinOp.xor .u64 a 18446744073709551615 = 18446744073709551615 - a := by
 have e : bits BinOp.xor .u64 a 18446744073709551615 = IntKind.wrap .u64 ((BitVec.ofInt 64 a ^^^ BitVec.ofInt 64 18446744073709551615).toNat : Int) := rfl
 rw [e, show BitVec.ofInt 64 18446744073709551615 = BitVec.allOnes 64 from by decide +kernel, BitVec.xor_allOnes, BitVec.toNat_not, BitVec.toNat_ofInt, Z5]
 ·omega
 ·omega
 ·omega
theorem Zig.pure (n : Int) (h0 : -4611686018427387904 ≤ n) (h1 : n < 4611686018427387904) : Q8.f BIG n = some (qar n) := by
 unfold Q8.f Q8.b qar
 rw [show ((2 : Int) ^ (Min.min (Int.toNat (1 : Int)) (IntKind.bits .u64))) = 2 from rfl, show ((2 : Int) ^ (Min.min (Int.toNat (63 : Int)) (IntKind.bits .i64))) = 9223372036854775808 from by decide +kernel, Int.fdiv_eq_ediv_of_nonneg _ (by omega)]
 by_cases h : n ≥ 0
 ·rw [if_pos h, show n / 9223372036854775808 = 0 from by omega, Z5 n (by omega) (by omega), Z5 _ (by omega) (by omega), Z5 0 (by omega) (by omega), qnk _ (by omega) (by omega)]
  congr 1
  omega
 ·rw [if_neg h, show n / 9223372036854775808 = -1 from by omega]
  have e1 : IntKind.wrap .u64 n = n + 18446744073709551616 := by simp [IntKind.wrap, IntKind.signed, IntKind.bits]; omega
  have e2 : IntKind.wrap .u64 ((n + 18446744073709551616) * 2) = 2 * n + 18446744073709551616 := by simp [IntKind.wrap, IntKind.signed, IntKind.bits]; omega
  have e3 : IntKind.wrap .u64 (-1) = 18446744073709551615 := by decide +kernel
  rw [e1, e2, e3, qnl _ (by omega) (by omega)]
  congr 1
  omega
theorem One.pure (t : Int) (d : List Int) (h : d.length ≤ 1099511627776) : Z7.f BIG t d = some (t, d) := by
 unfold Z7.f Z7.b
 rw [if_pos (by simp; omega), if_pos (by simp)]
 simp
theorem qnW.loop (qa : Nat) (b : LF) (b2 : ∀ x ∈ b, x.2.length ≤ 1000000) (hn : b.length < 1000000000) : ∀ (k i : Nat) (acc : LF), i ≤ b.length → b.length - i < k → acc.length ≤ i →
  zD.l3 qa b k (b.length : Int) (i : Int) acc = some (acc ++ b.drop i) := by
 intro k
 induction k with
 | zero => intro i acc h1 h2; omega
 | succ k ih =>
  intro i acc h1 h2 h3
  rw [zD.l3]
  unfold zD.b3
  simp only [veil_eq]
  by_cases hi : i < b.length
  ·rw [if_pos (by simp; omega), Qn, List.getElem?_eq_getElem hi]
   dsimp only
   have hx := b2 b[i] (List.getElem_mem hi)
   rw [One.pure _ _ (by omega)]
   dsimp only
   rw [if_pos (by simp [lim]; omega), qK _ (by omega) (by omega), show ((i : Int) + 1) = ((i + 1 : Nat) : Int) from by omega, ih (i + 1) _ (by omega) (by omega) (by simp; omega), List.drop_eq_getElem_cons hi]
   simp only [List.append_assoc, List.singleton_append]
  ·rw [if_neg (by simp; omega), List.drop_of_length_le (by omega)]
   simp
theorem qnW.pure (b : LF) (hb : ∀ x ∈ b, x.2.length ≤ 1000000) (hn : b.length < 1000000000) : zD.f BIG b = some b := by
 unfold zD.f zD.b
 have := qnW.loop BIG b hb hn BIG 0 [] (by omega) (by rw [Z4]; omega) (by simp)
 rw [show ((0 : Nat) : Int) = 0 from rfl] at this
 rw [this]
 simp
theorem qoQ.pure (r : REC) (hb : ∀ x ∈ r.2.2.2.2.2, x.2.length ≤ 1000000) (hn : r.2.2.2.2.2.length < 1000000000) : Zu.f BIG r.1 r.2.1 r.2.2.1 r.2.2.2.1.1 r.2.2.2.1.2 r.2.2.2.2.1 r.2.2.2.2.2 = some (r.1, r.2.1, r.2.2.1, r.2.2.2.1.1, r.2.2.2.1.2, r.2.2.2.2.1, r.2.2.2.2.2) := by
 unfold Zu.f Zu.b
 rw [veil_eq, qnW.pure _ hb hn]
theorem qoy.loop (qa : Nat) (l : LR) (id : Int) (hn : l.length < 1000000000) : ∀ (k i : Nat), i ≤ l.length → l.length - i < k →
  qG.l2 qa l id k (l.length : Int) (i : Int) id = some (((i + (l.drop i).findIdx (fun r => r.1 == id) : Nat) : Int), id) := by
 intro k
 induction k with
 | zero => intro i h1 h2; omega
 | succ k ih =>
  intro i h1 h2
  rw [qG.l2]
  unfold qG.b2
  simp only [veil_eq]
  by_cases hi : i < l.length
  ·rw [if_pos (by simp; omega), Qn, List.getElem?_eq_getElem hi]
   dsimp only
   rw [show Zl.f BIG l[i].1 l[i].2.1 l[i].2.2.1 l[i].2.2.2.1.1 l[i].2.2.2.1.2 l[i].2.2.2.2.1 l[i].2.2.2.2.2 id = some ((l[i].1 == id), id) from rfl]
   dsimp only
   rw [List.drop_eq_getElem_cons hi, List.findIdx_cons]
   cases hc : (l[i].1 == id)
   ·rw [if_neg (by simp), qK _ (by omega) (by omega), show ((i : Int) + 1) = ((i + 1 : Nat) : Int) from by omega, ih (i + 1) (by omega) (by omega)]
    simp only [cond_false]
    congr 2
    omega
   ·rw [if_pos rfl]
    simp
  ·rw [if_neg (by simp; omega), List.drop_of_length_le (by omega)]
   simp
   omega
def zt (qc : LR) (id : Int) : REC × Bool :=
 match qc.find? (fun r => r.1 == id) with
 | some r => (r, true)
 | none => ((0, 0, 0, (0, 0), false, []), false)
theorem qnN (l : LR) (id : Int) : l.find? (fun r => r.1 == id) = l[l.findIdx (fun r => r.1 == id)]? := by
 induction l with
 | nil => rfl
 | cons x l ih =>
  rw [List.find?_cons, List.findIdx_cons]
  cases x.1 == id
  ·simp [ih]
  ·simp
def qkb (l : LR) : Prop := l.length < 1000000000 ∧ ∀ r ∈ l, r.2.2.2.2.2.length < 1000000000 ∧ ∀ x ∈ r.2.2.2.2.2, x.2.length ≤ 1000000
theorem qnV.pure (l : LR) (id : Int) (hl : qkb l) :
  ZC.f BIG l id = some ((zt l id).1.1, (zt l id).1.2.1, (zt l id).1.2.2.1, (zt l id).1.2.2.2.1.1, (zt l id).1.2.2.2.1.2, (zt l id).1.2.2.2.2.1, (zt l id).1.2.2.2.2.2, (zt l id).2) := by
 obtain ⟨hn, l2⟩ := hl
 unfold ZC.f ZC.b
 simp only [veil_eq]
 have hw : qG.f BIG l id = some (((l.findIdx (fun r => r.1 == id) : Nat) : Int), id) := by
  unfold qG.f qG.b
  have := qoy.loop BIG l id hn BIG 0 (by omega) (by rw [Z4]; omega)
  rw [show ((0 : Nat) : Int) = 0 from rfl] at this
  rw [this]
  simp
 rw [hw]
 dsimp only
 unfold zt
 rw [qnN]
 by_cases hi : l.findIdx (fun r => r.1 == id) < l.length
 ·rw [if_neg (by simp; omega), Qn, List.getElem?_eq_getElem hi]
  dsimp only
  have hm := List.getElem_mem hi
  generalize l[l.findIdx (fun r => r.1 == id)] = r at hm ⊢
  rw [qoQ.pure r (l2 r hm).2 (l2 r hm).1]
 ·have : l.findIdx (fun r => r.1 == id) = l.length := by have := List.findIdx_le_length (xs := l) (p := fun r => r.1 == id); omega
  rw [if_pos (by rw [this]; simp), List.getElem?_eq_none (by omega)]
def hN (i : Nat) : Nat := (halves.getD i 0).toNat
def nib (r x : Nat) : Nat := (r * 16 % 4294967296) ^^^ hN ((r / 268435456) ^^^ x)
def qjx (r c : Nat) : Nat := nib (nib r (c / 16)) (c % 16)
theorem ql2 (i : Nat) : hN i < 4294967296 := by
 unfold hN
 rcases Nat.lt_or_ge i 16 with h | h
 ·have : ∀ i, i < 16 → (halves.getD i 0).toNat < 4294967296 := by decide
  exact this i h
 ·have : halves.getD i 0 = 0 := by
   show (halves[i]?).getD 0 = 0
   rw [List.getElem?_eq_none (by simpa [halves] using h)]; rfl
  rw [this]; decide
theorem qhu (a b n : Nat) (ha : a < 2 ^ n) (hb : b < 2 ^ n) : a ^^^ b < 2 ^ n := Nat.xor_lt_two_pow ha hb
theorem qjX (r x : Nat) : nib r x < 4294967296 := by
 unfold nib
 exact qhu _ _ 32 (by omega) (ql2 _)
theorem qmk (r x : Nat) (hr : r < 4294967296) (hx : x < 16) : (r / 268435456) ^^^ x < 16 := qhu _ _ 4 (by omega) hx
theorem qjF (r c : Nat) : qjx r c < 4294967296 := qjX _ _
def qkc (r : Nat) : List Nat → Nat
 | [] => r
 | c :: b => qkc (qjx r c) b
theorem qk1 (b : List Nat) : ∀ r, r < 4294967296 → qkc r b < 4294967296 := by
 induction b with
 | nil => intro r h; exact h
 | cons c b ih => intro r h; exact ih _ (qjF _ _)
def pv (top : Bool) : Nat → List Int → Option (Int × List Int)
 | _, [] => none
 | 0, c :: r => if c > 1 then none else if c = 0 then none else some (c, r)
 | k + 1, c :: r => if c < 128 then (if c = 0 ∧ top = false then none else some (c, r)) else
   match pv false k r with
   | some (v, s) => some (c - 128 + 128 * v, s)
   | none => none
theorem qnw : ∀ (k : Nat) (top : Bool) (l : List Int), (∀ c ∈ l, 0 ≤ c ∧ c ≤ 255) → ∀ v r, pv top k l = some (v, r) →
  l = viF k v ++ r ∧ 0 ≤ v ∧ v < 2 * 128 ^ k ∧ (top = false → 1 ≤ v) := by
 intro k
 induction k with
 | zero =>
  intro top l hb v r h
  cases l with
  | nil => rw [pv] at h; cases h
  | cons c l =>
   obtain ⟨c0, c1⟩ := hb c (List.mem_cons_self ..)
   rw [pv] at h
   split at h
   ·cases h
   ·split at h
    ·cases h
    ·cases h
     refine ⟨rfl, c0, by simp; omega, fun _ => by omega⟩
 | succ k ih =>
  intro top l hb v r h
  cases l with
  | nil => rw [pv] at h; cases h
  | cons c l =>
   obtain ⟨c0, c1⟩ := hb c (List.mem_cons_self ..)
   have hp : (1 : Int) ≤ 128 ^ k := Int.pow_pos (by decide)
   rw [pv] at h
   split at h
   ·rename_i hc
    split at h
    ·cases h
    ·rename_i hz
     have hz : ¬ (c = 0 ∧ top = false) := hz
     obtain ⟨rfl, rfl⟩ : c = v ∧ l = r := by cases h; exact ⟨rfl, rfl⟩
     refine ⟨?_, c0, ?_, fun ht => ?_⟩
     ·rw [viF, if_neg (by omega)]; rfl
     ·rw [Int.pow_succ]; generalize (128 : Int) ^ k = M at hp ⊢; omega
     ·by_cases hz' : c = 0
      ·exact absurd ⟨hz', ht⟩ hz
      ·omega
   ·rename_i hc
    split at h
    ·rename_i w s hw
     cases h
     obtain ⟨e, w0, w1, w2⟩ := ih false l (fun c h => hb c (List.mem_cons_of_mem _ h)) w _ hw
     have w2 := w2 rfl
     refine ⟨?_, by omega, ?_, fun _ => by omega⟩
     ·rw [viF, if_pos (by omega), show (c - 128 + 128 * w) % 128 + 128 = c from by omega, show (c - 128 + 128 * w) / 128 = w from by omega, e]; rfl
     ·rw [Int.pow_succ]; generalize (128 : Int) ^ k = M at hp w1 ⊢; omega
    ·cases h
theorem qoa : ∀ (k : Nat) (top : Bool) (v : Int) (r : List Int), 0 ≤ v → v < 2 * 128 ^ k → (top = false ∨ k = 0 → 1 ≤ v) → pv top k (viF k v ++ r) = some (v, r) := by
 intro k
 induction k with
 | zero =>
  intro top v r h0 h1 h2
  have := h2 (Or.inr rfl)
  simp at h1
  rw [viF]
  show pv top 0 (v :: r) = _
  rw [pv, if_neg (by omega), if_neg (by omega)]
 | succ k ih =>
  intro top v r h0 h1 h2
  rw [viF]
  have hp : (1 : Int) ≤ 128 ^ k := Int.pow_pos (by decide)
  by_cases hc : v ≥ 128
  ·rw [if_pos hc]
   show pv top (k + 1) ((v % 128 + 128) :: (viF k (v / 128) ++ r)) = _
   rw [pv, if_neg (by omega), ih false (v / 128) r (by omega) (by rw [Int.pow_succ] at h1; generalize (128 : Int) ^ k = M at hp h1 ⊢; omega) (fun _ => by omega)]
   show some (v % 128 + 128 - 128 + 128 * (v / 128), r) = _
   rw [show v % 128 + 128 - 128 + 128 * (v / 128) = v from by omega]
  ·rw [if_neg hc]
   show pv top (k + 1) (v :: r) = _
   rw [pv, if_pos (by omega), if_neg]
   intro ⟨a, b⟩
   have := h2 (Or.inl b)
   omega
def pV (l : List Int) : Option (Int × List Int) := pv true 9 l
theorem qjV {l : List Int} (hb : ∀ c ∈ l, 0 ≤ c ∧ c ≤ 255) {v : Int} {r : List Int} (h : pV l = some (v, r)) : l = vi v ++ r ∧ 0 ≤ v ∧ v < 18446744073709551616 := by
 obtain ⟨a, b, c, _⟩ := qnw 9 true l hb v r h
 exact ⟨a, b, by simpa using c⟩
theorem qob {v : Int} (r : List Int) (h0 : 0 ≤ v) (h1 : v < 18446744073709551616) : pV (vi v ++ r) = some (v, r) :=
 qoa 9 true v r h0 (by simpa using h1) (fun h => by simp at h)
theorem qme : (List.range 256).all (fun n => bits BinOp.and .u8 (n : Int) 127 == (n : Int) % 128) = true := by kernel_rfl
theorem qnc (c : Int) (h0 : 0 ≤ c) (h1 : c ≤ 255) : bits BinOp.and .u8 c 127 = c % 128 := by
 have := List.all_eq_true.1 qme c.toNat (by simp; omega)
 rw [show ((c.toNat : Nat) : Int) = c from by omega] at this
 simpa using this
theorem qkS (x y : Int) (m : Nat) (h0 : 0 ≤ x) (h1 : x < 2 ^ m) (y0 : 0 ≤ y) (hy : y * 2 ^ m < 18446744073709551616) (hx : x + y * 2 ^ m < 18446744073709551616) : bits BinOp.or .u64 x (y * 2 ^ m) = x + y * 2 ^ m := by
 obtain ⟨a, rfl⟩ := Int.eq_ofNat_of_zero_le h0
 obtain ⟨b, rfl⟩ := Int.eq_ofNat_of_zero_le y0
 have e2 : ((b : Int) * 2 ^ m) = ((b * 2 ^ m : Nat) : Int) := by simp
 rw [e2] at hy hx ⊢
 have h1' : a < 2 ^ m := by
  have : ((2 : Int) ^ m) = ((2 ^ m : Nat) : Int) := by simp
  rw [this] at h1
  exact Int.ofNat_lt.1 h1
 unfold bits
 dsimp only
 have b64 : IntKind.bits .u64 = 64 := rfl
 have t1 : (BitVec.ofInt (IntKind.bits .u64) (a : Int)).toNat = a := by
  rw [b64, BitVec.ofInt_natCast, BitVec.toNat_ofNat, Nat.mod_eq_of_lt (by omega)]
 have t2 : (BitVec.ofInt (IntKind.bits .u64) ((b * 2 ^ m : Nat) : Int)).toNat = b * 2 ^ m := by
  rw [b64, BitVec.ofInt_natCast, BitVec.toNat_ofNat, Nat.mod_eq_of_lt (by omega)]
 rw [BitVec.toNat_or, t1, t2]
 have t3 : a ||| b * 2 ^ m = a + b * 2 ^ m := by
  rw [Nat.or_comm, Nat.mul_comm, ← Nat.two_pow_add_eq_or_of_lt h1']
  omega
 rw [t3, Z5 _ (by omega) (by omega)]
 omega
theorem qkN : IntKind.bits .u64 = 64 := rfl
theorem Get.loop (qa : Nat) (b : List Int) (hb : ∀ c ∈ b, 0 ≤ c ∧ c ≤ 255) (hl : b.length < 1099511600000) : ∀ (j k : Nat) (i : Nat) (x : Int), i + j = 9 → j < k → i ≤ b.length → 0 ≤ x → x < 2 ^ (7 * i) →
  match pv (i == 0) j (b.drop i) with
  | some (v, r) => zf.l4 qa b k x (i : Int) = some (x + v * 2 ^ (7 * i), (b.length : Int) - (r.length : Int), 0)
  | none => ∃ e, (e = 2 ∨ e = 4) ∧ zf.l4 qa b k x (i : Int) = some (0, 0, e) := by
 intro j
 induction j with
 | zero =>
  intro k i x hi hk hle x0 x1
  obtain ⟨k, rfl⟩ : ∃ k', k = k' + 1 := ⟨k - 1, by omega⟩
  obtain rfl : i = 9 := by omega
  rw [zf.l4]
  unfold zf.b4
  rw [if_pos (by simp)]
  by_cases hlt : 9 < b.length
  ·rw [if_neg (by simp; omega), Qn, List.getElem?_eq_getElem hlt, ← List.getElem_cons_drop hlt]
   dsimp only
   obtain ⟨c0, c1⟩ := hb _ (List.getElem_mem hlt)
   have hd : (b.drop (9 + 1)).length = b.length - 10 := by simp
   generalize b[9] = c at c0 c1 ⊢
   generalize b.drop (9 + 1) = rest at hd ⊢
   rw [pv, show ((((9 : Nat)) : Int) == (9 : Int)) = true from rfl, if_pos (c := true = true) rfl]
   by_cases hc : c > 1
   ·rw [if_pos hc, if_pos (c := decide (c > 1) = true) (by simpa using hc)]
    exact ⟨4, Or.inr rfl, rfl⟩
   ·rw [if_neg hc, if_neg (c := decide (c > 1) = true) (by simpa using hc), if_neg (c := IntKind.wrap .i64 ((7 : Int) * ((9 : Nat) : Int)) < 0) (by decide), if_pos (c := decide (c < 128) = true) (by simp; omega)]
    by_cases hz : c = 0
    ·rw [if_pos hz, if_pos (c := (c == 0) = true) (by simpa using hz), if_pos (c := decide ((((9 : Nat)) : Int) > 0) = true) (by simp)]
     exact ⟨4, Or.inr rfl, rfl⟩
    ·rw [if_neg hz, if_neg (c := (c == 0) = true) (by simpa using hz)]
     obtain rfl : c = 1 := by omega
     dsimp only
     have e7 : Int.toNat (IntKind.wrap .i64 ((7 : Int) * ((9 : Nat) : Int))) = 63 := by decide
     rw [qnc 1 (by decide) (by decide), e7, qkN, show Min.min 63 64 = 63 from rfl, Z5 ((1 : Int) % 128) (by decide) (by decide), Z5 _ (by decide) (by decide), qkS x _ 63 x0 (by simpa using x1) (by decide) (by decide) (by simp at x1 ⊢; omega)]
     rw [qK _ (by omega) (by omega)]
     simp
     omega
  ·rw [if_pos (by simp; omega), List.drop_of_length_le (by omega), pv]
   exact ⟨2, Or.inl rfl, rfl⟩
 | succ j ih =>
  intro k i x hi hk hle x0 x1
  obtain ⟨k, rfl⟩ : ∃ k', k = k' + 1 := ⟨k - 1, by omega⟩
  rw [zf.l4]
  unfold zf.b4
  rw [if_pos (by simp; omega)]
  by_cases hlt : i < b.length
  ·rw [if_neg (by simp; omega), Qn, List.getElem?_eq_getElem hlt, ← List.getElem_cons_drop hlt]
   dsimp only
   obtain ⟨c0, c1⟩ := hb _ (List.getElem_mem hlt)
   have hd : (b.drop (i + 1)).length = b.length - (i + 1) := by simp
   have IH := ih k (i + 1)
   generalize b[i] = c at c0 c1 ⊢
   generalize b.drop (i + 1) = rest at hd IH ⊢
   have w7 : IntKind.wrap .i64 ((7 : Int) * (i : Int)) = ((7 * i : Nat) : Int) := by rw [qK _ (by omega) (by omega)]; omega
   have w1 : IntKind.wrap .i64 ((i : Int) + 1) = ((i + 1 : Nat) : Int) := by rw [qK _ (by omega) (by omega)]; omega
   have hm : Min.min (Int.toNat ((7 * i : Nat) : Int)) 64 = 7 * i := by rw [Int.toNat_natCast]; omega
   have hpos : (1 : Int) ≤ 2 ^ (7 * i) := Int.pow_pos (by decide)
   have hbig : (2 : Int) ^ (7 * i) ≤ 2 ^ 56 := by
    have : (2 : Nat) ^ (7 * i) ≤ 2 ^ 56 := Nat.pow_le_pow_right (by decide) (by omega)
    exact_mod_cast this
   have hs : (2 : Int) ^ (7 * (i + 1)) = 2 ^ (7 * i) * 128 := by rw [show 7 * (i + 1) = 7 * i + 7 from by omega, Int.pow_add]; rfl
   rw [pv, if_neg (c := ((i : Int) == 9) = true) (by simp; omega), w7, w1, qkN, hm, if_neg (c := ((7 * i : Nat) : Int) < 0) (by omega), qnc c c0 c1, Z5 (c % 128) (by omega) (by omega)]
   have hq : c % 128 * 2 ^ (7 * i) < 18446744073709551616 ∧ x + c % 128 * 2 ^ (7 * i) < 2 ^ (7 * i) * 128 ∧ 0 ≤ c % 128 * 2 ^ (7 * i) ∧ x + c % 128 * 2 ^ (7 * i) < 18446744073709551616 := by
    have a1 : c % 128 * 2 ^ (7 * i) ≤ 127 * 2 ^ (7 * i) := Int.mul_le_mul_of_nonneg_right (by omega) (by omega)
    have a2 : 0 ≤ c % 128 * 2 ^ (7 * i) := Int.mul_nonneg (by omega) (by omega)
    generalize c % 128 * 2 ^ (7 * i) = Q at a1 a2 ⊢
    generalize (2 : Int) ^ (7 * i) = M at a1 x1 hbig ⊢
    simp at hbig
    omega
   rw [Z5 _ hq.2.2.1 hq.1, qkS x _ (7 * i) x0 x1 (by omega) hq.1 hq.2.2.2]
   by_cases hc : c < 128
   ·rw [if_pos hc, if_pos (c := decide (c < 128) = true) (by simpa using hc)]
    by_cases hz : c = 0
    ·rw [if_pos (c := (c == 0) = true) (by simpa using hz)]
     by_cases hi0 : i = 0
     ·subst hi0
      rw [if_neg (c := decide ((((0 : Nat)) : Int) > 0) = true) (by simp), if_neg (by simp)]
      subst hz
      simp
      omega
     ·rw [if_pos (c := decide ((i : Int) > 0) = true) (by simp; omega), if_pos ⟨hz, by simpa using hi0⟩]
      exact ⟨4, Or.inr rfl, rfl⟩
    ·rw [if_neg (fun h => hz h.1), if_neg (c := (c == 0) = true) (by simpa using hz)]
     rw [show c % 128 = c from by omega]
     simp
     omega
   ·rw [if_neg hc, if_neg (c := decide (c < 128) = true) (by simpa using hc)]
    have := IH (x + c % 128 * 2 ^ (7 * i)) (by omega) (by omega) (by omega) (by omega) (by rw [hs]; exact hq.2.1)
    rw [show (i + 1 == 0) = false from rfl] at this
    split at this
    ·rename_i v r hv
     rw [this, hs]
     refine congrArg (fun z => some (z, _)) ?_
     rw [show c % 128 = c - 128 from by omega, Int.add_mul, show 128 * v * 2 ^ (7 * i) = v * (2 ^ (7 * i) * 128) from by rw [Int.mul_comm 128 v, Int.mul_assoc, Int.mul_comm 128]]
     omega
    ·exact this
  ·rw [if_pos (by simp; omega), List.drop_of_length_le (by omega), pv]
   exact ⟨2, Or.inl rfl, rfl⟩
theorem Get.pure (b : List Int) (hb : ∀ c ∈ b, 0 ≤ c ∧ c ≤ 255) (hl : b.length < 1099511600000) :
  match pV b with
  | some (v, r) => zf.f BIG b = some (v, (b.length : Int) - (r.length : Int), 0)
  | none => ∃ e, (e = 2 ∨ e = 4) ∧ zf.f BIG b = some (0, 0, e) := by
 have := Get.loop BIG b hb hl 9 BIG 0 0 rfl (by rw [Z4]; omega) (by omega) (by omega) (by simp)
 unfold zf.f zf.b pV
 simpa using this
def qaE (x : Int × List Int) : List Int := x.1 :: (vi (x.2.length : Int) ++ x.2)
def qa8 (b : LF) : List Int := vi (b.length : Int) ++ b.flatMap qaE
def qaX (o : REC × Bool) (r : REC) : Bool := o.2 && (o.1.2.2.2.1.1 == r.2.2.2.1.1 && o.1.2.2.2.1.2 == r.2.2.2.1.2)
def qbr (o : REC × Bool) (r : REC) : Bool := o.2 && (!r.2.2.2.2.1 && Zf o.1.2.2.2.2.2 r.2.2.2.2.2 == 0)
def qds (o : REC × Bool) (r : REC) : Int := r.2.2.1 + (if r.2.2.2.2.1 then 4 else 0) + (if qaX o r then 8 else 0) + (if qbr o r then 16 else 0)
def qcP (o : REC × Bool) (qe : Int) (r : REC) : List Int :=
 vi (r.1 - qe - 1) ++ (qds o r :: ((if qaX o r then [] else [r.2.2.2.1.1 * 16 + r.2.2.2.1.2]) ++ (vi (qar (r.2.1 - o.1.2.1)) ++ (if r.2.2.2.2.1 || qbr o r then [] else qa8 r.2.2.2.2.2))))
theorem qnM : (List.range 32).all (fun n => (bits BinOp.and .i64 (n : Int) 8 == if (n : Int) / 8 % 2 = 1 then 8 else 0) && ((bits BinOp.and .i64 (n : Int) 20 == if (n : Int) / 4 % 2 = 1 then (if (n : Int) / 16 = 1 then 20 else 4) else (if (n : Int) / 16 = 1 then 16 else 0)) && ((decide ((n : Int) ≥ 4) || (bits BinOp.or .i64 (n : Int) 4 == (n : Int) + 4)) && ((decide ((n : Int) ≥ 8) || (bits BinOp.or .i64 (n : Int) 8 == (n : Int) + 8)) && (decide ((n : Int) ≥ 16) || (bits BinOp.or .i64 (n : Int) 16 == (n : Int) + 16)))))) = true := by kernel_rfl
theorem qeY (v : Int) (h0 : 0 ≤ v) (h1 : v < 32) : (bits BinOp.and .i64 v 8 = if v / 8 % 2 = 1 then 8 else 0) ∧ (bits BinOp.and .i64 v 20 = if v / 4 % 2 = 1 then (if v / 16 = 1 then 20 else 4) else (if v / 16 = 1 then 16 else 0)) ∧ (v < 4 → bits BinOp.or .i64 v 4 = v + 4) ∧ (v < 8 → bits BinOp.or .i64 v 8 = v + 8) ∧ (v < 16 → bits BinOp.or .i64 v 16 = v + 16) := by
 have := List.all_eq_true.1 qnM v.toNat (by simp; omega)
 rw [show ((v.toNat : Nat) : Int) = v from by omega] at this
 simp only [Bool.and_eq_true, beq_iff_eq, Bool.or_eq_true, decide_eq_true_eq] at this
 obtain ⟨a, b, c, d, e⟩ := this
 exact ⟨a, b, fun h => c.resolve_left (by omega), fun h => d.resolve_left (by omega), fun h => e.resolve_left (by omega)⟩
theorem qeZ (v : Int) (h0 : 0 ≤ v) (h1 : v < 256) : zN 1 v = true := (qaS 1 v).2 ⟨by omega, by omega, h0, by simpa using h1⟩
theorem qgj (v : Int) (h0 : 0 ≤ v) (h1 : v < 256) : be (Int.toNat (1 : Int)) v = [v] := be1 v h0 h1
theorem qlS (l : List Int) (id inc st lo hi : Int) (cut : Bool) (bag : LF) (qe : Int) (qc : LR) (hb : ∀ x ∈ bag, 0 ≤ x.1 ∧ x.1 ≤ 255 ∧ x.2.length ≤ 1000000) (hn : bag.length < 1000000) :
  ∀ (k i : Nat) (acc : List Int), i ≤ bag.length → bag.length - i < k → acc.length + 2000000 * (bag.length - i) ≤ 1000000000000 →
  qd.l17 BIG l id inc st lo hi cut bag qe qc k (bag.length : Int) (i : Int) acc = some (acc ++ (bag.drop i).flatMap qaE) := by
 intro k
 induction k with
 | zero => intro i acc h1 h2; omega
 | succ k ih =>
  intro i acc h1 h2 h3
  rw [qd.l17_at BIG (k + 1) k rfl]
  unfold qd.b17
  simp only [veil_eq]
  by_cases hi' : i < bag.length
  ·rw [if_pos (by simp; omega), Qn, List.getElem?_eq_getElem hi']
   dsimp only
   obtain ⟨t0, t1, t2⟩ := hb bag[i] (List.getElem_mem hi')
   rw [List.drop_eq_getElem_cons hi', List.flatMap_cons]
   generalize bag[i] = x at t0 t1 t2 ⊢
   have hl := ZR (x.2.length : Int)
   rw [if_pos ⟨qeZ _ t0 (by omega), (qaQ _).2 (by omega)⟩, qgj _ t0 (by omega), qht.pure _ _ (by intro v hv; simp at hv; omega) (by simp) (by simp; omega)]
   dsimp only
   simp only [List.flatMap_cons, List.flatMap_nil, List.append_nil]
   rw [Raw.pure _ _ (by simp; omega)]
   dsimp only
   rw [qK _ (by omega) (by omega), show ((i : Int) + 1) = ((i + 1 : Nat) : Int) from by omega, ih (i + 1) _ (by omega) (by omega) (by simp; omega)]
   simp [qaE]
  ·rw [if_neg (by simp; omega), List.drop_of_length_le (by omega)]
   simp
theorem qnY (l : List Int) (id inc st lo hi : Int) (cut : Bool) (bag : LF) (qe : Int) (qc : LR) (v : Int) (acc : List Int) (a1 old a3 a4 a5 : Int) (a6 : Bool) (a7 : LF)
  (hb : ∀ x ∈ bag, 0 ≤ x.1 ∧ x.1 ≤ 255 ∧ x.2.length ≤ 1000000) (hn : bag.length < 10000) (hi0 : 0 ≤ inc) (hi1 : inc ≤ 281474976710655) (ho0 : 0 ≤ old) (ho1 : old ≤ 281474976710655) (hv0 : 0 ≤ v) (hv1 : v < 32) (hl : acc.length ≤ 100000000000) :
  qd.l13 BIG l id inc st lo hi cut bag qe qc BIG v acc a1 old a3 a4 a5 a6 a7 = some (acc ++ (vi (qar (inc - old)) ++ (if v / 4 % 2 = 1 ∨ v / 16 = 1 then [] else qa8 bag))) := by
 rw [qd.l13_at BIG BIG (BIG - 1) ZK]
 unfold qd.b13
 simp only [veil_eq]
 have hz : 0 ≤ qar (inc - old) ∧ qar (inc - old) < 1000000000000000000 := by unfold qar; split <;> omega
 have hlz := ZR (qar (inc - old))
 rw [qK _ (by omega) (by omega), Zig.pure _ (by omega) (by omega)]
 dsimp only
 rw [Of.pure _ hz.1 (by omega)]
 dsimp only
 rw [Raw.pure _ _ (by omega)]
 dsimp only
 rw [(qeY v hv0 hv1).2.1]
 by_cases h4 : v / 4 % 2 = 1
 ·rw [if_pos h4, if_pos (by split <;> decide), if_pos (.inl h4)]
  simp
 ·rw [if_neg h4]
  by_cases h16 : v / 16 = 1
  ·rw [if_pos h16, if_pos (by decide), if_pos (.inr h16)]
   simp
  ·rw [if_neg h16, if_neg (by decide), if_neg (by omega), qht.pure _ _ (by intro x hx; simp at hx; omega) (by simp) (by simp; omega)]
   dsimp only
   simp only [List.flatMap_cons, List.flatMap_nil, List.append_nil]
   have hlb := ZR (bag.length : Int)
   have := qlS l id inc st lo hi cut bag qe qc hb (by omega) BIG 0 (acc ++ vi (qar (inc - old)) ++ vi (bag.length : Int)) (by omega) (by rw [Z4]; omega) (by simp; omega)
   rw [show ((0 : Nat) : Int) = 0 from rfl, List.drop_zero] at this
   rw [this]
   simp [qa8]
theorem qoT (l : List Int) (id inc st lo hi : Int) (cut : Bool) (bag : LF) (qe : Int) (qc : LR) (v : Int) (a1 old a3 a4 a5 : Int) (a6 : Bool) (a7 : LF)
  (hb : ∀ x ∈ bag, 0 ≤ x.1 ∧ x.1 ≤ 255 ∧ x.2.length ≤ 1000000) (hn : bag.length < 10000) (hi0 : 0 ≤ inc) (hi1 : inc ≤ 281474976710655) (ho0 : 0 ≤ old) (ho1 : old ≤ 281474976710655) (hv0 : 0 ≤ v) (hv1 : v < 32) (hl : l.length ≤ 10000000000)
  (hs : okS lo hi = true) (hid : id ≤ 4095) (hlast : -1 ≤ qe) (hlt : qe < id) :
  qd.l9 BIG l id inc st lo hi cut bag qe qc BIG v a1 old a3 a4 a5 a6 a7 = some (l ++ (vi (id - qe - 1) ++ (v :: ((if v / 8 % 2 = 1 then [] else [lo * 16 + hi]) ++ (vi (qar (inc - old)) ++ (if v / 4 % 2 = 1 ∨ v / 16 = 1 then [] else qa8 bag)))))) := by
 rw [qd.l9_at BIG BIG (BIG - 1) ZK]
 unfold qd.b9
 simp only [veil_eq]
 have hlv := ZR (id - qe - 1)
 have hs' := (ZP _ _).1 hs
 rw [qK (id - qe) (by omega) (by omega), qK (id - qe - 1) (by omega) (by omega), qht.pure _ _ (by intro x hx; simp at hx; omega) (by simp) (by simp; omega)]
 dsimp only
 simp only [List.flatMap_cons, List.flatMap_nil, List.append_nil]
 rw [if_pos ⟨qeZ _ hv0 (by omega), (qaQ _).2 (by simp; omega)⟩, (qeY v hv0 hv1).1, qgj v hv0 (by omega), qdl hs]
 by_cases h8 : v / 8 % 2 = 1
 ·rw [if_pos h8, if_neg (by decide), qnY _ _ _ _ _ _ _ _ _ _ _ _ _ _ _ _ _ _ _ hb hn hi0 hi1 ho0 ho1 hv0 hv1 (by simp; omega), if_pos h8]
  simp
 ·rw [if_neg h8, if_pos (by decide), if_pos ⟨qeZ _ (by omega) (by omega), (qaQ _).2 (by simp; omega)⟩, qgj _ (by omega) (by omega), qnY _ _ _ _ _ _ _ _ _ _ _ _ _ _ _ _ _ _ _ hb hn hi0 hi1 ho0 ho1 hv0 hv1 (by simp; omega), if_neg h8]
  simp
theorem qhh {qc : LR} {id : Int} : (zt qc id).2 = false ∧ (zt qc id).1 = (0, 0, 0, (0, 0), false, []) ∨ (zt qc id).2 = true ∧ (zt qc id).1 ∈ qc ∧ (zt qc id).1.1 = id := by
 unfold zt
 cases h : qc.find? (fun r => r.1 == id) with
 | none => exact .inl ⟨rfl, rfl⟩
 | some r => exact .inr ⟨rfl, List.mem_of_find?_eq_some h, by have := List.find?_some h; simpa using this⟩
theorem qkX {qc : LR} (h : ∀ r ∈ qc, zu r = true) (hn : qc.length < 1000000000) : qkb qc := by
 refine ⟨hn, fun r hr => ?_⟩
 have hb := (zy (h r hr)).2.2.2.2.2.2.2.1
 have hl := Zv hb
 exact ⟨by omega, fun x hx => by have := qbn hb x hx; omega⟩
theorem put.pure (l : List Int) (r : REC) (qe : Int) (qc : LR) (hr : zu r = true) (Qo : ∀ x ∈ qc, zu x = true) (hbn : qc.length < 1000000000) (hlast : -1 ≤ qe) (hlt : qe < r.1) (hl : l.length ≤ 10000000000) :
  qd.f BIG l r.1 r.2.1 r.2.2.1 r.2.2.2.1.1 r.2.2.2.1.2 r.2.2.2.2.1 r.2.2.2.2.2 qe qc = some (l ++ qcP (zt qc r.1) qe r) := by
 obtain ⟨f1, f2, f3, f4, f5, f6, f7, f8, f9⟩ := zy hr
 have hbl := Zv f8
 have hbt := qbn f8
 have hb : ∀ x ∈ r.2.2.2.2.2, 0 ≤ x.1 ∧ x.1 ≤ 255 ∧ x.2.length ≤ 1000000 := fun x hx => by have := hbt x hx; omega
 have hold : 0 ≤ (zt qc r.1).1.2.1 ∧ (zt qc r.1).1.2.1 ≤ 281474976710655 ∧ zn (zt qc r.1).1.2.2.2.2.2 = true := by
  rcases qhh (qc := qc) (id := r.1) with ⟨_, h⟩ | ⟨_, h, _⟩
  ·rw [h]; exact ⟨by simp, by simp, rfl⟩
  ·have := zy (Qo _ h)
   have hb2 := Zv this.2.2.2.2.2.2.2.1
   exact ⟨this.2.2.1, this.2.2.2.1, (qas _).2 ⟨by omega, fun x hx => by have := qbn this.2.2.2.2.2.2.2.1 x hx; omega⟩⟩
 have hsb : zn r.2.2.2.2.2 = true := (qas _).2 ⟨by omega, fun x hx => by have := hbt x hx; omega⟩
 unfold qd.f qd.b
 simp only [veil_eq]
 rw [qnV.pure qc r.1 (qkX Qo hbn)]
 dsimp only
 unfold qcP qds qaX qbr
 generalize zt qc r.1 = o at hold ⊢
 obtain ⟨o0, o1, o2⟩ := hold
 -- what comes behind the first flag
 have h9 : ∀ v a1 a3 a4 a5 a6 a7, 0 ≤ v → v < 32 → qd.l9 BIG l r.1 r.2.1 r.2.2.1 r.2.2.2.1.1 r.2.2.2.1.2 r.2.2.2.2.1 r.2.2.2.2.2 qe qc BIG v a1 o.1.2.1 a3 a4 a5 a6 a7 = _ :=
  fun v a1 a3 a4 a5 a6 a7 hv0 hv1 => qoT l r.1 r.2.1 r.2.2.1 r.2.2.2.1.1 r.2.2.2.1.2 r.2.2.2.2.1 r.2.2.2.2.2 qe qc v a1 o.1.2.1 a3 a4 a5 a6 a7 hb (by omega) f3 f4 o0 o1 hv0 hv1 hl f7 f2 hlast hlt
 have h7 : ∀ v, 0 ≤ v → v < 16 → qd.l7 BIG l r.1 r.2.1 r.2.2.1 r.2.2.2.1.1 r.2.2.2.1.2 r.2.2.2.2.1 r.2.2.2.2.2 qe qc BIG o.2 v o.1.1 o.1.2.1 o.1.2.2.1 o.1.2.2.2.1.1 o.1.2.2.2.1.2 o.1.2.2.2.2.1 o.1.2.2.2.2.2 =
   qd.l9 BIG l r.1 r.2.1 r.2.2.1 r.2.2.2.1.1 r.2.2.2.1.2 r.2.2.2.2.1 r.2.2.2.2.2 qe qc BIG (v + if (o.2 && (!r.2.2.2.2.1 && Zf o.1.2.2.2.2.2 r.2.2.2.2.2 == 0)) = true then 16 else 0) o.1.1 o.1.2.1 o.1.2.2.1 o.1.2.2.2.1.1 o.1.2.2.2.1.2 o.1.2.2.2.2.1 o.1.2.2.2.2.2 := by
  intro v hv0 hv1
  rw [qd.l7_at BIG BIG (BIG - 1) ZK]
  unfold qd.b7
  cases o.2
  ·simp
  ·cases r.2.2.2.2.1
   ·simp only [Bool.not_false, if_true, o2, hsb, Bool.and_self, Bool.true_and]
    by_cases hc : Zf o.1.2.2.2.2.2 r.2.2.2.2.2 = 0
    ·simp only [hc, beq_self_eq_true, if_true]
     rw [(qeY v hv0 (by omega)).2.2.2.2 hv1]
    ·have : (Zf o.1.2.2.2.2.2 r.2.2.2.2.2 == 0) = false := by simpa using hc
     simp [this]
   ·simp
 have h5 : ∀ v, 0 ≤ v → v < 8 → qd.l5 BIG l r.1 r.2.1 r.2.2.1 r.2.2.2.1.1 r.2.2.2.1.2 r.2.2.2.2.1 r.2.2.2.2.2 qe qc BIG o.2 v o.1.1 o.1.2.1 o.1.2.2.1 o.1.2.2.2.1.1 o.1.2.2.2.1.2 o.1.2.2.2.2.1 o.1.2.2.2.2.2 =
   qd.l7 BIG l r.1 r.2.1 r.2.2.1 r.2.2.2.1.1 r.2.2.2.1.2 r.2.2.2.2.1 r.2.2.2.2.2 qe qc BIG o.2 (v + if (o.2 && (o.1.2.2.2.1.1 == r.2.2.2.1.1 && o.1.2.2.2.1.2 == r.2.2.2.1.2)) = true then 8 else 0) o.1.1 o.1.2.1 o.1.2.2.1 o.1.2.2.2.1.1 o.1.2.2.2.1.2 o.1.2.2.2.2.1 o.1.2.2.2.2.2 := by
  intro v hv0 hv1
  rw [qd.l5_at BIG BIG (BIG - 1) ZK]
  unfold qd.b5
  cases o.2
  ·simp
  ·cases h1 : (o.1.2.2.2.1.1 == r.2.2.2.1.1)
   ·simp
   ·cases h2 : (o.1.2.2.2.1.2 == r.2.2.2.1.2)
    ·simp
    ·simp only [if_true, Bool.and_self]
     rw [(qeY v hv0 (by omega)).2.2.2.1 hv1]
 have hst : ∀ A : Int → Option (List Int), (if r.2.2.2.2.1 then A (bits BinOp.or .i64 r.2.2.1 4) else A r.2.2.1) = A (r.2.2.1 + if r.2.2.2.2.1 then 4 else 0) := by
  intro A
  cases r.2.2.2.2.1
  ·simp
  ·simp only [if_true]
   rw [(qeY r.2.2.1 f5 (by omega)).2.2.1 (by omega)]
 rw [hst (fun v => qd.l5 BIG l r.1 r.2.1 r.2.2.1 r.2.2.2.1.1 r.2.2.2.1.2 r.2.2.2.2.1 r.2.2.2.2.2 qe qc BIG o.2 v o.1.1 o.1.2.1 o.1.2.2.1 o.1.2.2.2.1.1 o.1.2.2.2.1.2 o.1.2.2.2.2.1 o.1.2.2.2.2.2)]
 generalize hs1 : (o.2 && (o.1.2.2.2.1.1 == r.2.2.2.1.1 && o.1.2.2.2.1.2 == r.2.2.2.1.2)) = s1 at h5 ⊢
 generalize hs2 : (o.2 && (!r.2.2.2.2.1 && Zf o.1.2.2.2.2.2 r.2.2.2.2.2 == 0)) = s2 at h7 ⊢
 have hcut : s2 = true → r.2.2.2.2.1 = false := by
  intro h
  rw [← hs2] at h
  simp at h
  exact h.2.1
 rw [h5 _ (by split <;> omega) (by split <;> omega), h7 _ (by split <;> split <;> omega) (by split <;> split <;> omega), h9 _ _ _ _ _ _ _ (by split <;> split <;> split <;> omega) (by split <;> split <;> split <;> omega)]
 congr 2
 congr 1
 generalize r.2.2.2.2.1 = c at hcut ⊢
 generalize r.2.2.1 = st at f5 f6 ⊢
 have hst4 : st = 0 ∨ st = 1 ∨ st = 2 ∨ st = 3 := by omega
 cases c <;> cases s1 <;> cases s2 <;> rcases hst4 with rfl | rfl | rfl | rfl <;> first | rfl | simp at hcut
theorem qmi : ∀ (j k : Nat) (v : Int), 0 ≤ v → v < 128 ^ (k + 1) → (viF j v).length ≤ k + 1
 | 0, k, v, _, _ => by simp [viF]
 | j + 1, k, v, h0, h => by
  rw [viF]
  split
  ·rename_i hc
   cases k with
   | zero => simp at h; omega
   | succ k =>
    have := qmi j k (v / 128) (by omega) (by rw [Int.pow_succ] at h; generalize (128 : Int) ^ (k + 1) = M at h ⊢; omega)
    simp; omega
  ·simp
theorem qnX (k : Nat) (v : Int) (h0 : 0 ≤ v) (h : v < 128 ^ (k + 1)) : (vi v).length ≤ k + 1 := qmi 9 k v h0 h
def ZH (qc : LR) : Int → LR → List Int
 | _, [] => []
 | qe, r :: rs => qcP (zt qc r.1) qe r ++ ZH qc r.1 rs
def ql1 (qh qv inc lo hi seq qk qQ qB qc : Int) (n : Int) : List Int :=
 qh :: (vi qv ++ (vi inc ++ ((lo * 16 + hi) :: ((if qt qh 0 then vi seq else []) ++ ((if qt qh 1 then vi qk else []) ++ ((if qt qh 2 then vi qQ ++ vi qB else []) ++ ((if qt qh 3 then vi qc else []) ++ (if qt qh 4 then vi n else []))))))))
def qaT (qc : Int) (l : LR) : LR := if qc == 0 then [] else l
def qb5 (qh qv inc lo hi seq qk qQ qB qc : Int) (qg : LR) (l : LR) : List Int :=
 ql1 qh qv inc lo hi seq qk qQ qB qc (qg.length : Int) ++ ZH (qaT qc l) (-1) qg
theorem qnK {x : Int × List Int} (h : x.2.length ≤ 4096) : (qaE x).length ≤ 3 + x.2.length := by
 have := qnX 1 (x.2.length : Int) (by omega) (by simp; omega)
 simp [qaE]; omega
theorem qjf : ∀ (b : LF), (∀ x ∈ b, x.2.length ≤ 4096) → (((b.flatMap qaE).length : Nat) : Int) ≤ Zn b
 | [], _ => by simp [Zn]
 | x :: b, h => by
  have h1 := qnK (h x (by simp))
  have h2 := qjf b fun y hy => h y (by simp [hy])
  have e : Zn (x :: b) = 3 + x.2.length + Zn b := by simp [Zn]
  rw [List.flatMap_cons, List.length_append, e]
  omega
theorem qnU {b : LF} (h : qbo b = true) : ((qa8 b).length : Int) ≤ 1 + Zn b := by
 have hl := Zv h
 have ht := qbn h
 have h1 := qnX 0 (b.length : Int) (by omega) (by simp; omega)
 have h2 := qjf b fun x hx => (ht x hx).2.2
 unfold qa8
 rw [List.length_append]
 omega
def qek : Int → LR → Prop
 | _, [] => True
 | qe, r :: rs => qe < r.1 ∧ qek r.1 rs
theorem qhx : ∀ (l : LR) (i qe : Int), (qcE l i qe).1 = i + (l.length : Int) → qek qe l
 | [], _, _, _ => trivial
 | x :: l, i, qe, h => by
  unfold qcE at h
  split at h
  ·simp at h; omega
  ·rename_i hc
   simp only [Bool.or_eq_true, not_or, Bool.not_eq_true', Bool.not_eq_false] at hc
   exact ⟨by simpa using hc.2, qhx l (i + 1) x.1 (by simp only [List.length_cons] at h; omega)⟩
theorem qa4 {l : LR} (h : QC l = true) : (∀ r ∈ l, zu r = true) ∧ qek (-1) l := by
 unfold QC at h
 have h' : (qcE l 0 (-1)).1 = 0 + (l.length : Int) := by simpa using h
 exact ⟨qg1 l 0 (-1) h', qhx l 0 (-1) h'⟩
theorem qez {qh qQ qB qc : Int} (h : ZF qh qQ qB qc = true) : 0 ≤ qQ ∧ qQ ≤ 281474976710655 ∧ 0 ≤ qB ∧ qB ≤ 65535 ∧ 0 ≤ qc ∧ qc ≤ 65535 ∧ (qt qh 2 = false → qQ = 0 ∧ qB = 0) ∧ (qt qh 3 = false → qc = 0) ∧ (qc = 0 ∨ qc < qB) ∧ (qB = 0 → qQ = 0 ∧ qh ≠ 9) := by
 unfold ZF at h
 split at h
 ·cases h
 rename_i c1
 split at h
 ·cases h
 rename_i c2
 simp only [Bool.or_eq_true, Bool.not_eq_true', not_or, Bool.not_eq_false] at c1
 have w1 := qdU c1.1 (by omega)
 have w2 := qdU c1.2 (by omega)
 simp only [Bool.or_eq_true, Bool.and_eq_true, beq_iff_eq, decide_eq_true_eq, bne_iff_ne, ne_eq] at h c2
 refine ⟨w1.1, w1.2, w2.1, w2.2, by omega, by omega, ?_, ?_, by omega, ?_⟩
 ·intro h2
  rw [h2] at c1
  simp [zH] at c1
  exact ⟨c1.1, c1.2⟩
 ·intro h3
  rw [h3] at h
  simpa using h
 ·intro he
  refine ⟨?_, ?_⟩
  ·exact Classical.byContradiction fun hl => c2 ⟨he, .inl hl⟩
  ·exact fun hk => c2 ⟨he, .inr hk⟩
theorem qe1 {qh qv inc lo hi seq qk qQ qB qc : Int} {qg : LR} (h : qR qh qv inc lo hi seq qk qQ qB qc qg = true) :
  (qt qh 4 = false → qg = []) ∧ qek (-1) qg := by
 unfold qR at h
 have h1 : ((ofF qh).1.toList == (⟨#[]⟩ : ByteArray).toList || (decide (qv < 0) || (decide (qv > 4095) || (decide (inc < 0) || (decide (inc > 281474976710655) || !okS lo hi))))) = false := by
  cases hc : ((ofF qh).1.toList == (⟨#[]⟩ : ByteArray).toList || (decide (qv < 0) || (decide (qv > 4095) || (decide (inc < 0) || (decide (inc > 281474976710655) || !okS lo hi))))) with
  | false => rfl
  | true => rw [hc] at h; cases h
 rw [h1] at h
 have h2 : (!zH (qt qh 0) seq 0 65535 || (!zH (qt qh 1) qk (if qh == 3 then 1 else 0) (if qh == 3 then 3 else 4095) || !ZF qh qQ qB qc)) = false := by
  cases hc : (!zH (qt qh 0) seq 0 65535 || (!zH (qt qh 1) qk (if qh == 3 then 1 else 0) (if qh == 3 then 3 else 4095) || !ZF qh qQ qB qc)) with
  | false => rfl
  | true => rw [hc] at h; cases h
 rw [h2] at h
 simp only [Bool.false_eq_true, if_false] at h
 cases h4 : qt qh 4
 ·rw [h4] at h
  have : qg = [] := List.eq_nil_of_length_eq_zero (by simpa using h)
  subst this
  exact ⟨fun _ => rfl, trivial⟩
 ·rw [h4] at h
  simp at h
  exact ⟨by simp, (qa4 h.2).2⟩
theorem qnu {o : REC × Bool} {r : REC} {qe : Int} (hr : zu r = true) : (qcP o qe r).length ≤ 5000 := by
 obtain ⟨f1, f2, f3, f4, f5, f6, f7, f8, f9⟩ := zy hr
 have a1 := ZR (r.1 - qe - 1)
 have a2 := ZR (qar (r.2.1 - o.1.2.1))
 have a3 := qnU f8
 have a4 := Zv f8
 unfold qcP
 simp only [List.length_append, List.length_cons]
 have e1 : (if qaX o r = true then ([] : List Int) else [r.2.2.2.1.1 * 16 + r.2.2.2.1.2]).length ≤ 1 := by split <;> simp
 have e2 : (if (r.2.2.2.2.1 || qbr o r) = true then ([] : List Int) else qa8 r.2.2.2.2.2).length ≤ 4300 := by
  split
  ·simp
  ·omega
 omega
theorem qnC (qh qv inc lo hi seq qk qQ qB qc : Int) (qg l base' : LR) (hr : ∀ r ∈ qg, zu r = true) (hb : ∀ r ∈ base', zu r = true) (hbn : base'.length < 1000000000) (hn : qg.length ≤ 1000) :
  ∀ (k i : Nat) (qe : Int) (acc : List Int), i ≤ qg.length → qg.length - i < k → -1 ≤ qe → qek qe (qg.drop i) → acc.length + 5000 * (qg.length - i) ≤ 1000000000 →
  zv.l19 BIG qh qv inc lo hi seq qk qQ qB qc qg l k base' qe (qg.length : Int) (i : Int) acc = some (acc ++ ZH base' qe (qg.drop i)) := by
 intro k
 induction k with
 | zero => intro i qe acc h1 h2; omega
 | succ k ih =>
  intro i qe acc h1 h2 h3 h4 h5
  rw [zv.l19]
  unfold zv.b19
  simp only [veil_eq]
  by_cases hi' : i < qg.length
  ·rw [if_pos (by simp; omega), Qn, List.getElem?_eq_getElem hi']
   dsimp only
   have hm := hr qg[i] (List.getElem_mem hi')
   rw [List.drop_eq_getElem_cons hi'] at h4 ⊢
   generalize qg[i] = r at hm h4 ⊢
   obtain ⟨h6, h7⟩ := h4
   have hlen := qnu (o := zt base' r.1) (qe := qe) hm
   rw [put.pure acc r qe base' hm hb hbn h3 h6 (by omega)]
   dsimp only
   have hid := (zy hm).1
   rw [qK _ (by omega) (by omega), show ((i : Int) + 1) = ((i + 1 : Nat) : Int) from by omega, ih (i + 1) r.1 _ (by omega) (by omega) (by omega) h7 (by simp; omega)]
   simp [ZH]
  ·rw [if_neg (by simp; omega), List.drop_of_length_le (by omega), if_pos ((qaQ _).2 (by omega))]
   simp [ZH]
theorem qmW {qh : Int} (h1 : 1 ≤ qh) (h2 : qh ≤ 9) : zN 1 qh = true := qeZ qh (by omega) (by omega)
theorem qoP (l : List Int) (a : Int) (h0 : 0 ≤ a) (h1 : a < 9223372036854775808) (hl : l.length ≤ 1000000) : qf.f BIG l [a] = some (l ++ vi a) := by
 rw [qht.pure l [a] (by intro v hv; simp at hv; omega) (by simp) (by simp; omega)]
 simp
theorem qn2 (l : List Int) (a b : Int) (h0 : 0 ≤ a) (h1 : a < 9223372036854775808) (h2 : 0 ≤ b) (h3 : b < 9223372036854775808) (hl : l.length ≤ 1000000) : qf.f BIG l [a, b] = some (l ++ (vi a ++ vi b)) := by
 rw [qht.pure l [a, b] (by intro v hv; simp at hv; omega) (by simp) (by simp; omega)]
 simp
set_option maxHeartbeats 4000000 in
theorem lay.pure (qh qv inc lo hi seq qk qQ qB qc : Int) (qg l : LR) (hv : qR qh qv inc lo hi seq qk qQ qB qc qg = true) (hl : ∀ r ∈ l, zu r = true) (hln : l.length < 1000000000) :
  zv.f BIG qh qv inc lo hi seq qk qQ qB qc qg l = some (qb5 qh qv inc lo hi seq qk qQ qB qc qg l) := by
 obtain ⟨v1, v2, v3, v4, v5, v6, v7, v8, v9, v10, v11, v12, v13, v14⟩ := Ql hv
 obtain ⟨w1, w2, w3, w4, w5, w6, _⟩ := qez v12
 obtain ⟨_, hris⟩ := qe1 hv
 have hs := (ZP _ _).1 v7
 have n1 := ZR qv
 have n2 := ZR inc
 have n3 := ZR seq
 have n4 := ZR qk
 have n5 := ZR qQ
 have n6 := ZR qB
 have n7 := ZR qc
 have n8 := ZR (qg.length : Int)
 have hlp : ∀ (base' : LR) (hb : ∀ r ∈ base', zu r = true) (hbn : base'.length < 1000000000) (acc : List Int), acc.length ≤ 1000 → zv.l19 BIG qh qv inc lo hi seq qk qQ qB qc qg l BIG base' (-1) (qg.length : Int) 0 acc = some (acc ++ ZH base' (-1) qg) := by
  intro base' hb hbn acc ha
  have := qnC qh qv inc lo hi seq qk qQ qB qc qg l base' v14 hb hbn (by omega) BIG 0 (-1) acc (by omega) (by rw [Z4]; omega) (by omega) (by simpa using hris) (by omega)
  simpa using this
 have hb0 : ∀ acc : List Int, acc.length ≤ 1000 → zv.l19 BIG qh qv inc lo hi seq qk qQ qB qc qg l BIG [] (-1) (qg.length : Int) 0 acc = some (acc ++ ZH [] (-1) qg) := fun acc ha => hlp [] (by simp) (by simp) acc ha
 have hb1 : ∀ acc : List Int, acc.length ≤ 1000 → zv.l19 BIG qh qv inc lo hi seq qk qQ qB qc qg l BIG l (-1) (qg.length : Int) 0 acc = some (acc ++ ZH l (-1) qg) := fun acc ha => hlp l hl hln acc ha
 clear hlp
 unfold zv.f zv.b
 simp only [veil_eq]
 rw [qmW v1 v2, qgj qh (by omega) (by omega), qdl v7, qeZ (lo * 16 + hi) (by omega) (by omega), qgj (lo * 16 + hi) (by omega) (by omega), qn2 [qh] qv inc (by omega) (by omega) (by omega) (by omega) (by simp)]
 dsimp only
 have hro : QQ ([qh] ++ (vi qv ++ vi inc)) = true := (qaQ _).2 (by simp; omega)
 unfold qb5 ql1 qaT
 simp only [if_true, hro, and_self]
 cases hb : (qc == 0) <;> cases h0 : qt qh 0 <;> cases h1 : qt qh 1 <;> cases h2 : qt qh 2 <;> cases h3 : qt qh 3 <;> cases h4 : qt qh 4 <;>
  simp only [Bool.false_eq_true, if_false, if_true] <;>
  repeat (first | (rw [qoP _ _ (by omega) (by omega) (by simp; omega)]; dsimp only) | (rw [qn2 _ _ _ (by omega) (by omega) (by omega) (by omega) (by simp; omega)]; dsimp only))
 all_goals (first | rw [hb0 _ (by simp; omega)] | rw [hb1 _ (by simp; omega)])
 all_goals simp
def qcU (qh qv inc lo hi seq qk qQ qB qc : Int) (qg l : LR) : List Int × Int :=
 if qR qh qv inc lo hi seq qk qQ qB qc qg && QC l then (if (qb5 qh qv inc lo hi seq qk qQ qB qc qg l).length > 65499 then ([], 14) else (qb5 qh qv inc lo hi seq qk qQ qB qc qg l, 0)) else ([], 1)
theorem qoZ.pure (qh qv inc lo hi seq qk qQ qB qc : Int) (qg l : LR) (hr : za qg = true) (hl : za l = true) (hln : l.length < 1000000000) :
  QK.f BIG qh qv inc lo hi seq qk qQ qB qc qg l = some ((qcU qh qv inc lo hi seq qk qQ qB qc qg l).1, (qcU qh qv inc lo hi seq qk qQ qB qc qg l).2) := by
 unfold QK.f QK.b qcU
 simp only [veil_eq]
 rw [hr, hl]
 cases hv : qR qh qv inc lo hi seq qk qQ qB qc qg
 ·rfl
 ·cases hs : QC l
  ·rfl
  ·rw [lay.pure qh qv inc lo hi seq qk qQ qB qc qg l hv (qa4 hs).1 hln]
   simp only [Bool.not_true, Bool.false_eq_true, if_false, if_true, Bool.and_self]
   by_cases hc : (qb5 qh qv inc lo hi seq qk qQ qB qc qg l).length > 65499
   ·rw [if_pos (by simp; omega), if_pos hc]
   ·rw [if_neg (by simp; omega), if_neg hc]
theorem qoK (v : Int) (h0 : 0 ≤ v) (h1 : v < 256) : IntKind.wrap .u8 v = v := by rw [qhw]; omega
theorem qn9 : ∀ (p : List Int) (k : Nat) (top : Bool) (c : Int) (s : List Int), (∀ x ∈ p, 128 ≤ x) → p.length ≤ k → c < 128 →
  (pv top k (p ++ [c]) = none ∧ pv top k (p ++ c :: s) = none) ∨ ∃ v, pv top k (p ++ [c]) = some (v, []) ∧ pv top k (p ++ c :: s) = some (v, s) := by
 intro p
 induction p with
 | nil =>
  intro k top c s hp hk hc
  cases k with
  | zero =>
   simp only [List.nil_append, pv]
   by_cases h1 : c > 1
   ·rw [if_pos h1, if_pos h1]; exact Or.inl ⟨rfl, rfl⟩
   ·rw [if_neg h1, if_neg h1]
    by_cases h2 : c = 0
    ·rw [if_pos h2, if_pos h2]; exact Or.inl ⟨rfl, rfl⟩
    ·rw [if_neg h2, if_neg h2]; exact Or.inr ⟨c, rfl, rfl⟩
  | succ k =>
   simp only [List.nil_append, pv]
   rw [if_pos hc, if_pos hc]
   by_cases h2 : c = 0 ∧ top = false
   ·rw [if_pos h2, if_pos h2]; exact Or.inl ⟨rfl, rfl⟩
   ·rw [if_neg h2, if_neg h2]; exact Or.inr ⟨c, rfl, rfl⟩
 | cons x p ih =>
  intro k top c s hp hk hc
  cases k with
  | zero => simp at hk
  | succ k =>
   have hx : 128 ≤ x := hp x (List.mem_cons_self ..)
   simp only [List.cons_append, pv]
   rw [if_neg (by omega), if_neg (by omega)]
   rcases ih k false c s (fun y h => hp y (List.mem_cons_of_mem _ h)) (by simpa using hk) hc with ⟨a, b⟩ | ⟨v, a, b⟩
   ·rw [a, b]; exact Or.inl ⟨rfl, rfl⟩
   ·rw [a, b]; exact Or.inr ⟨_, rfl, rfl⟩
theorem qkR : ∀ (p : List Int) (k : Nat) (top : Bool) (s : List Int), (∀ x ∈ p, 128 ≤ x) → p.length = k + 1 → pv top k (p ++ s) = none := by
 intro p
 induction p with
 | nil => intro k top s hp hk; simp at hk
 | cons x p ih =>
  intro k top s hp hk
  have hx : 128 ≤ x := hp x (List.mem_cons_self ..)
  cases k with
  | zero =>
   simp only [List.cons_append, pv]
   rw [if_pos (by omega)]
  | succ k =>
   simp only [List.cons_append, pv]
   rw [if_neg (by omega), ih k false s (fun y h => hp y (List.mem_cons_of_mem _ h)) (by simpa using hk)]
theorem qnx : ∀ (p : List Int) (k : Nat) (top : Bool), (∀ x ∈ p, 128 ≤ x) → p.length ≤ k → pv top k p = none := by
 intro p
 induction p with
 | nil => intro k top hp hk; cases k <;> rfl
 | cons x p ih =>
  intro k top hp hk
  have hx : 128 ≤ x := hp x (List.mem_cons_self ..)
  cases k with
  | zero => simp at hk
  | succ k =>
   rw [pv, if_neg (by omega), ih k false (fun y h => hp y (List.mem_cons_of_mem _ h)) (by simpa using hk)]
theorem qbO (l : List Int) (a : Nat) (h : a < l.length) : ql l 1 (a : Int) false = (l[a], ((a + 1 : Nat) : Int), false) := by
 unfold ql
 have hn : (if (decide ((1 : Int) < 1) || decide ((1 : Int) > 7)) = true then (-1 : Int) else 1) = 1 := by decide
 simp only [hn]
 have hs : qY l 1 (a : Int) false = (seg l a 1, true, (a : Int) + 1, false) := by
  unfold qY
  rw [if_neg (by decide), if_neg (by simp; omega)]
 rw [hs]
 dsimp only
 rw [if_pos rfl]
 have e : seg l (a : Int) 1 = [l[a]] := by
  unfold seg
  rw [show ((a : Int) + 1).toNat = a + 1 from by omega, Int.toNat_natCast, List.take_succ_eq_append_getElem h, List.drop_append_of_le_length (by simp; omega), List.drop_of_length_le (by simp; omega)]
  rfl
 rw [e]
 simp [QL]
theorem qbP (l : List Int) (a : Nat) (h : l.length ≤ a) : ql l 1 (a : Int) false = (0, (a : Int), true) := by
 unfold ql
 have hn : (if (decide ((1 : Int) < 1) || decide ((1 : Int) > 7)) = true then (-1 : Int) else 1) = 1 := by decide
 simp only [hn]
 have hs : qY l 1 (a : Int) false = ([], false, (a : Int), true) := by
  unfold qY
  rw [if_neg (by decide), if_pos (by simp; omega)]
 rw [hs]
 rfl
theorem qf6 (l : List Int) (a : Int) : ql l 1 a true = (0, a, true) := by
 unfold ql qY
 simp
def Got (bs : List Int) (a0 : Nat) (zc : Int) (o : Option (Int × Bool × List Int × Int × Bool)) : Prop :=
 ∃ (v : Int) (ok : Bool) (a : Nat) (bad : Bool), o = some (v, ok, bs, (a : Int), bad) ∧ a ≤ bs.length ∧
  match pV (bs.drop a0) with
  | some (w, r) => if w ≤ zc then v = w ∧ ok = true ∧ bad = false ∧ bs.drop a = r else ok = false ∧ v = 0
  | none => ok = false ∧ v = 0
theorem qkn.loop (qa : Nat) (bs : List Int) (a0 : Nat) (bad0 : Bool) (zc : Int) (hb : inB bs = true) (m0 : 0 ≤ zc) (m1 : zc < 9223372036854775808) : ∀ (j k : Nat) (a : Nat) (p : List Int), p.length + j = 10 → j < k → (∀ x ∈ p, 128 ≤ x ∧ x ≤ 255) → bs.drop a0 = p ++ bs.drop a → a ≤ bs.length →
  Got bs a0 zc (zb.l2 qa bs (a0 : Int) bad0 zc k (a : Int) false p) := by
 obtain ⟨hl, hc⟩ := (Qy bs).1 hb
 have gp : ∀ q : List Int, (∀ x ∈ q, 0 ≤ x ∧ x ≤ 255) → q.length ≤ 10 → _ := fun q h1 h2 => Get.pure q h1 (by omega)
 intro j
 induction j with
 | zero =>
  intro k a p hj hk hp hd ha
  obtain ⟨k, rfl⟩ : ∃ k', k = k' + 1 := ⟨k - 1, by omega⟩
  rw [zb.l2]
  unfold zb.b2
  simp only [veil_eq]
  rw [if_neg (by simp; omega)]
  have hn : pV (bs.drop a0) = none := by rw [hd]; exact qkR p 9 true _ (fun x h => (hp x h).1) (by omega)
  have hq := gp p (fun x h => ⟨by have := hp x h; omega, (hp x h).2⟩) (by omega)
  have hn2 : pV p = none := by have := qkR p 9 true [] (fun x h => (hp x h).1) (by omega); simpa [pV] using this
  rw [hn2] at hq
  obtain ⟨e, he, hq⟩ := hq
  rw [hq]
  dsimp only
  rw [if_pos (by rcases he with rfl | rfl <;> rfl)]
  refine ⟨0, false, a, false, rfl, ha, ?_⟩
  rw [hn]
  exact ⟨rfl, rfl⟩
 | succ j ih =>
  intro k a p hj hk hp hd ha
  obtain ⟨k, rfl⟩ : ∃ k', k = k' + 1 := ⟨k - 1, by omega⟩
  rw [zb.l2]
  unfold zb.b2
  simp only [veil_eq]
  rw [if_pos (by simp; omega), if_pos ((zA _ _).2 ⟨hb, by omega, by omega⟩)]
  by_cases hlt : a < bs.length
  ·rw [qbO bs a hlt]
   dsimp only
   rw [if_neg (by simp), if_pos (by simp [lim]; omega)]
   obtain ⟨c0, c1⟩ := hc _ (List.getElem_mem hlt)
   have hda : bs.drop a = bs[a] :: bs.drop (a + 1) := (List.getElem_cons_drop hlt).symm
   generalize bs[a] = c at c0 c1 hda ⊢
   rw [qoK c c0 (by omega)]
   by_cases h128 : c < 128
   ·rw [if_pos (by simpa using h128)]
    have hq := gp (p ++ [c]) (fun x h => by
     rcases List.mem_append.1 h with h | h
     ·have := hp x h; omega
     ·rw [List.mem_singleton.1 h]; omega) (by simp; omega)
    rcases qn9 p 9 true c (bs.drop (a + 1)) (fun x h => (hp x h).1) (by omega) h128 with ⟨e1, e2⟩ | ⟨v, e1, e2⟩
    ·have e1 : pV (p ++ [c]) = none := e1
     rw [e1] at hq
     obtain ⟨e, he, hq⟩ := hq
     rw [hq]
     dsimp only
     rw [if_pos (by rcases he with rfl | rfl <;> rfl)]
     refine ⟨0, false, a + 1, false, rfl, by omega, ?_⟩
     rw [hd, hda, show pV (p ++ c :: bs.drop (a + 1)) = none from e2]
     exact ⟨rfl, rfl⟩
    ·have e1 : pV (p ++ [c]) = some (v, []) := e1
     rw [e1] at hq
     dsimp only at hq
     rw [hq]
     dsimp only
     have hv := qjV (l := p ++ [c]) (fun x h => by
      rcases List.mem_append.1 h with h | h
      ·have := hp x h; omega
      ·rw [List.mem_singleton.1 h]; omega) e1
     rw [if_neg (by decide), if_neg (by simpa using m0), Z5 _ m0 (by omega)]
     by_cases hm : v > zc
     ·rw [if_pos (by simpa using hm)]
      refine ⟨0, false, a + 1, false, rfl, by omega, ?_⟩
      rw [hd, hda, show pV (p ++ c :: bs.drop (a + 1)) = some (v, bs.drop (a + 1)) from e2]
      dsimp only
      rw [if_neg (by omega)]
      exact ⟨rfl, rfl⟩
     ·rw [if_neg (by simpa using hm), qK v (by omega) (by omega)]
      refine ⟨v, true, a + 1, false, rfl, by omega, ?_⟩
      rw [hd, hda, show pV (p ++ c :: bs.drop (a + 1)) = some (v, bs.drop (a + 1)) from e2]
      dsimp only
      rw [if_pos (by omega)]
      exact ⟨rfl, rfl, rfl, rfl⟩
   ·rw [if_neg (by simpa using h128)]
    exact ih k (a + 1) (p ++ [c]) (by simp; omega) (by omega) (fun x h => by
     rcases List.mem_append.1 h with h | h
     ·exact hp x h
     ·rw [List.mem_singleton.1 h]; omega) (by rw [hd, hda]; simp) (by omega)
  ·rw [qbP bs a (by omega)]
   dsimp only
   rw [if_pos rfl]
   refine ⟨0, false, a, true, rfl, ha, ?_⟩
   rw [hd, List.drop_of_length_le (by omega), List.append_nil, show pV p = none from qnx p 9 true (fun x h => (hp x h).1) (by omega)]
   exact ⟨rfl, rfl⟩
theorem qkn.pure (bs : List Int) (a0 : Nat) (zc : Int) (hb : inB bs = true) (m0 : 0 ≤ zc) (m1 : zc < 9223372036854775808) (ha : a0 ≤ bs.length) :
  Got bs a0 zc (zb.f BIG bs (a0 : Int) false zc) := by
 unfold zb.f zb.b
 exact qkn.loop BIG bs a0 false zc hb m0 m1 10 BIG a0 [] rfl (by rw [Z4]; omega) (by simp) rfl ha
theorem qkn.bad (bs : List Int) (a0 : Nat) (zc : Int) (hb : inB bs = true) (ha : a0 ≤ bs.length) :
  zb.f BIG bs (a0 : Int) true zc = some (0, false, bs, (a0 : Int), true) := by
 unfold zb.f zb.b
 rw [ZK, zb.l2]
 unfold zb.b2
 simp only [veil_eq]
 rw [if_pos (by simp), if_pos ((zA _ _).2 ⟨hb, by omega, by omega⟩), qf6]
 rfl
def tk (bs : List Int) (a : Nat) (zc : Int) : Option (Int × Nat) :=
 match pV (bs.drop a) with
 | some (w, r) => if w ≤ zc then some (w, bs.length - r.length) else none
 | none => none
theorem qab {bs : List Int} {a : Nat} {zc w : Int} {a2 : Nat} (hb : ∀ c ∈ bs, 0 ≤ c ∧ c ≤ 255) (h : tk bs a zc = some (w, a2)) : bs.drop a = vi w ++ bs.drop a2 ∧ 0 ≤ w ∧ w ≤ zc ∧ w < 18446744073709551616 ∧ a < a2 ∧ a2 ≤ bs.length := by
 unfold tk at h
 split at h
 ·rename_i v r hv
  split at h
  ·rename_i hm
   obtain ⟨rfl, rfl⟩ : v = w ∧ bs.length - r.length = a2 := by cases h; exact ⟨rfl, rfl⟩
   obtain ⟨e, v0, v1⟩ := qjV (fun c hc => hb c (List.mem_of_mem_drop hc)) hv
   have hl := congrArg List.length e
   have h1 := (ZR v).1
   simp only [List.length_drop, List.length_append] at hl
   refine ⟨?_, v0, hm, v1, by omega, by omega⟩
   have e2 : bs = (bs.take a ++ vi v) ++ r := by rw [List.append_assoc, ← e, List.take_append_drop]
   have e3 : bs.length - r.length = (bs.take a ++ vi v).length := by simp; omega
   rw [e, e3]
   congr 1
   generalize bs.take a ++ vi v = q at e2
   rw [e2, List.drop_left]
  ·cases h
 ·cases h
theorem qoD {bs : List Int} {a : Nat} {zc w : Int} {r : List Int} (h : bs.drop a = vi w ++ r) (h0 : 0 ≤ w) (h1 : w < 18446744073709551616) (hm : w ≤ zc) : tk bs a zc = some (w, bs.length - r.length) := by
 unfold tk
 rw [h, qob r h0 h1]
 exact if_pos hm
theorem Got.tk {bs : List Int} {a0 : Nat} {zc : Int} {o : Option (Int × Bool × List Int × Int × Bool)} (h : Got bs a0 zc o) :
  match tk bs a0 zc with
  | some (w, a2) => o = some (w, true, bs, (a2 : Int), false)
  | none => ∃ (a : Nat) (bad : Bool), o = some (0, false, bs, (a : Int), bad) ∧ a ≤ bs.length := by
 obtain ⟨v, ok, a, bad, rfl, ha, h⟩ := h
 unfold Proofs.YtgaakgeemnkeeaaGreatDoor.tk
 revert h
 cases hw : pV (bs.drop a0) with
 | none =>
  intro h
  obtain ⟨rfl, rfl⟩ := h
  exact ⟨a, bad, rfl, ha⟩
 | some x =>
  obtain ⟨w, r⟩ := x
  intro h
  dsimp only at h ⊢
  by_cases hm : w ≤ zc
  ·rw [if_pos hm] at h ⊢
   obtain ⟨rfl, rfl, rfl, rfl⟩ := h
   dsimp only
   rw [show bs.length - (bs.drop a).length = a from by simp; omega]
  ·rw [if_neg hm] at h ⊢
   obtain ⟨rfl, rfl⟩ := h
   exact ⟨a, bad, rfl, ha⟩
theorem qfs (bs : List Int) (a : Int) (bad : Bool) (zc : Int) : qu.f BIG bs a bad true zc = some (0, true, bs, a, bad) := rfl
theorem qj6 (bs : List Int) (a : Nat) (zc : Int) (hb : inB bs = true) (ha : a ≤ bs.length) : qu.f BIG bs (a : Int) true false zc = some (0, true, bs, (a : Int), true) := by
 unfold qu.f qu.b
 simp only [veil_eq]
 rw [if_neg (by simp), qkn.bad bs a zc hb ha]
 rfl
theorem qcD (bs : List Int) (a : Nat) (zc : Int) (hb : inB bs = true) (m0 : 0 ≤ zc) (m1 : zc < 9223372036854775808) (ha : a ≤ bs.length) :
  match tk bs a zc with
  | some (w, a2) => qu.f BIG bs (a : Int) false false zc = some (w, false, bs, (a2 : Int), false)
  | none => ∃ (a' : Nat) (bad : Bool), qu.f BIG bs (a : Int) false false zc = some (0, true, bs, (a' : Int), bad) ∧ a' ≤ bs.length := by
 have h := Got.tk (qkn.pure bs a zc hb m0 m1 ha)
 unfold qu.f qu.b
 simp only [veil_eq]
 rw [if_neg (by simp)]
 revert h
 cases tk bs a zc with
 | some p =>
  intro h
  obtain ⟨w, a2⟩ := p
  try dsimp only at h ⊢
  rw [h]
  all_goals rfl
 | none =>
  intro h
  obtain ⟨a', bad, h, h2⟩ := h
  refine ⟨a', bad, ?_, h2⟩
  rw [h]
  all_goals rfl
abbrev HD := Int × Int × Int × Int × Int × Int × Int × Int × Int × Int × LR × Bool × List Int × Int × Bool
def qbk {R : Type} (c : Bool) (zc : Int) (wr : Bool) (bs : List Int) (a : Int) (bad : Bool) (k : Int → Bool → List Int → Int → Bool → Option R) : Option R :=
 if c then (match qu.f BIG bs a bad wr zc with
  | none => none
  | some y => k y.1 y.2.1 y.2.2.1 y.2.2.2.1 y.2.2.2.2)
 else k 0 wr bs a bad
def qnO (k f i lo hi s t l e b : Int) (wr : Bool) (bs : List Int) (a : Int) (bad : Bool) : Option HD :=
 if bad then some (k, f, i, lo, hi, s, t, l, e, b, [], true, bs, a, bad)
 else if (!(qR k f i lo hi s t l e b [])) then some (k, f, i, lo, hi, s, t, l, e, b, [], true, bs, a, bad)
 else some (k, f, i, lo, hi, s, t, l, e, b, [], wr, bs, a, bad)
def ql0 (bs : List Int) (at0 : Int) (bad qP : Bool) : Option HD :=
 if zk bs at0 then
  qbk true 4095 qP bs (ql bs 1 at0 bad).2.1 (ql bs 1 at0 bad).2.2 fun f w b1 a1 d1 =>
  qbk true 281474976710655 w b1 a1 d1 fun i w b2 a2 d2 =>
  match zd.f BIG b2 a2 d2 w with
  | none => none
  | some y =>
   qbk (qt (ql bs 1 at0 bad).1 0) 65535 y.2.2.1 y.2.2.2.1 y.2.2.2.2.1 y.2.2.2.2.2 fun s w b3 a3 d3 =>
   qbk (qt (ql bs 1 at0 bad).1 1) 4095 w b3 a3 d3 fun t w b4 a4 d4 =>
   qbk (qt (ql bs 1 at0 bad).1 2) 281474976710655 w b4 a4 d4 fun l w b5 a5 d5 =>
   qbk (qt (ql bs 1 at0 bad).1 2) 65535 w b5 a5 d5 fun e w b6 a6 d6 =>
   qbk (qt (ql bs 1 at0 bad).1 3) 65535 w b6 a6 d6 fun b w b7 a7 d7 =>
   qnO (ql bs 1 at0 bad).1 f i y.1 y.2.1 s t l e b w b7 a7 d7
 else none
theorem qof (bs : List Int) (at0 : Int) (bad qP : Bool) : zK.f BIG bs at0 bad qP = ql0 bs at0 bad qP := by
 unfold zK.f zK.b ql0 qbk qnO
 simp only [veil_eq]
 generalize qt (ql bs 1 at0 bad).1 0 = h0
 generalize qt (ql bs 1 at0 bad).1 1 = h1
 generalize qt (ql bs 1 at0 bad).1 2 = h2
 generalize qt (ql bs 1 at0 bad).1 3 = h3
 cases h0 <;> cases h1 <;> cases h2 <;> cases h3 <;> rfl
def Rel (bs : List Int) (st : Option Nat) (wr : Bool) (a : Int) (bad : Bool) : Prop :=
 (∃ n : Nat, a = (n : Int) ∧ n ≤ bs.length) ∧ match st with
  | some n => wr = false ∧ bad = false ∧ a = (n : Int)
  | none => wr = true ∨ bad = true
def zj (bs : List Int) (c : Bool) (st : Option Nat) (zc : Int) : Int × Option Nat :=
 if c then (match st with
  | none => (0, none)
  | some a => match tk bs a zc with
   | some (w, a2) => (w, some a2)
   | none => (0, none))
 else (0, st)
theorem ZJ {R : Type} {bs : List Int} {st : Option Nat} {wr : Bool} {a : Int} {bad : Bool} (hb : inB bs = true) (h : Rel bs st wr a bad) (c : Bool) (zc : Int) (m0 : 0 ≤ zc) (m1 : zc < 9223372036854775808) (k : Int → Bool → List Int → Int → Bool → Option R) :
  ∃ wr' a' bad', qbk c zc wr bs a bad k = k (zj bs c st zc).1 wr' bs a' bad' ∧ Rel bs (zj bs c st zc).2 wr' a' bad' := by
 obtain ⟨hl, hc⟩ := (Qy bs).1 hb
 obtain ⟨⟨n, rfl, hn⟩, h⟩ := h
 cases c with
 | false => exact ⟨wr, n, bad, rfl, ⟨n, rfl, hn⟩, h⟩
 | true =>
  cases st with
  | none =>
   cases wr with
   | true => exact ⟨true, n, bad, rfl, ⟨n, rfl, hn⟩, Or.inl rfl⟩
   | false =>
    obtain rfl : bad = true := by rcases h with h | h; cases h; exact h
    refine ⟨true, n, true, ?_, ⟨n, rfl, hn⟩, Or.inl rfl⟩
    unfold qbk
    rw [if_pos rfl, qj6 bs n zc hb hn]
    rfl
  | some m =>
   obtain ⟨rfl, rfl, e⟩ := h
   obtain rfl : n = m := by omega
   have hg := qcD bs n zc hb m0 m1 hn
   unfold qbk zj
   rw [if_pos rfl, if_pos rfl]
   dsimp only
   split at hg
   ·rename_i w a2 ht
    obtain ⟨_, _, _, _, _, h2⟩ := qab hc ht
    rw [hg]
    try simp only [ht]
    exact ⟨false, a2, false, rfl, ⟨a2, rfl, h2⟩, rfl, rfl, rfl⟩
   ·rename_i ht
    obtain ⟨a', bad', hg, h2⟩ := hg
    rw [hg]
    try simp only [ht]
    exact ⟨true, a', bad', rfl, ⟨a', rfl, h2⟩, Or.inl rfl⟩
def spS (bs : List Int) (st : Option Nat) : Int × Int × Option Nat :=
 match st with
 | some n => (match bs[n]? with
  | some c => if okS (c / 16) (c % 16) then (c / 16, c % 16, some (n + 1)) else (0, 0, none)
  | none => (0, 0, none))
 | none => (0, 0, none)
theorem qnz : (List.range 256).all (fun n => (zF z8 (n : Int)).2.2 == okS ((n : Int) / 16) ((n : Int) % 16)) = true := by kernel_rfl
theorem qfl (c : Int) (h0 : 0 ≤ c) (h1 : c ≤ 255) : (zF z8 c).2.2 = okS (c / 16) (c % 16) := by
 have := List.all_eq_true.1 qnz c.toNat (by simp; omega)
 rw [show ((c.toNat : Nat) : Int) = c from by omega] at this
 simpa using this
theorem qg4 {bs : List Int} {st : Option Nat} {wr : Bool} {a : Int} {bad : Bool} (hb : inB bs = true) (h : Rel bs st wr a bad) :
  ∃ lo hi wr' a' bad', zd.f BIG bs a bad wr = some (lo, hi, wr', bs, a', bad') ∧ Rel bs (spS bs st).2.2 wr' a' bad' ∧ ((spS bs st).2.2 ≠ none → lo = (spS bs st).1 ∧ hi = (spS bs st).2.1) := by
 obtain ⟨hl, hc⟩ := (Qy bs).1 hb
 obtain ⟨⟨n, rfl, hn⟩, h⟩ := h
 have hat : zk bs (n : Int) = true := (zA _ _).2 ⟨hb, by omega, by omega⟩
 have ha' := (zA _ _).1 (Qk bs 1 (n : Int) bad hat)
 have hex : ∃ m : Nat, (ql bs 1 (n : Int) bad).2.1 = (m : Int) ∧ m ≤ bs.length := ⟨(ql bs 1 (n : Int) bad).2.1.toNat, by omega, by omega⟩
 unfold zd.f zd.b
 simp only [veil_eq]
 rw [if_pos hat]
 cases wr with
 | true =>
  refine ⟨_, _, true, _, _, rfl, ⟨hex, ?_⟩, ?_⟩
  ·cases st with
   | none => exact Or.inl rfl
   | some m => exact absurd h.1 (by simp)
  ·cases st with
   | none => intro h; exact absurd rfl h
   | some m => exact absurd h.1 (by simp)
 | false =>
  cases st with
  | none =>
   obtain rfl : bad = true := by rcases h with h | h; cases h; exact h
   refine ⟨_, _, _, _, _, rfl, ⟨hex, ?_⟩, fun h => absurd rfl h⟩
   refine Or.inr ?_
   rw [qf6]
  | some m =>
   obtain ⟨_, rfl, e⟩ := h
   obtain rfl : n = m := by omega
   by_cases hlt : n < bs.length
   ·have hs : spS bs (some n) = if okS (bs[n] / 16) (bs[n] % 16) then (bs[n] / 16, bs[n] % 16, some (n + 1)) else (0, 0, none) := by
     unfold spS; dsimp only
     rw [List.getElem?_eq_getElem hlt]
    rw [hs]
    obtain ⟨c0, c1⟩ := hc _ (List.getElem_mem hlt)
    rw [qbO bs n hlt]
    dsimp only
    rw [if_neg (by simp)]
    have ht := qfl _ c0 c1
    have hd := qfm _ c0 c1
    generalize bs[n] = c at c0 c1 ht hd ⊢
    refine ⟨_, _, _, _, _, rfl, ?_, ?_⟩
    ·refine ⟨⟨n + 1, rfl, hlt⟩, ?_⟩
     rw [ht]
     cases ho : okS (c / 16) (c % 16) with
     | true => exact ⟨rfl, rfl, rfl⟩
     | false => exact Or.inl rfl
    ·cases ho : okS (c / 16) (c % 16) with
     | true => intro _; rw [hd.1 ho]; exact ⟨rfl, rfl⟩
     | false => intro h; exact absurd rfl h
   ·have hs : spS bs (some n) = (0, 0, none) := by
     unfold spS; dsimp only
     rw [List.getElem?_eq_none (by omega)]
    rw [hs, qbP bs n (by omega)]
    exact ⟨_, _, _, _, _, rfl, ⟨⟨n, rfl, hn⟩, Or.inr rfl⟩, fun h => absurd rfl h⟩
def ZD (bs : List Int) : Option Nat := if 0 < bs.length then some 1 else none
def hdK (bs : List Int) : Int := bs.getD 0 0
def hdS (bs : List Int) : Option (Int × Int × Int × Int × Int × Int × Int × Int × Int × Int × Nat) :=
 let k := hdK bs
 let f := zj bs true (ZD bs) 4095
 let i := zj bs true f.2 281474976710655
 let p := spS bs i.2
 let s := zj bs (qt k 0) p.2.2 65535
 let t := zj bs (qt k 1) s.2 4095
 let l := zj bs (qt k 2) t.2 281474976710655
 let e := zj bs (qt k 2) l.2 65535
 let b := zj bs (qt k 3) e.2 65535
 match b.2 with
 | none => none
 | some a => if qR k f.1 i.1 p.1 p.2.1 s.1 t.1 l.1 e.1 b.1 [] then some (k, f.1, i.1, p.1, p.2.1, s.1, t.1, l.1, e.1, b.1, a) else none
theorem qan {bs : List Int} {c : Bool} {st : Option Nat} {zc : Int} (h : (zj bs c st zc).2 ≠ none) : st ≠ none := by
 intro e
 subst e
 cases c <;> exact h rfl
theorem head.pure (bs : List Int) (hb : inB bs = true) :
  match hdS bs with
  | some (k, f, i, lo, hi, s, t, l, e, b, a) => zK.f BIG bs 0 false false = some (k, f, i, lo, hi, s, t, l, e, b, [], false, bs, (a : Int), false) ∧ a ≤ bs.length ∧ qR k f i lo hi s t l e b [] = true
  | none => ∃ k f i lo hi s t l e b a bad, zK.f BIG bs 0 false false = some (k, f, i, lo, hi, s, t, l, e, b, [], true, bs, a, bad) := by
 rw [qof]
 unfold ql0
 rw [if_pos ((zA _ _).2 ⟨hb, by omega, by omega⟩)]
 have h0 : (ql bs 1 0 false).1 = hdK bs ∧ Rel bs (ZD bs) false (ql bs 1 0 false).2.1 (ql bs 1 0 false).2.2 := by
  unfold hdK ZD
  by_cases h : 0 < bs.length
  ·rw [if_pos h, show (0 : Int) = ((0 : Nat) : Int) from rfl, qbO bs 0 h]
   refine ⟨?_, ⟨1, rfl, h⟩, rfl, rfl, rfl⟩
   simp [List.getD, List.getElem?_eq_getElem h]
  ·rw [if_neg h, show (0 : Int) = ((0 : Nat) : Int) from rfl, qbP bs 0 (by omega)]
   refine ⟨?_, ⟨0, rfl, by omega⟩, Or.inr rfl⟩
   simp [List.getD, List.getElem?_eq_none (show bs.length ≤ 0 by omega)]
 obtain ⟨e0, r0⟩ := h0
 rw [e0]
 obtain ⟨w1, a1, d1, e1, r1⟩ := ZJ hb r0 true 4095 (by decide) (by decide) _
 rw [e1]
 obtain ⟨w2, a2, d2, e2, r2⟩ := ZJ hb r1 true 281474976710655 (by decide) (by decide) _
 rw [e2]
 obtain ⟨lo, hi, w3, a3, d3, e3, r3, q3⟩ := qg4 hb r2
 rw [e3]
 dsimp only
 obtain ⟨w4, a4, d4, e4, r4⟩ := ZJ hb r3 (qt (hdK bs) 0) 65535 (by decide) (by decide) _
 rw [e4]
 obtain ⟨w5, a5, d5, e5, r5⟩ := ZJ hb r4 (qt (hdK bs) 1) 4095 (by decide) (by decide) _
 rw [e5]
 obtain ⟨w6, a6, d6, e6, r6⟩ := ZJ hb r5 (qt (hdK bs) 2) 281474976710655 (by decide) (by decide) _
 rw [e6]
 obtain ⟨w7, a7, d7, e7, r7⟩ := ZJ hb r6 (qt (hdK bs) 2) 65535 (by decide) (by decide) _
 rw [e7]
 obtain ⟨w8, a8, d8, e8, r8⟩ := ZJ hb r7 (qt (hdK bs) 3) 65535 (by decide) (by decide) _
 rw [e8]
 have hs : (zj bs (qt (hdK bs) 3) (zj bs (qt (hdK bs) 2) (zj bs (qt (hdK bs) 2) (zj bs (qt (hdK bs) 1) (zj bs (qt (hdK bs) 0) (spS bs (zj bs true (zj bs true (ZD bs) 4095).2 281474976710655).2).2.2 65535).2 4095).2 281474976710655).2 65535).2 65535).2 ≠ none → lo = (spS bs (zj bs true (zj bs true (ZD bs) 4095).2 281474976710655).2).1 ∧ hi = (spS bs (zj bs true (zj bs true (ZD bs) 4095).2 281474976710655).2).2.1 :=
  fun h => q3 (qan (qan (qan (qan (qan h)))))
 unfold hdS qnO
 dsimp only
 generalize zj bs (qt (hdK bs) 3) _ 65535 = B at r8 hs ⊢
 obtain ⟨b, st⟩ := B
 dsimp only at r8 hs ⊢
 obtain ⟨⟨n, rfl, hn⟩, r8⟩ := r8
 cases st with
 | none =>
  dsimp only at r8 ⊢
  cases d8 with
  | true => exact ⟨_, _, _, _, _, _, _, _, _, _, _, _, rfl⟩
  | false =>
   obtain rfl : w8 = true := by rcases r8 with h | h; exact h; cases h
   rw [if_neg (by simp)]
   split <;> exact ⟨_, _, _, _, _, _, _, _, _, _, _, _, rfl⟩
 | some m =>
  obtain ⟨rfl, rfl, e⟩ := r8
  obtain ⟨rfl, rfl⟩ := hs (by simp)
  obtain rfl : n = m := by omega
  dsimp only
  rw [if_neg (c := false = true) (by simp)]
  by_cases hv : qR (hdK bs) (zj bs true (ZD bs) 4095).1 (zj bs true (zj bs true (ZD bs) 4095).2 281474976710655).1 (spS bs (zj bs true (zj bs true (ZD bs) 4095).2 281474976710655).2).1 (spS bs (zj bs true (zj bs true (ZD bs) 4095).2 281474976710655).2).2.1 (zj bs (qt (hdK bs) 0) (spS bs (zj bs true (zj bs true (ZD bs) 4095).2 281474976710655).2).2.2 65535).1 (zj bs (qt (hdK bs) 1) (zj bs (qt (hdK bs) 0) (spS bs (zj bs true (zj bs true (ZD bs) 4095).2 281474976710655).2).2.2 65535).2 4095).1 (zj bs (qt (hdK bs) 2) (zj bs (qt (hdK bs) 1) (zj bs (qt (hdK bs) 0) (spS bs (zj bs true (zj bs true (ZD bs) 4095).2 281474976710655).2).2.2 65535).2 4095).2 281474976710655).1 (zj bs (qt (hdK bs) 2) (zj bs (qt (hdK bs) 2) (zj bs (qt (hdK bs) 1) (zj bs (qt (hdK bs) 0) (spS bs (zj bs true (zj bs true (ZD bs) 4095).2 281474976710655).2).2.2 65535).2 4095).2 281474976710655).2 65535).1 b [] = true
  ·rw [if_pos hv, if_neg (by rw [Bool.not_eq_true, Bool.not_eq_false']; exact hv)]
   exact ⟨rfl, hn, hv⟩
  ·rw [if_neg hv, if_pos (by simpa using hv)]
   exact ⟨_, _, _, _, _, _, _, _, _, _, _, _, rfl⟩
theorem qgu {bs : List Int} {a : Nat} {zc w : Int} {r : List Int} (h : bs.drop a = vi w ++ r) (h0 : 0 ≤ w) (h1 : w < 18446744073709551616) (hm : w ≤ zc) : tk bs a zc = some (w, a + (vi w).length) ∧ bs.drop (a + (vi w).length) = r := by
 have hl := congrArg List.length h
 have h1' := (ZR w).1
 simp only [List.length_drop, List.length_append] at hl
 refine ⟨?_, ?_⟩
 ·rw [qoD h h0 h1 hm, show bs.length - r.length = a + (vi w).length from by omega]
 ·rw [← List.drop_drop, h, List.drop_left]
theorem qib {bs : List Int} {a : Nat} {c : Int} {r : List Int} (h : bs.drop a = c :: r) : bs[a]? = some c ∧ bs.drop (a + 1) = r := by
 constructor
 ·have := List.getElem?_drop (xs := bs) (i := a) (j := 0)
  rw [h] at this
  simpa using this.symm
 ·rw [← List.drop_drop, h]; all_goals rfl
theorem qdk {bs : List Int} {a : Nat} {c : Int} (h : bs[a]? = some c) : bs.drop a = c :: bs.drop (a + 1) ∧ a < bs.length := by
 obtain ⟨hlt, he⟩ := List.getElem?_eq_some_iff.1 h
 rw [List.drop_eq_getElem_cons hlt, he]
 exact ⟨rfl, hlt⟩
def qeB (bs : List Int) (a : Nat) : Option ((Int × List Int) × Nat) :=
 match bs[a]? with
 | none => none
 | some t => match tk bs (a + 1) 4096 with
  | none => none
  | some (n, a2) => if a2 + n.toNat ≤ bs.length then some ((t, (bs.drop a2).take n.toNat), a2 + n.toNat) else none
theorem ql4 {bs : List Int} {a : Nat} {x : Int × List Int} {a2 : Nat} (hb : ∀ c ∈ bs, 0 ≤ c ∧ c ≤ 255) (h : qeB bs a = some (x, a2)) : bs.drop a = qaE x ++ bs.drop a2 ∧ a2 ≤ bs.length ∧ x.2.length ≤ 4096 := by
 unfold qeB at h
 cases hc : bs[a]? with
 | none => rw [hc] at h; cases h
 | some c =>
  rw [hc] at h
  dsimp only at h
  cases ht : tk bs (a + 1) 4096 with
  | none => rw [ht] at h; cases h
  | some p =>
   obtain ⟨n, a3⟩ := p
   rw [ht] at h
   dsimp only at h
   by_cases hle : a3 + n.toNat ≤ bs.length
   ·rw [if_pos hle] at h
    obtain ⟨e1, n0, n1, _, _, _⟩ := qab hb ht
    obtain ⟨e0, _⟩ := qdk hc
    have hlen : ((bs.drop a3).take n.toNat).length = n.toNat := by rw [List.length_take, List.length_drop]; omega
    obtain ⟨rfl, rfl⟩ : (c, (bs.drop a3).take n.toNat) = x ∧ a3 + n.toNat = a2 := by cases h; exact ⟨rfl, rfl⟩
    refine ⟨?_, hle, by dsimp only; omega⟩
    unfold qaE
    dsimp only
    rw [hlen, e0, e1, show ((n.toNat : Nat) : Int) = n from by omega, ← List.drop_drop, List.cons_append, List.append_assoc, List.take_append_drop]
   ·rw [if_neg hle] at h; cases h
theorem qm0 {bs : List Int} {a : Nat} {x : Int × List Int} {r : List Int} (h : bs.drop a = qaE x ++ r) (hx : x.2.length ≤ 4096) : qeB bs a = some (x, a + (qaE x).length) ∧ bs.drop (a + (qaE x).length) = r := by
 have hl := congrArg List.length h
 refine ⟨?_, by rw [← List.drop_drop, h, List.drop_left]⟩
 obtain ⟨t, d⟩ := x
 dsimp only at hx
 obtain ⟨g1, g2⟩ := qib (show bs.drop a = t :: (vi (d.length : Int) ++ (d ++ r)) from by rw [h]; simp [qaE])
 obtain ⟨k1, k2⟩ := qgu (zc := 4096) g2 (by omega) (by omega) (by omega)
 have hv := ZR (d.length : Int)
 unfold qeB
 rw [g1]
 dsimp only
 rw [k1]
 dsimp only
 simp only [List.length_drop, List.length_append, qaE, List.length_cons] at hl ⊢
 rw [if_pos (by omega), k2, Int.toNat_natCast, List.take_left, show a + 1 + (vi (d.length : Int)).length + d.length = a + ((vi (d.length : Int)).length + d.length + 1) from by omega]
def qck (bs : List Int) : Nat → Nat → Option (LF × Nat)
 | 0, a => some ([], a)
 | k + 1, a => match qeB bs a with
  | none => none
  | some (x, a2) => match qck bs k a2 with
   | none => none
   | some (l, a3) => some (x :: l, a3)
theorem qkE {bs : List Int} (hb : ∀ c ∈ bs, 0 ≤ c ∧ c ≤ 255) : ∀ (k a : Nat) (l : LF) (a2 : Nat), a ≤ bs.length → qck bs k a = some (l, a2) → bs.drop a = l.flatMap qaE ++ bs.drop a2 ∧ a2 ≤ bs.length ∧ l.length = k ∧ ∀ x ∈ l, x.2.length ≤ 4096 := by
 intro k
 induction k with
 | zero =>
  intro a l a2 ha h
  rw [qck] at h
  cases h
  exact ⟨rfl, ha, rfl, by simp⟩
 | succ k ih =>
  intro a l a2 ha h
  rw [qck] at h
  cases h1 : qeB bs a with
  | none => rw [h1] at h; cases h
  | some p =>
   obtain ⟨x, a3⟩ := p
   rw [h1] at h
   dsimp only at h
   obtain ⟨e1, l1, s1⟩ := ql4 hb h1
   cases h2 : qck bs k a3 with
   | none => rw [h2] at h; cases h
   | some q =>
    obtain ⟨m, a4⟩ := q
    rw [h2] at h
    dsimp only at h
    obtain ⟨e2, l2, n2, s2⟩ := ih a3 m a4 l1 h2
    cases h
    refine ⟨by rw [e1, e2]; simp, l2, by simp [n2], ?_⟩
    intro y hy
    rcases List.mem_cons.1 hy with rfl | hy
    ·exact s1
    ·exact s2 y hy
theorem qid {bs : List Int} : ∀ (l : LF) (a : Nat) (r : List Int), bs.drop a = l.flatMap qaE ++ r → (∀ x ∈ l, x.2.length ≤ 4096) → qck bs l.length a = some (l, a + (l.flatMap qaE).length) ∧ bs.drop (a + (l.flatMap qaE).length) = r
 | [], a, r, h, _ => ⟨rfl, h⟩
 | x :: l, a, r, h, hx => by
  obtain ⟨h1, h2⟩ := qm0 (x := x) (r := l.flatMap qaE ++ r) (by rw [h]; simp) (hx x (List.mem_cons_self ..))
  obtain ⟨h3, h4⟩ := qid l _ r h2 (fun y hy => hx y (List.mem_cons_of_mem _ hy))
  have e : a + ((x :: l).flatMap qaE).length = a + (qaE x).length + (l.flatMap qaE).length := by simp; omega
  rw [e]
  refine ⟨?_, h4⟩
  rw [List.length_cons, qck, h1]
  dsimp only
  rw [h3]
def qeF (bs : List Int) (a : Nat) : Option (LF × Nat) :=
 match tk bs a 32 with
 | none => none
 | some (n, a1) => qck bs n.toNat a1
theorem qfy {bs : List Int} (hb : ∀ c ∈ bs, 0 ≤ c ∧ c ≤ 255) {a : Nat} {l : LF} {a2 : Nat} (h : qeF bs a = some (l, a2)) : bs.drop a = qa8 l ++ bs.drop a2 ∧ a2 ≤ bs.length ∧ l.length ≤ 32 ∧ ∀ x ∈ l, x.2.length ≤ 4096 := by
 unfold qeF at h
 cases ht : tk bs a 32 with
 | none => rw [ht] at h; cases h
 | some p =>
  obtain ⟨n, a1⟩ := p
  rw [ht] at h
  dsimp only at h
  obtain ⟨e1, n0, n1, _, _, l1⟩ := qab hb ht
  obtain ⟨e2, l2, n2, s2⟩ := qkE hb _ _ _ _ l1 h
  refine ⟨?_, l2, by omega, s2⟩
  rw [e1, e2]
  unfold qa8
  rw [n2, show ((n.toNat : Nat) : Int) = n from by omega, List.append_assoc]
theorem qm9 {bs : List Int} {a : Nat} {l : LF} {r : List Int} (h : bs.drop a = qa8 l ++ r) (hn : l.length ≤ 32) (hx : ∀ x ∈ l, x.2.length ≤ 4096) : qeF bs a = some (l, a + (qa8 l).length) ∧ bs.drop (a + (qa8 l).length) = r := by
 refine ⟨?_, by rw [← List.drop_drop, h, List.drop_left]⟩
 obtain ⟨h1, h2⟩ := qgu (w := (l.length : Int)) (zc := 32) (r := l.flatMap qaE ++ r) (by rw [h]; simp [qa8]) (by omega) (by omega) (by omega)
 obtain ⟨h3, h4⟩ := qid l _ r h2 hx
 unfold qeF
 rw [h1]
 dsimp only
 rw [Int.toNat_natCast, h3]
 simp [qa8]
 omega
theorem qkU : ∀ (l m : List Int), qdj l m = 0 → l = m
 | [], [], _ => rfl
 | [], _ :: _, h => by simp [qdj] at h
 | _ :: _, [], h => by simp [qdj] at h
 | x :: l, y :: m, h => by
  rw [qdj] at h
  by_cases h1 : x < y
  ·rw [if_pos (by simpa using h1)] at h; omega
  ·rw [if_neg (by simpa using h1)] at h
   by_cases h2 : x > y
   ·rw [if_pos (by simpa using h2)] at h; omega
   ·rw [if_neg (by simpa using h2)] at h
    rw [qkU l m h, show x = y from by omega]
theorem qkd : ∀ (l m : LF), Zf l m = 0 → l = m
 | [], [], _ => rfl
 | [], _ :: _, h => by simp [Zf] at h
 | _ :: _, [], h => by simp [Zf] at h
 | (t, d) :: l, (u, e) :: m, h => by
  rw [Zf] at h
  dsimp only at h
  by_cases h1 : qcI t d u e = 0
  ·rw [if_neg (by simp [h1])] at h
   rw [qkd l m h]
   unfold qcI at h1
   by_cases h2 : t = u
   ·subst h2
    rw [if_neg (by simp)] at h1
    rw [qkU d e h1]
   ·rw [if_pos (by simpa using h2)] at h1
    split at h1 <;> omega
  ·rw [if_pos (by simpa using h1)] at h
   exact absurd h h1
theorem qdC (l m : LF) : (Zf l m == 0) = decide (l = m) := by
 by_cases h : l = m
 ·subst h; rw [qfw]; simp
 ·rw [decide_eq_false h]
  cases hc : Zf l m == 0 with
  | false => rfl
  | true => exact absurd (qkd l m (by simpa using hc)) h
def qc8 (z : Int) : Int := if z % 2 = 0 then z / 2 else -((z + 1) / 2)
theorem qn3 (z : Int) (h : 0 ≤ z) : qar (qc8 z) = z := by unfold qar qc8; split <;> split <;> omega
theorem qn4 (n : Int) : qc8 (qar n) = n := by unfold qar qc8; split <;> split <;> omega
def qdn (bs : List Int) (o : REC × Bool) (v : Int) (a : Nat) : Option ((Int × Int) × Nat) :=
 if v / 8 % 2 = 1 then some (o.1.2.2.2.1, a) else
 match bs[a]? with
 | none => none
 | some c => if okS (c / 16) (c % 16) = true ∧ (o.2 && (c / 16 == o.1.2.2.2.1.1 && c % 16 == o.1.2.2.2.1.2)) = false then some ((c / 16, c % 16), a + 1) else none
def qcY (bs : List Int) (o : REC × Bool) (v : Int) (a : Nat) : Option (LF × Nat) :=
 if v / 4 % 2 = 1 then some ([], a) else if 16 ≤ v then some (o.1.2.2.2.2.2, a) else
 match qeF bs a with
 | none => none
 | some (b, a2) => if (o.2 && Zf b o.1.2.2.2.2.2 == 0) = true then none else some (b, a2)
def qaM (o : REC × Bool) (v : Int) : Bool := decide (32 ≤ v) || ((!o.2 && decide (8 ≤ v)) || (decide (v / 4 % 2 = 1) && decide (16 ≤ v)))
def qea (bs : List Int) (qc : LR) (qe : Int) (a : Nat) : Option (REC × Nat) :=
 match tk bs a 4095 with
 | none => none
 | some (d, a1) => match bs[a1]? with
  | none => none
  | some v => if qaM (zt qc (qe + 1 + d)) v then none else
   match qdn bs (zt qc (qe + 1 + d)) v (a1 + 1) with
   | none => none
   | some (sp, a2) => match tk bs a2 562949953421310 with
    | none => none
    | some (z, a3) => match qcY bs (zt qc (qe + 1 + d)) v a3 with
     | none => none
     | some (b, a4) => some ((qe + 1 + d, (zt qc (qe + 1 + d)).1.2.1 + qc8 z, v % 4, sp, v / 4 % 2 == 1, b), a4)
theorem qkr {bs : List Int} (hb : ∀ c ∈ bs, 0 ≤ c ∧ c ≤ 255) {o : REC × Bool} {v : Int} {a : Nat} {sp : Int × Int} {a2 : Nat} (ha : a ≤ bs.length) (v0 : 0 ≤ v) (ho : o.2 = false → v < 8) (h : qdn bs o v a = some (sp, a2)) :
  bs.drop a = (if v / 8 % 2 = 1 then [] else [sp.1 * 16 + sp.2]) ++ bs.drop a2 ∧ a2 ≤ bs.length ∧ (o.2 && (o.1.2.2.2.1.1 == sp.1 && o.1.2.2.2.1.2 == sp.2)) = decide (v / 8 % 2 = 1) ∧ (v / 8 % 2 = 1 ∨ okS sp.1 sp.2 = true) := by
 unfold qdn at h
 by_cases hv : v / 8 % 2 = 1
 ·rw [if_pos hv] at h
  cases h
  rw [if_pos hv]
  refine ⟨rfl, ha, ?_, Or.inl hv⟩
  have : o.2 = true := by
   cases h2 : o.2 with
   | true => rfl
   | false => have := ho h2; omega
  rw [this, decide_eq_true hv]
  simp
 ·rw [if_neg hv] at h ⊢
  cases hc : bs[a]? with
  | none => rw [hc] at h; cases h
  | some c =>
   rw [hc] at h
   dsimp only at h
   obtain ⟨e0, hlt⟩ := qdk hc
   obtain ⟨c0, c1⟩ := hb c (List.mem_of_getElem? hc)
   by_cases hk : okS (c / 16) (c % 16) = true ∧ (o.2 && (c / 16 == o.1.2.2.2.1.1 && c % 16 == o.1.2.2.2.1.2)) = false
   ·rw [if_pos hk] at h
    cases h
    refine ⟨by rw [e0, show c / 16 * 16 + c % 16 = c from by omega]; rfl, hlt, ?_, Or.inr hk.1⟩
    rw [decide_eq_false hv, ← hk.2, Bool.beq_comm (a := o.1.2.2.2.1.1), Bool.beq_comm (a := o.1.2.2.2.1.2)]
   ·rw [if_neg hk] at h; cases h
theorem qgX (l m : LF) : decide (l = m) = decide (m = l) := by
 by_cases h : l = m
 ·rw [decide_eq_true h, decide_eq_true h.symm]
 ·rw [decide_eq_false h, decide_eq_false (fun e => h e.symm)]
theorem qie {o : REC × Bool} {v : Int} (h : qaM o v = false) : v < 32 ∧ (o.2 = false → v < 8) ∧ (v / 4 % 2 = 1 → v < 16) := by
 unfold qaM at h
 simp only [Bool.or_eq_false_iff, Bool.and_eq_false_iff, decide_eq_false_iff_not, Bool.not_eq_false'] at h
 obtain ⟨h1, h2, h3⟩ := h
 refine ⟨by omega, fun ho => ?_, fun hc => ?_⟩
 ·rcases h2 with h2 | h2
  ·rw [ho] at h2; cases h2
  ·omega
 ·rcases h3 with h3 | h3
  ·exact absurd hc h3
  ·omega
theorem ql6 {o : REC × Bool} {v : Int} (h1 : v < 32) (h2 : o.2 = false → v < 8) (h3 : v / 4 % 2 = 1 → v < 16) : qaM o v = false := by
 unfold qaM
 rw [decide_eq_false (by omega : ¬ 32 ≤ v)]
 have e1 : (!o.2 && decide (8 ≤ v)) = false := by
  cases ho : o.2 with
  | true => rfl
  | false => have := h2 ho; rw [decide_eq_false (by omega : ¬ 8 ≤ v)]; all_goals rfl
 have e2 : (decide (v / 4 % 2 = 1) && decide (16 ≤ v)) = false := by
  by_cases hc : v / 4 % 2 = 1
  ·have := h3 hc; rw [decide_eq_false (by omega : ¬ 16 ≤ v)]; simp
  ·rw [decide_eq_false hc]; all_goals rfl
 rw [e1, e2]; all_goals rfl
theorem qkL {bs : List Int} (hb : ∀ c ∈ bs, 0 ≤ c ∧ c ≤ 255) {o : REC × Bool} {v : Int} {a : Nat} {b : LF} {a2 : Nat} (ha : a ≤ bs.length) (ho : o.2 = false → v < 8) (hc : v / 4 % 2 = 1 → v < 16) (h : qcY bs o v a = some (b, a2)) :
  bs.drop a = (if (v / 4 % 2 == 1 || decide (16 ≤ v)) = true then [] else qa8 b) ++ bs.drop a2 ∧ a2 ≤ bs.length ∧ (o.2 && (!(v / 4 % 2 == 1) && Zf o.1.2.2.2.2.2 b == 0)) = decide (16 ≤ v) := by
 unfold qcY at h
 by_cases h1 : v / 4 % 2 = 1
 ·rw [if_pos h1] at h
  cases h
  have := hc h1
  have e1 : (v / 4 % 2 == 1) = true := by simpa using h1
  rw [e1, decide_eq_false (by omega : ¬ 16 ≤ v)]
  exact ⟨rfl, ha, by simp⟩
 ·rw [if_neg h1] at h
  have e1 : (v / 4 % 2 == 1) = false := by simpa using h1
  rw [e1]
  by_cases h2 : 16 ≤ v
  ·rw [if_pos h2] at h
   cases h
   rw [decide_eq_true h2, qfw]
   have : o.2 = true := by
    cases h2 : o.2 with
    | true => rfl
    | false => have := ho h2; omega
   exact ⟨rfl, ha, by rw [this]; rfl⟩
  ·rw [if_neg h2] at h
   rw [decide_eq_false h2]
   cases hg : qeF bs a with
   | none => rw [hg] at h; cases h
   | some p =>
    obtain ⟨b', a3⟩ := p
    rw [hg] at h
    dsimp only at h
    obtain ⟨e2, l2, _, _⟩ := qfy hb hg
    by_cases h3 : (o.2 && Zf b' o.1.2.2.2.2.2 == 0) = true
    ·rw [if_pos h3] at h; cases h
    ·rw [if_neg h3] at h
     cases h
     refine ⟨by rw [e2]; rfl, l2, ?_⟩
     rw [qdC] at h3
     rw [qdC, ← qgX b]
     simpa using h3
theorem qh0 {bs : List Int} (hb : ∀ c ∈ bs, 0 ≤ c ∧ c ≤ 255) {qc : LR} {qe : Int} {a : Nat} {r : REC} {a2 : Nat} (h : qea bs qc qe a = some (r, a2)) :
  bs.drop a = qcP (zt qc r.1) qe r ++ bs.drop a2 ∧ a2 ≤ bs.length ∧ qe < r.1 ∧ r.1 ≤ qe + 4096 := by
 unfold qea at h
 cases ht : tk bs a 4095 with
 | none => rw [ht] at h; cases h
 | some p =>
  obtain ⟨d, a1⟩ := p
  rw [ht] at h
  dsimp only at h
  obtain ⟨e1, d0, d1, _, _, l1⟩ := qab hb ht
  cases hc : bs[a1]? with
  | none => rw [hc] at h; cases h
  | some v =>
   rw [hc] at h
   dsimp only at h
   obtain ⟨e2, l2⟩ := qdk hc
   obtain ⟨v0, v1⟩ := hb v (List.mem_of_getElem? hc)
   cases hf : qaM (zt qc (qe + 1 + d)) v with
   | true => rw [hf] at h; cases h
   | false =>
    obtain ⟨f1, f2, f3⟩ := qie hf
    rw [hf, if_neg (by simp)] at h
    cases hs : qdn bs (zt qc (qe + 1 + d)) v (a1 + 1) with
    | none => rw [hs] at h; cases h
    | some q =>
     obtain ⟨sp, a3⟩ := q
     rw [hs] at h
     dsimp only at h
     obtain ⟨e3, l3, s3, _⟩ := qkr hb (by omega) v0 f2 hs
     cases hz : tk bs a3 562949953421310 with
     | none => rw [hz] at h; cases h
     | some w =>
      obtain ⟨z, a4⟩ := w
      rw [hz] at h
      dsimp only at h
      obtain ⟨e4, z0, z1, _, _, l4⟩ := qab hb hz
      cases hg : qcY bs (zt qc (qe + 1 + d)) v a4 with
      | none => rw [hg] at h; cases h
      | some u =>
       obtain ⟨b, a5⟩ := u
       rw [hg] at h
       dsimp only at h
       obtain ⟨e5, l5, s5⟩ := qkL hb l4 f2 f3 hg
       cases h
       refine ⟨?_, l5, by dsimp only; omega, by dsimp only; omega⟩
       rw [e1, e2, e3, e4, e5]
       dsimp only
       unfold qcP qds qaX qbr
       dsimp only
       rw [s3, s5]
       generalize zt qc (qe + 1 + d) = o
       rw [show qe + 1 + d - qe - 1 = d from by omega, show o.1.2.1 + qc8 z - o.1.2.1 = qc8 z from by omega, qn3 z z0]
       have ev : v % 4 + (if (v / 4 % 2 == 1) = true then 4 else 0) + (if decide (v / 8 % 2 = 1) = true then 8 else 0) + (if decide (16 ≤ v) = true then 16 else 0) = v := by
        simp only [beq_iff_eq, decide_eq_true_eq]
        split <;> split <;> split <;> omega
       rw [ev]
       simp only [decide_eq_true_eq, List.append_assoc, List.cons_append]
theorem qjC {w o : Int} (h0 : 0 ≤ w) (h1 : w ≤ 281474976710655) (o0 : 0 ≤ o) (o1 : o ≤ 281474976710655) : 0 ≤ qar (w - o) ∧ qar (w - o) ≤ 562949953421310 := by
 unfold qar; split <;> omega
theorem qiG {qc : LR} (Qo : ∀ x ∈ qc, zu x = true) (id : Int) : 0 ≤ (zt qc id).1.2.1 ∧ (zt qc id).1.2.1 ≤ 281474976710655 := by
 rcases qhh (qc := qc) (id := id) with ⟨_, h⟩ | ⟨_, h, _⟩
 ·rw [h]; exact ⟨by simp, by simp⟩
 ·have := zy (Qo _ h)
  exact ⟨this.2.2.1, this.2.2.2.1⟩
theorem qmL {bs : List Int} {qc : LR} (Qo : ∀ x ∈ qc, zu x = true) {qe : Int} {a : Nat} {r : REC} {rest : List Int} (hr : zu r = true) (h1 : -1 ≤ qe) (h2 : qe < r.1) (h : bs.drop a = qcP (zt qc r.1) qe r ++ rest) :
  qea bs qc qe a = some (r, a + (qcP (zt qc r.1) qe r).length) ∧ bs.drop (a + (qcP (zt qc r.1) qe r).length) = rest := by
 refine ⟨?_, by rw [← List.drop_drop, h, List.drop_left]⟩
 obtain ⟨f1, f2, f3, f4, f5, f6, f7, f8, f9⟩ := zy hr
 have hbl := Zv f8
 have hbt := qbn f8
 obtain ⟨o0, o1⟩ := qiG Qo r.1
 obtain ⟨z0, z1⟩ := qjC f3 f4 o0 o1
 have hsp := (ZP _ _).1 f7
 have hS : qaX (zt qc r.1) r = true → (zt qc r.1).2 = true ∧ (zt qc r.1).1.2.2.2.1 = r.2.2.2.1 := by
  intro hs
  unfold qaX at hs
  simp only [Bool.and_eq_true, beq_iff_eq] at hs
  exact ⟨hs.1, Prod.ext hs.2.1 hs.2.2⟩
 have hB : qbr (zt qc r.1) r = true → (zt qc r.1).2 = true ∧ r.2.2.2.2.1 = false ∧ (zt qc r.1).1.2.2.2.2.2 = r.2.2.2.2.2 := by
  intro hs
  unfold qbr at hs
  rw [qdC] at hs
  simp only [Bool.and_eq_true, Bool.not_eq_true', decide_eq_true_eq] at hs
  exact ⟨hs.1, hs.2.1, hs.2.2⟩
 have hS' : qaX (zt qc r.1) r = false → ((zt qc r.1).2 && (r.2.2.2.1.1 == (zt qc r.1).1.2.2.2.1.1 && r.2.2.2.1.2 == (zt qc r.1).1.2.2.2.1.2)) = false := by
  intro hs
  unfold qaX at hs
  rw [← hs, Bool.beq_comm (a := r.2.2.2.1.1), Bool.beq_comm (a := r.2.2.2.1.2)]
 have hB' : qbr (zt qc r.1) r = false → r.2.2.2.2.1 = false → ((zt qc r.1).2 && Zf r.2.2.2.2.2 (zt qc r.1).1.2.2.2.2.2 == 0) = false := by
  intro hs hc
  unfold qbr at hs
  rw [qdC, hc] at hs
  rw [qdC, ← hs, qgX]
  all_goals rfl
 unfold qcP at h ⊢
 generalize hss : qaX (zt qc r.1) r = ss at h hS hS' ⊢
 generalize hsb : qbr (zt qc r.1) r = sb at h hB hB' ⊢
 obtain ⟨t1, t2⟩ := qgu (zc := 4095) (r := qds (zt qc r.1) r :: ((if ss = true then [] else [r.2.2.2.1.1 * 16 + r.2.2.2.1.2]) ++ (vi (qar (r.2.1 - (zt qc r.1).1.2.1)) ++ ((if (r.2.2.2.2.1 || sb) = true then [] else qa8 r.2.2.2.2.2) ++ rest)))) (by rw [h]; simp) (by omega : 0 ≤ r.1 - qe - 1) (by omega) (by omega)
 obtain ⟨g1, g2⟩ := qib t2
 have hv : qds (zt qc r.1) r = r.2.2.1 + (if r.2.2.2.2.1 = true then 4 else 0) + (if ss = true then 8 else 0) + (if sb = true then 16 else 0) := by unfold qds; rw [hss, hsb]
 generalize qds (zt qc r.1) r = v at hv g1 g2 h t1 t2 ⊢
 obtain ⟨id, inc, st, ⟨lo, hi⟩, cut, bag⟩ := r
 dsimp only at *
 have hid : qe + 1 + (id - qe - 1) = id := by omega
 generalize ho : zt qc id = o at *
 have q4 : v / 4 % 2 = 1 ↔ cut = true := by
  cases cut <;> cases ss <;> cases sb <;> simp at hv ⊢ <;> omega
 have q8 : v / 8 % 2 = 1 ↔ ss = true := by
  cases cut <;> cases ss <;> cases sb <;> simp at hv ⊢ <;> omega
 have q16 : 16 ≤ v ↔ sb = true := by
  cases cut <;> cases ss <;> cases sb <;> simp at hv ⊢ <;> omega
 have q3 : v % 4 = st := by
  cases cut <;> cases ss <;> cases sb <;> simp at hv <;> omega
 have hf : qaM o v = false := by
  refine ql6 (by cases cut <;> cases ss <;> cases sb <;> simp at hv <;> omega) (fun hno => ?_) (fun hcb => ?_)
  ·have a1 : ss = false := by
    cases ss with
    | false => rfl
    | true => have := (hS rfl).1; rw [hno] at this; cases this
   have a2 : sb = false := by
    cases sb with
    | false => rfl
    | true => have := (hB rfl).1; rw [hno] at this; cases this
   subst a1 a2
   cases cut <;> simp at hv <;> omega
  ·have a1 := q4.1 hcb
   have a2 : sb = false := by
    cases sb with
    | false => rfl
    | true => have := (hB rfl).2.1; rw [a1] at this; cases this
   subst a1 a2
   cases ss <;> simp at hv <;> omega
 unfold qea
 rw [t1]
 dsimp only
 rw [hid, ho, g1]
 dsimp only
 rw [hf, if_neg (by simp)]
 have hspan : qdn bs o v (a + (vi (id - qe - 1)).length + 1) = some ((lo, hi), a + (vi (id - qe - 1)).length + 1 + (if ss = true then [] else [lo * 16 + hi] : List Int).length) ∧ bs.drop (a + (vi (id - qe - 1)).length + 1 + (if ss = true then [] else [lo * 16 + hi] : List Int).length) = vi (qar (inc - o.1.2.1)) ++ ((if (cut || sb) = true then [] else qa8 bag) ++ rest) := by
  unfold qdn
  cases ss with
  | true =>
   rw [if_pos (q8.2 rfl), (hS rfl).2]
   exact ⟨rfl, by simpa using g2⟩
  | false =>
   rw [if_neg (fun h => by have := q8.1 h; cases this)]
   obtain ⟨k1, k2⟩ := qib (show bs.drop (a + (vi (id - qe - 1)).length + 1) = (lo * 16 + hi) :: (vi (qar (inc - o.1.2.1)) ++ ((if (cut || sb) = true then [] else qa8 bag) ++ rest)) from by simpa using g2)
   rw [k1]
   dsimp only
   rw [show (lo * 16 + hi) / 16 = lo from by omega, show (lo * 16 + hi) % 16 = hi from by omega, if_pos ⟨f7, hS' rfl⟩]
   exact ⟨rfl, by simpa using k2⟩
 rw [hspan.1]
 dsimp only
 obtain ⟨u1, u2⟩ := qgu (zc := 562949953421310) hspan.2 z0 (by omega) z1
 rw [u1]
 dsimp only
 have hbag : qcY bs o v (a + (vi (id - qe - 1)).length + 1 + (if ss = true then [] else [lo * 16 + hi] : List Int).length + (vi (qar (inc - o.1.2.1))).length) = some (bag, a + (vi (id - qe - 1)).length + 1 + (if ss = true then [] else [lo * 16 + hi] : List Int).length + (vi (qar (inc - o.1.2.1))).length + (if (cut || sb) = true then [] else qa8 bag).length) := by
  unfold qcY
  cases cut with
  | true =>
   rw [if_pos (q4.2 rfl), f9 rfl]
   all_goals rfl
  | false =>
   rw [if_neg (fun h => by have := q4.1 h; cases this)]
   cases sb with
   | true => rw [if_pos (q16.2 rfl), (hB rfl).2.2]; all_goals rfl
   | false =>
    rw [if_neg (fun h => by have := q16.1 h; cases this)]
    have hg := qm9 (l := bag) (r := rest) (by simpa using u2) hbl.1 (fun x hx => (hbt x hx).2.2)
    rw [hg.1]
    dsimp only
    rw [hB' rfl rfl, if_neg (by simp)]
    all_goals rfl
 rw [hbag]
 dsimp only
 rw [qn4, q3, show o.1.2.1 + (inc - o.1.2.1) = inc from by omega]
 have hcut : (v / 4 % 2 == 1) = cut := by
  cases cut with
  | true => simpa using q4.2 rfl
  | false => simp; intro h; have := q4.1 h; cases this
 rw [hcut]
 refine congrArg (fun n => some ((id, inc, st, (lo, hi), cut, bag), n)) ?_
 simp only [List.length_append, List.length_cons]
 omega
def qb3 (bs : List Int) (qc : LR) : Nat → Int → Nat → Option (LR × Nat)
 | 0, _, a => some ([], a)
 | k + 1, qe, a => match qea bs qc qe a with
  | none => none
  | some (r, a2) => match qb3 bs qc k r.1 a2 with
   | none => none
   | some (l, a3) => some (r :: l, a3)
theorem qkC {bs : List Int} (hb : ∀ c ∈ bs, 0 ≤ c ∧ c ≤ 255) {qc : LR} : ∀ (k : Nat) (qe : Int) (a : Nat) (l : LR) (a2 : Nat), a ≤ bs.length → qb3 bs qc k qe a = some (l, a2) → bs.drop a = ZH qc qe l ++ bs.drop a2 ∧ a2 ≤ bs.length ∧ l.length = k := by
 intro k
 induction k with
 | zero =>
  intro qe a l a2 ha h
  rw [qb3] at h
  cases h
  exact ⟨rfl, ha, rfl⟩
 | succ k ih =>
  intro qe a l a2 ha h
  rw [qb3] at h
  cases h1 : qea bs qc qe a with
  | none => rw [h1] at h; cases h
  | some p =>
   obtain ⟨x, a3⟩ := p
   rw [h1] at h
   dsimp only at h
   obtain ⟨e1, l1, _⟩ := qh0 hb h1
   cases h2 : qb3 bs qc k x.1 a3 with
   | none => rw [h2] at h; cases h
   | some q =>
    obtain ⟨m, a4⟩ := q
    rw [h2] at h
    dsimp only at h
    obtain ⟨e2, l2, n2⟩ := ih x.1 a3 m a4 l1 h2
    cases h
    exact ⟨by rw [e1, e2, ZH, List.append_assoc], l2, by simp [n2]⟩
theorem qhX {bs : List Int} {qc : LR} (Qo : ∀ x ∈ qc, zu x = true) : ∀ (l : LR) (qe : Int) (a : Nat) (rest : List Int), (∀ r ∈ l, zu r = true) → -1 ≤ qe → qek qe l → bs.drop a = ZH qc qe l ++ rest →
  qb3 bs qc l.length qe a = some (l, a + (ZH qc qe l).length) ∧ bs.drop (a + (ZH qc qe l).length) = rest
 | [], qe, a, rest, _, _, _, h => ⟨rfl, h⟩
 | r :: l, qe, a, rest, hr, h1, h2, h => by
  obtain ⟨h3, h4⟩ := h2
  have hm := hr r (List.mem_cons_self ..)
  have hid := (zy hm).1
  obtain ⟨k1, k2⟩ := qmL Qo (rest := ZH qc r.1 l ++ rest) hm h1 h3 (by rw [h, ZH, List.append_assoc])
  obtain ⟨k3, k4⟩ := qhX Qo l r.1 _ rest (fun x hx => hr x (List.mem_cons_of_mem _ hx)) (by omega) h4 k2
  have e : a + (ZH qc qe (r :: l)).length = a + (qcP (zt qc r.1) qe r).length + (ZH qc r.1 l).length := by rw [ZH, List.length_append]; omega
  rw [e]
  refine ⟨?_, k4⟩
  rw [List.length_cons, qb3, k1]
  dsimp only
  rw [k3]
theorem qll {qh qv inc lo hi seq qk qQ qB qc : Int} {qg : LR} (h : qR qh qv inc lo hi seq qk qQ qB qc qg = true) : qR qh qv inc lo hi seq qk qQ qB qc [] = true := by
 unfold qR at h ⊢
 generalize ((ofF qh).1.toList == (⟨#[]⟩ : ByteArray).toList || (decide (qv < 0) || (decide (qv > 4095) || (decide (inc < 0) || (decide (inc > 281474976710655) || !okS lo hi))))) = c1 at h ⊢
 generalize (!zH (qt qh 0) seq 0 65535 || (!zH (qt qh 1) qk (if qh == 3 then 1 else 0) (if qh == 3 then 3 else 4095) || !ZF qh qQ qB qc)) = c2 at h ⊢
 cases c1
 ·cases c2
  ·generalize qt qh 4 = c4 at h ⊢
   cases c4 <;> rfl
  ·exact absurd h (by simp)
 ·exact absurd h (by simp)
theorem qbj {bs : List Int} (hb : ∀ c ∈ bs, 0 ≤ c ∧ c ≤ 255) {c : Bool} {st : Option Nat} {zc : Int} {a' : Nat} (h : (zj bs c st zc).2 = some a') :
  ∃ a0, st = some a0 ∧ bs.drop a0 = (if c = true then vi (zj bs c st zc).1 else []) ++ bs.drop a' ∧ (a0 ≤ bs.length → a' ≤ bs.length) := by
 cases c with
 | false => exact ⟨a', h, rfl, id⟩
 | true =>
  cases st with
  | none => exact absurd h (by unfold zj; simp)
  | some a0 =>
   unfold zj at h ⊢
   simp only [if_true] at h ⊢
   cases ht : tk bs a0 zc with
   | none => rw [ht] at h; cases h
   | some p =>
    obtain ⟨w, a2⟩ := p
    rw [ht] at h
    cases h
    obtain ⟨e, _, _, _, _, l⟩ := qab hb ht
    exact ⟨a0, rfl, e, fun _ => l⟩
theorem qbQ {bs : List Int} {a : Nat} {c : Bool} {v zc : Int} {r : List Int} (h : bs.drop a = (if c = true then vi v else []) ++ r) (ha : a ≤ bs.length) (h0 : 0 ≤ v) (h1 : v < 18446744073709551616) (hm : v ≤ zc) (hz : c = false → v = 0) :
  ∃ a', zj bs c (some a) zc = (v, some a') ∧ bs.drop a' = r ∧ a' ≤ bs.length := by
 cases c with
 | false =>
  have := hz rfl
  subst this
  exact ⟨a, rfl, by simpa using h, ha⟩
 | true =>
  rw [if_pos rfl] at h
  obtain ⟨k1, k2⟩ := qgu (zc := zc) h h0 h1 hm
  have hl := congrArg List.length h
  simp only [List.length_drop, List.length_append] at hl
  refine ⟨a + (vi v).length, ?_, k2, by omega⟩
  unfold zj
  rw [if_pos rfl]
  dsimp only
  rw [k1]
theorem qmv {bs : List Int} (hb : ∀ c ∈ bs, 0 ≤ c ∧ c ≤ 255) {st : Option Nat} {a' : Nat} (h : (spS bs st).2.2 = some a') :
  ∃ a0, st = some a0 ∧ bs.drop a0 = ((spS bs st).1 * 16 + (spS bs st).2.1) :: bs.drop a' ∧ a' ≤ bs.length := by
 cases st with
 | none => cases h
 | some a0 =>
  unfold spS at h ⊢
  dsimp only at h ⊢
  cases hc : bs[a0]? with
  | none => rw [hc] at h; cases h
  | some c =>
   rw [hc] at h
   dsimp only at h ⊢
   obtain ⟨c0, c1⟩ := hb c (List.mem_of_getElem? hc)
   obtain ⟨e, hlt⟩ := qdk hc
   by_cases ho : okS (c / 16) (c % 16) = true
   ·rw [if_pos ho] at h ⊢
    cases h
    exact ⟨a0, rfl, by rw [e]; congr 1; dsimp only; omega, hlt⟩
   ·rw [if_neg ho] at h; cases h
theorem qnp {bs : List Int} {a : Nat} {lo hi : Int} {r : List Int} (h : bs.drop a = (lo * 16 + hi) :: r) (ha : a ≤ bs.length) (ho : okS lo hi = true) : spS bs (some a) = (lo, hi, some (a + 1)) ∧ bs.drop (a + 1) = r ∧ a + 1 ≤ bs.length := by
 obtain ⟨g1, g2⟩ := qib h
 have hs := (ZP _ _).1 ho
 refine ⟨?_, g2, (qdk g1).2⟩
 unfold spS
 dsimp only
 rw [g1]
 dsimp only
 rw [show (lo * 16 + hi) / 16 = lo from by omega, show (lo * 16 + hi) % 16 = hi from by omega, if_pos ho]
def hd3 (k f i lo hi s t l e b : Int) (r : List Int) : List Int :=
 k :: (vi f ++ (vi i ++ ((lo * 16 + hi) :: ((if qt k 0 = true then vi s else []) ++ ((if qt k 1 = true then vi t else []) ++ ((if qt k 2 = true then vi l else []) ++ ((if qt k 2 = true then vi e else []) ++ ((if qt k 3 = true then vi b else []) ++ r))))))))
theorem qhi (k f i lo hi s t l e b : Int) (qg qc : LR) : qb5 k f i lo hi s t l e b qg qc = hd3 k f i lo hi s t l e b ((if qt k 4 = true then vi (qg.length : Int) else []) ++ ZH (qaT b qc) (-1) qg) := by
 unfold qb5 ql1 hd3
 cases qt k 2 <;> simp
theorem qmY {bs : List Int} (hb : ∀ c ∈ bs, 0 ≤ c ∧ c ≤ 255) {k f i lo hi s t l e b : Int} {a : Nat} (h : hdS bs = some (k, f, i, lo, hi, s, t, l, e, b, a)) :
  bs = hd3 k f i lo hi s t l e b (bs.drop a) ∧ a ≤ bs.length ∧ qR k f i lo hi s t l e b [] = true := by
 unfold hdS at h
 dsimp only at h
 generalize hF : zj bs true (ZD bs) 4095 = F at h
 generalize hI : zj bs true F.2 281474976710655 = I at h
 generalize hP : spS bs I.2 = P at h
 generalize hS : zj bs (qt (hdK bs) 0) P.2.2 65535 = S at h
 generalize hT : zj bs (qt (hdK bs) 1) S.2 4095 = T at h
 generalize hL : zj bs (qt (hdK bs) 2) T.2 281474976710655 = L at h
 generalize hE : zj bs (qt (hdK bs) 2) L.2 65535 = E at h
 generalize hB : zj bs (qt (hdK bs) 3) E.2 65535 = B at h
 cases hB2 : B.2 with
 | none => rw [hB2] at h; cases h
 | some a' =>
  rw [hB2] at h
  dsimp only at h
  by_cases hv : qR (hdK bs) F.1 I.1 P.1 P.2.1 S.1 T.1 L.1 E.1 B.1 [] = true
  ·rw [if_pos hv] at h
   cases h
   obtain ⟨a8, q8, e8, l8⟩ := qbj hb (h := by rw [hB]; exact hB2)
   obtain ⟨a7, q7, e7, l7⟩ := qbj hb (h := by rw [hE]; exact q8)
   obtain ⟨a6, q6, e6, l6⟩ := qbj hb (h := by rw [hL]; exact q7)
   obtain ⟨a5, q5, e5, l5⟩ := qbj hb (h := by rw [hT]; exact q6)
   obtain ⟨a4, q4, e4, l4⟩ := qbj hb (h := by rw [hS]; exact q5)
   obtain ⟨a3, q3, e3, l3⟩ := qmv hb (h := by rw [hP]; exact q4)
   obtain ⟨a2, q2, e2, l2⟩ := qbj hb (h := by rw [hI]; exact q3)
   obtain ⟨a1, q1, e1, l1⟩ := qbj hb (h := by rw [hF]; exact q2)
   rw [hF] at e1
   rw [hI] at e2
   rw [hP] at e3
   rw [hS] at e4
   rw [hT] at e5
   rw [hL] at e6
   rw [hE] at e7
   rw [hB] at e8
   have h1 : 0 < bs.length ∧ a1 = 1 := by
    unfold ZD at q1
    by_cases h0 : 0 < bs.length
    ·rw [if_pos h0] at q1; cases q1; exact ⟨h0, rfl⟩
    ·rw [if_neg h0] at q1; cases q1
   obtain ⟨h0, rfl⟩ := h1
   have hk : bs = hdK bs :: bs.drop 1 := by
    cases bs with
    | nil => simp at h0
    | cons x m => rfl
   refine ⟨?_, l8 (l7 (l6 (l5 (l4 l3)))), hv⟩
   unfold hd3
   rw [← e8, ← e7, ← e6, ← e5, ← e4, ← e3]
   rw [if_pos rfl] at e1 e2
   rw [← e2, ← e1]
   exact hk
  ·rw [if_neg hv] at h; cases h
theorem qnJ {bs : List Int} {k f i lo hi s t l e b : Int} {r : List Int} (h : bs = hd3 k f i lo hi s t l e b r) (hv : qR k f i lo hi s t l e b [] = true) :
  ∃ a, hdS bs = some (k, f, i, lo, hi, s, t, l, e, b, a) ∧ bs.drop a = r ∧ a ≤ bs.length := by
 obtain ⟨v1, v2, v3, v4, v5, v6, v7, v8, v9, v10, v11, v12, v13, v14⟩ := Ql hv
 obtain ⟨w1, w2, w3, w4, w5, w6, w7, w8, _⟩ := qez v12
 obtain ⟨z1, z2⟩ := qhy hv
 unfold hd3 at h
 have hlen : 0 < bs.length := by rw [h]; simp
 have hk : hdK bs = k := by rw [h]; all_goals rfl
 have hst : ZD bs = some 1 := by unfold ZD; rw [if_pos hlen]
 have d1 : bs.drop 1 = (if true = true then vi f else []) ++ (vi i ++ ((lo * 16 + hi) :: ((if qt k 0 = true then vi s else []) ++ ((if qt k 1 = true then vi t else []) ++ ((if qt k 2 = true then vi l else []) ++ ((if qt k 2 = true then vi e else []) ++ ((if qt k 3 = true then vi b else []) ++ r))))))) := by rw [h]; all_goals rfl
 obtain ⟨a1, e1, d1, l1⟩ := qbQ (zc := 4095) d1 hlen v3 (by omega) v4 (by simp)
 obtain ⟨a2, e2, d2, l2⟩ := qbQ (c := true) (zc := 281474976710655) d1 l1 v5 (by omega) v6 (by simp)
 obtain ⟨e3, d3, l3⟩ := qnp d2 l2 v7
 obtain ⟨a4, e4, d4, l4⟩ := qbQ (zc := 65535) d3 l3 v8 (by omega) v9 z1
 obtain ⟨a5, e5, d5, l5⟩ := qbQ (zc := 4095) d4 l4 v10 (by omega) v11 z2
 obtain ⟨a6, e6, d6, l6⟩ := qbQ (zc := 281474976710655) d5 l5 w1 (by omega) w2 (fun hh => (w7 hh).1)
 obtain ⟨a7, e7, d7, l7⟩ := qbQ (zc := 65535) d6 l6 w3 (by omega) w4 (fun hh => (w7 hh).2)
 obtain ⟨a8, e8, d8, l8⟩ := qbQ (zc := 65535) d7 l7 w5 (by omega) w6 w8
 refine ⟨a8, ?_, d8, l8⟩
 unfold hdS
 dsimp only
 rw [hk, hst, e1]
 dsimp only
 rw [e2]
 dsimp only
 rw [e3]
 dsimp only
 rw [e4]
 dsimp only
 rw [e5]
 dsimp only
 rw [e6]
 dsimp only
 rw [e7]
 dsimp only
 rw [e8]
 dsimp only
 rw [if_pos hv]
abbrev qoB := Int × Int × Int × Int × Int × Int × Int × Int × Int × Int × LR
def qel (bs : List Int) (qc : LR) (k : Int) (a : Nat) : Option (LR × Nat) :=
 if qt k 4 = true then (match tk bs a 255 with
  | none => none
  | some (n, a1) => qb3 bs qc n.toNat (-1) a1) else some ([], a)
def qho (bs : List Int) (qc : LR) : Option qoB :=
 match hdS bs with
 | none => none
 | some (k, f, i, lo, hi, s, t, l, e, b, a) =>
  match qel bs (qaT b qc) k a with
  | none => none
  | some (rs, a2) => if a2 = bs.length ∧ bs.length ≤ 65499 ∧ qR k f i lo hi s t l e b rs = true then some (k, f, i, lo, hi, s, t, l, e, b, rs) else none
theorem qkB {bs : List Int} (hb : ∀ c ∈ bs, 0 ≤ c ∧ c ≤ 255) {qc : LR} {k : Int} {a : Nat} {rs : LR} {a2 : Nat} (ha : a ≤ bs.length) (h : qel bs qc k a = some (rs, a2)) :
  bs.drop a = (if qt k 4 = true then vi (rs.length : Int) else []) ++ ZH qc (-1) rs ++ bs.drop a2 ∧ a2 ≤ bs.length := by
 unfold qel at h
 cases h4 : qt k 4 with
 | false =>
  rw [h4, if_neg (by simp)] at h
  cases h
  exact ⟨rfl, ha⟩
 | true =>
  rw [h4, if_pos rfl] at h
  rw [if_pos rfl]
  cases ht : tk bs a 255 with
  | none => rw [ht] at h; cases h
  | some p =>
   obtain ⟨n, a1⟩ := p
   rw [ht] at h
   dsimp only at h
   obtain ⟨e1, n0, n1, _, _, l1⟩ := qab hb ht
   obtain ⟨e2, l2, n2⟩ := qkC hb _ _ _ _ _ l1 h
   refine ⟨?_, l2⟩
   rw [e1, e2, n2, show ((n.toNat : Nat) : Int) = n from by omega, List.append_assoc]
theorem qmb {bs : List Int} (hb : ∀ c ∈ bs, 0 ≤ c ∧ c ≤ 255) {qc : LR} {k f i lo hi s t l e b : Int} {rs : LR} (h : qho bs qc = some (k, f, i, lo, hi, s, t, l, e, b, rs)) :
  qb5 k f i lo hi s t l e b rs qc = bs ∧ qR k f i lo hi s t l e b rs = true ∧ bs.length ≤ 65499 ∧ ∃ a, hdS bs = some (k, f, i, lo, hi, s, t, l, e, b, a) := by
 unfold qho at h
 cases hh : hdS bs with
 | none => rw [hh] at h; cases h
 | some p =>
  obtain ⟨k', f', i', lo', hi', s', t', l', e', b', a⟩ := p
  rw [hh] at h
  dsimp only at h
  obtain ⟨e1, l1, _⟩ := qmY hb hh
  cases hr : qel bs (qaT b' qc) k' a with
  | none => rw [hr] at h; cases h
  | some q =>
   obtain ⟨rs', a2⟩ := q
   rw [hr] at h
   dsimp only at h
   obtain ⟨e2, l2⟩ := qkB hb l1 hr
   by_cases hc : a2 = bs.length ∧ bs.length ≤ 65499 ∧ qR k' f' i' lo' hi' s' t' l' e' b' rs' = true
   ·rw [if_pos hc] at h
    obtain ⟨c1, c2, c3⟩ := hc
    cases h
    refine ⟨?_, c3, c2, a, rfl⟩
    rw [qhi]
    have e3 : bs.drop a = (if qt k 4 = true then vi (rs.length : Int) else []) ++ ZH (qaT b qc) (-1) rs := by
     rw [e2, c1, List.drop_length, List.append_nil]
    rw [← e3]
    exact e1.symm
   ·rw [if_neg hc] at h; cases h
theorem qgk {qc : LR} (h : ∀ x ∈ qc, zu x = true) (b : Int) : ∀ x ∈ qaT b qc, zu x = true := by
 unfold qaT
 split
 ·simp
 ·exact h
theorem qm7 {qc : LR} (Qo : ∀ x ∈ qc, zu x = true) {k f i lo hi s t l e b : Int} {rs : LR} (hv : qR k f i lo hi s t l e b rs = true) (hlen : (qb5 k f i lo hi s t l e b rs qc).length ≤ 65499) :
  qho (qb5 k f i lo hi s t l e b rs qc) qc = some (k, f, i, lo, hi, s, t, l, e, b, rs) := by
 obtain ⟨v1, v2, v3, v4, v5, v6, v7, v8, v9, v10, v11, v12, v13, v14⟩ := Ql hv
 obtain ⟨u1, u2⟩ := qe1 hv
 generalize hbs : qb5 k f i lo hi s t l e b rs qc = bs at hlen ⊢
 rw [qhi] at hbs
 obtain ⟨a, e1, d1, l1⟩ := qnJ hbs.symm (qll hv)
 have hr : qel bs (qaT b qc) k a = some (rs, bs.length) := by
  unfold qel
  cases h4 : qt k 4 with
  | false =>
   rw [h4] at d1
   have := u1 h4
   subst this
   have hl := congrArg List.length d1
   simp [ZH] at hl
   rw [if_neg (by simp), show a = bs.length from by omega]
  | true =>
   rw [h4, if_pos rfl] at d1
   rw [if_pos rfl]
   obtain ⟨k1, k2⟩ := qgu (zc := 255) d1 (by omega) (by omega) (by omega)
   rw [k1]
   dsimp only
   obtain ⟨k3, k4⟩ := qhX (qgk Qo b) rs (-1) _ [] v14 (by omega) u2 (by rw [k2, List.append_nil])
   rw [Int.toNat_natCast, k3]
   have hl := congrArg List.length d1
   simp only [List.length_drop, List.length_append] at hl
   rw [show a + (vi (rs.length : Int)).length + (ZH (qaT b qc) (-1) rs).length = bs.length from by omega]
 unfold qho
 rw [e1]
 dsimp only
 rw [hr]
 dsimp only
 rw [if_pos ⟨rfl, hlen, hv⟩]
def enc : Option Nat → Int
 | some a => (a : Int)
 | none => -1
theorem qoO.pure {bs : List Int} (hb : inB bs = true) : Zj.f BIG bs = some (match hdS bs with
  | none => (0, 0, 0, 0, 0, 0, 0, 0, 0, 0, [], 4)
  | some (k, f, i, lo, hi, s, t, l, e, b, _) => (k, f, i, lo, hi, s, t, l, e, b, [], 0)) := by
 unfold Zj.f Zj.b
 simp only [veil_eq]
 rw [if_pos hb]
 have h := head.pure bs hb
 cases hs : hdS bs with
 | none =>
  rw [hs] at h
  obtain ⟨k, f, i, lo, hi, s, t, l, e, b, a, bad, h⟩ := h
  rw [h]
  rfl
 | some x =>
  obtain ⟨k, f, i, lo, hi, s, t, l, e, b, a⟩ := x
  rw [hs] at h
  dsimp only at h
  rw [h.1]
  rfl
abbrev M12 := Int × Int × Int × Int × Int × Int × Int × Int × Int × Int × LR × Int
def z12 (e : Int) : M12 := (0, 0, 0, 0, 0, 0, 0, 0, 0, 0, [], e)
def qn0 (m : M12) : M12 := (m.1, m.2.1, m.2.2.1, m.2.2.2.1, m.2.2.2.2.1, m.2.2.2.2.2.1, m.2.2.2.2.2.2.1, m.2.2.2.2.2.2.2.1, m.2.2.2.2.2.2.2.2.1, m.2.2.2.2.2.2.2.2.2.1, [], m.2.2.2.2.2.2.2.2.2.2.2)
def qcd (m : M12) : Int := m.2.2.2.2.2.2.2.2.2.2.2
def qmj (m : M12) : Prop := qR m.1 m.2.1 m.2.2.1 m.2.2.2.1 m.2.2.2.2.1 m.2.2.2.2.2.1 m.2.2.2.2.2.2.1 m.2.2.2.2.2.2.2.1 m.2.2.2.2.2.2.2.2.1 m.2.2.2.2.2.2.2.2.2.1 m.2.2.2.2.2.2.2.2.2.2.1 = true
def okM (m : qoB) : M12 := (m.1, m.2.1, m.2.2.1, m.2.2.2.1, m.2.2.2.2.1, m.2.2.2.2.2.1, m.2.2.2.2.2.2.1, m.2.2.2.2.2.2.2.1, m.2.2.2.2.2.2.2.2.1, m.2.2.2.2.2.2.2.2.2.1, m.2.2.2.2.2.2.2.2.2.2, 0)
def qa2 (b : List Int) (qc : LR) : M12 :=
 if QC qc = true then (match qho b qc with
  | none => z12 4
  | some m => okM m) else z12 1
def qgb (b : List Int) : M12 := match hdS b with
 | none => z12 4
 | some (k, f, i, lo, hi, s, t, l, e, b, _) => (k, f, i, lo, hi, s, t, l, e, b, [], 0)
theorem qoh {b : List Int} {qc : LR} (hb : ∀ c ∈ b, 0 ≤ c ∧ c ≤ 255) (h : qcd (qa2 b qc) = 0) :
  qmj (qa2 b qc) ∧ qcU (qa2 b qc).1 (qa2 b qc).2.1 (qa2 b qc).2.2.1 (qa2 b qc).2.2.2.1 (qa2 b qc).2.2.2.2.1 (qa2 b qc).2.2.2.2.2.1 (qa2 b qc).2.2.2.2.2.2.1 (qa2 b qc).2.2.2.2.2.2.2.1 (qa2 b qc).2.2.2.2.2.2.2.2.1 (qa2 b qc).2.2.2.2.2.2.2.2.2.1 (qa2 b qc).2.2.2.2.2.2.2.2.2.2.1 qc = (b, 0) ∧ qgb b = qn0 (qa2 b qc) := by
 unfold qa2 at h ⊢
 by_cases hs : QC qc = true
 ·rw [if_pos hs] at h ⊢
  cases hd : qho b qc with
  | none => rw [hd] at h; exact absurd h (by unfold qcd z12; decide)
  | some m =>
   obtain ⟨k, f, i, lo, hi, s, t, l, e, b', rs⟩ := m
   obtain ⟨e1, e2, e3, a, e4⟩ := qmb hb hd
   dsimp only [okM]
   refine ⟨e2, ?_, ?_⟩
   ·unfold qcU
    rw [e2, hs, e1]
    simp only [Bool.and_self, if_true]
    rw [if_neg (by omega)]
   ·unfold qgb
    rw [e4]
    all_goals rfl
 ·rw [if_neg hs] at h
  exact absurd h (by unfold qcd z12; decide)
theorem qm4 {k f i lo hi s t l e b : Int} {qg qc : LR} (hs : QC qc = true) (h : (qcU k f i lo hi s t l e b qg qc).2 = 0) :
  qa2 (qcU k f i lo hi s t l e b qg qc).1 qc = (k, f, i, lo, hi, s, t, l, e, b, qg, 0) ∧ qR k f i lo hi s t l e b qg = true ∧ (qcU k f i lo hi s t l e b qg qc).1.length ≤ 65499 := by
 unfold qcU at h ⊢
 cases hv : qR k f i lo hi s t l e b qg with
 | false => rw [hv] at h; exact absurd h (by simp)
 | true =>
  rw [hv, hs] at h
  rw [hs]
  simp only [Bool.and_self, if_true] at h ⊢
  by_cases hl : (qb5 k f i lo hi s t l e b qg qc).length > 65499
  ·rw [if_pos hl] at h; exact absurd h (by decide)
  ·rw [if_neg hl]
   dsimp only
   refine ⟨?_, trivial, by omega⟩
   unfold qa2
   rw [if_pos hs, qm7 (qa4 hs).1 hv (by omega)]
   all_goals rfl
def qb4 (gen : Int) (b : List Int) (qc : LR) : M12 :=
 if gen == 1 then ((Qc b).1, (Qc b).2.1, (Qc b).2.2.1, (Qc b).2.2.2.1, (Qc b).2.2.2.2.1, (Qc b).2.2.2.2.2.1, (Qc b).2.2.2.2.2.2.1, 0, 0, 0, (Qc b).2.2.2.2.2.2.2.1, (Qc b).2.2.2.2.2.2.2.2)
 else if gen == 2 then ((zO b).1, (zO b).2.1, (zO b).2.2.1, (zO b).2.2.2.1, (zO b).2.2.2.2.1, (zO b).2.2.2.2.2.1, (zO b).2.2.2.2.2.2.1, 0, 0, 0, (zO b).2.2.2.2.2.2.2.1, (zO b).2.2.2.2.2.2.2.2)
 else if gen == 3 then qa2 b qc else z12 5
def zV (gen : Int) (k f i lo hi s t l e b : Int) (qg qc : LR) : List Int × Int :=
 if gen == 1 then qcT k f i lo hi s t l e b qg else if gen == 2 then qcV k f i lo hi s t l e b qg else if gen == 3 then qcU k f i lo hi s t l e b qg qc else ([], 5)
def Zb (gen : Int) (b : List Int) : M12 := if gen == 3 then qgb b else qn0 (qb4 gen b [])
def qlT (gen : Int) (m : M12) (qc : LR) : List Int × Int :=
 zV gen m.1 m.2.1 m.2.2.1 m.2.2.2.1 m.2.2.2.2.1 m.2.2.2.2.2.1 m.2.2.2.2.2.2.1 m.2.2.2.2.2.2.2.1 m.2.2.2.2.2.2.2.2.1 m.2.2.2.2.2.2.2.2.2.1 m.2.2.2.2.2.2.2.2.2.2.1 qc
theorem qnv {gen : Int} {b : List Int} {qc : LR} (hb : ∀ c ∈ b, 0 ≤ c ∧ c ≤ 255) (hl : b.length < 1000000000) (h : qcd (qb4 gen b qc) = 0) :
  qmj (qb4 gen b qc) ∧ qlT gen (qb4 gen b qc) qc = (b, 0) ∧ 1 ≤ gen ∧ gen ≤ 3 := by
 unfold qb4 at h ⊢
 by_cases h1 : gen = 1
 ·subst h1
  rw [if_pos (by simp)] at h ⊢
  obtain ⟨i1, i2, i3⟩ := qoG b ((Qy b).2 ⟨by omega, hb⟩) h
  have hv := (qdO (by rw [← qdB]; exact i1)).1
  refine ⟨hv, ?_, by omega, by omega⟩
  unfold qlT zV
  rw [if_pos (by simp)]
  dsimp only
  unfold qcT
  rw [hv, i1, i2]
  all_goals rfl
 ·rw [if_neg (by simpa using h1)] at h ⊢
  by_cases h2 : gen = 2
  ·subst h2
   rw [if_pos (by simp)] at h ⊢
   obtain ⟨i1, i2, i3⟩ := qow b (qj4 hb hl) h
   have hv := (qeC i1).1
   refine ⟨hv, ?_, by omega, by omega⟩
   unfold qlT zV
   rw [if_neg (by simp), if_pos (by simp)]
   dsimp only
   unfold qcV
   rw [hv, i1, i2]
   all_goals rfl
  ·rw [if_neg (by simpa using h2)] at h ⊢
   by_cases h3 : gen = 3
   ·subst h3
    rw [if_pos (by simp)] at h ⊢
    obtain ⟨d1, d2, d3⟩ := qoh hb h
    refine ⟨d1, ?_, by omega, by omega⟩
    unfold qlT zV
    rw [if_neg (by simp), if_neg (by simp), if_pos (by simp)]
    exact d2
   ·rw [if_neg (by simpa using h3)] at h
    exact absurd h (by unfold qcd z12; decide)
theorem qdx {gen : Int} (P : Int → Prop) (h1 : P 1) (h2 : P 2) (h3 : P 3) (h0 : gen ≠ 1 → gen ≠ 2 → gen ≠ 3 → P gen) : P gen := by
 by_cases e1 : gen = 1
 ·subst e1; exact h1
 ·by_cases e2 : gen = 2
  ·subst e2; exact h2
  ·by_cases e3 : gen = 3
   ·subst e3; exact h3
   ·exact h0 e1 e2 e3
theorem qgr (k f i lo hi s t l e b : Int) (qg qc : LR) : zV 1 k f i lo hi s t l e b qg qc = qcT k f i lo hi s t l e b qg := rfl
theorem qgq (k f i lo hi s t l e b : Int) (qg qc : LR) : zV 2 k f i lo hi s t l e b qg qc = qcV k f i lo hi s t l e b qg := rfl
theorem qeM (k f i lo hi s t l e b : Int) (qg qc : LR) : zV 3 k f i lo hi s t l e b qg qc = qcU k f i lo hi s t l e b qg qc := rfl
theorem qgs {gen : Int} (h1 : gen ≠ 1) (h2 : gen ≠ 2) (h3 : gen ≠ 3) (k f i lo hi s t l e b : Int) (qg qc : LR) : zV gen k f i lo hi s t l e b qg qc = ([], 5) := by
 unfold zV
 rw [if_neg (by simpa using h1), if_neg (by simpa using h2), if_neg (by simpa using h3)]
theorem qmQ (b : List Int) (qc : LR) : qb4 1 b qc = ((Qc b).1, (Qc b).2.1, (Qc b).2.2.1, (Qc b).2.2.2.1, (Qc b).2.2.2.2.1, (Qc b).2.2.2.2.2.1, (Qc b).2.2.2.2.2.2.1, 0, 0, 0, (Qc b).2.2.2.2.2.2.2.1, (Qc b).2.2.2.2.2.2.2.2) := rfl
theorem qmP (b : List Int) (qc : LR) : qb4 2 b qc = ((zO b).1, (zO b).2.1, (zO b).2.2.1, (zO b).2.2.2.1, (zO b).2.2.2.2.1, (zO b).2.2.2.2.2.1, (zO b).2.2.2.2.2.2.1, 0, 0, 0, (zO b).2.2.2.2.2.2.2.1, (zO b).2.2.2.2.2.2.2.2) := rfl
theorem qmO (b : List Int) (qc : LR) : qb4 3 b qc = qa2 b qc := rfl
theorem qkZ {k f i lo hi s t l e b : Int} {qg : LR} (h : (qcT k f i lo hi s t l e b qg).2 = 0) : qR k f i lo hi s t l e b qg = true ∧ qak k f i lo hi s t l e b qg = true ∧ l = 0 ∧ e = 0 ∧ b = 0 ∧ qcT k f i lo hi s t l e b qg = (qbw k f i lo hi s t qg, 0) := by
 unfold qcT at h ⊢
 cases hv : qR k f i lo hi s t l e b qg with
 | false => rw [hv] at h; exact absurd h (by simp)
 | true =>
  rw [hv] at h
  cases hf : qak k f i lo hi s t l e b qg with
  | false => rw [hf] at h; exact absurd h (by simp)
  | true =>
   have hf' := hf
   rw [qdB] at hf'
   obtain ⟨h1, h2, h3⟩ := ql7 hf'
   exact ⟨rfl, rfl, h1, h2, h3, rfl⟩
theorem qkY {k f i lo hi s t l e b : Int} {qg : LR} (h : (qcV k f i lo hi s t l e b qg).2 = 0) : qR k f i lo hi s t l e b qg = true ∧ k ≠ 9 ∧ l = 0 ∧ e = 0 ∧ b = 0 ∧ qbS qg = true ∧ (ZQ k f i lo hi s t qg).length ≤ 65499 ∧ qcV k f i lo hi s t l e b qg = (ZQ k f i lo hi s t qg, 0) := by
 unfold qcV at h ⊢
 cases hv : qR k f i lo hi s t l e b qg with
 | false => rw [hv] at h; exact absurd h (by simp)
 | true =>
  rw [hv] at h
  cases hf : qaH k f i lo hi s t l e b qg with
  | false => rw [hf] at h; exact absurd h (by simp)
  | true =>
   have hf' := hf
   rw [ql8] at hf'
   obtain ⟨_, h9, h1, h2, h3, h2', hlen⟩ := qka hf'
   exact ⟨rfl, h9, h1, h2, h3, h2', hlen, rfl⟩
theorem qlk {gen : Int} {k f i lo hi s t l e b : Int} {qg qc : LR} (Qo : gen = 3 → QC qc = true) (h : (zV gen k f i lo hi s t l e b qg qc).2 = 0) :
  qb4 gen (zV gen k f i lo hi s t l e b qg qc).1 qc = (k, f, i, lo, hi, s, t, l, e, b, qg, 0) ∧ qR k f i lo hi s t l e b qg = true ∧ (zV gen k f i lo hi s t l e b qg qc).1.length ≤ 65499 ∧ 1 ≤ gen ∧ gen ≤ 3 := by
 revert Qo h
 refine qdx (gen := gen) (fun gen => (gen = 3 → QC qc = true) → (zV gen k f i lo hi s t l e b qg qc).2 = 0 → qb4 gen (zV gen k f i lo hi s t l e b qg qc).1 qc = (k, f, i, lo, hi, s, t, l, e, b, qg, 0) ∧ qR k f i lo hi s t l e b qg = true ∧ (zV gen k f i lo hi s t l e b qg qc).1.length ≤ 65499 ∧ 1 ≤ gen ∧ gen ≤ 3) ?_ ?_ ?_ ?_
 ·intro _ h
  rw [qgr] at h ⊢
  obtain ⟨hv, hf, rfl, rfl, rfl, he⟩ := qkZ h
  rw [qmQ, he]
  dsimp only
  rw [qoV k f i lo hi s t qg hf]
  have := qnS k f i lo hi s t qg
  have hlen := (Ql hv).2.2.2.2.2.2.2.2.2.2.2.2.1
  exact ⟨rfl, hv, by omega, by omega, by omega⟩
 ·intro _ h
  rw [qgq] at h ⊢
  obtain ⟨hv, h9, rfl, rfl, rfl, h2, hl, he⟩ := qkY h
  rw [qmP, he]
  dsimp only
  rw [qoL hv h9 h2 hl]
  exact ⟨rfl, hv, hl, by omega, by omega⟩
 ·intro hs h
  rw [qeM] at h ⊢
  rw [qmO]
  obtain ⟨q1, q2, q3⟩ := qm4 (hs rfl) h
  exact ⟨q1, q2, q3, by omega, by omega⟩
 ·intro h1 h2 h3 _ h
  rw [qgs h1 h2 h3] at h
  exact absurd h (by simp)
def isB (l : List Int) : Prop := ∀ c ∈ l, 0 ≤ c ∧ c ≤ 255
theorem Z6 : isB [] := by simp [isB]
theorem ZU {l m : List Int} (h1 : isB l) (h2 : isB m) : isB (l ++ m) := fun c hc => by
 rcases List.mem_append.1 hc with h | h
 ·exact h1 c h
 ·exact h2 c h
theorem Zr {x : Int} {m : List Int} (h0 : 0 ≤ x) (h1 : x ≤ 255) (h2 : isB m) : isB (x :: m) := fun c hc => by
 rcases List.mem_cons.1 hc with rfl | h
 ·exact ⟨h0, h1⟩
 ·exact h2 c h
theorem qeX {b : Bool} {l : List Int} (h : isB l) : isB (if b = true then l else []) := by
 cases b
 ·exact Z6
 ·exact h
theorem qkV {b : Bool} {l : List Int} (h : isB l) : isB (if b = true then [] else l) := by
 cases b
 ·exact h
 ·exact Z6
theorem qiT : ∀ (j : Nat) (v : Int), 0 ≤ v → v < 2 * 128 ^ j → isB (viF j v)
 | 0, v, h0, h1 => by
  rw [viF]
  exact Zr h0 (by simp at h1; omega) Z6
 | j + 1, v, h0, h1 => by
  rw [viF]
  by_cases h : v ≥ 128
  ·rw [if_pos h]
   exact Zr (by omega) (by omega) (qiT j (v / 128) (by omega) (by rw [Int.pow_succ] at h1; generalize (128 : Int) ^ j = M at h1 ⊢; omega))
  ·rw [if_neg h]
   exact Zr h0 (by omega) Z6
theorem qaa {v : Int} (h0 : 0 ≤ v) (h1 : v < 18446744073709551616) : isB (vi v) := qiT 9 v h0 (by simpa using h1)
theorem ql5 {x : Int × List Int} (h0 : 0 ≤ x.1) (h1 : x.1 ≤ 255) (h2 : x.2.length ≤ 4096) (h3 : isB x.2) : isB (qaE x) :=
 Zr h0 h1 (ZU (qaa (by omega) (by omega)) h3)
theorem qmd {b : LF} (h : qbo b = true) (hb : ∀ x ∈ b, isB x.2) : isB (qa8 b) := by
 have hl := Zv h
 have ht := qbn h
 exact ZU (qaa (by omega) (by omega)) (qhj fun x hx => ql5 (by have := ht x hx; omega) (ht x hx).2.1 (ht x hx).2.2 (hb x hx))
theorem qkF {o : REC × Bool} {r : REC} (hr : zu r = true) : 0 ≤ qds o r ∧ qds o r ≤ 31 := by
 obtain ⟨f1, f2, f3, f4, f5, f6, _⟩ := zy hr
 unfold qds
 split <;> split <;> split <;> omega
theorem qlR {qc : LR} (Qo : ∀ x ∈ qc, zu x = true) {qe : Int} {r : REC} (hr : zu r = true) (h1 : -1 ≤ qe) (h2 : qe < r.1) (hb : ∀ x ∈ r.2.2.2.2.2, isB x.2) : isB (qcP (zt qc r.1) qe r) := by
 obtain ⟨f1, f2, f3, f4, f5, f6, f7, f8, f9⟩ := zy hr
 obtain ⟨o0, o1⟩ := qiG Qo r.1
 obtain ⟨z0, z1⟩ := qjC f3 f4 o0 o1
 obtain ⟨g0, g1⟩ := qkF (o := zt qc r.1) hr
 have hs := (ZP _ _).1 f7
 unfold qcP
 exact ZU (qaa (by omega) (by omega)) (Zr g0 (by omega) (ZU (qkV (Zr (by omega) (by omega) Z6)) (ZU (qaa z0 (by omega)) (qkV (qmd f8 hb)))))
theorem qgT {qc : LR} (Qo : ∀ x ∈ qc, zu x = true) : ∀ (l : LR) (qe : Int), (∀ r ∈ l, zu r = true) → -1 ≤ qe → qek qe l → qcv l → isB (ZH qc qe l)
 | [], _, _, _, _, _ => Z6
 | r :: l, qe, hr, h1, h2, hb => by
  have hm := hr r (List.mem_cons_self ..)
  have hid := (zy hm).1
  exact ZU (qlR Qo hm h1 h2.1 (hb r (List.mem_cons_self ..))) (qgT Qo l r.1 (fun x hx => hr x (List.mem_cons_of_mem _ hx)) (by omega) h2.2 (fun x hx => hb x (List.mem_cons_of_mem _ hx)))
theorem qkI {k f i lo hi s t l e b : Int} {qg qc : LR} (hv : qR k f i lo hi s t l e b qg = true) (Qo : ∀ x ∈ qc, zu x = true) (hb : qcv qg) : isB (qb5 k f i lo hi s t l e b qg qc) := by
 obtain ⟨v1, v2, v3, v4, v5, v6, v7, v8, v9, v10, v11, v12, v13, v14⟩ := Ql hv
 obtain ⟨w1, w2, w3, w4, w5, w6, _⟩ := qez v12
 obtain ⟨_, hris⟩ := qe1 hv
 have hs := (ZP _ _).1 v7
 rw [qhi]
 unfold hd3
 exact Zr (by omega) (by omega) (ZU (qaa v3 (by omega)) (ZU (qaa v5 (by omega)) (Zr (by omega) (by omega) (ZU (qeX (qaa v8 (by omega))) (ZU (qeX (qaa v10 (by omega))) (ZU (qeX (qaa w1 (by omega))) (ZU (qeX (qaa w3 (by omega))) (ZU (qeX (qaa w5 (by omega))) (ZU (qeX (qaa (by omega) (by omega))) (qgT (qgk Qo b) qg (-1) v14 (by omega) hris hb))))))))))
theorem qnm {gen : Int} {k f i lo hi s t l e b : Int} {qg qc : LR} (h : (zV gen k f i lo hi s t l e b qg qc).2 ≠ 0) : (zV gen k f i lo hi s t l e b qg qc).1 = [] := by
 revert h
 refine qdx (gen := gen) (fun gen => (zV gen k f i lo hi s t l e b qg qc).2 ≠ 0 → (zV gen k f i lo hi s t l e b qg qc).1 = []) ?_ ?_ ?_ ?_
 ·rw [qgr]
  unfold qcT
  cases qR k f i lo hi s t l e b qg <;> cases qak k f i lo hi s t l e b qg <;> simp
 ·rw [qgq]
  unfold qcV
  cases qR k f i lo hi s t l e b qg <;> cases qaH k f i lo hi s t l e b qg <;> simp
 ·rw [qeM]
  unfold qcU
  split
  ·split
   ·intro _; rfl
   ·intro h; exact absurd rfl h
  ·intro _; rfl
 ·intro h1 h2 h3 _
  rw [qgs h1 h2 h3]
theorem qdm {gen : Int} {k f i lo hi s t l e b : Int} {qg qc : LR} (Qo : gen = 3 → QC qc = true) (hb : qcv qg) : isB (zV gen k f i lo hi s t l e b qg qc).1 ∧ (zV gen k f i lo hi s t l e b qg qc).1.length ≤ 65499 := by
 by_cases h : (zV gen k f i lo hi s t l e b qg qc).2 = 0
 ·obtain ⟨_, hv, hl, _⟩ := qlk Qo h
  refine ⟨?_, hl⟩
  have hv' := Ql hv
  revert h Qo
  refine qdx (gen := gen) (fun gen => (gen = 3 → QC qc = true) → (zV gen k f i lo hi s t l e b qg qc).2 = 0 → isB (zV gen k f i lo hi s t l e b qg qc).1) ?_ ?_ ?_ ?_
  ·intro _ h
   rw [qgr] at h ⊢
   obtain ⟨_, _, _, _, _, he⟩ := qkZ h
   rw [he]
   exact ((Qy _).1 (qii k f i lo hi s t qg hv'.2.2.2.2.2.2.2.2.2.2.2.2.1)).2
  ·intro _ h
   rw [qgq] at h ⊢
   obtain ⟨_, _, _, _, _, _, _, he⟩ := qkY h
   rw [he]
   exact qkK hv'.2.2.2.2.2.2.2.2.2.2.2.2.2 hb
  ·intro hs h
   rw [qeM] at h ⊢
   unfold qcU at h ⊢
   rw [hv, hs rfl] at h ⊢
   simp only [Bool.and_self, if_true] at h ⊢
   split
   ·exact Z6
   ·exact qkI hv (qa4 (hs rfl)).1 hb
  ·intro h1 h2 h3 _ _
   rw [qgs h1 h2 h3]
   exact Z6
 ·rw [qnm h]
  exact ⟨Z6, by simp⟩
theorem qg0 (n : Int) : IntKind.wrap .u32 n = n % 4294967296 := by simp [IntKind.wrap, IntKind.bits, IntKind.signed]
theorem qgt (n : Int) : IntKind.wrap .u8 n = n % 256 := by simp [IntKind.wrap, IntKind.bits, IntKind.signed]
theorem qcX (a b : Nat) (ha : a < 4294967296) (hb : b < 4294967296) : bits BinOp.xor .u32 (a : Int) (b : Int) = ((a ^^^ b : Nat) : Int) := by
 show IntKind.wrap .u32 (((BitVec.ofInt 32 (a : Int) ^^^ BitVec.ofInt 32 (b : Int)).toNat : Nat) : Int) = _
 rw [BitVec.toNat_xor, BitVec.toNat_ofInt, BitVec.toNat_ofInt, qg0]
 have e1 : ((a : Int) % ((2 ^ 32 : Nat) : Int)).toNat = a := by
  rw [show ((2 ^ 32 : Nat) : Int) = 4294967296 from rfl]; omega
 have e2 : ((b : Int) % ((2 ^ 32 : Nat) : Int)).toNat = b := by
  rw [show ((2 ^ 32 : Nat) : Int) = 4294967296 from rfl]; omega
 rw [e1, e2]
 have := qhu a b 32 ha hb
 rw [show (2 : Nat) ^ 32 = 4294967296 from rfl] at this
 omega
theorem qmc (c : Nat) (hc : c < 256) : bits BinOp.and .u8 (c : Int) 15 = ((c % 16 : Nat) : Int) := by
 have : ∀ c, c < 256 → bits BinOp.and .u8 ((c : Nat) : Int) 15 = ((c % 16 : Nat) : Int) := by decide +kernel
 exact this c hc
theorem qia (k : Nat) (hk : k < 16) : idx halves (k : Int) = some ((hN k : Nat) : Int) := by
 have : ∀ k, k < 16 → idx halves ((k : Nat) : Int) = some ((hN k : Nat) : Int) := by decide +kernel
 exact this k hk
theorem qm3 (r : Nat) : Int.fdiv (r : Int) (2 ^ (Min.min (Int.toNat 28) (IntKind.bits .u32))) = ((r / 268435456 : Nat) : Int) := by
 have e : (2 : Int) ^ (Min.min (Int.toNat 28) (IntKind.bits .u32)) = 268435456 := rfl
 rw [e, Int.fdiv_eq_ediv_of_nonneg _ (by omega)]
 omega
theorem qoJ (r : Nat) : Int.fdiv (r : Int) (2 ^ (Min.min (Int.toNat 4) (IntKind.bits .u8))) = ((r / 16 : Nat) : Int) := by
 have e : (2 : Int) ^ (Min.min (Int.toNat 4) (IntKind.bits .u8)) = 16 := rfl
 rw [e, Int.fdiv_eq_ediv_of_nonneg _ (by omega)]
 omega
theorem qol (r : Nat) : IntKind.wrap .u32 ((r : Int) * (2 ^ (Min.min (Int.toNat 4) (IntKind.bits .u32)))) = ((r * 16 % 4294967296 : Nat) : Int) := by
 have e : (2 : Int) ^ (Min.min (Int.toNat 4) (IntKind.bits .u32)) = 16 := rfl
 rw [e, qg0]
 omega
theorem qis (k : Nat) (h : k < 4294967296) : IntKind.wrap .u32 (k : Int) = (k : Int) := by rw [qg0]; omega
theorem qnR (l : List Int) (reg0 : Int) (A : Int → Int → Int → Option Int) (r : Nat) (hr : r < 4294967296) (c : Nat) (hc : c < 256) (x1 x2 : Int) (hx : x2 < x1) (hi : idx l x2 = some (c : Int)) :
  zl.b2 reg0 l A (r : Int) x1 x2 = A ((qjx r c : Nat) : Int) x1 (IntKind.wrap .i64 (x2 + 1)) := by
 unfold zl.b2
 have h1 : (c : Nat) / 16 < 16 := by omega
 rw [if_pos (by simpa using hx), hi]
 dsimp only
 rw [qm3, qoJ, qis _ (by omega), qcX _ _ (by omega) (by omega), qia _ (qmk r _ hr h1)]
 dsimp only
 rw [qol, qcX _ _ (by omega) (ql2 _)]
 have e1 : (r * 16 % 4294967296) ^^^ hN ((r / 268435456) ^^^ (c / 16)) = nib r (c / 16) := rfl
 rw [e1, qm3, qmc c hc, qis _ (by omega), qcX _ _ (by have := qjX r (c / 16); omega) (by omega), qia _ (qmk _ _ (qjX _ _) (by omega))]
 dsimp only
 rw [qol, qcX _ _ (by omega) (ql2 _)]
 rfl
theorem zl.loop (l : List Int) (reg0 : Int) (hl : l.length ≤ 1000000) : ∀ (suf pre : List Int) (r n : Nat), pre ++ suf = l → isB suf → r < 4294967296 → suf.length < n →
  zl.l2 BIG reg0 l n (r : Int) ((l.length : Nat) : Int) ((pre.length : Nat) : Int) = some ((qkc r (suf.map Int.toNat) : Nat) : Int)
 | suf, pre, r, 0, _, _, _, h => absurd h (by omega)
 | [], pre, r, n + 1, he, hb, hr, h => by
  rw [zl.l2_at BIG (n + 1) n rfl]
  unfold zl.b2
  rw [if_neg (by rw [← he]; simp)]
  rfl
 | c :: suf, pre, r, n + 1, he, hb, hr, h => by
  simp at h
  have hpl : pre.length + (suf.length + 1) = l.length := by rw [← he]; simp
  obtain ⟨hc0, hc1⟩ := hb c (by simp)
  have ec : ((c.toNat : Nat) : Int) = c := by omega
  have hi : idx l ((pre.length : Nat) : Int) = some ((c.toNat : Nat) : Int) := by
   rw [ec, ← he, Qn]; simp
  rw [zl.l2_at BIG (n + 1) n rfl, qnR l reg0 _ r hr c.toNat (by omega) _ _ (by omega) hi, qK _ (by omega) (by omega)]
  have ih := zl.loop l reg0 hl suf (pre ++ [c]) (qjx r c.toNat) n (by rw [← he]; simp) (fun x hx => hb x (by simp [hx])) (qjF _ _) (by omega)
  have e2 : (((pre ++ [c]).length : Nat) : Int) = ((pre.length : Nat) : Int) + 1 := by simp
  rw [e2] at ih
  exact ih
theorem zl.pure (l : List Int) (r : Nat) (hr : r < 4294967296) (hb : isB l) (hl : l.length ≤ 1000000) : zl.f BIG (r : Int) l = some ((qkc r (l.map Int.toNat) : Nat) : Int) := by
 unfold zl.f zl.b
 exact zl.loop l r hl l [] r BIG rfl hb hr (by rw [Z4]; omega)
def qeE (l : List Int) : Nat := 4294967295 ^^^ qkc 4294967295 (l.map Int.toNat)
theorem qiL (l : List Int) : qeE l < 4294967296 := qhu _ _ 32 (by decide) (qk1 _ _ (by decide))
theorem zG.pure (l : List Int) (hb : isB l) (hl : l.length ≤ 1000000) : zG.f BIG [l] = some ((qeE l : Nat) : Int) := by
 obtain ⟨k, hk⟩ : ∃ k, BIG = k + 1 + 1 := ⟨BIG - 2, by rw [Z4]⟩
 unfold zG.f zG.b
 rw [veil_eq, zG.l3_at BIG BIG (k + 1) hk]
 unfold zG.b3
 rw [if_pos (by simp)]
 have e0 : idx [l] 0 = some l := rfl
 rw [e0]
 dsimp only
 have e1 := zl.pure l 4294967295 (by decide) hb hl
 rw [show ((4294967295 : Nat) : Int) = 4294967295 from rfl] at e1
 rw [e1]
 simp only [veil_eq]
 rw [zG.l3_at BIG (k + 1) k rfl]
 unfold zG.b3
 rw [if_neg (by rw [qK _ (by omega) (by omega)]; simp)]
 have e2 : (if (IntKind.signed .u32) = true then (-1 : Int) else (IntKind.max .u32)) = ((4294967295 : Nat) : Int) := by decide +kernel
 rw [e2, qcX _ _ (by decide) (qk1 _ _ (by decide))]
 rfl
def ZG (gen : Int) (qT : List Int) : List Int := 156 :: gen :: ((qT.length / 256 : Nat) : Int) :: ((qT.length % 256 : Nat) : Int) :: qT
def qe2 (s : Nat) : List Int := [((s / 16777216 : Nat) : Int), ((s / 65536 % 256 : Nat) : Int), ((s / 256 % 256 : Nat) : Int), ((s % 256 : Nat) : Int)]
def QD (gen : Int) (qT : List Int) : List Int := ZG gen qT ++ qe2 (qeE (ZG gen qT))
def qjy (gen : Int) (qT : List Int) : List Int × Int := if gen < 1 ∨ gen > 3 then ([], 5) else if qT.length > 65499 then ([], 3) else (QD gen qT, 0)
theorem qeA {gen : Int} {qT : List Int} (h1 : 1 ≤ gen) (h3 : gen ≤ 3) (hb : isB qT) (hl : qT.length ≤ 65499) : isB (ZG gen qT) := by
 unfold ZG
 exact Zr (by omega) (by omega) (Zr (by omega) (by omega) (Zr (by omega) (by omega) (Zr (by omega) (by omega) hb)))
theorem qlm (s : Nat) (h : s < 4294967296) : isB (qe2 s) := by
 unfold qe2
 exact Zr (by omega) (by omega) (Zr (by omega) (by omega) (Zr (by omega) (by omega) (Zr (by omega) (by omega) Z6)))
theorem qcJ {gen : Int} {qT : List Int} (h1 : 1 ≤ gen) (h3 : gen ≤ 3) (hb : isB qT) (hl : qT.length ≤ 65499) : isB (QD gen qT) :=
 ZU (qeA h1 h3 hb hl) (qlm _ (qiL _))
theorem fd (s k : Nat) (p : Int) (hp : p = (k : Int)) (hk : 0 < k) : IntKind.wrap .u8 (Int.fdiv (s : Int) p) = ((s / k % 256 : Nat) : Int) := by
 subst hp
 rw [Int.fdiv_eq_ediv_of_nonneg _ (by omega), qgt]
 omega
theorem qoS (n : Nat) (hn : n ≤ 65499) : List.replicate (Int.toNat (IntKind.wrap .i64 (4 + ((n : Nat) : Int)))) (zeroI (Go.Den.Ty.int .u8)) = (0 : Int) :: (0 : Int) :: (0 : Int) :: (0 : Int) :: List.replicate n (0 : Int) := by
 rw [qK _ (by omega) (by omega)]
 have : Int.toNat (4 + ((n : Nat) : Int)) = n + 1 + 1 + 1 + 1 := by omega
 rw [this]
 rfl
theorem QB.pure (gen : Int) (qT : List Int) (hb : isB qT) : QB.f BIG gen qT = some (qjy gen qT) := by
 unfold QB.f QB.b qjy
 by_cases h1 : gen < 1
 ·rw [if_pos (by simp [h1]), if_pos (.inl h1)]
 rw [if_neg (by simp [h1])]
 by_cases h3 : gen > 3
 ·rw [if_pos (by simp [h3]), if_pos (.inr h3)]
 have hg : ¬ (gen < 1 ∨ gen > 3) := by omega
 rw [if_neg (by simp [h3]), if_neg hg]
 by_cases hl : qT.length > 65499
 ·rw [if_pos hl, if_pos (by simp; omega)]
 rw [if_neg hl, if_neg (by simp; omega)]
 have hn : qT.length ≤ 65499 := by omega
 rw [if_pos (by rw [qK _ (by omega) (by omega), qK _ (by omega) (by omega)]; omega), qoS _ hn]
 generalize hR : List.replicate qT.length (0 : Int) = R
 have hRl : R.length = qT.length := by rw [← hR]; simp
 have i0 : ∀ a b c d : Int, idx (a :: b :: c :: d :: R) 0 = some a := fun _ _ _ _ => rfl
 have i1 : ∀ a b c d : Int, idx (a :: b :: c :: d :: R) 1 = some b := fun _ _ _ _ => rfl
 have i2 : ∀ a b c d : Int, idx (a :: b :: c :: d :: R) 2 = some c := fun _ _ _ _ => rfl
 have i3 : ∀ a b c d : Int, idx (a :: b :: c :: d :: R) 3 = some d := fun _ _ _ _ => rfl
 have s0 : ∀ a b c d x : Int, List.set (a :: b :: c :: d :: R) (Int.toNat 0) x = x :: b :: c :: d :: R := fun _ _ _ _ _ => rfl
 have s1 : ∀ a b c d x : Int, List.set (a :: b :: c :: d :: R) (Int.toNat 1) x = a :: x :: c :: d :: R := fun _ _ _ _ _ => rfl
 have s2 : ∀ a b c d x : Int, List.set (a :: b :: c :: d :: R) (Int.toNat 2) x = a :: b :: x :: d :: R := fun _ _ _ _ _ => rfl
 have s3 : ∀ a b c d x : Int, List.set (a :: b :: c :: d :: R) (Int.toNat 3) x = a :: b :: c :: x :: R := fun _ _ _ _ _ => rfl
 have t4 : ∀ a b c d : Int, List.take (Int.toNat 4) (a :: b :: c :: d :: R) = [a, b, c, d] := fun _ _ _ _ => rfl
 have d4 : ∀ a b c d : Int, List.drop (Int.toNat 4 + qT.length) (a :: b :: c :: d :: R) = [] := by
  intro a b c d
  rw [List.drop_eq_nil_iff]
  have : Int.toNat 4 = 4 := rfl
  simp [hRl, this]; omega
 simp only [i0, i1, i2, i3, s0, s1, s2, s3, t4, d4]
 rw [if_pos (by simp <;> omega), if_pos (by have : Int.toNat 4 = 4 := rfl; simp [hRl, this] <;> omega)]
 have g1 : IntKind.wrap .u8 gen = gen := by rw [qgt]; omega
 have g2 : IntKind.wrap .u8 (Int.fdiv ((qT.length : Nat) : Int) (2 ^ (Min.min (Int.toNat 8) (IntKind.bits .i64)))) = ((qT.length / 256 : Nat) : Int) := by
  have e8 : (2 : Int) ^ (Min.min (Int.toNat 8) (IntKind.bits .i64)) = ((256 : Nat) : Int) := rfl
  rw [e8, fd qT.length 256 _ rfl (by omega)]; omega
 have g3 : IntKind.wrap .u8 ((qT.length : Nat) : Int) = ((qT.length % 256 : Nat) : Int) := by rw [qgt]; omega
 rw [g1, g2, g3]
 have ef : [156, gen, ((qT.length / 256 : Nat) : Int), ((qT.length % 256 : Nat) : Int)] ++ qT ++ [] = ZG gen qT := by simp [ZG]
 rw [ef, zG.pure _ (qeA (by omega) (by omega) hb hn) (by simp [ZG]; omega)]
 simp only [veil_eq]
 have e24 : (2 : Int) ^ (Min.min (Int.toNat 24) (IntKind.bits .u32)) = ((16777216 : Nat) : Int) := rfl
 have e16 : (2 : Int) ^ (Min.min (Int.toNat 16) (IntKind.bits .u32)) = ((65536 : Nat) : Int) := rfl
 have e8 : (2 : Int) ^ (Min.min (Int.toNat 8) (IntKind.bits .u32)) = ((256 : Nat) : Int) := rfl
 rw [e24, e16, e8, fd _ 16777216 _ rfl (by omega), fd _ 65536 _ rfl (by omega), fd _ 256 _ rfl (by omega)]
 have g4 : IntKind.wrap .u8 ((qeE (ZG gen qT) : Nat) : Int) = ((qeE (ZG gen qT) % 256 : Nat) : Int) := by rw [qgt]; omega
 have g5 : qeE (ZG gen qT) / 16777216 % 256 = qeE (ZG gen qT) / 16777216 := by have := qiL (ZG gen qT); omega
 rw [g4, g5, if_pos (by unfold lim; simp [ZG]; omega)]
 rfl
theorem qmX {l : List Int} (h : isB l) (hl : l.length ≤ 1000000) : inB l = true := by
 unfold inB
 rw [Bool.and_eq_true, List.all_eq_true]
 refine ⟨by unfold QQ; simp; omega, fun c hc => ?_⟩
 have := h c hc
 simp
 omega
theorem qit (l : List Int) (n a : Nat) (h : a + n ≤ l.length) : qY l (n : Int) (a : Int) false = ((l.take (a + n)).drop a, true, ((a + n : Nat) : Int), false) := by
 unfold qY
 rw [if_neg (by simp), if_neg (by simp; omega)]
 unfold seg
 have e1 : ((a : Int) + (n : Int)).toNat = a + n := by omega
 rw [e1, Int.toNat_natCast]
 simp
theorem qcB (l : List Int) (n a : Nat) (h1 : 1 ≤ n) (h7 : n ≤ 7) (h : a + n ≤ l.length) : ql l (n : Int) (a : Int) false = (QL ((l.take (a + n)).drop a), ((a + n : Nat) : Int), false) := by
 unfold ql
 have e : (if (decide ((n : Int) < 1) || decide ((n : Int) > 7)) = true then (-1 : Int) else (n : Int)) = (n : Int) := if_neg (by simp; omega)
 dsimp only
 rw [e, qit l n a h]
 rfl
theorem qnA (s : Nat) (h : s < 4294967296) : QL (qe2 s) = (s : Int) := by
 show (((0 * 256 + ((s / 16777216 : Nat) : Int)) * 256 + ((s / 65536 % 256 : Nat) : Int)) * 256 + ((s / 256 % 256 : Nat) : Int)) * 256 + ((s % 256 : Nat) : Int) = (s : Int)
 omega
theorem qmT (gen : Int) (qT : List Int) (h1 : 1 ≤ gen) (h3 : gen ≤ 3) (hb : isB qT) (hl : qT.length ≤ 65499) : Qg.f BIG (QD gen qT) = some (gen, qT, 0) := by
 generalize hs : qeE (ZG gen qT) = s
 have hsl : s < 4294967296 := by rw [← hs]; exact qiL _
 have hin := qmX (qcJ h1 h3 hb hl) (by unfold QD ZG qe2; simp; omega)
 have hS : QD gen qT = 156 :: gen :: ((qT.length / 256 : Nat) : Int) :: ((qT.length % 256 : Nat) : Int) :: (qT ++ qe2 s) := by unfold QD; rw [hs]; rfl
 have hlen : (QD gen qT).length = qT.length + 8 := by rw [hS]; simp [qe2]
 have hfr : (QD gen qT).take (qT.length + 4) = ZG gen qT := by rw [hS]; unfold ZG; simp
 generalize hL : QD gen qT = L at *
 have hat : ∀ a : Nat, a ≤ qT.length + 8 → zk L (a : Int) = true := by
  intro a h1
  unfold zk
  rw [hin, hlen]
  simp
  omega
 have r0 := qcB L 1 0 (by omega) (by omega) (by omega)
 have r1 := qcB L 1 1 (by omega) (by omega) (by omega)
 have r2 := qcB L 2 2 (by omega) (by omega) (by omega)
 have r3 := qit L qT.length 4 (by omega)
 have r4 := qcB L 4 (4 + qT.length) (by omega) (by omega) (by omega)
 have p0 : QL ((L.take (0 + 1)).drop 0) = 156 := by rw [hS]; rfl
 have p1 : QL ((L.take (1 + 1)).drop 1) = gen := by
  rw [hS]
  show 0 * 256 + gen = gen
  omega
 have p2 : QL ((L.take (2 + 2)).drop 2) = (qT.length : Int) := by
  rw [hS]
  show (0 * 256 + ((qT.length / 256 : Nat) : Int)) * 256 + ((qT.length % 256 : Nat) : Int) = (qT.length : Int)
  omega
 have p3 : (L.take (4 + qT.length)).drop 4 = qT := by
  rw [hS, Nat.add_comm 4]
  simp
 have p4 : QL ((L.take (4 + qT.length + 4)).drop (4 + qT.length)) = (s : Int) := by
  have e : (L.take (4 + qT.length + 4)).drop (4 + qT.length) = qe2 s := by
   rw [List.take_of_length_le (by omega), hS, Nat.add_comm 4]
   simp
  rw [e, qnA s hsl]
 rw [p0] at r0
 rw [p1] at r1
 rw [p2] at r2
 rw [p3] at r3
 rw [p4] at r4
 simp only [show ((0 : Nat) : Int) = 0 from rfl, show ((1 : Nat) : Int) = 1 from rfl, show ((2 : Nat) : Int) = 2 from rfl, show ((4 : Nat) : Int) = 4 from rfl, show ((0 + 1 : Nat) : Int) = 1 from rfl, show ((1 + 1 : Nat) : Int) = 2 from rfl, show ((2 + 2 : Nat) : Int) = 4 from rfl] at r0 r1 r2 r3 r4
 have a0 := hat 0 (by omega)
 have a1 := hat 1 (by omega)
 have a2 := hat 2 (by omega)
 have a4 := hat 4 (by omega)
 have a5 := hat (4 + qT.length) (by omega)
 simp only [show ((0 : Nat) : Int) = 0 from rfl, show ((1 : Nat) : Int) = 1 from rfl, show ((2 : Nat) : Int) = 2 from rfl, show ((4 : Nat) : Int) = 4 from rfl] at a0 a1 a2 a4 a5
 unfold Qg.f Qg.b
 rw [if_neg (by rw [hlen]; simp; omega), if_neg (by rw [hlen]; simp; omega), if_pos hin, if_pos a0]
 simp only [veil_eq, r0]
 rw [if_pos a1]
 simp only [veil_eq, r1]
 rw [if_pos a2]
 simp only [veil_eq, r2]
 have w8 : IntKind.wrap .i64 (((L.length : Nat) : Int) - 8) = (qT.length : Int) := by rw [hlen, qK _ (by omega) (by omega)]; omega
 have w4 : IntKind.wrap .i64 (((L.length : Nat) : Int) - 4) = ((qT.length + 4 : Nat) : Int) := by rw [hlen, qK _ (by omega) (by omega)]; omega
 rw [if_neg (by simp), if_neg (by simp; omega), if_neg (by simp; omega), w8, if_neg (by simp), if_pos a4]
 simp only [veil_eq, r3]
 rw [if_pos a5]
 simp only [veil_eq, r4]
 rw [w4, if_pos (by rw [hlen]; omega), Int.toNat_natCast, hfr, List.drop_zero, zG.pure _ (qeA h1 h3 hb hl) (by unfold ZG; simp; omega)]
 simp only [veil_eq]
 rw [hs, qis s hsl, if_neg (by simp)]
theorem qdP (qa : Nat) (bs : List Int) (a0 : Int) (bad0 wr0 : Bool) (k : Nat) (n i : Int) (wr : Bool) (a : Int) (bad : Bool) (out : LF) (h : wr = true ∨ n ≤ i) :
  qD.l4 qa bs a0 bad0 wr0 (k + 1) n i wr bs a bad out = some (wr, bs, a, bad, out) := by
 rw [qD.l4]
 unfold qD.b4
 by_cases hi : i < n
 ·rw [if_pos (by simpa using hi)]
  rcases h with rfl | h
  ·rfl
  ·omega
 ·rw [if_neg (by simpa using hi)]
theorem qiY (l : List Int) (n a : Int) : qY l n a true = ([], false, a, true) := rfl
theorem qlo (l : List Int) (a : Nat) (h : a ≤ l.length) : qY l 0 (a : Int) false = ([], true, (a : Int), false) := by
 unfold qY
 rw [if_neg (by simp), if_neg (by simp; omega)]
 unfold seg
 simp
theorem qno (l : List Int) (n : Int) (a : Nat) (h0 : 0 ≤ n) (h : a + n.toNat ≤ l.length) : qY l n (a : Int) false = ((l.drop a).take n.toNat, true, ((a + n.toNat : Nat) : Int), false) := by
 unfold qY
 rw [if_neg (by simp), if_neg (by simp; omega)]
 unfold seg
 rw [show ((a : Int) + n).toNat = a + n.toNat from by omega, Int.toNat_natCast, show ((a : Int) + n) = ((a + n.toNat : Nat) : Int) from by omega]
 congr 1
 rw [List.drop_take]
 congr 1
 omega
theorem qmr (l : List Int) (n : Int) (a : Nat) (h0 : 0 ≤ n) (h : l.length < a + n.toNat) : qY l n (a : Int) false = ([], false, (a : Int), true) := by
 unfold qY
 rw [if_neg (by simp), if_pos (by simp; omega)]
end
end Go.Proofs.YtgaakgeemnkeeaaGreatDoor
