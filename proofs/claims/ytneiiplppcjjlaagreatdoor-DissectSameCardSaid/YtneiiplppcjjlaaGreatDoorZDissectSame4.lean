/- DissectSame: whatever message and generations are given, the law returns true, and the input reads as it did; the table crc.halves is tied to the text of the program. -/
import Derived.Test.YtneiiplppcjjlaaGreatDoorZDissectSame3
set_option linter.unusedVariables false
set_option linter.unusedSimpArgs false
set_option maxRecDepth 100000
namespace Go.Proofs.YtneiiplppcjjlaaGreatDoor
open Go.Den
noncomputable section
def zg.b (b : List Int) (qb : LR) (E11 : LR → Int → Int → Int → Bool → (List Int) → Int → Bool → Int → Int → Int → Int → Int → Int → Int → Int → Int → Int → LR → Option (Int × Int × Int × Int × Int × Int × Int × Int × Int × Int × LR × Int)) : Option (Int × Int × Int × Int × Int × Int × Int × Int × Int × Int × LR × Int) :=
 (if (za qb) then (if (!(Qs qb)) then some (0, 0, 0, 0, 0, 0, 0, 0, 0, 0, ([] : LR), (1 : Int)) else (if (inB b) then (match (veil (zJ.f BIG b 0 false false)) with | none => none | some y0 => (if (y0.2.2.2.2.2.2.2.2.2.1 == (0 : Int)) then (if (qv y0.1 (4 : Int)) then (match (veil (qD.f BIG y0.2.2.2.2.2.2.2.2.2.2.2.1 y0.2.2.2.2.2.2.2.2.2.2.2.2.1 y0.2.2.2.2.2.2.2.2.2.2.2.2.2 y0.2.2.2.2.2.2.2.2.2.2.1 (255 : Int))) with | none => none | some y1 => E11 ([] : LR) y1.1 (-(1 : Int)) (0 : Int) y1.2.1 y1.2.2.1 y1.2.2.2.1 y1.2.2.2.2 y0.1 y0.2.1 y0.2.2.1 y0.2.2.2.1 y0.2.2.2.2.1 y0.2.2.2.2.2.1 y0.2.2.2.2.2.2.1 y0.2.2.2.2.2.2.2.1 y0.2.2.2.2.2.2.2.2.1 y0.2.2.2.2.2.2.2.2.2.1 ([] : LR)) else (if y0.2.2.2.2.2.2.2.2.2.2.1 then some (0, 0, 0, 0, 0, 0, 0, 0, 0, 0, ([] : LR), (4 : Int)) else (if (zq y0.2.2.2.2.2.2.2.2.2.2.2.1 y0.2.2.2.2.2.2.2.2.2.2.2.2.1) then (if (!((!y0.2.2.2.2.2.2.2.2.2.2.2.2.2) && ((ZT y0.2.2.2.2.2.2.2.2.2.2.2.1 y0.2.2.2.2.2.2.2.2.2.2.2.2.1 y0.2.2.2.2.2.2.2.2.2.2.2.2.2) == (0 : Int)))) then some (0, 0, 0, 0, 0, 0, 0, 0, 0, 0, ([] : LR), (4 : Int)) else (if (decide (((((List.length b)) : Nat) : Int) > (65499 : Int))) then some (0, 0, 0, 0, 0, 0, 0, 0, 0, 0, ([] : LR), (4 : Int)) else (if (!(q0 y0.1 y0.2.1 y0.2.2.1 y0.2.2.2.1 y0.2.2.2.2.1 y0.2.2.2.2.2.1 y0.2.2.2.2.2.2.1 y0.2.2.2.2.2.2.2.1 y0.2.2.2.2.2.2.2.2.1 y0.2.2.2.2.2.2.2.2.2.1 ([] : LR))) then some (0, 0, 0, 0, 0, 0, 0, 0, 0, 0, ([] : LR), (4 : Int)) else some (y0.1, y0.2.1, y0.2.2.1, y0.2.2.2.1, y0.2.2.2.2.1, y0.2.2.2.2.2.1, y0.2.2.2.2.2.2.1, y0.2.2.2.2.2.2.2.1, y0.2.2.2.2.2.2.2.2.1, y0.2.2.2.2.2.2.2.2.2.1, ([] : LR), (0 : Int))))) else none))) else (if (qv y0.1 (4 : Int)) then (match (veil (qD.f BIG y0.2.2.2.2.2.2.2.2.2.2.2.1 y0.2.2.2.2.2.2.2.2.2.2.2.2.1 y0.2.2.2.2.2.2.2.2.2.2.2.2.2 y0.2.2.2.2.2.2.2.2.2.2.1 (255 : Int))) with | none => none | some y22 => E11 qb y22.1 (-(1 : Int)) (0 : Int) y22.2.1 y22.2.2.1 y22.2.2.2.1 y22.2.2.2.2 y0.1 y0.2.1 y0.2.2.1 y0.2.2.2.1 y0.2.2.2.2.1 y0.2.2.2.2.2.1 y0.2.2.2.2.2.2.1 y0.2.2.2.2.2.2.2.1 y0.2.2.2.2.2.2.2.2.1 y0.2.2.2.2.2.2.2.2.2.1 ([] : LR)) else (if y0.2.2.2.2.2.2.2.2.2.2.1 then some (0, 0, 0, 0, 0, 0, 0, 0, 0, 0, ([] : LR), (4 : Int)) else (if (zq y0.2.2.2.2.2.2.2.2.2.2.2.1 y0.2.2.2.2.2.2.2.2.2.2.2.2.1) then (if (!((!y0.2.2.2.2.2.2.2.2.2.2.2.2.2) && ((ZT y0.2.2.2.2.2.2.2.2.2.2.2.1 y0.2.2.2.2.2.2.2.2.2.2.2.2.1 y0.2.2.2.2.2.2.2.2.2.2.2.2.2) == (0 : Int)))) then some (0, 0, 0, 0, 0, 0, 0, 0, 0, 0, ([] : LR), (4 : Int)) else (if (decide (((((List.length b)) : Nat) : Int) > (65499 : Int))) then some (0, 0, 0, 0, 0, 0, 0, 0, 0, 0, ([] : LR), (4 : Int)) else (if (!(q0 y0.1 y0.2.1 y0.2.2.1 y0.2.2.2.1 y0.2.2.2.2.1 y0.2.2.2.2.2.1 y0.2.2.2.2.2.2.1 y0.2.2.2.2.2.2.2.1 y0.2.2.2.2.2.2.2.2.1 y0.2.2.2.2.2.2.2.2.2.1 ([] : LR))) then some (0, 0, 0, 0, 0, 0, 0, 0, 0, 0, ([] : LR), (4 : Int)) else some (y0.1, y0.2.1, y0.2.2.1, y0.2.2.2.1, y0.2.2.2.2.1, y0.2.2.2.2.2.1, y0.2.2.2.2.2.2.1, y0.2.2.2.2.2.2.2.1, y0.2.2.2.2.2.2.2.2.1, y0.2.2.2.2.2.2.2.2.2.1, ([] : LR), (0 : Int))))) else none))))) else none)) else none)
def zg.f (qa : Nat) (b : List Int) (qb : LR) : Option (Int × Int × Int × Int × Int × Int × Int × Int × Int × Int × LR × Int) := zg.b b qb (zg.l11 qa b qb qa)
theorem zg.l11_eq (qa : Nat) (b : List Int) (qb : LR) : ∀ k : Nat, zg.p11 qa b qb k = zg.l11 qa b qb k
 | 0 => by kernel_rfl
 | k + 1 => by
  refine Eq.trans (b := zg.b11 b qb (zg.p11 qa b qb k)) (by kernel_rfl) ?_
  rw [zg.l11_eq qa b qb k]
  kernel_rfl
theorem zg.eq (qa : Nat) (b : List Int) (qb : LR) : (denF qeQ loopN qa Tryz.f65 [.dat (.pair tQi (.pair tQi (.pair tQi (.pair (.pair tQi tQi) (.pair tQi (.pair tQi (.pair tQi (.pair tQi (.pair tQi (.sl tQr)))))))))) true, .raw] [.d (.sl (.int .u8)) b, .d (.sl tQr) qb] [] zg.k) = zg.f qa b qb := by
 refine Eq.trans (b := zg.b b qb (zg.p11 qa b qb qa)) (by kernel_rfl) ?_
 rw [zg.l11_eq qa b qb qa]
 kernel_rfl
def Zp : Den.Sum := ⟨[.dat (.sl (.int .u8)) false, .dat (.sl tQr) false], fun qH ql κ => match qH, ql with
 | [.d (.sl (.int .u8)) b, .d (.sl (.pair (.int .i64) (.pair (.int .i64) (.pair (.int .i64) (.pair (.pair (.int .i64) (.int .i64)) (.pair .bool (.sl (.pair (.int .i64) (.sl (.int .u8)))))))))) qb], [] => (match veil (zg.f BIG b qb) with | none => none | some y => κ [.agg [.d (.int .i64) y.1, .d (.int .i64) y.2.1, .d (.int .i64) y.2.2.1, .d (.int .i64) y.2.2.2.1, .d (.int .i64) y.2.2.2.2.1, .d (.int .i64) y.2.2.2.2.2.1, .d (.int .i64) y.2.2.2.2.2.2.1, .d (.int .i64) y.2.2.2.2.2.2.2.1, .d (.int .i64) y.2.2.2.2.2.2.2.2.1, .d (.int .i64) y.2.2.2.2.2.2.2.2.2.1, .d (.sl (.pair (.int .i64) (.pair (.int .i64) (.pair (.int .i64) (.pair (.pair (.int .i64) (.int .i64)) (.pair .bool (.sl (.pair (.int .i64) (.sl (.int .u8)))))))))) y.2.2.2.2.2.2.2.2.2.2.1], .d (.int .i64) y.2.2.2.2.2.2.2.2.2.2.2] [])
 | _, _ => none⟩
theorem qc3 : SumDet Zp := zi fun _ _ _ _ => by
 unfold Zp
 simp only [veil_eq]
 split
 ·split <;> rfl
 ·rfl
theorem qdq : SumOk Tryz.prog 65 Zp := by
 have hE : EnvOk Tryz.prog qeQ := env_ok (l := [(76, Q1), (96, qbf), (41, qaa), (51, qaC), (74, Zw), (98, zK), (99, ZW), (86, qcD)]) th_ok qX ⟨⟨qaY, qav⟩, ⟨qfW, qfk⟩, ⟨qbJ, qa5⟩, ⟨qdu, qcP⟩, ⟨qfZ, qfH⟩, ⟨qaf, Z7⟩, ⟨qgM, qgt⟩, ⟨qhI, qgO⟩, trivial⟩ _
 refine sum_ok hE Tryz.func65 rfl (by kernel_rfl) Zp [.dat (.pair tQi (.pair tQi (.pair tQi (.pair (.pair tQi tQi) (.pair tQi (.pair tQi (.pair tQi (.pair tQi (.pair tQi (.sl tQr)))))))))) true, .raw] zg.k ?_
 intro R avs ql κ r h
 unfold Zp at h
 simp only [veil_eq] at h
 split at h
 ·rename_i b qb
  split at h
  ·cases h
  ·rename_i y hy
   refine ⟨BIG, _, _, _, (zg.eq BIG b qb).trans hy, ?_, h⟩
   intro rs ros hk
   unfold zg.k at hk
   split at hk
   ·rw [← sj hk]; exact ⟨rfl, rfl⟩
   ·cases hk
 ·cases h
def qjm : Env := ⟨th, gam [(64, Zo), (65, Zp), (56, Zn), (58, Zm), (60, Zl), (62, Zk)], fun i => ⟨[], [], []⟩⟩
def qcO : Den.Sum := inl qjm BIG Tryz.f35 [.raw] [.raw, .raw]
theorem qgb : EnvOk Tryz.prog qjm := env_ok (l := [(64, Zo), (65, Zp), (56, Zn), (58, Zm), (60, Zl), (62, Zk)]) th_ok qX ⟨⟨qdp, qc2⟩, ⟨qdq, qc3⟩, ⟨qdl, qc1⟩, ⟨qdk, qc0⟩, ⟨qdj, qcZ⟩, ⟨qdi, qcY⟩, trivial⟩ _
theorem qgj : SumDet qcO := inl_det qgb.D _ _ _ _
theorem qhh : SumOk Tryz.prog 35 qcO := inl_ok qgb Tryz.func35 rfl (by kernel_rfl) _ _ _
def qgc : Env := ⟨th, gam [(64, Zo), (65, Zp), (35, qcO), (56, Zn), (58, Zm), (60, Zl), (62, Zk)], fun i => ⟨[], [], []⟩⟩
def zO.k (rs : List AV) (os : List Den.Obj) : Option ((List Int) × Int) :=
 match rs, os with
 | [.d (.sl (.int .u8)) r0, .d (.int .i64) r1], [] => some (r0, r1)
 | _, _ => none
def zO.b (gen qm qB qM qf qg qL qj qA qo qw : Int) (qh qb : LR) : Option ((List Int) × Int) :=
 (if (gen == (1 : Int)) then (match (veil (Zv.f BIG qm qB qM qf qg qL qj qA qo qw qh qb)) with | none => none | some y0 => some (y0.1, y0.2)) else (if (gen == (2 : Int)) then (match (veil (Zt.f BIG qm qB qM qf qg qL qj qA qo qw qh qb)) with | none => none | some y1 => some (y1.1, y1.2)) else (if (gen == (3 : Int)) then (match (veil (Q7.f BIG qm qB qM qf qg qL qj qA qo qw qh qb)) with | none => none | some y2 => some (y2.1, y2.2)) else some (([] : List Int), (5 : Int)))))
def zO.f (qa : Nat) (gen qm qB qM qf qg qL qj qA qo qw : Int) (qh qb : LR) : Option ((List Int) × Int) := zO.b gen qm qB qM qf qg qL qj qA qo qw qh qb
theorem zO.eq (qa : Nat) (gen qm qB qM qf qg qL qj qA qo qw : Int) (qh qb : LR) : (denF qgc loopN qa Tryz.f29 [.dat (.sl (.int .u8)) false, .raw] [.d tQi gen, .agg [.d tQi qm, .d tQi qB, .d tQi qM, .d tQi qf, .d tQi qg, .d tQi qL, .d tQi qj, .d tQi qA, .d tQi qo, .d tQi qw, .d (.sl tQr) qh], .d (.sl tQr) qb] [] zO.k) = zO.f qa gen qm qB qM qf qg qL qj qA qo qw qh qb := by
 kernel_rfl
def qar : Den.Sum := ⟨[.raw, .dat (.pair tQi (.pair tQi (.pair tQi (.pair (.pair tQi tQi) (.pair tQi (.pair tQi (.pair tQi (.pair tQi (.pair tQi (.sl tQr)))))))))) true, .dat (.sl tQr) false], fun qH ql κ => match qH, ql with
 | [.d (.int .i64) gen, .agg [.d (.int .i64) qm, .d (.int .i64) qB, .d (.int .i64) qM, .d (.int .i64) qf, .d (.int .i64) qg, .d (.int .i64) qL, .d (.int .i64) qj, .d (.int .i64) qA, .d (.int .i64) qo, .d (.int .i64) qw, .d (.sl (.pair (.int .i64) (.pair (.int .i64) (.pair (.int .i64) (.pair (.pair (.int .i64) (.int .i64)) (.pair .bool (.sl (.pair (.int .i64) (.sl (.int .u8)))))))))) qh], .d (.sl (.pair (.int .i64) (.pair (.int .i64) (.pair (.int .i64) (.pair (.pair (.int .i64) (.int .i64)) (.pair .bool (.sl (.pair (.int .i64) (.sl (.int .u8)))))))))) qb], [] => (match veil (zO.f BIG gen qm qB qM qf qg qL qj qA qo qw qh qb) with | none => none | some y => κ [.d (.sl (.int .u8)) y.1, .d (.int .i64) y.2] [])
 | _, _ => none⟩
theorem qhD : SumDet qar := zi fun _ _ _ _ => by
 unfold qar
 simp only [veil_eq]
 split
 ·split <;> rfl
 ·rfl
theorem qig : SumOk Tryz.prog 29 qar := by
 have hE : EnvOk Tryz.prog qgc := env_ok (l := [(64, Zo), (65, Zp), (35, qcO), (56, Zn), (58, Zm), (60, Zl), (62, Zk)]) th_ok qX ⟨⟨qdp, qc2⟩, ⟨qdq, qc3⟩, ⟨qhh, qgj⟩, ⟨qdl, qc1⟩, ⟨qdk, qc0⟩, ⟨qdj, qcZ⟩, ⟨qdi, qcY⟩, trivial⟩ _
 refine sum_ok hE Tryz.func29 rfl (by kernel_rfl) qar [.dat (.sl (.int .u8)) false, .raw] zO.k ?_
 intro R avs ql κ r h
 unfold qar at h
 simp only [veil_eq] at h
 split at h
 ·rename_i gen qm qB qM qf qg qL qj qA qo qw qh qb
  split at h
  ·cases h
  ·rename_i y hy
   refine ⟨BIG, _, _, _, (zO.eq BIG gen qm qB qM qf qg qL qj qA qo qw qh qb).trans hy, ?_, h⟩
   intro rs ros hk
   unfold zO.k at hk
   split at hk
   ·rw [← sj hk]; exact ⟨rfl, rfl⟩
   ·cases hk
 ·cases h
def qgd : Env := ⟨th, gam [(64, Zo), (65, Zp), (35, qcO), (56, Zn), (58, Zm), (60, Zl), (62, Zk)], fun i => ⟨[], [], []⟩⟩
def zQ.k (rs : List AV) (os : List Den.Obj) : Option (Int × Int × Int × Int × Int × Int × Int × Int × Int × Int × LR × Int) :=
 match rs, os with
 | [.agg [.d (.int .i64) r0, .d (.int .i64) r1, .d (.int .i64) r2, .d (.int .i64) r3, .d (.int .i64) r4, .d (.int .i64) r5, .d (.int .i64) r6, .d (.int .i64) r7, .d (.int .i64) r8, .d (.int .i64) r9, .d (.sl (.pair (.int .i64) (.pair (.int .i64) (.pair (.int .i64) (.pair (.pair (.int .i64) (.int .i64)) (.pair .bool (.sl (.pair (.int .i64) (.sl (.int .u8)))))))))) r10], .d (.int .i64) r11], [] => some (r0, r1, r2, r3, r4, r5, r6, r7, r8, r9, r10, r11)
 | _, _ => none
def zQ.b (gen : Int) (b : List Int) (qb : LR) : Option (Int × Int × Int × Int × Int × Int × Int × Int × Int × Int × LR × Int) :=
 (if (gen == (1 : Int)) then (match (veil (Zu.f BIG b qb)) with | none => none | some y0 => some (y0.1, y0.2.1, y0.2.2.1, y0.2.2.2.1, y0.2.2.2.2.1, y0.2.2.2.2.2.1, y0.2.2.2.2.2.2.1, y0.2.2.2.2.2.2.2.1, y0.2.2.2.2.2.2.2.2.1, y0.2.2.2.2.2.2.2.2.2.1, y0.2.2.2.2.2.2.2.2.2.2.1, y0.2.2.2.2.2.2.2.2.2.2.2)) else (if (gen == (2 : Int)) then (match (veil (Zs.f BIG b qb)) with | none => none | some y1 => some (y1.1, y1.2.1, y1.2.2.1, y1.2.2.2.1, y1.2.2.2.2.1, y1.2.2.2.2.2.1, y1.2.2.2.2.2.2.1, y1.2.2.2.2.2.2.2.1, y1.2.2.2.2.2.2.2.2.1, y1.2.2.2.2.2.2.2.2.2.1, y1.2.2.2.2.2.2.2.2.2.2.1, y1.2.2.2.2.2.2.2.2.2.2.2)) else (if (gen == (3 : Int)) then (match (veil (zg.f BIG b qb)) with | none => none | some y2 => some (y2.1, y2.2.1, y2.2.2.1, y2.2.2.2.1, y2.2.2.2.2.1, y2.2.2.2.2.2.1, y2.2.2.2.2.2.2.1, y2.2.2.2.2.2.2.2.1, y2.2.2.2.2.2.2.2.2.1, y2.2.2.2.2.2.2.2.2.2.1, y2.2.2.2.2.2.2.2.2.2.2.1, y2.2.2.2.2.2.2.2.2.2.2.2)) else some (0, 0, 0, 0, 0, 0, 0, 0, 0, 0, ([] : LR), (5 : Int)))))
def zQ.f (qa : Nat) (gen : Int) (b : List Int) (qb : LR) : Option (Int × Int × Int × Int × Int × Int × Int × Int × Int × Int × LR × Int) := zQ.b gen b qb
theorem zQ.eq (qa : Nat) (gen : Int) (b : List Int) (qb : LR) : (denF qgd loopN qa Tryz.f19 [.dat (.pair tQi (.pair tQi (.pair tQi (.pair (.pair tQi tQi) (.pair tQi (.pair tQi (.pair tQi (.pair tQi (.pair tQi (.sl tQr)))))))))) true, .raw] [.d tQi gen, .d (.sl (.int .u8)) b, .d (.sl tQr) qb] [] zQ.k) = zQ.f qa gen b qb := by
 kernel_rfl
def ZP : Den.Sum := ⟨[.raw, .dat (.sl (.int .u8)) false, .dat (.sl tQr) false], fun qH ql κ => match qH, ql with
 | [.d (.int .i64) gen, .d (.sl (.int .u8)) b, .d (.sl (.pair (.int .i64) (.pair (.int .i64) (.pair (.int .i64) (.pair (.pair (.int .i64) (.int .i64)) (.pair .bool (.sl (.pair (.int .i64) (.sl (.int .u8)))))))))) qb], [] => (match veil (zQ.f BIG gen b qb) with | none => none | some y => κ [.agg [.d (.int .i64) y.1, .d (.int .i64) y.2.1, .d (.int .i64) y.2.2.1, .d (.int .i64) y.2.2.2.1, .d (.int .i64) y.2.2.2.2.1, .d (.int .i64) y.2.2.2.2.2.1, .d (.int .i64) y.2.2.2.2.2.2.1, .d (.int .i64) y.2.2.2.2.2.2.2.1, .d (.int .i64) y.2.2.2.2.2.2.2.2.1, .d (.int .i64) y.2.2.2.2.2.2.2.2.2.1, .d (.sl (.pair (.int .i64) (.pair (.int .i64) (.pair (.int .i64) (.pair (.pair (.int .i64) (.int .i64)) (.pair .bool (.sl (.pair (.int .i64) (.sl (.int .u8)))))))))) y.2.2.2.2.2.2.2.2.2.2.1], .d (.int .i64) y.2.2.2.2.2.2.2.2.2.2.2] [])
 | _, _ => none⟩
theorem qeB : SumDet ZP := zi fun _ _ _ _ => by
 unfold ZP
 simp only [veil_eq]
 split
 ·split <;> rfl
 ·rfl
theorem qeT : SumOk Tryz.prog 19 ZP := by
 have hE : EnvOk Tryz.prog qgd := env_ok (l := [(64, Zo), (65, Zp), (35, qcO), (56, Zn), (58, Zm), (60, Zl), (62, Zk)]) th_ok qX ⟨⟨qdp, qc2⟩, ⟨qdq, qc3⟩, ⟨qhh, qgj⟩, ⟨qdl, qc1⟩, ⟨qdk, qc0⟩, ⟨qdj, qcZ⟩, ⟨qdi, qcY⟩, trivial⟩ _
 refine sum_ok hE Tryz.func19 rfl (by kernel_rfl) ZP [.dat (.pair tQi (.pair tQi (.pair tQi (.pair (.pair tQi tQi) (.pair tQi (.pair tQi (.pair tQi (.pair tQi (.pair tQi (.sl tQr)))))))))) true, .raw] zQ.k ?_
 intro R avs ql κ r h
 unfold ZP at h
 simp only [veil_eq] at h
 split at h
 ·rename_i gen b qb
  split at h
  ·cases h
  ·rename_i y hy
   refine ⟨BIG, _, _, _, (zQ.eq BIG gen b qb).trans hy, ?_, h⟩
   intro rs ros hk
   unfold zQ.k at hk
   split at hk
   ·rw [← sj hk]; exact ⟨rfl, rfl⟩
   ·cases hk
 ·cases h
def qjw : Env := ⟨th, gam [(33, qdm)], fun i => ⟨[], [], []⟩⟩
def ZI.k (rs : List AV) (os : List Den.Obj) : Option Bool :=
 match rs, os with
 | [.d .bool r0], [] => some r0
 | _, _ => none
def ZI.b (sLo sHi gen : Int) : Option Bool :=
 (if (okS sLo sHi) then (if (decide (sLo ≤ gen)) then some ((decide (gen ≤ sHi))) else some (false)) else some (false))
def ZI.f (qa : Nat) (sLo sHi gen : Int) : Option Bool := ZI.b sLo sHi gen
theorem ZI.eq (qa : Nat) (sLo sHi gen : Int) : (denF qjw loopN qa Tryz.f12 [.raw] [.agg [.d tQi sLo, .d tQi sHi], .d tQi gen] [] ZI.k) = ZI.f qa sLo sHi gen := by
 kernel_rfl
def qb4 : Den.Sum := ⟨[.dat (.pair tQi tQi) true, .raw], fun qH ql κ => match qH, ql with
 | [.agg [.d (.int .i64) sLo, .d (.int .i64) sHi], .d (.int .i64) gen], [] => (match veil (ZI.f BIG sLo sHi gen) with | none => none | some y => κ [.d .bool y] [])
 | _, _ => none⟩
theorem qky : SumDet qb4 := zi fun _ _ _ _ => by
 unfold qb4
 simp only [veil_eq]
 split
 ·split <;> rfl
 ·rfl
theorem qlB : SumOk Tryz.prog 12 qb4 := by
 have hE : EnvOk Tryz.prog qjw := env_ok (l := [(33, qdm)]) th_ok qX ⟨⟨qgl, qfi⟩, trivial⟩ _
 refine sum_ok hE Tryz.func12 rfl (by kernel_rfl) qb4 [.raw] ZI.k ?_
 intro R avs ql κ r h
 unfold qb4 at h
 simp only [veil_eq] at h
 split at h
 ·rename_i sLo sHi gen
  split at h
  ·cases h
  ·rename_i y hy
   refine ⟨BIG, _, _, _, (ZI.eq BIG sLo sHi gen).trans hy, ?_, h⟩
   intro rs ros hk
   unfold ZI.k at hk
   split at hk
   ·rw [← sj hk]; exact ⟨rfl, rfl⟩
   ·cases hk
 ·cases h
def qhN : Env := ⟨th, gam [], fun i => ⟨[], [], []⟩⟩
def Qw.k (rs : List AV) (os : List Den.Obj) : Option Bool :=
 match rs, os with
 | [.d .bool r0], [] => some r0
 | _, _ => none
def Qw.b (qk : Int) : Option Bool :=
 (if (decide (qk ≥ (1 : Int))) then some ((decide (qk ≤ (3 : Int)))) else some (false))
def Qw.f (qa : Nat) (qk : Int) : Option Bool := Qw.b qk
theorem Qw.eq (qa : Nat) (qk : Int) : (denF qhN loopN qa Tryz.f13 [.raw] [.d tQi qk] [] Qw.k) = Qw.f qa qk := by
 kernel_rfl
def ZJ : Den.Sum := ⟨[.raw], fun qH ql κ => match qH, ql with
 | [.d (.int .i64) qk], [] => (match veil (Qw.f BIG qk) with | none => none | some y => κ [.d .bool y] [])
 | _, _ => none⟩
theorem qdo : SumDet ZJ := zi fun _ _ _ _ => by
 unfold ZJ
 simp only [veil_eq]
 split
 ·split <;> rfl
 ·rfl
theorem qdP : SumOk Tryz.prog 13 ZJ := by
 have hE : EnvOk Tryz.prog qhN := env_ok (l := []) th_ok qX trivial _
 refine sum_ok hE Tryz.func13 rfl (by kernel_rfl) ZJ [.raw] Qw.k ?_
 intro R avs ql κ r h
 unfold ZJ at h
 simp only [veil_eq] at h
 split at h
 ·rename_i qk
  split at h
  ·cases h
  ·rename_i y hy
   refine ⟨BIG, _, _, _, (Qw.eq BIG qk).trans hy, ?_, h⟩
   intro rs ros hk
   unfold Qw.k at hk
   split at hk
   ·rw [← sj hk]; exact ⟨rfl, rfl⟩
   ·cases hk
 ·cases h
def qdS : Env := ⟨th, gam [(19, ZP)], fun i => ⟨[], [], []⟩⟩
def z6.k (rs : List AV) (os : List Den.Obj) : Option (Int × Int × Int × Int × Int × Int × Int × Int × Int × Int × LR × Int) :=
 match rs, os with
 | [.agg [.d (.int .i64) r0, .d (.int .i64) r1, .d (.int .i64) r2, .d (.int .i64) r3, .d (.int .i64) r4, .d (.int .i64) r5, .d (.int .i64) r6, .d (.int .i64) r7, .d (.int .i64) r8, .d (.int .i64) r9, .d (.sl (.pair (.int .i64) (.pair (.int .i64) (.pair (.int .i64) (.pair (.pair (.int .i64) (.int .i64)) (.pair .bool (.sl (.pair (.int .i64) (.sl (.int .u8)))))))))) r10], .d (.int .i64) r11], [] => some (r0, r1, r2, r3, r4, r5, r6, r7, r8, r9, r10, r11)
 | _, _ => none
def z6.b (Zi Zj ZS QC QD ZR QB Zh QS Q4 : Int) (Zg : LR) (qbX : Int) (qaJ : List Int) (qb : LR) : Option (Int × Int × Int × Int × Int × Int × Int × Int × Int × Int × LR × Int) :=
 (match (veil (zQ.f BIG qbX qaJ qb)) with | none => none | some y0 => some (y0.1, y0.2.1, y0.2.2.1, y0.2.2.2.1, y0.2.2.2.2.1, y0.2.2.2.2.2.1, y0.2.2.2.2.2.2.1, y0.2.2.2.2.2.2.2.1, y0.2.2.2.2.2.2.2.2.1, y0.2.2.2.2.2.2.2.2.2.1, y0.2.2.2.2.2.2.2.2.2.2.1, y0.2.2.2.2.2.2.2.2.2.2.2))
def z6.f (qa : Nat) (Zi Zj ZS QC QD ZR QB Zh QS Q4 : Int) (Zg : LR) (qbX : Int) (qaJ : List Int) (qb : LR) : Option (Int × Int × Int × Int × Int × Int × Int × Int × Int × Int × LR × Int) := z6.b Zi Zj ZS QC QD ZR QB Zh QS Q4 Zg qbX qaJ qb
theorem z6.eq (qa : Nat) (Zi Zj ZS QC QD ZR QB Zh QS Q4 : Int) (Zg : LR) (qbX : Int) (qaJ : List Int) (qb : LR) : (denF qdS loopN qa Tryz.f14 [.dat (.pair tQi (.pair tQi (.pair tQi (.pair (.pair tQi tQi) (.pair tQi (.pair tQi (.pair tQi (.pair tQi (.pair tQi (.sl tQr)))))))))) true, .raw] [.agg [.d tQi Zi, .d tQi Zj, .d tQi ZS, .d tQi QC, .d tQi QD, .d tQi ZR, .d tQi QB, .d tQi Zh, .d tQi QS, .d tQi Q4, .d (.sl tQr) Zg, .d tQi qbX, .d (.sl (.int .u8)) qaJ], .d (.sl tQr) qb] [] z6.k) = z6.f qa Zi Zj ZS QC QD ZR QB Zh QS Q4 Zg qbX qaJ qb := by
 kernel_rfl
def Zd : Den.Sum := ⟨[.dat (.pair (.pair tQi (.pair tQi (.pair tQi (.pair (.pair tQi tQi) (.pair tQi (.pair tQi (.pair tQi (.pair tQi (.pair tQi (.sl tQr)))))))))) (.pair tQi (.sl (.int .u8)))) true, .dat (.sl tQr) false], fun qH ql κ => match qH, ql with
 | [.agg [.d (.int .i64) Zi, .d (.int .i64) Zj, .d (.int .i64) ZS, .d (.int .i64) QC, .d (.int .i64) QD, .d (.int .i64) ZR, .d (.int .i64) QB, .d (.int .i64) Zh, .d (.int .i64) QS, .d (.int .i64) Q4, .d (.sl (.pair (.int .i64) (.pair (.int .i64) (.pair (.int .i64) (.pair (.pair (.int .i64) (.int .i64)) (.pair .bool (.sl (.pair (.int .i64) (.sl (.int .u8)))))))))) Zg, .d (.int .i64) qbX, .d (.sl (.int .u8)) qaJ], .d (.sl (.pair (.int .i64) (.pair (.int .i64) (.pair (.int .i64) (.pair (.pair (.int .i64) (.int .i64)) (.pair .bool (.sl (.pair (.int .i64) (.sl (.int .u8)))))))))) qb], [] => (match veil (z6.f BIG Zi Zj ZS QC QD ZR QB Zh QS Q4 Zg qbX qaJ qb) with | none => none | some y => κ [.agg [.d (.int .i64) y.1, .d (.int .i64) y.2.1, .d (.int .i64) y.2.2.1, .d (.int .i64) y.2.2.2.1, .d (.int .i64) y.2.2.2.2.1, .d (.int .i64) y.2.2.2.2.2.1, .d (.int .i64) y.2.2.2.2.2.2.1, .d (.int .i64) y.2.2.2.2.2.2.2.1, .d (.int .i64) y.2.2.2.2.2.2.2.2.1, .d (.int .i64) y.2.2.2.2.2.2.2.2.2.1, .d (.sl (.pair (.int .i64) (.pair (.int .i64) (.pair (.int .i64) (.pair (.pair (.int .i64) (.int .i64)) (.pair .bool (.sl (.pair (.int .i64) (.sl (.int .u8)))))))))) y.2.2.2.2.2.2.2.2.2.2.1], .d (.int .i64) y.2.2.2.2.2.2.2.2.2.2.2] [])
 | _, _ => none⟩
theorem qfq : SumDet Zd := zi fun _ _ _ _ => by
 unfold Zd
 simp only [veil_eq]
 split
 ·split <;> rfl
 ·rfl
theorem qfG : SumOk Tryz.prog 14 Zd := by
 have hE : EnvOk Tryz.prog qdS := env_ok (l := [(19, ZP)]) th_ok qX ⟨⟨qeT, qeB⟩, trivial⟩ _
 refine sum_ok hE Tryz.func14 rfl (by kernel_rfl) Zd [.dat (.pair tQi (.pair tQi (.pair tQi (.pair (.pair tQi tQi) (.pair tQi (.pair tQi (.pair tQi (.pair tQi (.pair tQi (.sl tQr)))))))))) true, .raw] z6.k ?_
 intro R avs ql κ r h
 unfold Zd at h
 simp only [veil_eq] at h
 split at h
 ·rename_i Zi Zj ZS QC QD ZR QB Zh QS Q4 Zg qbX qaJ qb
  split at h
  ·cases h
  ·rename_i y hy
   refine ⟨BIG, _, _, _, (z6.eq BIG Zi Zj ZS QC QD ZR QB Zh QS Q4 Zg qbX qaJ qb).trans hy, ?_, h⟩
   intro rs ros hk
   unfold z6.k at hk
   split at hk
   ·rw [← sj hk]; exact ⟨rfl, rfl⟩
   ·cases hk
 ·cases h
def qdA : Env := ⟨th, gam [], fun i => ⟨[], [], []⟩⟩
def Qg.k (rs : List AV) (os : List Den.Obj) : Option Bool :=
 match rs, os with
 | [.d .bool r0], [] => some r0
 | _, _ => none
def Qg.b (Zi Zj ZS QC QD ZR QB Zh QS Q4 : Int) (Zg : LR) (qbX : Int) (qaJ : List Int) : Option Bool :=
 some ((Q4 != (0 : Int)))
def Qg.f (qa : Nat) (Zi Zj ZS QC QD ZR QB Zh QS Q4 : Int) (Zg : LR) (qbX : Int) (qaJ : List Int) : Option Bool := Qg.b Zi Zj ZS QC QD ZR QB Zh QS Q4 Zg qbX qaJ
theorem Qg.eq (qa : Nat) (Zi Zj ZS QC QD ZR QB Zh QS Q4 : Int) (Zg : LR) (qbX : Int) (qaJ : List Int) : (denF qdA loopN qa Tryz.f18 [.raw] [.agg [.d tQi Zi, .d tQi Zj, .d tQi ZS, .d tQi QC, .d tQi QD, .d tQi ZR, .d tQi QB, .d tQi Zh, .d tQi QS, .d tQi Q4, .d (.sl tQr) Zg, .d tQi qbX, .d (.sl (.int .u8)) qaJ]] [] Qg.k) = Qg.f qa Zi Zj ZS QC QD ZR QB Zh QS Q4 Zg qbX qaJ := by
 kernel_rfl
def Q3 : Den.Sum := ⟨[.dat (.pair (.pair tQi (.pair tQi (.pair tQi (.pair (.pair tQi tQi) (.pair tQi (.pair tQi (.pair tQi (.pair tQi (.pair tQi (.sl tQr)))))))))) (.pair tQi (.sl (.int .u8)))) true], fun qH ql κ => match qH, ql with
 | [.agg [.d (.int .i64) Zi, .d (.int .i64) Zj, .d (.int .i64) ZS, .d (.int .i64) QC, .d (.int .i64) QD, .d (.int .i64) ZR, .d (.int .i64) QB, .d (.int .i64) Zh, .d (.int .i64) QS, .d (.int .i64) Q4, .d (.sl (.pair (.int .i64) (.pair (.int .i64) (.pair (.int .i64) (.pair (.pair (.int .i64) (.int .i64)) (.pair .bool (.sl (.pair (.int .i64) (.sl (.int .u8)))))))))) Zg, .d (.int .i64) qbX, .d (.sl (.int .u8)) qaJ]], [] => (match veil (Qg.f BIG Zi Zj ZS QC QD ZR QB Zh QS Q4 Zg qbX qaJ) with | none => none | some y => κ [.d .bool y] [])
 | _, _ => none⟩
theorem qe0 : SumDet Q3 := zi fun _ _ _ _ => by
 unfold Q3
 simp only [veil_eq]
 split
 ·split <;> rfl
 ·rfl
theorem qfr : SumOk Tryz.prog 18 Q3 := by
 have hE : EnvOk Tryz.prog qdA := env_ok (l := []) th_ok qX trivial _
 refine sum_ok hE Tryz.func18 rfl (by kernel_rfl) Q3 [.raw] Qg.k ?_
 intro R avs ql κ r h
 unfold Q3 at h
 simp only [veil_eq] at h
 split at h
 ·rename_i Zi Zj ZS QC QD ZR QB Zh QS Q4 Zg qbX qaJ
  split at h
  ·cases h
  ·rename_i y hy
   refine ⟨BIG, _, _, _, (Qg.eq BIG Zi Zj ZS QC QD ZR QB Zh QS Q4 Zg qbX qaJ).trans hy, ?_, h⟩
   intro rs ros hk
   unfold Qg.k at hk
   split at hk
   ·rw [← sj hk]; exact ⟨rfl, rfl⟩
   ·cases hk
 ·cases h
def qg7 : Env := ⟨th, gam [], fun i => if i = 2 then ⟨[0, 7, 8, 9], [], []⟩ else ⟨[], [], []⟩⟩
def zr.k (rs : List AV) (os : List Den.Obj) : Option Int :=
 match rs, os with
 | [.d (.int .u32) r0], [] => some r0
 | _, _ => none
def zr.s2 (reg : Int) (b : List Int) (x0 x1 x2 : Int) : St := ⟨[.d (.int .u32) x0, dD, dD, dD, dD, dD, dD, .d (.sl (.int .u8)) (b), .d tQi x1, .d tQi x2, dD, dD, dD, dD, dD, dD, dD, dD, dD, dD, dD, dD, dD, dD, dD, dD, dD, dD, dD, dD, dD, dD, dD, dD, dD, dD, .dead], ofL [], 0⟩
def zr.p2 (qa : Nat) (reg : Int) (b : List Int) (k : Nat) := fun x0 x1 x2 => lp qg7 qa Tryz.f72 [.raw] 0 zr.k 2 [] k (zr.s2 reg b x0 x1 x2)
def zr.b2 (reg : Int) (b : List Int) (A2 : Int → Int → Int → Option Int) (x0 x1 x2 : Int) : Option Int :=
 (if (decide (x2 < x1)) then (match (idx b x2) with | none => none | some y3 => (match (idx halves (bits BinOp.xor .u32 (Int.fdiv x0 ((2 : Int) ^ (Min.min (Int.toNat (28 : Int)) (IntKind.bits .u32)))) (IntKind.wrap .u32 (Int.fdiv y3 ((2 : Int) ^ (Min.min (Int.toNat (4 : Int)) (IntKind.bits .u8))))))) with | none => none | some y4 => (match (idx halves (bits BinOp.xor .u32 (Int.fdiv (bits BinOp.xor .u32 (IntKind.wrap .u32 (x0 * ((2 : Int) ^ (Min.min (Int.toNat (4 : Int)) (IntKind.bits .u32))))) y4) ((2 : Int) ^ (Min.min (Int.toNat (28 : Int)) (IntKind.bits .u32)))) (IntKind.wrap .u32 (bits BinOp.and .u8 y3 (15 : Int))))) with | none => none | some y5 => A2 (bits BinOp.xor .u32 (IntKind.wrap .u32 ((bits BinOp.xor .u32 (IntKind.wrap .u32 (x0 * ((2 : Int) ^ (Min.min (Int.toNat (4 : Int)) (IntKind.bits .u32))))) y4) * ((2 : Int) ^ (Min.min (Int.toNat (4 : Int)) (IntKind.bits .u32))))) y5) x1 (IntKind.wrap .i64 (x2 + (1 : Int)))))) else some (x0))
def zr.l2 (qa : Nat) (reg : Int) (b : List Int) : Nat → Int → Int → Int → Option Int
 | 0, _, _, _ => none
 | k + 1, x0, x1, x2 => zr.b2 reg b (zr.l2 qa reg b k) x0 x1 x2
def zr.b (reg : Int) (b : List Int) (E2 : Int → Int → Int → Option Int) : Option Int :=
 E2 reg ((((List.length b)) : Nat) : Int) (0 : Int)
def zr.f (qa : Nat) (reg : Int) (b : List Int) : Option Int := zr.b reg b (zr.l2 qa reg b qa)
theorem zr.l2_eq (qa : Nat) (reg : Int) (b : List Int) : ∀ k : Nat, zr.p2 qa reg b k = zr.l2 qa reg b k
 | 0 => by kernel_rfl
 | k + 1 => by
  refine Eq.trans (b := zr.b2 reg b (zr.p2 qa reg b k)) (by kernel_rfl) ?_
  rw [zr.l2_eq qa reg b k]
  kernel_rfl
theorem zr.eq (qa : Nat) (reg : Int) (b : List Int) : (denF qg7 loopN qa Tryz.f72 [.raw] [.d (.int .u32) reg, .d (.sl (.int .u8)) b] [] zr.k) = zr.f qa reg b := by
 refine Eq.trans (b := zr.b reg b (zr.p2 qa reg b qa)) (by kernel_rfl) ?_
 rw [zr.l2_eq qa reg b qa]
 kernel_rfl
theorem zr.l2_at (qa nN kK : Nat) (hN : nN = kK + 1) (reg : Int) (b : List Int) (x0 : Int) (x1 : Int) (x2 : Int) : zr.l2 qa reg b nN x0 x1 x2 = zr.b2 reg b (zr.l2 qa reg b kK) x0 x1 x2 := by
 subst hN
 rfl
def qb9 : Den.Sum := ⟨[.raw, .dat (.sl (.int .u8)) false], fun qH ql κ => match qH, ql with
 | [.d (.int .u32) reg, .d (.sl (.int .u8)) b], [] => (match veil (zr.f BIG reg b) with | none => none | some y => κ [.d (.int .u32) y] [])
 | _, _ => none⟩
theorem qkJ : SumDet qb9 := zi fun _ _ _ _ => by
 unfold qb9
 simp only [veil_eq]
 split
 ·split <;> rfl
 ·rfl
theorem qlG : SumOk Tryz.prog 72 qb9 := by
 have hE : EnvOk Tryz.prog qg7 := env_ok (l := []) th_ok qX trivial _
 refine sum_ok hE Tryz.func72 rfl (by kernel_rfl) qb9 [.raw] zr.k ?_
 intro R avs ql κ r h
 unfold qb9 at h
 simp only [veil_eq] at h
 split at h
 ·rename_i reg b
  split at h
  ·cases h
  ·rename_i y hy
   refine ⟨BIG, _, _, _, (zr.eq BIG reg b).trans hy, ?_, h⟩
   intro rs ros hk
   unfold zr.k at hk
   split at hk
   ·rw [← sj hk]; exact ⟨rfl, rfl⟩
   ·cases hk
 ·cases h
def qji : Env := ⟨th, gam [(72, qb9)], fun i => if i = 3 then ⟨[3, 6, 7, 8], [], []⟩ else ⟨[], [], []⟩⟩
def zS.k (rs : List AV) (os : List Den.Obj) : Option Int :=
 match rs, os with
 | [.d (.int .u32) r0], [] => some r0
 | _, _ => none
def zS.s3 (zc : List (List Int)) (x0 : Int) (x1 : Int) (x2 : Int) : St := ⟨[dD, dD, dD, .d (.int .u32) x0, .dead, .dead, .d (.sl (.sl (.int .u8))) (zc), .d tQi x1, .d tQi x2, dD, dD, dD, dD, dD, dD, dD, dD, .dead], ofL [], 0⟩
def zS.p3 (qa : Nat) (zc : List (List Int)) (k : Nat) := fun x0 x1 x2 => lp qji qa Tryz.f50 [.raw] 0 zS.k 3 [] k (zS.s3 zc x0 x1 x2)
def zS.b3 (zc : List (List Int)) (A3 : Int → Int → Int → Option Int) (x0 : Int) (x1 : Int) (x2 : Int) : Option Int :=
 (if (decide (x2 < x1)) then (match (idx zc x2) with | none => none | some y3 => (match (veil (zr.f BIG x0 y3)) with | none => none | some y4 => A3 y4 x1 (IntKind.wrap .i64 (x2 + (1 : Int))))) else some ((bits BinOp.xor .u32 (if (IntKind.signed .u32) then (-(1 : Int)) else (IntKind.max .u32)) x0)))
def zS.l3 (qa : Nat) (zc : List (List Int)) : Nat → Int → Int → Int → Option Int
 | 0, _, _, _ => none
 | k + 1, x0, x1, x2 => zS.b3 zc (zS.l3 qa zc k) x0 x1 x2
def zS.b (zc : List (List Int)) (E3 : Int → Int → Int → Option Int) : Option Int :=
 E3 (veil (4294967295 : Int)) ((((List.length zc)) : Nat) : Int) (0 : Int)
def zS.f (qa : Nat) (zc : List (List Int)) : Option Int := zS.b zc (zS.l3 qa zc qa)
theorem zS.l3_eq (qa : Nat) (zc : List (List Int)) : ∀ k : Nat, zS.p3 qa zc k = zS.l3 qa zc k
 | 0 => by kernel_rfl
 | k + 1 => by
  refine Eq.trans (b := zS.b3 zc (zS.p3 qa zc k)) (by kernel_rfl) ?_
  rw [zS.l3_eq qa zc k]
  kernel_rfl
theorem zS.eq (qa : Nat) (zc : List (List Int)) : (denF qji loopN qa Tryz.f50 [.raw] [.d (.sl (.sl (.int .u8))) zc] [] zS.k) = zS.f qa zc := by
 refine Eq.trans (b := zS.b zc (zS.p3 qa zc qa)) (by kernel_rfl) ?_
 rw [zS.l3_eq qa zc qa]
 kernel_rfl
theorem zS.l3_at (qa nN kK : Nat) (hN : nN = kK + 1) (zc : List (List Int)) (x0 : Int) (x1 : Int) (x2 : Int) : zS.l3 qa zc nN x0 x1 x2 = zS.b3 zc (zS.l3 qa zc kK) x0 x1 x2 := by
 subst hN
 rfl
def qca : Den.Sum := ⟨[.dat (.sl (.sl (.int .u8))) false], fun qH ql κ => match qH, ql with
 | [.d (.sl (.sl (.int .u8))) zc], [] => (match veil (zS.f BIG zc) with | none => none | some y => κ [.d (.int .u32) y] [])
 | _, _ => none⟩
theorem qhK : SumDet qca := zi fun _ _ _ _ => by
 unfold qca
 simp only [veil_eq]
 split
 ·split <;> rfl
 ·rfl
theorem qiC : SumOk Tryz.prog 50 qca := by
 have hE : EnvOk Tryz.prog qji := env_ok (l := [(72, qb9)]) th_ok qX ⟨⟨qlG, qkJ⟩, trivial⟩ _
 refine sum_ok hE Tryz.func50 rfl (by kernel_rfl) qca [.raw] zS.k ?_
 intro R avs ql κ r h
 unfold qca at h
 simp only [veil_eq] at h
 split at h
 ·rename_i zc
  split at h
  ·cases h
  ·rename_i y hy
   refine ⟨BIG, _, _, _, (zS.eq BIG zc).trans hy, ?_, h⟩
   intro rs ros hk
   unfold zS.k at hk
   split at hk
   ·rw [← sj hk]; exact ⟨rfl, rfl⟩
   ·cases hk
 ·cases h
theorem qiP (n : Int) : IntKind.wrap .u32 n = n % 4294967296 := by simp [IntKind.wrap, IntKind.bits, IntKind.signed]
theorem qia (n : Int) : IntKind.wrap .u8 n = n % 256 := by simp [IntKind.wrap, IntKind.bits, IntKind.signed]
theorem qd4 (a b : Nat) (ha : a < 4294967296) (hb : b < 4294967296) : bits BinOp.xor .u32 (a : Int) (b : Int) = ((a ^^^ b : Nat) : Int) := by
 show IntKind.wrap .u32 (((BitVec.ofInt 32 (a : Int) ^^^ BitVec.ofInt 32 (b : Int)).toNat : Nat) : Int) = _
 rw [BitVec.toNat_xor, BitVec.toNat_ofInt, BitVec.toNat_ofInt, qiP]
 have e1 : ((a : Int) % ((2 ^ 32 : Nat) : Int)).toNat = a := by
  rw [show ((2 ^ 32 : Nat) : Int) = 4294967296 from rfl]; omega
 have e2 : ((b : Int) % ((2 ^ 32 : Nat) : Int)).toNat = b := by
  rw [show ((2 ^ 32 : Nat) : Int) = 4294967296 from rfl]; omega
 rw [e1, e2]
 have := qjl a b 32 ha hb
 rw [show (2 : Nat) ^ 32 = 4294967296 from rfl] at this
 omega
theorem qoE (c : Nat) (hc : c < 256) : bits BinOp.and .u8 (c : Int) 15 = ((c % 16 : Nat) : Int) := by
 have : ∀ c, c < 256 → bits BinOp.and .u8 ((c : Nat) : Int) 15 = ((c % 16 : Nat) : Int) := by decide +kernel
 exact this c hc
theorem qka (k : Nat) (hk : k < 16) : idx halves (k : Int) = some ((hN k : Nat) : Int) := by
 have : ∀ k, k < 16 → idx halves ((k : Nat) : Int) = some ((hN k : Nat) : Int) := by decide +kernel
 exact this k hk
theorem qpB (r : Nat) : Int.fdiv (r : Int) (2 ^ (Min.min (Int.toNat 28) (IntKind.bits .u32))) = ((r / 268435456 : Nat) : Int) := by
 have e : (2 : Int) ^ (Min.min (Int.toNat 28) (IntKind.bits .u32)) = 268435456 := rfl
 rw [e, Int.fdiv_eq_ediv_of_nonneg _ (by omega)]
 omega
theorem qrD (r : Nat) : Int.fdiv (r : Int) (2 ^ (Min.min (Int.toNat 4) (IntKind.bits .u8))) = ((r / 16 : Nat) : Int) := by
 have e : (2 : Int) ^ (Min.min (Int.toNat 4) (IntKind.bits .u8)) = 16 := rfl
 rw [e, Int.fdiv_eq_ediv_of_nonneg _ (by omega)]
 omega
theorem qre (r : Nat) : IntKind.wrap .u32 ((r : Int) * (2 ^ (Min.min (Int.toNat 4) (IntKind.bits .u32)))) = ((r * 16 % 4294967296 : Nat) : Int) := by
 have e : (2 : Int) ^ (Min.min (Int.toNat 4) (IntKind.bits .u32)) = 16 := rfl
 rw [e, qiP]
 omega
theorem qku (k : Nat) (h : k < 4294967296) : IntKind.wrap .u32 (k : Int) = (k : Int) := by rw [qiP]; omega
theorem qqy (l : List Int) (reg0 : Int) (A : Int → Int → Int → Option Int) (r : Nat) (hr : r < 4294967296) (c : Nat) (hc : c < 256) (x1 x2 : Int) (hx : x2 < x1) (hi : idx l x2 = some (c : Int)) :
  zr.b2 reg0 l A (r : Int) x1 x2 = A ((qlO r c : Nat) : Int) x1 (IntKind.wrap .i64 (x2 + 1)) := by
 unfold zr.b2
 have h1 : (c : Nat) / 16 < 16 := by omega
 rw [if_pos (by simpa using hx), hi]
 dsimp only
 rw [qpB, qrD, qku _ (by omega), qd4 _ _ (by omega) (by omega), qka _ (qoO r _ hr h1)]
 dsimp only
 rw [qre, qd4 _ _ (by omega) (qou _)]
 have e1 : (r * 16 % 4294967296) ^^^ hN ((r / 268435456) ^^^ (c / 16)) = nib r (c / 16) := rfl
 rw [e1, qpB, qoE c hc, qku _ (by omega), qd4 _ _ (by have := qmd r (c / 16); omega) (by omega), qka _ (qoO _ _ (qmd _ _) (by omega))]
 dsimp only
 rw [qre, qd4 _ _ (by omega) (qou _)]
 rfl
theorem zr.loop (l : List Int) (reg0 : Int) (hl : l.length ≤ 1000000) : ∀ (suf pre : List Int) (r n : Nat), pre ++ suf = l → isB suf → r < 4294967296 → suf.length < n →
  zr.l2 BIG reg0 l n (r : Int) ((l.length : Nat) : Int) ((pre.length : Nat) : Int) = some ((qmq r (suf.map Int.toNat) : Nat) : Int)
 | suf, pre, r, 0, _, _, _, h => absurd h (by omega)
 | [], pre, r, n + 1, he, hb, hr, h => by
  rw [zr.l2_at BIG (n + 1) n rfl]
  unfold zr.b2
  rw [if_neg (by rw [← he]; simp)]
  rfl
 | c :: suf, pre, r, n + 1, he, hb, hr, h => by
  simp at h
  have hpl : pre.length + (suf.length + 1) = l.length := by rw [← he]; simp
  obtain ⟨hc0, hc1⟩ := hb c (by simp)
  have ec : ((c.toNat : Nat) : Int) = c := by omega
  have hi : idx l ((pre.length : Nat) : Int) = some ((c.toNat : Nat) : Int) := by
   rw [ec, ← he, Qh]; simp
  rw [zr.l2_at BIG (n + 1) n rfl, qqy l reg0 _ r hr c.toNat (by omega) _ _ (by omega) hi, qV _ (by omega) (by omega)]
  have ih := zr.loop l reg0 hl suf (pre ++ [c]) (qlO r c.toNat) n (by rw [← he]; simp) (fun x hx => hb x (by simp [hx])) (qlT _ _) (by omega)
  have e2 : (((pre ++ [c]).length : Nat) : Int) = ((pre.length : Nat) : Int) + 1 := by simp
  rw [e2] at ih
  exact ih
theorem zr.pure (l : List Int) (r : Nat) (hr : r < 4294967296) (hb : isB l) (hl : l.length ≤ 1000000) : zr.f BIG (r : Int) l = some ((qmq r (l.map Int.toNat) : Nat) : Int) := by
 unfold zr.f zr.b
 exact zr.loop l r hl l [] r BIG rfl hb hr (by rw [qaj]; omega)
def qf8 (l : List Int) : Nat := 4294967295 ^^^ qmq 4294967295 (l.map Int.toNat)
theorem qkU (l : List Int) : qf8 l < 4294967296 := qjl _ _ 32 (by decide) (qnm _ _ (by decide))
theorem zS.pure (l : List Int) (hb : isB l) (hl : l.length ≤ 1000000) : zS.f BIG [l] = some ((qf8 l : Nat) : Int) := by
 obtain ⟨k, hk⟩ : ∃ k, BIG = k + 1 + 1 := ⟨BIG - 2, by rw [qaj]⟩
 unfold zS.f zS.b
 rw [veil_eq, zS.l3_at BIG BIG (k + 1) hk]
 unfold zS.b3
 rw [if_pos (by simp)]
 have e0 : idx [l] 0 = some l := rfl
 rw [e0]
 dsimp only
 have e1 := zr.pure l 4294967295 (by decide) hb hl
 rw [show ((4294967295 : Nat) : Int) = 4294967295 from rfl] at e1
 rw [e1]
 simp only [veil_eq]
 rw [zS.l3_at BIG (k + 1) k rfl]
 unfold zS.b3
 rw [if_neg (by rw [qV _ (by omega) (by omega)]; simp)]
 have e2 : (if (IntKind.signed .u32) = true then (-1 : Int) else (IntKind.max .u32)) = ((4294967295 : Nat) : Int) := by decide +kernel
 rw [e2, qd4 _ _ (by decide) (qnm _ _ (by decide))]
 rfl
def qhT : Env := ⟨th, gam [(50, qca)], fun i => if i = 888888 then ⟨[1], [], []⟩ else ⟨[], [], []⟩⟩
def QT.k (rs : List AV) (os : List Den.Obj) : Option ((List Int) × Int) :=
 match rs, os with
 | [.d (.sl (.int .u8)) r0, .d (.int .i64) r1], [] => some (r0, r1)
 | _, _ => none
def QT.b (gen : Int) (q9 : List Int) : Option ((List Int) × Int) :=
 (if (decide (gen < (1 : Int))) then some (([] : List Int), (5 : Int)) else (if (decide (gen > (3 : Int))) then some (([] : List Int), (5 : Int)) else (if (decide (((((List.length q9)) : Nat) : Int) > (65499 : Int))) then some (([] : List Int), (3 : Int)) else (if (((0 : Int) ≤ (IntKind.wrap .i64 ((4 : Int) + ((((List.length q9)) : Nat) : Int)))) ∧ (((IntKind.wrap .i64 ((4 : Int) + ((((List.length q9)) : Nat) : Int))) ≤ (IntKind.wrap .i64 ((8 : Int) + ((((List.length q9)) : Nat) : Int)))) ∧ ((((IntKind.wrap .i64 ((8 : Int) + ((((List.length q9)) : Nat) : Int))) * ((((1 : Nat)) : Nat) : Int)) ≤ (1099511627776 : Int)) ∧ ((IntKind.wrap .i64 ((8 : Int) + ((((List.length q9)) : Nat) : Int))) ≤ (1099511627776 : Int))))) then (match (idx (List.replicate (Int.toNat (IntKind.wrap .i64 ((4 : Int) + ((((List.length q9)) : Nat) : Int)))) (zeroI (Go.Den.Ty.int .u8))) (0 : Int)) with | none => none | some y0 => (match (idx (List.replicate (Int.toNat (IntKind.wrap .i64 ((4 : Int) + ((((List.length q9)) : Nat) : Int)))) (zeroI (Go.Den.Ty.int .u8))) (0 : Int)) with | none => none | some y1 => (match (idx (List.set (List.replicate (Int.toNat (IntKind.wrap .i64 ((4 : Int) + ((((List.length q9)) : Nat) : Int)))) (zeroI (Go.Den.Ty.int .u8))) (Int.toNat (0 : Int)) (156 : Int)) (1 : Int)) with | none => none | some y2 => (match (idx (List.set (List.replicate (Int.toNat (IntKind.wrap .i64 ((4 : Int) + ((((List.length q9)) : Nat) : Int)))) (zeroI (Go.Den.Ty.int .u8))) (Int.toNat (0 : Int)) (156 : Int)) (1 : Int)) with | none => none | some y3 => (match (idx (List.set (List.set (List.replicate (Int.toNat (IntKind.wrap .i64 ((4 : Int) + ((((List.length q9)) : Nat) : Int)))) (zeroI (Go.Den.Ty.int .u8))) (Int.toNat (0 : Int)) (156 : Int)) (Int.toNat (1 : Int)) (IntKind.wrap .u8 gen)) (2 : Int)) with | none => none | some y4 => (match (idx (List.set (List.set (List.replicate (Int.toNat (IntKind.wrap .i64 ((4 : Int) + ((((List.length q9)) : Nat) : Int)))) (zeroI (Go.Den.Ty.int .u8))) (Int.toNat (0 : Int)) (156 : Int)) (Int.toNat (1 : Int)) (IntKind.wrap .u8 gen)) (2 : Int)) with | none => none | some y5 => (match (idx (List.set (List.set (List.set (List.replicate (Int.toNat (IntKind.wrap .i64 ((4 : Int) + ((((List.length q9)) : Nat) : Int)))) (zeroI (Go.Den.Ty.int .u8))) (Int.toNat (0 : Int)) (156 : Int)) (Int.toNat (1 : Int)) (IntKind.wrap .u8 gen)) (Int.toNat (2 : Int)) (IntKind.wrap .u8 (Int.fdiv ((((List.length q9)) : Nat) : Int) ((2 : Int) ^ (Min.min (Int.toNat (8 : Int)) (IntKind.bits .i64)))))) (3 : Int)) with | none => none | some y6 => (match (idx (List.set (List.set (List.set (List.replicate (Int.toNat (IntKind.wrap .i64 ((4 : Int) + ((((List.length q9)) : Nat) : Int)))) (zeroI (Go.Den.Ty.int .u8))) (Int.toNat (0 : Int)) (156 : Int)) (Int.toNat (1 : Int)) (IntKind.wrap .u8 gen)) (Int.toNat (2 : Int)) (IntKind.wrap .u8 (Int.fdiv ((((List.length q9)) : Nat) : Int) ((2 : Int) ^ (Min.min (Int.toNat (8 : Int)) (IntKind.bits .i64)))))) (3 : Int)) with | none => none | some y7 => (if (((0 : Int) ≤ (4 : Int)) ∧ ((4 : Int) ≤ ((((List.length (List.set (List.set (List.set (List.set (List.replicate (Int.toNat (IntKind.wrap .i64 ((4 : Int) + ((((List.length q9)) : Nat) : Int)))) (zeroI (Go.Den.Ty.int .u8))) (Int.toNat (0 : Int)) (156 : Int)) (Int.toNat (1 : Int)) (IntKind.wrap .u8 gen)) (Int.toNat (2 : Int)) (IntKind.wrap .u8 (Int.fdiv ((((List.length q9)) : Nat) : Int) ((2 : Int) ^ (Min.min (Int.toNat (8 : Int)) (IntKind.bits .i64)))))) (Int.toNat (3 : Int)) (IntKind.wrap .u8 ((((List.length q9)) : Nat) : Int))))) : Nat) : Int))) then (if ((((Int.toNat (4 : Int)) + (List.length q9)) ≤ (List.length (List.set (List.set (List.set (List.set (List.replicate (Int.toNat (IntKind.wrap .i64 ((4 : Int) + ((((List.length q9)) : Nat) : Int)))) (zeroI (Go.Den.Ty.int .u8))) (Int.toNat (0 : Int)) (156 : Int)) (Int.toNat (1 : Int)) (IntKind.wrap .u8 gen)) (Int.toNat (2 : Int)) (IntKind.wrap .u8 (Int.fdiv ((((List.length q9)) : Nat) : Int) ((2 : Int) ^ (Min.min (Int.toNat (8 : Int)) (IntKind.bits .i64)))))) (Int.toNat (3 : Int)) (IntKind.wrap .u8 ((((List.length q9)) : Nat) : Int))))) ∧ ((List.length (List.set (List.set (List.set (List.set (List.replicate (Int.toNat (IntKind.wrap .i64 ((4 : Int) + ((((List.length q9)) : Nat) : Int)))) (zeroI (Go.Den.Ty.int .u8))) (Int.toNat (0 : Int)) (156 : Int)) (Int.toNat (1 : Int)) (IntKind.wrap .u8 gen)) (Int.toNat (2 : Int)) (IntKind.wrap .u8 (Int.fdiv ((((List.length q9)) : Nat) : Int) ((2 : Int) ^ (Min.min (Int.toNat (8 : Int)) (IntKind.bits .i64)))))) (Int.toNat (3 : Int)) (IntKind.wrap .u8 ((((List.length q9)) : Nat) : Int)))) ≤ (List.length (List.set (List.set (List.set (List.set (List.replicate (Int.toNat (IntKind.wrap .i64 ((4 : Int) + ((((List.length q9)) : Nat) : Int)))) (zeroI (Go.Den.Ty.int .u8))) (Int.toNat (0 : Int)) (156 : Int)) (Int.toNat (1 : Int)) (IntKind.wrap .u8 gen)) (Int.toNat (2 : Int)) (IntKind.wrap .u8 (Int.fdiv ((((List.length q9)) : Nat) : Int) ((2 : Int) ^ (Min.min (Int.toNat (8 : Int)) (IntKind.bits .i64)))))) (Int.toNat (3 : Int)) (IntKind.wrap .u8 ((((List.length q9)) : Nat) : Int)))))) then (match (veil (zS.f BIG ((((List.take (Int.toNat (4 : Int)) (List.set (List.set (List.set (List.set (List.replicate (Int.toNat (IntKind.wrap .i64 ((4 : Int) + ((((List.length q9)) : Nat) : Int)))) (zeroI (Go.Den.Ty.int .u8))) (Int.toNat (0 : Int)) (156 : Int)) (Int.toNat (1 : Int)) (IntKind.wrap .u8 gen)) (Int.toNat (2 : Int)) (IntKind.wrap .u8 (Int.fdiv ((((List.length q9)) : Nat) : Int) ((2 : Int) ^ (Min.min (Int.toNat (8 : Int)) (IntKind.bits .i64)))))) (Int.toNat (3 : Int)) (IntKind.wrap .u8 ((((List.length q9)) : Nat) : Int)))) ++ q9) ++ (List.drop ((Int.toNat (4 : Int)) + (List.length q9)) (List.set (List.set (List.set (List.set (List.replicate (Int.toNat (IntKind.wrap .i64 ((4 : Int) + ((((List.length q9)) : Nat) : Int)))) (zeroI (Go.Den.Ty.int .u8))) (Int.toNat (0 : Int)) (156 : Int)) (Int.toNat (1 : Int)) (IntKind.wrap .u8 gen)) (Int.toNat (2 : Int)) (IntKind.wrap .u8 (Int.fdiv ((((List.length q9)) : Nat) : Int) ((2 : Int) ^ (Min.min (Int.toNat (8 : Int)) (IntKind.bits .i64)))))) (Int.toNat (3 : Int)) (IntKind.wrap .u8 ((((List.length q9)) : Nat) : Int))))) :: ([] : List (List Int))))) with | none => none | some y8 => (if ((((List.length (((List.take (Int.toNat (4 : Int)) (List.set (List.set (List.set (List.set (List.replicate (Int.toNat (IntKind.wrap .i64 ((4 : Int) + ((((List.length q9)) : Nat) : Int)))) (zeroI (Go.Den.Ty.int .u8))) (Int.toNat (0 : Int)) (156 : Int)) (Int.toNat (1 : Int)) (IntKind.wrap .u8 gen)) (Int.toNat (2 : Int)) (IntKind.wrap .u8 (Int.fdiv ((((List.length q9)) : Nat) : Int) ((2 : Int) ^ (Min.min (Int.toNat (8 : Int)) (IntKind.bits .i64)))))) (Int.toNat (3 : Int)) (IntKind.wrap .u8 ((((List.length q9)) : Nat) : Int)))) ++ q9) ++ (List.drop ((Int.toNat (4 : Int)) + (List.length q9)) (List.set (List.set (List.set (List.set (List.replicate (Int.toNat (IntKind.wrap .i64 ((4 : Int) + ((((List.length q9)) : Nat) : Int)))) (zeroI (Go.Den.Ty.int .u8))) (Int.toNat (0 : Int)) (156 : Int)) (Int.toNat (1 : Int)) (IntKind.wrap .u8 gen)) (Int.toNat (2 : Int)) (IntKind.wrap .u8 (Int.fdiv ((((List.length q9)) : Nat) : Int) ((2 : Int) ^ (Min.min (Int.toNat (8 : Int)) (IntKind.bits .i64)))))) (Int.toNat (3 : Int)) (IntKind.wrap .u8 ((((List.length q9)) : Nat) : Int)))))) + (List.length ((IntKind.wrap .u8 (Int.fdiv y8 ((2 : Int) ^ (Min.min (Int.toNat (24 : Int)) (IntKind.bits .u32))))) :: ((IntKind.wrap .u8 (Int.fdiv y8 ((2 : Int) ^ (Min.min (Int.toNat (16 : Int)) (IntKind.bits .u32))))) :: ((IntKind.wrap .u8 (Int.fdiv y8 ((2 : Int) ^ (Min.min (Int.toNat (8 : Int)) (IntKind.bits .u32))))) :: ((IntKind.wrap .u8 y8) :: ([] : List Int))))))) * (1 : Nat)) ≤ lim) then some (((((List.take (Int.toNat (4 : Int)) (List.set (List.set (List.set (List.set (List.replicate (Int.toNat (IntKind.wrap .i64 ((4 : Int) + ((((List.length q9)) : Nat) : Int)))) (zeroI (Go.Den.Ty.int .u8))) (Int.toNat (0 : Int)) (156 : Int)) (Int.toNat (1 : Int)) (IntKind.wrap .u8 gen)) (Int.toNat (2 : Int)) (IntKind.wrap .u8 (Int.fdiv ((((List.length q9)) : Nat) : Int) ((2 : Int) ^ (Min.min (Int.toNat (8 : Int)) (IntKind.bits .i64)))))) (Int.toNat (3 : Int)) (IntKind.wrap .u8 ((((List.length q9)) : Nat) : Int)))) ++ q9) ++ (List.drop ((Int.toNat (4 : Int)) + (List.length q9)) (List.set (List.set (List.set (List.set (List.replicate (Int.toNat (IntKind.wrap .i64 ((4 : Int) + ((((List.length q9)) : Nat) : Int)))) (zeroI (Go.Den.Ty.int .u8))) (Int.toNat (0 : Int)) (156 : Int)) (Int.toNat (1 : Int)) (IntKind.wrap .u8 gen)) (Int.toNat (2 : Int)) (IntKind.wrap .u8 (Int.fdiv ((((List.length q9)) : Nat) : Int) ((2 : Int) ^ (Min.min (Int.toNat (8 : Int)) (IntKind.bits .i64)))))) (Int.toNat (3 : Int)) (IntKind.wrap .u8 ((((List.length q9)) : Nat) : Int))))) ++ ((IntKind.wrap .u8 (Int.fdiv y8 ((2 : Int) ^ (Min.min (Int.toNat (24 : Int)) (IntKind.bits .u32))))) :: ((IntKind.wrap .u8 (Int.fdiv y8 ((2 : Int) ^ (Min.min (Int.toNat (16 : Int)) (IntKind.bits .u32))))) :: ((IntKind.wrap .u8 (Int.fdiv y8 ((2 : Int) ^ (Min.min (Int.toNat (8 : Int)) (IntKind.bits .u32))))) :: ((IntKind.wrap .u8 y8) :: ([] : List Int)))))), (0 : Int)) else none)) else none) else none))))))))) else none))))
def QT.f (qa : Nat) (gen : Int) (q9 : List Int) : Option ((List Int) × Int) := QT.b gen q9
theorem QT.eq (qa : Nat) (gen : Int) (q9 : List Int) : (denF qhT loopN qa Tryz.f30 [.dat (.sl (.int .u8)) false, .raw] [.d tQi gen, .d (.sl (.int .u8)) q9] [] QT.k) = QT.f qa gen q9 := by
 kernel_rfl
def qbg : Den.Sum := ⟨[.raw, .dat (.sl (.int .u8)) false], fun qH ql κ => match qH, ql with
 | [.d (.int .i64) gen, .d (.sl (.int .u8)) q9], [] => (match veil (QT.f BIG gen q9) with | none => none | some y => κ [.d (.sl (.int .u8)) y.1, .d (.int .i64) y.2] [])
 | _, _ => none⟩
theorem qi3 : SumDet qbg := zi fun _ _ _ _ => by
 unfold qbg
 simp only [veil_eq]
 split
 ·split <;> rfl
 ·rfl
theorem qjO : SumOk Tryz.prog 30 qbg := by
 have hE : EnvOk Tryz.prog qhT := env_ok (l := [(50, qca)]) th_ok qX ⟨⟨qiC, qhK⟩, trivial⟩ _
 refine sum_ok hE Tryz.func30 rfl (by kernel_rfl) qbg [.dat (.sl (.int .u8)) false, .raw] QT.k ?_
 intro R avs ql κ r h
 unfold qbg at h
 simp only [veil_eq] at h
 split at h
 ·rename_i gen q9
  split at h
  ·cases h
  ·rename_i y hy
   refine ⟨BIG, _, _, _, (QT.eq BIG gen q9).trans hy, ?_, h⟩
   intro rs ros hk
   unfold QT.k at hk
   split at hk
   ·rw [← sj hk]; exact ⟨rfl, rfl⟩
   ·cases hk
 ·cases h
def qhU : Env := ⟨th, gam [(50, qca), (51, qaC), (52, Zc), (53, qcj)], fun i => ⟨[], [], []⟩⟩
def Qx.k (rs : List AV) (os : List Den.Obj) : Option (Int × (List Int) × Int) :=
 match rs, os with
 | [.d (.int .i64) r0, .d (.sl (.int .u8)) r1, .d (.int .i64) r2], [] => some (r0, r1, r2)
 | _, _ => none
def Qx.b (b : List Int) : Option (Int × (List Int) × Int) :=
 (if (decide (((((List.length b)) : Nat) : Int) > (65507 : Int))) then some ((0 : Int), ([] : List Int), (3 : Int)) else (if (decide (((((List.length b)) : Nat) : Int) < (8 : Int))) then some ((0 : Int), ([] : List Int), (2 : Int)) else (if (inB b) then (if (zq b 0) then (match (veil (Option.some (qy b (1 : Int) 0 false))) with | none => none | some y0 => (if (zq b y0.2.1) then (match (veil (Option.some (qy b (1 : Int) y0.2.1 y0.2.2))) with | none => none | some y1 => (if (zq b y1.2.1) then (match (veil (Option.some (qy b (2 : Int) y1.2.1 y1.2.2))) with | none => none | some y2 => (if (y0.1 != (156 : Int)) then some ((0 : Int), ([] : List Int), (4 : Int)) else (if (decide (y1.1 < (1 : Int))) then some ((0 : Int), ([] : List Int), (4 : Int)) else (if (decide (y1.1 > (3 : Int))) then some ((0 : Int), ([] : List Int), (4 : Int)) else (if (y2.1 != (IntKind.wrap .i64 (((((List.length b)) : Nat) : Int) - (8 : Int)))) then some ((0 : Int), ([] : List Int), (4 : Int)) else (if (zq b y2.2.1) then (match (veil (Option.some (zd b y2.1 y2.2.1 y2.2.2))) with | none => none | some y3 => (if (zq b y3.2.2.1) then (match (veil (Option.some (qy b (4 : Int) y3.2.2.1 y3.2.2.2))) with | none => none | some y4 => (if (((0 : Int) ≤ (IntKind.wrap .i64 (((((List.length b)) : Nat) : Int) - (4 : Int)))) ∧ ((IntKind.wrap .i64 (((((List.length b)) : Nat) : Int) - (4 : Int))) ≤ ((((List.length b)) : Nat) : Int))) then (match (veil (zS.f BIG ((List.drop (0 : Nat) (List.take (Int.toNat (IntKind.wrap .i64 (((((List.length b)) : Nat) : Int) - (4 : Int)))) b)) :: ([] : List (List Int))))) with | none => none | some y5 => (if ((IntKind.wrap .u32 y4.1) != y5) then some ((0 : Int), ([] : List Int), (8 : Int)) else some (y1.1, y3.1, (0 : Int)))) else none)) else none)) else none)))))) else none)) else none)) else none) else none)))
def Qx.f (qa : Nat) (b : List Int) : Option (Int × (List Int) × Int) := Qx.b b
theorem Qx.eq (qa : Nat) (b : List Int) : (denF qhU loopN qa Tryz.f31 [.raw, .dat (.sl (.int .u8)) false, .raw] [.d (.sl (.int .u8)) b] [] Qx.k) = Qx.f qa b := by
 kernel_rfl
def qbh : Den.Sum := ⟨[.dat (.sl (.int .u8)) false], fun qH ql κ => match qH, ql with
 | [.d (.sl (.int .u8)) b], [] => (match veil (Qx.f BIG b) with | none => none | some y => κ [.d (.int .i64) y.1, .d (.sl (.int .u8)) y.2.1, .d (.int .i64) y.2.2] [])
 | _, _ => none⟩
theorem qi4 : SumDet qbh := zi fun _ _ _ _ => by
 unfold qbh
 simp only [veil_eq]
 split
 ·split <;> rfl
 ·rfl
theorem qjP : SumOk Tryz.prog 31 qbh := by
 have hE : EnvOk Tryz.prog qhU := env_ok (l := [(50, qca), (51, qaC), (52, Zc), (53, qcj)]) th_ok qX ⟨⟨qiC, qhK⟩, ⟨qdu, qcP⟩, ⟨qaZ, qax⟩, ⟨qgI, qfV⟩, trivial⟩ _
 refine sum_ok hE Tryz.func31 rfl (by kernel_rfl) qbh [.raw, .dat (.sl (.int .u8)) false, .raw] Qx.k ?_
 intro R avs ql κ r h
 unfold qbh at h
 simp only [veil_eq] at h
 split at h
 ·rename_i b
  split at h
  ·cases h
  ·rename_i y hy
   refine ⟨BIG, _, _, _, (Qx.eq BIG b).trans hy, ?_, h⟩
   intro rs ros hk
   unfold Qx.k at hk
   split at hk
   ·rw [← sj hk]; exact ⟨rfl, rfl⟩
   ·cases hk
 ·cases h
def qai (gen : Int) (q9 : List Int) : List Int := 156 :: gen :: ((q9.length / 256 : Nat) : Int) :: ((q9.length % 256 : Nat) : Int) :: q9
def qgD (s : Nat) : List Int := [((s / 16777216 : Nat) : Int), ((s / 65536 % 256 : Nat) : Int), ((s / 256 % 256 : Nat) : Int), ((s % 256 : Nat) : Int)]
def qbn (gen : Int) (q9 : List Int) : List Int := qai gen q9 ++ qgD (qf8 (qai gen q9))
def qjx (gen : Int) (q9 : List Int) : List Int × Int := if gen < 1 ∨ gen > 3 then ([], 5) else if q9.length > 65499 then ([], 3) else (qbn gen q9, 0)
theorem qf5 {gen : Int} {q9 : List Int} (h1 : 1 ≤ gen) (h3 : gen ≤ 3) (hb : isB q9) (hl : q9.length ≤ 65499) : isB (qai gen q9) := by
 unfold qai
 exact ZX (by omega) (by omega) (ZX (by omega) (by omega) (ZX (by omega) (by omega) (ZX (by omega) (by omega) hb)))
theorem qnJ (s : Nat) (h : s < 4294967296) : isB (qgD s) := by
 unfold qgD
 exact ZX (by omega) (by omega) (ZX (by omega) (by omega) (ZX (by omega) (by omega) (ZX (by omega) (by omega) qap)))
theorem qdK {gen : Int} {q9 : List Int} (h1 : 1 ≤ gen) (h3 : gen ≤ 3) (hb : isB q9) (hl : q9.length ≤ 65499) : isB (qbn gen q9) :=
 qat (qf5 h1 h3 hb hl) (qnJ _ (qkU _))
theorem fd (s k : Nat) (p : Int) (hp : p = (k : Int)) (hk : 0 < k) : IntKind.wrap .u8 (Int.fdiv (s : Int) p) = ((s / k % 256 : Nat) : Int) := by
 subst hp
 rw [Int.fdiv_eq_ediv_of_nonneg _ (by omega), qia]
 omega
theorem qrP (n : Nat) (hn : n ≤ 65499) : List.replicate (Int.toNat (IntKind.wrap .i64 (4 + ((n : Nat) : Int)))) (zeroI (Go.Den.Ty.int .u8)) = (0 : Int) :: (0 : Int) :: (0 : Int) :: (0 : Int) :: List.replicate n (0 : Int) := by
 rw [qV _ (by omega) (by omega)]
 have : Int.toNat (4 + ((n : Nat) : Int)) = n + 1 + 1 + 1 + 1 := by omega
 rw [this]
 rfl
theorem QT.pure (gen : Int) (q9 : List Int) (hb : isB q9) : QT.f BIG gen q9 = some (qjx gen q9) := by
 unfold QT.f QT.b qjx
 by_cases h1 : gen < 1
 ·rw [if_pos (by simp [h1]), if_pos (.inl h1)]
 rw [if_neg (by simp [h1])]
 by_cases h3 : gen > 3
 ·rw [if_pos (by simp [h3]), if_pos (.inr h3)]
 have hg : ¬ (gen < 1 ∨ gen > 3) := by omega
 rw [if_neg (by simp [h3]), if_neg hg]
 by_cases hl : q9.length > 65499
 ·rw [if_pos hl, if_pos (by simp; omega)]
 rw [if_neg hl, if_neg (by simp; omega)]
 have hn : q9.length ≤ 65499 := by omega
 rw [if_pos (by rw [qV _ (by omega) (by omega), qV _ (by omega) (by omega)]; omega), qrP _ hn]
 generalize hR : List.replicate q9.length (0 : Int) = R
 have hRl : R.length = q9.length := by rw [← hR]; simp
 have i0 : ∀ a b c d : Int, idx (a :: b :: c :: d :: R) 0 = some a := fun _ _ _ _ => rfl
 have i1 : ∀ a b c d : Int, idx (a :: b :: c :: d :: R) 1 = some b := fun _ _ _ _ => rfl
 have i2 : ∀ a b c d : Int, idx (a :: b :: c :: d :: R) 2 = some c := fun _ _ _ _ => rfl
 have i3 : ∀ a b c d : Int, idx (a :: b :: c :: d :: R) 3 = some d := fun _ _ _ _ => rfl
 have s0 : ∀ a b c d x : Int, List.set (a :: b :: c :: d :: R) (Int.toNat 0) x = x :: b :: c :: d :: R := fun _ _ _ _ _ => rfl
 have s1 : ∀ a b c d x : Int, List.set (a :: b :: c :: d :: R) (Int.toNat 1) x = a :: x :: c :: d :: R := fun _ _ _ _ _ => rfl
 have s2 : ∀ a b c d x : Int, List.set (a :: b :: c :: d :: R) (Int.toNat 2) x = a :: b :: x :: d :: R := fun _ _ _ _ _ => rfl
 have s3 : ∀ a b c d x : Int, List.set (a :: b :: c :: d :: R) (Int.toNat 3) x = a :: b :: c :: x :: R := fun _ _ _ _ _ => rfl
 have t4 : ∀ a b c d : Int, List.take (Int.toNat 4) (a :: b :: c :: d :: R) = [a, b, c, d] := fun _ _ _ _ => rfl
 have d4 : ∀ a b c d : Int, List.drop (Int.toNat 4 + q9.length) (a :: b :: c :: d :: R) = [] := by
  intro a b c d
  rw [List.drop_eq_nil_iff]
  have : Int.toNat 4 = 4 := rfl
  simp [hRl, this]; omega
 simp only [i0, i1, i2, i3, s0, s1, s2, s3, t4, d4]
 rw [if_pos (by simp <;> omega), if_pos (by have : Int.toNat 4 = 4 := rfl; simp [hRl, this] <;> omega)]
 have g1 : IntKind.wrap .u8 gen = gen := by rw [qia]; omega
 have g2 : IntKind.wrap .u8 (Int.fdiv ((q9.length : Nat) : Int) (2 ^ (Min.min (Int.toNat 8) (IntKind.bits .i64)))) = ((q9.length / 256 : Nat) : Int) := by
  have e8 : (2 : Int) ^ (Min.min (Int.toNat 8) (IntKind.bits .i64)) = ((256 : Nat) : Int) := rfl
  rw [e8, fd q9.length 256 _ rfl (by omega)]; omega
 have g3 : IntKind.wrap .u8 ((q9.length : Nat) : Int) = ((q9.length % 256 : Nat) : Int) := by rw [qia]; omega
 rw [g1, g2, g3]
 have ef : [156, gen, ((q9.length / 256 : Nat) : Int), ((q9.length % 256 : Nat) : Int)] ++ q9 ++ [] = qai gen q9 := by simp [qai]
 rw [ef, zS.pure _ (qf5 (by omega) (by omega) hb hn) (by simp [qai]; omega)]
 simp only [veil_eq]
 have e24 : (2 : Int) ^ (Min.min (Int.toNat 24) (IntKind.bits .u32)) = ((16777216 : Nat) : Int) := rfl
 have e16 : (2 : Int) ^ (Min.min (Int.toNat 16) (IntKind.bits .u32)) = ((65536 : Nat) : Int) := rfl
 have e8 : (2 : Int) ^ (Min.min (Int.toNat 8) (IntKind.bits .u32)) = ((256 : Nat) : Int) := rfl
 rw [e24, e16, e8, fd _ 16777216 _ rfl (by omega), fd _ 65536 _ rfl (by omega), fd _ 256 _ rfl (by omega)]
 have g4 : IntKind.wrap .u8 ((qf8 (qai gen q9) : Nat) : Int) = ((qf8 (qai gen q9) % 256 : Nat) : Int) := by rw [qia]; omega
 have g5 : qf8 (qai gen q9) / 16777216 % 256 = qf8 (qai gen q9) / 16777216 := by have := qkU (qai gen q9); omega
 rw [g4, g5, if_pos (by unfold lim; simp [qai]; omega)]
 rfl
theorem qpr {l : List Int} (h : isB l) (hl : l.length ≤ 1000000) : inB l = true := by
 unfold inB
 rw [Bool.and_eq_true, List.all_eq_true]
 refine ⟨by unfold Zf; simp; omega, fun c hc => ?_⟩
 have := h c hc
 simp
 omega
theorem qkv (l : List Int) (n a : Nat) (h : a + n ≤ l.length) : zd l (n : Int) (a : Int) false = ((l.take (a + n)).drop a, true, ((a + n : Nat) : Int), false) := by
 unfold zd
 rw [if_neg (by simp), if_neg (by simp; omega)]
 unfold seg
 have e1 : ((a : Int) + (n : Int)).toNat = a + n := by omega
 rw [e1, Int.toNat_natCast]
 simp
theorem qdz (l : List Int) (n a : Nat) (h1 : 1 ≤ n) (h7 : n ≤ 7) (h : a + n ≤ l.length) : qy l (n : Int) (a : Int) false = (QY ((l.take (a + n)).drop a), ((a + n : Nat) : Int), false) := by
 unfold qy
 have e : (if (decide ((n : Int) < 1) || decide ((n : Int) > 7)) = true then (-1 : Int) else (n : Int)) = (n : Int) := if_neg (by simp; omega)
 dsimp only
 rw [e, qkv l n a h]
 rfl
theorem qqg (s : Nat) (h : s < 4294967296) : QY (qgD s) = (s : Int) := by
 show (((0 * 256 + ((s / 16777216 : Nat) : Int)) * 256 + ((s / 65536 % 256 : Nat) : Int)) * 256 + ((s / 256 % 256 : Nat) : Int)) * 256 + ((s % 256 : Nat) : Int) = (s : Int)
 omega
theorem qpj (gen : Int) (q9 : List Int) (h1 : 1 ≤ gen) (h3 : gen ≤ 3) (hb : isB q9) (hl : q9.length ≤ 65499) : Qx.f BIG (qbn gen q9) = some (gen, q9, 0) := by
 generalize hs : qf8 (qai gen q9) = s
 have hsl : s < 4294967296 := by rw [← hs]; exact qkU _
 have hin := qpr (qdK h1 h3 hb hl) (by unfold qbn qai qgD; simp; omega)
 have hS : qbn gen q9 = 156 :: gen :: ((q9.length / 256 : Nat) : Int) :: ((q9.length % 256 : Nat) : Int) :: (q9 ++ qgD s) := by unfold qbn; rw [hs]; rfl
 have hlen : (qbn gen q9).length = q9.length + 8 := by rw [hS]; simp [qgD]
 have hfr : (qbn gen q9).take (q9.length + 4) = qai gen q9 := by rw [hS]; unfold qai; simp
 generalize hL : qbn gen q9 = L at *
 have hat : ∀ a : Nat, a ≤ q9.length + 8 → zq L (a : Int) = true := by
  intro a h1
  unfold zq
  rw [hin, hlen]
  simp
  omega
 have r0 := qdz L 1 0 (by omega) (by omega) (by omega)
 have r1 := qdz L 1 1 (by omega) (by omega) (by omega)
 have r2 := qdz L 2 2 (by omega) (by omega) (by omega)
 have r3 := qkv L q9.length 4 (by omega)
 have r4 := qdz L 4 (4 + q9.length) (by omega) (by omega) (by omega)
 have p0 : QY ((L.take (0 + 1)).drop 0) = 156 := by rw [hS]; rfl
 have p1 : QY ((L.take (1 + 1)).drop 1) = gen := by
  rw [hS]
  show 0 * 256 + gen = gen
  omega
 have p2 : QY ((L.take (2 + 2)).drop 2) = (q9.length : Int) := by
  rw [hS]
  show (0 * 256 + ((q9.length / 256 : Nat) : Int)) * 256 + ((q9.length % 256 : Nat) : Int) = (q9.length : Int)
  omega
 have p3 : (L.take (4 + q9.length)).drop 4 = q9 := by
  rw [hS, Nat.add_comm 4]
  simp
 have p4 : QY ((L.take (4 + q9.length + 4)).drop (4 + q9.length)) = (s : Int) := by
  have e : (L.take (4 + q9.length + 4)).drop (4 + q9.length) = qgD s := by
   rw [List.take_of_length_le (by omega), hS, Nat.add_comm 4]
   simp
  rw [e, qqg s hsl]
 rw [p0] at r0
 rw [p1] at r1
 rw [p2] at r2
 rw [p3] at r3
 rw [p4] at r4
 simp only [show ((0 : Nat) : Int) = 0 from rfl, show ((1 : Nat) : Int) = 1 from rfl, show ((2 : Nat) : Int) = 2 from rfl, show ((4 : Nat) : Int) = 4 from rfl, show ((0 + 1 : Nat) : Int) = 1 from rfl, show ((1 + 1 : Nat) : Int) = 2 from rfl, show ((2 + 2 : Nat) : Int) = 4 from rfl] at r0 r1 r2 r3 r4
 have a0 := hat 0 (by omega)
 have a1 := hat 1 (by omega)
 have a2 := hat 2 (by omega)
 have a4 := hat 4 (by omega)
 have a5 := hat (4 + q9.length) (by omega)
 simp only [show ((0 : Nat) : Int) = 0 from rfl, show ((1 : Nat) : Int) = 1 from rfl, show ((2 : Nat) : Int) = 2 from rfl, show ((4 : Nat) : Int) = 4 from rfl] at a0 a1 a2 a4 a5
 unfold Qx.f Qx.b
 rw [if_neg (by rw [hlen]; simp; omega), if_neg (by rw [hlen]; simp; omega), if_pos hin, if_pos a0]
 simp only [veil_eq, r0]
 rw [if_pos a1]
 simp only [veil_eq, r1]
 rw [if_pos a2]
 simp only [veil_eq, r2]
 have w8 : IntKind.wrap .i64 (((L.length : Nat) : Int) - 8) = (q9.length : Int) := by rw [hlen, qV _ (by omega) (by omega)]; omega
 have w4 : IntKind.wrap .i64 (((L.length : Nat) : Int) - 4) = ((q9.length + 4 : Nat) : Int) := by rw [hlen, qV _ (by omega) (by omega)]; omega
 rw [if_neg (by simp), if_neg (by simp; omega), if_neg (by simp; omega), w8, if_neg (by simp), if_pos a4]
 simp only [veil_eq, r3]
 rw [if_pos a5]
 simp only [veil_eq, r4]
 rw [w4, if_pos (by rw [hlen]; omega), Int.toNat_natCast, hfr, List.drop_zero, zS.pure _ (qf5 h1 h3 hb hl) (by unfold qai; simp; omega)]
 simp only [veil_eq]
 rw [hs, qku s hsl, if_neg (by simp)]
theorem qe7 (qa : Nat) (bs : List Int) (a0 : Int) (bad0 wr0 : Bool) (k : Nat) (n i : Int) (wr : Bool) (a : Int) (bad : Bool) (out : LF) (h : wr = true ∨ n ≤ i) :
  qS.l4 qa bs a0 bad0 wr0 (k + 1) n i wr bs a bad out = some (wr, bs, a, bad, out) := by
 rw [qS.l4]
 unfold qS.b4
 by_cases hi : i < n
 ·rw [if_pos (by simpa using hi)]
  rcases h with rfl | h
  ·rfl
  ·omega
 ·rw [if_neg (by simpa using hi)]
theorem qk7 (l : List Int) (n a : Int) : zd l n a true = ([], false, a, true) := rfl
theorem qnM (l : List Int) (a : Nat) (h : a ≤ l.length) : zd l 0 (a : Int) false = ([], true, (a : Int), false) := by
 unfold zd
 rw [if_neg (by simp), if_neg (by simp; omega)]
 unfold seg
 simp
theorem qp0 (l : List Int) (n : Int) (a : Nat) (h0 : 0 ≤ n) (h : a + n.toNat ≤ l.length) : zd l n (a : Int) false = ((l.drop a).take n.toNat, true, ((a + n.toNat : Nat) : Int), false) := by
 unfold zd
 rw [if_neg (by simp), if_neg (by simp; omega)]
 unfold seg
 rw [show ((a : Int) + n).toNat = a + n.toNat from by omega, Int.toNat_natCast, show ((a : Int) + n) = ((a + n.toNat : Nat) : Int) from by omega]
 congr 1
 rw [List.drop_take]
 congr 1
 omega
theorem qoS (l : List Int) (n : Int) (a : Nat) (h0 : 0 ≤ n) (h : l.length < a + n.toNat) : zd l n (a : Int) false = ([], false, (a : Int), true) := by
 unfold zd
 rw [if_neg (by simp), if_pos (by simp; omega)]
theorem qm0 (qa : Nat) (bs : List Int) (hb : inB bs = true) (a0 : Int) (bad0 wr0 : Bool) (n : Nat) (hn : n ≤ 32) : ∀ (m k : Nat) (i a : Nat) (out : LF), i + m = n → m < k → a ≤ bs.length → out.length ≤ i →
  match qdg bs m a with
  | some (l, a2) => qS.l4 qa bs a0 bad0 wr0 k (n : Int) (i : Int) false bs (a : Int) false out = some (false, bs, (a2 : Int), false, out ++ l)
  | none => ∃ (a' : Nat) (bad' : Bool) (l : LF), qS.l4 qa bs a0 bad0 wr0 k (n : Int) (i : Int) false bs (a : Int) false out = some (true, bs, (a' : Int), bad', l) ∧ a' ≤ bs.length := by
 obtain ⟨hl, hc⟩ := (QP bs).1 hb
 intro m
 induction m with
 | zero =>
  intro k i a out hi hk ha ho
  obtain ⟨k, rfl⟩ : ∃ k', k = k' + 1 := ⟨k - 1, by omega⟩
  rw [qdg]
  dsimp only
  rw [qe7 qa bs a0 bad0 wr0 k (n : Int) (i : Int) false (a : Int) false out (Or.inr (by omega)), List.append_nil]
 | succ m ih =>
  intro k i a out hi hk ha ho
  obtain ⟨k, rfl⟩ : ∃ k', k = k' + 2 := ⟨k - 2, by omega⟩
  have hend : ∀ (a' : Nat) (bad' : Bool) (l : LF), a' ≤ bs.length → ∃ (a'' : Nat) (bad'' : Bool) (l' : LF), qS.l4 qa bs a0 bad0 wr0 (k + 1) (n : Int) (IntKind.wrap .i64 ((i : Int) + 1)) true bs (a' : Int) bad' l = some (true, bs, (a'' : Int), bad'', l') ∧ a'' ≤ bs.length :=
   fun a' bad' l h => ⟨a', bad', l, qe7 qa bs a0 bad0 wr0 k _ _ true _ _ _ (Or.inl rfl), h⟩
  have hw : IntKind.wrap .i64 ((i : Int) + 1) = ((i + 1 : Nat) : Int) := by rw [qV _ (by omega) (by omega)]; omega
  rw [show k + 2 = (k + 1) + 1 from rfl, qS.l4, qdg]
  unfold qS.b4
  simp only [veil_eq]
  rw [if_pos (c := decide ((i : Int) < (n : Int)) = true) (by simp; omega), if_pos (c := (!false) = true) rfl, if_pos (c := zq bs (a : Int) = true) ((zI _ _).2 ⟨hb, by omega, by omega⟩)]
  have hlim : ∀ x : Int × List Int, (out.length + ([x] : LF).length) * 32 ≤ lim := fun x => by simp [lim]; omega
  by_cases hlt : a < bs.length
  ·rw [qcG bs a hlt]
   have hf : qf6 bs a = match tk bs (a + 1) 4096 with
     | none => none
     | some (n, a2) => if a2 + n.toNat ≤ bs.length then some ((bs[a], (bs.drop a2).take n.toNat), a2 + n.toNat) else none := by
    unfold qf6
    rw [List.getElem?_eq_getElem hlt]
    all_goals rfl
   rw [hf]
   dsimp only
   generalize bs[a] = t at hf ⊢
   have hg := qdD bs (a + 1) 4096 hb (by decide) (by decide) hlt
   cases ht : tk bs (a + 1) 4096 with
   | none =>
    rw [ht] at hg
    obtain ⟨a', bad, hg, h2⟩ := hg
    rw [hg]
    dsimp only
    rw [if_pos (c := zq bs (a' : Int) = true) ((zI _ _).2 ⟨hb, by omega, by omega⟩)]
    cases bad with
    | true =>
     rw [qk7]
     dsimp only
     rw [if_pos rfl, if_pos (hlim _)]
     exact hend a' true _ h2
    | false =>
     rw [qnM bs a' h2]
     dsimp only
     rw [if_neg (c := false = true) (by simp), if_pos (hlim _)]
     exact hend a' false _ h2
   | some p =>
    obtain ⟨w, a2⟩ := p
    rw [ht] at hg
    dsimp only at hg ⊢
    obtain ⟨e1, w0, w1, _, _, l1⟩ := qaO hc ht
    rw [hg]
    dsimp only
    rw [if_pos (c := zq bs (a2 : Int) = true) ((zI _ _).2 ⟨hb, by omega, by omega⟩)]
    by_cases hin : a2 + w.toNat ≤ bs.length
    ·rw [qp0 bs w a2 w0 hin, if_pos hin]
     dsimp only
     rw [if_neg (c := false = true) (by simp), if_pos (hlim _), hw]
     have := ih (k + 1) (i + 1) (a2 + w.toNat) (out ++ [(t, (bs.drop a2).take w.toNat)]) (by omega) (by omega) hin (by simp; omega)
     cases hr : qdg bs m (a2 + w.toNat) with
     | none =>
      rw [hr] at this
      exact this
     | some q =>
      obtain ⟨l, a3⟩ := q
      rw [hr] at this
      dsimp only at this ⊢
      rw [this]
      simp
    ·rw [qoS bs w a2 w0 (by omega), if_neg hin]
     dsimp only
     rw [if_pos rfl, if_pos (hlim _)]
     exact hend a2 true _ l1
  ·have hf : qf6 bs a = none := by
    unfold qf6
    rw [List.getElem?_eq_none (by omega)]
   rw [hf, qcH bs a (by omega)]
   dsimp only
   rw [qmk bs a 4096 hb ha]
   dsimp only
   rw [if_pos (c := zq bs (a : Int) = true) ((zI _ _).2 ⟨hb, by omega, by omega⟩), qk7]
   dsimp only
   rw [if_pos rfl, if_pos (hlim _)]
   exact hend a true _ ha
theorem qhW (bs : List Int) (a : Int) (bad : Bool) : qS.f BIG bs a bad true = some (true, bs, a, bad, []) := by
 unfold qS.f qS.b
 simp only [veil_eq]
 rw [qg3]
 dsimp only
 rw [qaI]
 exact qe7 _ bs a bad true _ _ _ true a bad [] (Or.inl rfl)
theorem qm1 (bs : List Int) (a : Nat) (hb : inB bs = true) (ha : a ≤ bs.length) :
  match qf9 bs a with
  | some (l, a2) => qS.f BIG bs (a : Int) false false = some (false, bs, (a2 : Int), false, l)
  | none => ∃ (a' : Nat) (bad' : Bool) (l : LF), qS.f BIG bs (a : Int) false false = some (true, bs, (a' : Int), bad', l) ∧ a' ≤ bs.length := by
 obtain ⟨hl, hc⟩ := (QP bs).1 hb
 have hg := qdD bs a 32 hb (by decide) (by decide) ha
 unfold qS.f qS.b qf9
 simp only [veil_eq]
 cases ht : tk bs a 32 with
 | none =>
  rw [ht] at hg
  obtain ⟨a', bad, hg, h2⟩ := hg
  rw [hg]
  dsimp only
  refine ⟨a', bad, [], ?_, h2⟩
  rw [qaI]
  exact qe7 _ bs a false false _ _ _ true a' bad [] (Or.inl rfl)
 | some p =>
  obtain ⟨w, a2⟩ := p
  rw [ht] at hg
  dsimp only at hg ⊢
  obtain ⟨e1, w0, w1, _, _, l1⟩ := qaO hc ht
  rw [hg]
  dsimp only
  have := qm0 BIG bs hb a false false w.toNat (by omega) w.toNat BIG 0 a2 [] (by omega) (by rw [qaj]; omega) l1 (by simp)
  rw [show ((w.toNat : Nat) : Int) = w from by omega] at this
  simpa using this
theorem qpz : (List.range 256).all (fun n => (bits BinOp.and .i64 (n : Int) 3 == (n : Int) % 4) && (((bits BinOp.and .i64 (n : Int) 4 != 0) == ((n : Int) / 4 % 2 == 1)) && (((bits BinOp.and .i64 (n : Int) 8 != 0) == ((n : Int) / 8 % 2 == 1)) && ((bits BinOp.and .i64 (n : Int) 16 != 0) == ((n : Int) / 16 % 2 == 1))))) = true := by kernel_rfl
theorem qje (v : Int) (h0 : 0 ≤ v) (h1 : v ≤ 255) : bits BinOp.and .i64 v 3 = v % 4 ∧ (bits BinOp.and .i64 v 4 != 0) = (v / 4 % 2 == 1) ∧ (bits BinOp.and .i64 v 8 != 0) = (v / 8 % 2 == 1) ∧ (bits BinOp.and .i64 v 16 != 0) = (v / 16 % 2 == 1) := by
 have := List.all_eq_true.1 qpz v.toNat (by simp; omega)
 rw [show ((v.toNat : Nat) : Int) = v from by omega] at this
 simp only [Bool.and_eq_true] at this
 obtain ⟨a, b, c, d⟩ := this
 exact ⟨by simpa using a, eq_of_beq b, eq_of_beq c, eq_of_beq d⟩
theorem qnE (a : Int) (h0 : 0 ≤ a) (h1 : a < 9223372036854775808) : bits BinOp.xor .i64 a 0 = a := by
 have e : bits BinOp.xor .i64 a 0 = IntKind.wrap .i64 ((BitVec.ofInt 64 a ^^^ 0#64).toNat : Int) := rfl
 rw [e, BitVec.xor_zero, BitVec.toNat_ofInt, qV]
 ·omega
 ·omega
 ·omega
theorem qnF (a : Int) (h0 : 0 ≤ a) (h1 : a < 9223372036854775808) : bits BinOp.xor .i64 a (-1) = -a - 1 := by
 have e : bits BinOp.xor .i64 a (-1) = IntKind.wrap .i64 ((BitVec.ofInt 64 a ^^^ BitVec.ofInt 64 (-1)).toNat : Int) := rfl
 rw [e, show BitVec.ofInt 64 (-1) = BitVec.allOnes 64 from by decide +kernel, BitVec.xor_allOnes, BitVec.toNat_not, BitVec.toNat_ofInt, IntKind.wrap_i64]
 omega
theorem qpK (z : Int) (h0 : 0 ≤ z) (h1 : z < 18446744073709551616) : bits BinOp.and .u64 z 1 = z % 2 := by
 obtain ⟨a, rfl⟩ := Int.eq_ofNat_of_zero_le h0
 have e : bits BinOp.and .u64 (a : Int) 1 = IntKind.wrap .u64 ((BitVec.ofInt 64 (a : Int) &&& 1#64).toNat : Int) := rfl
 rw [e, BitVec.toNat_and, BitVec.ofInt_natCast, BitVec.toNat_ofNat, Nat.mod_eq_of_lt (by omega), show (1#64 : BitVec 64).toNat = 1 from rfl, Nat.and_one_is_mod, Z4 _ (by omega) (by omega)]
 omega
theorem Zag.pure (z : Int) (h0 : 0 ≤ z) (h1 : z < 4611686018427387904) : QZ.f BIG z = some (qef z) := by
 unfold QZ.f QZ.b qef
 rw [show ((2 : Int) ^ (Min.min (Int.toNat (1 : Int)) (IntKind.bits .u64))) = 2 from rfl, Int.fdiv_eq_ediv_of_nonneg _ (by omega), qpK z h0 (by omega), qV (z / 2) (by omega) (by omega), qV (z % 2) (by omega) (by omega)]
 by_cases h : z % 2 = 0
 ·rw [if_pos h, h, show IntKind.wrap .i64 (0 - 0) = 0 from by decide, qnE _ (by omega) (by omega)]
 ·rw [if_neg h, show z % 2 = 1 from by omega, show IntKind.wrap .i64 (0 - 1) = -1 from by decide, qnF _ (by omega) (by omega)]
  congr 1
  omega
theorem qmX (bs : List Int) (a0 : Int) (bad0 wr0 : Bool) (qe : Int) (qb : LR) (v : Int) (ok : Bool) (a : Int) (bad : Bool) (id st lo hi : Int) (cut : Bool) (oid oinc ost olo ohi : Int) (ocut : Bool) (obag : LF) :
  ∃ inc bag, qC.l12 BIG bs a0 bad0 wr0 qe qb BIG v ok true bs a bad id st lo hi cut oid oinc ost olo ohi ocut obag = some (id, inc, st, lo, hi, cut, bag, true, bs, a, bad) := by
 rw [qC.l12_at BIG BIG (BIG - 1) qaI]
 unfold qC.b12
 simp only [veil_eq]
 rw [qg3]
 dsimp only
 obtain ⟨y, hy⟩ : ∃ y, QZ.f BIG (IntKind.wrap .u64 0) = some y := ⟨_, rfl⟩
 rw [hy]
 dsimp only
 cases cut with
 | true => exact ⟨_, _, rfl⟩
 | false =>
  rw [if_neg (c := false = true) (by simp)]
  split
  ·exact ⟨_, _, rfl⟩
  ·rw [qhW]
   exact ⟨_, _, rfl⟩
def qh5 (bs : List Int) (o : Option (Int × Int × Int × Int × Int × Bool × LF × Bool × List Int × Int × Bool)) : Prop :=
 ∃ id inc st lo hi cut bag, ∃ (a' : Nat) (bad' : Bool), o = some (id, inc, st, lo, hi, cut, bag, true, bs, (a' : Int), bad') ∧ a' ≤ bs.length
theorem qeE (bs : List Int) (a0 : Int) (bad0 wr0 : Bool) (qe : Int) (qb : LR) (v : Int) (ok : Bool) (a : Nat) (bad : Bool) (id st lo hi : Int) (cut : Bool) (oid oinc ost olo ohi : Int) (ocut : Bool) (obag : LF) (ha : a ≤ bs.length) :
  qh5 bs (qC.l12 BIG bs a0 bad0 wr0 qe qb BIG v ok true bs (a : Int) bad id st lo hi cut oid oinc ost olo ohi ocut obag) := by
 obtain ⟨inc, bag, h⟩ := qmX bs a0 bad0 wr0 qe qb v ok a bad id st lo hi cut oid oinc ost olo ohi ocut obag
 exact ⟨id, inc, st, lo, hi, cut, bag, a, bad, h, ha⟩
theorem qfR {b : LF} (h1 : b.length ≤ 32) (h2 : ∀ x ∈ b, x.2.length ≤ 4096) : zo b = true := (Z6 _).2 ⟨by omega, fun x hx => by have := h2 x hx; omega⟩
theorem qll {qb : LR} (Qz : ∀ x ∈ qb, zw x = true) (id : Int) : zo (zC qb id).1.2.2.2.2.2 = true := by
 rcases qi8 (qb := qb) (id := id) with ⟨_, h⟩ | ⟨_, h, _⟩
 ·rw [h]; all_goals rfl
 ·have := zE (Qz _ h)
  have hb2 := Za this.2.2.2.2.2.2.2.1
  exact qfR hb2.1 (fun x hx => (qbm this.2.2.2.2.2.2.2.1 x hx).2.2)
theorem qom (bs : List Int) (hb : inB bs = true) (a0 : Int) (bad0 wr0 : Bool) (qe : Int) (qb : LR) (Qz : ∀ x ∈ qb, zw x = true) (id0 : Int) (v : Int) (v0 : 0 ≤ v) (hv : qbu (zC qb id0) v = false) (a : Nat) (ha : a ≤ bs.length) (id st lo hi oid ost olo ohi : Int) (ocut : Bool) :
  match (match tk bs a 562949953421310 with
   | none => none
   | some (z, a3) => match qd5 bs (zC qb id0) v a3 with
    | none => none
    | some (b, a4) => some ((zC qb id0).1.2.1 + qef z, b, a4)) with
  | some (inc, b, a4) => qC.l12 BIG bs a0 bad0 wr0 qe qb BIG v (zC qb id0).2 false bs (a : Int) false id st lo hi (v / 4 % 2 == 1) oid (zC qb id0).1.2.1 ost olo ohi ocut (zC qb id0).1.2.2.2.2.2 = some (id, inc, st, lo, hi, (v / 4 % 2 == 1), b, false, bs, (a4 : Int), false)
  | none => qh5 bs (qC.l12 BIG bs a0 bad0 wr0 qe qb BIG v (zC qb id0).2 false bs (a : Int) false id st lo hi (v / 4 % 2 == 1) oid (zC qb id0).1.2.1 ost olo ohi ocut (zC qb id0).1.2.2.2.2.2) := by
 obtain ⟨hl, hc⟩ := (QP bs).1 hb
 obtain ⟨f1, f2, f3⟩ := qke hv
 obtain ⟨o0, o1⟩ := qkO Qz id0
 have hos := qll Qz id0
 obtain ⟨_, _, _, b16⟩ := qje v v0 (by omega)
 have hg := qdD bs a 562949953421310 hb (by decide) (by decide) ha
 rw [qC.l12_at BIG BIG (BIG - 1) qaI]
 unfold qC.b12
 simp only [veil_eq]
 generalize zC qb id0 = o at *
 cases ht : tk bs a 562949953421310 with
 | none =>
  rw [ht] at hg
  obtain ⟨a', bad, hg, h2⟩ := hg
  rw [hg]
  dsimp only
  obtain ⟨y, hy⟩ : ∃ y, QZ.f BIG (IntKind.wrap .u64 0) = some y := ⟨_, rfl⟩
  rw [hy]
  dsimp only
  cases (v / 4 % 2 == 1) with
  | true => exact ⟨_, _, _, _, _, _, _, a', bad, rfl, h2⟩
  | false =>
   rw [if_neg (c := false = true) (by simp)]
   split
   ·exact ⟨_, _, _, _, _, _, _, a', bad, rfl, h2⟩
   ·rw [qhW]
    exact ⟨_, _, _, _, _, _, _, a', bad, rfl, h2⟩
 | some p =>
  obtain ⟨z, a3⟩ := p
  rw [ht] at hg
  dsimp only at hg ⊢
  obtain ⟨e1, z0, z1, _, _, l3⟩ := qaO hc ht
  have hz : -300000000000000 ≤ qef z ∧ qef z ≤ 300000000000000 := by unfold qef; split <;> omega
  rw [hg]
  dsimp only
  rw [Z4 z z0 (by omega), Zag.pure z z0 (by omega)]
  dsimp only
  rw [qV _ (by omega) (by omega), b16]
  unfold qd5
  by_cases h4 : v / 4 % 2 = 1
  ·rw [if_pos h4]
   have e4 : (v / 4 % 2 == 1) = true := by simpa using h4
   rw [e4]
   all_goals rfl
  ·rw [if_neg h4]
   have e4 : (v / 4 % 2 == 1) = false := by simpa using h4
   rw [e4, if_neg (c := false = true) (by simp)]
   by_cases h16 : 16 ≤ v
   ·rw [if_pos h16, if_pos (c := (v / 16 % 2 == 1) = true) (by simp; omega)]
   ·rw [if_neg h16, if_neg (c := (v / 16 % 2 == 1) = true) (by simp; omega)]
    have hf := qm1 bs a3 hb l3
    cases hbg : qf9 bs a3 with
    | none =>
     rw [hbg] at hf
     obtain ⟨a', bad', l, hf, h2⟩ := hf
     rw [hf]
     exact ⟨_, _, _, _, _, _, _, a', bad', rfl, h2⟩
    | some q =>
     obtain ⟨b, a4⟩ := q
     rw [hbg] at hf
     dsimp only at hf ⊢
     rw [hf]
     dsimp only
     obtain ⟨_, l4, n4, s4⟩ := qha hc hbg
     rw [if_neg (c := false = true) (by simp)]
     cases ho : o.2 with
     | false =>
      rw [if_neg (c := false = true) (by simp)]
      simp
     | true =>
      cases hcm : ZH b o.1.2.2.2.2.2 == 0 with
      | true =>
       simp only [qfR n4 s4, hos, Bool.and_self, if_true]
       exact ⟨_, _, _, _, _, _, _, a4, false, rfl, l4⟩
      | false =>
       simp only [qfR n4 s4, hos, Bool.and_self, Bool.and_false, if_true, Bool.false_eq_true, if_false]
theorem qmc (bs : List Int) (a0 : Int) (bad0 wr0 : Bool) (qe : Int) (qb : LR) (v : Int) (ok : Bool) (a : Nat) (bad : Bool) (id st : Int) (cut : Bool) (oid oinc ost olo ohi : Int) (ocut : Bool) (obag : LF) (hb : inB bs = true) (ha : a ≤ bs.length) (wr : Bool) (hw : wr = true ∨ (bad = true ∧ v = 0)) :
  qh5 bs (qC.l8 BIG bs a0 bad0 wr0 qe qb BIG v ok wr bs (a : Int) bad id st cut oid oinc ost olo ohi ocut obag) := by
 rw [qC.l8_at BIG BIG (BIG - 1) qaI]
 unfold qC.b8
 simp only [veil_eq]
 by_cases h8 : (bits BinOp.and .i64 v 8 != 0) = true
 ·rw [if_pos h8]
  rcases hw with rfl | ⟨_, rfl⟩
  ·exact qeE bs a0 bad0 wr0 qe qb v ok a bad id st _ _ cut oid oinc ost olo ohi ocut obag ha
  ·exact absurd h8 (by decide)
 ·rw [if_neg h8]
  have hr : Rel bs none wr (a : Int) bad := ⟨⟨a, rfl, ha⟩, by
   rcases hw with h | h
   ·exact Or.inl h
   ·exact Or.inr h.1⟩
  obtain ⟨lo, hi, wr', a', bad', e1, r1, _⟩ := qiR hb hr
  rw [e1]
  dsimp only
  obtain ⟨⟨n, rfl, hn⟩, hor⟩ := r1
  have hwr : wr' = true := by
   -- a span that is not read is qY
   have := e1
   unfold zm.f zm.b at this
   simp only [veil_eq] at this
   rw [if_pos ((zI _ _).2 ⟨hb, by omega, by omega⟩)] at this
   rcases hw with rfl | ⟨rfl, _⟩
   ·have := (Option.some.inj this)
    simp only [Prod.mk.injEq] at this
    rw [← this.2.2.1]
   ·rw [qhM] at this
    cases wr with
    | true =>
     have := (Option.some.inj this)
     simp only [Prod.mk.injEq] at this
     rw [← this.2.2.1]
    | false =>
     rw [if_neg (by simp)] at this
     have := (Option.some.inj this)
     simp only [Prod.mk.injEq] at this
     rw [← this.2.2.1, qgV 0 (by omega) (by omega)]
     all_goals rfl
  subst hwr
  rw [if_pos rfl]
  exact qeE bs a0 bad0 wr0 qe qb v ok n bad' id st _ _ cut oid oinc ost olo ohi ocut obag hn
theorem qoU (bs : List Int) (a : Nat) (hb : inB bs = true) (ha : a ≤ bs.length) :
  match bs[a]? with
  | none => ∃ lo hi bad, zm.f BIG bs (a : Int) false false = some (lo, hi, true, bs, (a : Int), bad)
  | some c => if okS (c / 16) (c % 16) = true then zm.f BIG bs (a : Int) false false = some (c / 16, c % 16, false, bs, ((a + 1 : Nat) : Int), false)
   else ∃ lo hi, zm.f BIG bs (a : Int) false false = some (lo, hi, true, bs, ((a + 1 : Nat) : Int), false) := by
 obtain ⟨hl, hc⟩ := (QP bs).1 hb
 unfold zm.f zm.b
 simp only [veil_eq]
 rw [if_pos ((zI _ _).2 ⟨hb, by omega, by omega⟩)]
 by_cases hlt : a < bs.length
 ·rw [qcG bs a hlt, List.getElem?_eq_getElem hlt]
  dsimp only
  obtain ⟨c0, c1⟩ := hc _ (List.getElem_mem hlt)
  have ht := qgV _ c0 c1
  have hd := qgW _ c0 c1
  generalize bs[a] = c at c0 c1 ht hd ⊢
  rw [if_neg (c := false = true) (by simp), ht]
  cases ho : okS (c / 16) (c % 16) with
  | true => rw [if_pos rfl, hd.1 ho]; all_goals rfl
  | false => rw [if_neg (c := false = true) (by simp)]; exact ⟨_, _, rfl⟩
 ·rw [qcH bs a (by omega), List.getElem?_eq_none (by omega)]
  dsimp only
  rw [if_neg (c := false = true) (by simp), qgV 0 (by omega) (by omega)]
  exact ⟨_, _, _, rfl⟩
theorem qpm (bs : List Int) (hb : inB bs = true) (a0 : Int) (bad0 wr0 : Bool) (qe : Int) (qb : LR) (o : REC × Bool) (v : Int) (v0 : 0 ≤ v) (v1 : v ≤ 255) (a : Nat) (ha : a ≤ bs.length) (id st : Int) (cut : Bool) :
  match qew bs o v a with
  | some (sp, a2) => qC.l8 BIG bs a0 bad0 wr0 qe qb BIG v o.2 false bs (a : Int) false id st cut o.1.1 o.1.2.1 o.1.2.2.1 o.1.2.2.2.1.1 o.1.2.2.2.1.2 o.1.2.2.2.2.1 o.1.2.2.2.2.2 =
    qC.l12 BIG bs a0 bad0 wr0 qe qb BIG v o.2 false bs (a2 : Int) false id st sp.1 sp.2 cut o.1.1 o.1.2.1 o.1.2.2.1 o.1.2.2.2.1.1 o.1.2.2.2.1.2 o.1.2.2.2.2.1 o.1.2.2.2.2.2 ∧ a2 ≤ bs.length
  | none => qh5 bs (qC.l8 BIG bs a0 bad0 wr0 qe qb BIG v o.2 false bs (a : Int) false id st cut o.1.1 o.1.2.1 o.1.2.2.1 o.1.2.2.2.1.1 o.1.2.2.2.1.2 o.1.2.2.2.2.1 o.1.2.2.2.2.2) := by
 obtain ⟨_, _, b8, _⟩ := qje v v0 v1
 have hs := qoU bs a hb ha
 rw [qC.l8_at BIG BIG (BIG - 1) qaI]
 unfold qC.b8 qew
 simp only [veil_eq]
 rw [b8]
 by_cases h8 : v / 8 % 2 = 1
 ·rw [if_pos h8, if_pos (c := (v / 8 % 2 == 1) = true) (by simpa using h8)]
  exact ⟨rfl, ha⟩
 ·rw [if_neg h8, if_neg (c := (v / 8 % 2 == 1) = true) (by simpa using h8)]
  cases hc : bs[a]? with
  | none =>
   rw [hc] at hs
   obtain ⟨lo, hi, bad, hs⟩ := hs
   rw [hs]
   dsimp only
   rw [if_pos rfl]
   exact qeE bs a0 bad0 wr0 qe qb v _ a bad id st _ _ cut _ _ _ _ _ _ _ ha
  | some c =>
   rw [hc] at hs
   dsimp only at hs ⊢
   have hlt := (qes hc).2
   cases ho : okS (c / 16) (c % 16) with
   | false =>
    rw [ho, if_neg (by simp)] at hs
    obtain ⟨lo, hi, hs⟩ := hs
    rw [hs]
    dsimp only
    rw [if_pos (c := true = true) rfl, if_neg (by simp)]
    exact qeE bs a0 bad0 wr0 qe qb v _ (a + 1) false id st _ _ cut _ _ _ _ _ _ _ hlt
   | true =>
    rw [ho, if_pos rfl] at hs
    rw [hs]
    dsimp only
    rw [if_neg (c := false = true) (by simp)]
    cases h2 : o.2 with
    | false =>
     simp only [Bool.false_and, and_self, if_true, Bool.false_eq_true, if_false]
     first | exact hlt | exact ⟨rfl, hlt⟩ | exact ⟨trivial, hlt⟩
    | true =>
     rw [if_pos (c := true = true) rfl]
     cases h3 : (c / 16 == o.1.2.2.2.1.1) <;> cases h4 : (c % 16 == o.1.2.2.2.1.2) <;> simp only [Bool.true_and, Bool.and_self, Bool.and_true, Bool.and_false, Bool.false_eq_true, and_self, and_false, true_and, Bool.true_eq_false, if_true, if_false]
     ·first | exact hlt | exact ⟨rfl, hlt⟩ | exact ⟨trivial, hlt⟩
     ·first | exact hlt | exact ⟨rfl, hlt⟩ | exact ⟨trivial, hlt⟩
     ·first | exact hlt | exact ⟨rfl, hlt⟩ | exact ⟨trivial, hlt⟩
     ·exact qeE bs a0 bad0 wr0 qe qb v _ (a + 1) false id st _ _ cut _ _ _ _ _ _ _ hlt
theorem qmm {α : Type} (o : REC × Bool) (v : Int) (B E : α) : (if decide (v ≥ 32) = true then B else if (!o.2) = true then (if decide (v ≥ 8) = true then B else if (v / 4 % 2 == 1) = true then (if decide (v ≥ 16) = true then B else E) else E) else (if (v / 4 % 2 == 1) = true then (if decide (v ≥ 16) = true then B else E) else E)) = if qbu o v = true then B else E := by
 unfold qbu
 have e1 : (v / 4 % 2 == 1) = decide (v / 4 % 2 = 1) := rfl
 rw [e1]
 have g32 : decide (v ≥ 32) = decide (32 ≤ v) := rfl
 have g8 : decide (v ≥ 8) = decide (8 ≤ v) := rfl
 have g16 : decide (v ≥ 16) = decide (16 ≤ v) := rfl
 rw [g32, g8, g16]
 generalize decide (32 ≤ v) = p
 generalize decide (8 ≤ v) = q
 generalize decide (16 ≤ v) = s
 generalize decide (v / 4 % 2 = 1) = t
 generalize o.2 = u
 cases p <;> cases q <;> cases s <;> cases t <;> cases u <;> rfl
theorem qqd (bs : List Int) (hb : inB bs = true) (qe : Int) (h1 : -1 ≤ qe) (h2 : qe ≤ 100000000) (qb : LR) (Qz : ∀ x ∈ qb, zw x = true) (hbn : qb.length < 1000000000) (a : Nat) (ha : a ≤ bs.length) :
  match qfB bs qb qe a with
  | some (r, a2) => qC.f BIG bs (a : Int) false false qe qb = some (r.1, r.2.1, r.2.2.1, r.2.2.2.1.1, r.2.2.2.1.2, r.2.2.2.2.1, r.2.2.2.2.2, false, bs, (a2 : Int), false)
  | none => qh5 bs (qC.f BIG bs (a : Int) false false qe qb) := by
 obtain ⟨hl, hc⟩ := (QP bs).1 hb
 have hg := qdD bs a 4095 hb (by decide) (by decide) ha
 have hfine := qni Qz hbn
 unfold qC.f qC.b qfB
 simp only [veil_eq]
 cases ht : tk bs a 4095 with
 | none =>
  rw [ht] at hg
  obtain ⟨a', bad, hg, l1⟩ := hg
  rw [hg]
  dsimp only
  have hat : zq bs (a' : Int) = true := (zI _ _).2 ⟨hb, by omega, by omega⟩
  have hr := (zI _ _).1 (QA bs 1 (a' : Int) bad hat)
  obtain ⟨m, hm1, hm2⟩ : ∃ m : Nat, (qy bs 1 (a' : Int) bad).2.1 = (m : Int) ∧ m ≤ bs.length := ⟨(qy bs 1 (a' : Int) bad).2.1.toNat, by omega, by omega⟩
  rw [if_pos (c := zq bs (a' : Int) = true) hat, qqE.pure qb _ hfine, hm1]
  dsimp only
  repeat' split
  all_goals first
   | exact ⟨_, _, _, _, _, _, _, m, _, rfl, hm2⟩
   | exact qmc bs a false false qe qb _ _ m _ _ _ _ _ _ _ _ _ _ _ hb hm2 true (Or.inl rfl)
 | some p =>
  obtain ⟨d, a1⟩ := p
  rw [ht] at hg
  dsimp only at hg ⊢
  obtain ⟨_, d0, d1, _, _, l1⟩ := qaO hc ht
  rw [hg]
  dsimp only
  have hid : IntKind.wrap .i64 (IntKind.wrap .i64 (qe + 1) + d) = qe + 1 + d := by rw [qV (qe + 1) (by omega) (by omega), qV _ (by omega) (by omega)]
  rw [if_pos (c := zq bs (a1 : Int) = true) ((zI _ _).2 ⟨hb, by omega, by omega⟩), hid, qqE.pure qb _ hfine]
  dsimp only
  by_cases hlt : a1 < bs.length
  ·rw [qcG bs a1 hlt, List.getElem?_eq_getElem hlt]
   dsimp only
   obtain ⟨c0, c1⟩ := hc _ (List.getElem_mem hlt)
   generalize bs[a1] = v at c0 c1 ⊢
   obtain ⟨b3, b4, _, _⟩ := qje v c0 c1
   rw [b3, b4, qmm]
   cases hf : qbu (zC qb (qe + 1 + d)) v with
   | true =>
    rw [if_pos rfl, if_pos rfl]
    exact ⟨_, _, _, _, _, _, _, a1 + 1, _, rfl, hlt⟩
   | false =>
    rw [if_neg (c := false = true) (by simp), if_neg (c := false = true) (by simp)]
    have h8 := qpm bs hb a false false qe qb (zC qb (qe + 1 + d)) v c0 c1 (a1 + 1) hlt (qe + 1 + d) (v % 4) (v / 4 % 2 == 1)
    cases hs : qew bs (zC qb (qe + 1 + d)) v (a1 + 1) with
    | none =>
     rw [hs] at h8
     exact h8
    | some q =>
     obtain ⟨sp, a2⟩ := q
     rw [hs] at h8
     dsimp only at h8 ⊢
     rw [h8.1]
     have h12 := qom bs hb a false false qe qb Qz (qe + 1 + d) v c0 hf a2 h8.2 (qe + 1 + d) (v % 4) sp.1 sp.2 (zC qb (qe + 1 + d)).1.1 (zC qb (qe + 1 + d)).1.2.2.1 (zC qb (qe + 1 + d)).1.2.2.2.1.1 (zC qb (qe + 1 + d)).1.2.2.2.1.2 (zC qb (qe + 1 + d)).1.2.2.2.2.1
     revert h12
     cases tk bs a2 562949953421310 with
     | none => intro h12; exact h12
     | some w =>
      obtain ⟨z, a3⟩ := w
      dsimp only
      cases qd5 bs (zC qb (qe + 1 + d)) v a3 with
      | none => intro h12; exact h12
      | some u =>
       obtain ⟨b, a4⟩ := u
       intro h12
       exact h12
  ·rw [qcH bs a1 (by omega), List.getElem?_eq_none (by omega)]
   dsimp only
   rw [show (bits BinOp.and .i64 0 4 != 0) = ((0 : Int) / 4 % 2 == 1) from by decide, qmm]
   split
   ·exact ⟨_, _, _, _, _, _, _, a1, _, rfl, l1⟩
   ·exact qmc bs a false false qe qb 0 _ a1 true _ _ _ _ _ _ _ _ _ _ hb l1 false (Or.inr ⟨rfl, rfl⟩)
theorem qoe {bs : List Int} (hb : ∀ c ∈ bs, 0 ≤ c ∧ c ≤ 255) {qb : LR} (Qz : ∀ x ∈ qb, zw x = true) {qe : Int} {a : Nat} {r : REC} {a2 : Nat} (h : qfB bs qb qe a = some (r, a2)) : zo r.2.2.2.2.2 = true := by
 unfold qfB at h
 cases ht : tk bs a 4095 with
 | none => rw [ht] at h; cases h
 | some p =>
  obtain ⟨d, a1⟩ := p
  rw [ht] at h
  dsimp only at h
  cases hc : bs[a1]? with
  | none => rw [hc] at h; cases h
  | some v =>
   rw [hc] at h
   dsimp only at h
   cases hf : qbu (zC qb (qe + 1 + d)) v with
   | true => rw [hf] at h; cases h
   | false =>
    rw [hf, if_neg (by simp)] at h
    cases hs : qew bs (zC qb (qe + 1 + d)) v (a1 + 1) with
    | none => rw [hs] at h; cases h
    | some q =>
     rw [hs] at h
     dsimp only at h
     cases hz : tk bs q.2 562949953421310 with
     | none => rw [hz] at h; cases h
     | some w =>
      rw [hz] at h
      dsimp only at h
      cases hg : qd5 bs (zC qb (qe + 1 + d)) v w.2 with
      | none => rw [hg] at h; cases h
      | some u =>
       rw [hg] at h
       cases h
       unfold qd5 at hg
       dsimp only
       split at hg
       ·cases hg; rfl
       ·split at hg
        ·cases hg; exact qll Qz _
        ·cases hk : qf9 bs w.2 with
         | none => rw [hk] at hg; cases hg
         | some y =>
          rw [hk] at hg
          dsimp only at hg
          split at hg
          ·cases hg
          ·cases hg
           obtain ⟨_, _, n4, s4⟩ := qha hb (l := y.1) (a2 := y.2) hk
           exact qfR n4 s4
abbrev HDR := Int × Int × Int × Int × Int × Int × Int × Int × Int × Int × Bool × List Int × Int × Bool
def qoB (k f i lo hi s t l e b : Int) (wr : Bool) (bs : List Int) (a : Int) (bad : Bool) : Option HDR :=
 if bad then some (k, f, i, lo, hi, s, t, l, e, b, true, bs, a, bad)
 else if (!(q0 k f i lo hi s t l e b [])) then some (k, f, i, lo, hi, s, t, l, e, b, true, bs, a, bad)
 else some (k, f, i, lo, hi, s, t, l, e, b, wr, bs, a, bad)
def qmj (bs : List Int) (at0 : Int) (bad qY : Bool) : Option HDR :=
 if zq bs at0 then
  qce true 4095 qY bs (qy bs 1 at0 bad).2.1 (qy bs 1 at0 bad).2.2 fun f w b1 a1 d1 =>
  qce true 281474976710655 w b1 a1 d1 fun i w b2 a2 d2 =>
  match zm.f BIG b2 a2 d2 w with
  | none => none
  | some y =>
   qce (qv (qy bs 1 at0 bad).1 0) 65535 y.2.2.1 y.2.2.2.1 y.2.2.2.2.1 y.2.2.2.2.2 fun s w b3 a3 d3 =>
   qce (qv (qy bs 1 at0 bad).1 1) 4095 w b3 a3 d3 fun t w b4 a4 d4 =>
   qce (qv (qy bs 1 at0 bad).1 2) 281474976710655 w b4 a4 d4 fun l w b5 a5 d5 =>
   qce (qv (qy bs 1 at0 bad).1 2) 65535 w b5 a5 d5 fun e w b6 a6 d6 =>
   qce (qv (qy bs 1 at0 bad).1 3) 65535 w b6 a6 d6 fun b w b7 a7 d7 =>
   qoB (qy bs 1 at0 bad).1 f i y.1 y.2.1 s t l e b w b7 a7 d7
 else none
theorem qqn (bs : List Int) (at0 : Int) (bad qY : Bool) : zJ.f BIG bs at0 bad qY = qmj bs at0 bad qY := by
 unfold zJ.f zJ.b qmj qce qoB
 simp only [veil_eq]
 generalize qv (qy bs 1 at0 bad).1 0 = h0
 generalize qv (qy bs 1 at0 bad).1 1 = h1
 generalize qv (qy bs 1 at0 bad).1 2 = h2
 generalize qv (qy bs 1 at0 bad).1 3 = h3
 cases h0 <;> cases h1 <;> cases h2 <;> cases h3 <;> rfl
theorem qrB.pure (bs : List Int) (hb : inB bs = true) :
  match hdS bs with
  | some (k, f, i, lo, hi, s, t, l, e, b, a) => zJ.f BIG bs 0 false false = some (k, f, i, lo, hi, s, t, l, e, b, false, bs, (a : Int), false) ∧ a ≤ bs.length ∧ q0 k f i lo hi s t l e b [] = true
  | none => ∃ k f i lo hi s t l e b a bad, zJ.f BIG bs 0 false false = some (k, f, i, lo, hi, s, t, l, e, b, true, bs, a, bad) := by
 rw [qqn]
 unfold qmj
 rw [if_pos ((zI _ _).2 ⟨hb, by omega, by omega⟩)]
 have h0 : (qy bs 1 0 false).1 = hdK bs ∧ Rel bs (qae bs) false (qy bs 1 0 false).2.1 (qy bs 1 0 false).2.2 := by
  unfold hdK qae
  by_cases h : 0 < bs.length
  ·rw [if_pos h, show (0 : Int) = ((0 : Nat) : Int) from rfl, qcG bs 0 h]
   refine ⟨?_, ⟨1, rfl, h⟩, rfl, rfl, rfl⟩
   simp [List.getD, List.getElem?_eq_getElem h]
  ·rw [if_neg h, show (0 : Int) = ((0 : Nat) : Int) from rfl, qcH bs 0 (by omega)]
   refine ⟨?_, ⟨0, rfl, by omega⟩, Or.inr rfl⟩
   simp [List.getD, List.getElem?_eq_none (show bs.length ≤ 0 by omega)]
 obtain ⟨e0, r0⟩ := h0
 rw [e0]
 obtain ⟨w1, a1, d1, e1, r1⟩ := qak hb r0 true 4095 (by decide) (by decide) _
 rw [e1]
 obtain ⟨w2, a2, d2, e2, r2⟩ := qak hb r1 true 281474976710655 (by decide) (by decide) _
 rw [e2]
 obtain ⟨lo, hi, w3, a3, d3, e3, r3, q3⟩ := qiR hb r2
 rw [e3]
 dsimp only
 obtain ⟨w4, a4, d4, e4, r4⟩ := qak hb r3 (qv (hdK bs) 0) 65535 (by decide) (by decide) _
 rw [e4]
 obtain ⟨w5, a5, d5, e5, r5⟩ := qak hb r4 (qv (hdK bs) 1) 4095 (by decide) (by decide) _
 rw [e5]
 obtain ⟨w6, a6, d6, e6, r6⟩ := qak hb r5 (qv (hdK bs) 2) 281474976710655 (by decide) (by decide) _
 rw [e6]
 obtain ⟨w7, a7, d7, e7, r7⟩ := qak hb r6 (qv (hdK bs) 2) 65535 (by decide) (by decide) _
 rw [e7]
 obtain ⟨w8, a8, d8, e8, r8⟩ := qak hb r7 (qv (hdK bs) 3) 65535 (by decide) (by decide) _
 rw [e8]
 have hs : (zp bs (qv (hdK bs) 3) (zp bs (qv (hdK bs) 2) (zp bs (qv (hdK bs) 2) (zp bs (qv (hdK bs) 1) (zp bs (qv (hdK bs) 0) (spS bs (zp bs true (zp bs true (qae bs) 4095).2 281474976710655).2).2.2 65535).2 4095).2 281474976710655).2 65535).2 65535).2 ≠ none → lo = (spS bs (zp bs true (zp bs true (qae bs) 4095).2 281474976710655).2).1 ∧ hi = (spS bs (zp bs true (zp bs true (qae bs) 4095).2 281474976710655).2).2.1 :=
  fun h => q3 (qa6 (qa6 (qa6 (qa6 (qa6 h)))))
 unfold hdS qoB
 dsimp only
 generalize zp bs (qv (hdK bs) 3) _ 65535 = B at r8 hs ⊢
 obtain ⟨b, st⟩ := B
 dsimp only at r8 hs ⊢
 obtain ⟨⟨n, rfl, hn⟩, r8⟩ := r8
 cases st with
 | none =>
  dsimp only at r8 ⊢
  cases d8 with
  | true => exact ⟨_, _, _, _, _, _, _, _, _, _, _, _, rfl⟩
  | false =>
   obtain rfl : w8 = true := by rcases r8 with h | h; exact h; cases h
   rw [if_neg (by simp)]
   split <;> exact ⟨_, _, _, _, _, _, _, _, _, _, _, _, rfl⟩
 | some m =>
  obtain ⟨rfl, rfl, e⟩ := r8
  obtain ⟨rfl, rfl⟩ := hs (by simp)
  obtain rfl : n = m := by omega
  dsimp only
  rw [if_neg (c := false = true) (by simp)]
  by_cases hv : q0 (hdK bs) (zp bs true (qae bs) 4095).1 (zp bs true (zp bs true (qae bs) 4095).2 281474976710655).1 (spS bs (zp bs true (zp bs true (qae bs) 4095).2 281474976710655).2).1 (spS bs (zp bs true (zp bs true (qae bs) 4095).2 281474976710655).2).2.1 (zp bs (qv (hdK bs) 0) (spS bs (zp bs true (zp bs true (qae bs) 4095).2 281474976710655).2).2.2 65535).1 (zp bs (qv (hdK bs) 1) (zp bs (qv (hdK bs) 0) (spS bs (zp bs true (zp bs true (qae bs) 4095).2 281474976710655).2).2.2 65535).2 4095).1 (zp bs (qv (hdK bs) 2) (zp bs (qv (hdK bs) 1) (zp bs (qv (hdK bs) 0) (spS bs (zp bs true (zp bs true (qae bs) 4095).2 281474976710655).2).2.2 65535).2 4095).2 281474976710655).1 (zp bs (qv (hdK bs) 2) (zp bs (qv (hdK bs) 2) (zp bs (qv (hdK bs) 1) (zp bs (qv (hdK bs) 0) (spS bs (zp bs true (zp bs true (qae bs) 4095).2 281474976710655).2).2.2 65535).2 4095).2 281474976710655).2 65535).1 b [] = true
  ·rw [if_pos hv, if_neg (by rw [Bool.not_eq_true, Bool.not_eq_false']; exact hv)]
   exact ⟨rfl, hn, hv⟩
  ·rw [if_neg hv, if_pos (by simpa using hv)]
   exact ⟨_, _, _, _, _, _, _, _, _, _, _, _, rfl⟩
def qjh (b : List Int) (k f i lo hi s t l e bb : Int) (qd : LR) (a : Nat) : M12 :=
 if a = b.length ∧ b.length ≤ 65499 ∧ q0 k f i lo hi s t l e bb qd = true then (k, f, i, lo, hi, s, t, l, e, bb, qd, 0) else z12 4
theorem qnj (qa : Nat) (b : List Int) (qb : LR) (hb : inB b = true) (k : Nat) (bs2 : LR) (n qe i : Int) (a : Nat) (ha : a ≤ b.length) (hi : ¬ i < n) (kk f ii lo hi' s t l e bb : Int) (qd : LR) (hr : za qd = true) :
  zg.l11 qa b qb (k + 1) bs2 n qe i false b (a : Int) false kk f ii lo hi' s t l e bb qd = some (qjh b kk f ii lo hi' s t l e bb qd a) := by
 rw [zg.l11]
 unfold zg.b11 qjh
 rw [if_neg (c := decide (i < n) = true) (by simpa using hi), if_neg (c := false = true) (by simp), if_pos (c := zq b (a : Int) = true) ((zI _ _).2 ⟨hb, by omega, by omega⟩)]
 unfold ZT
 rw [if_neg (c := false = true) (by simp), hr, if_pos (c := true = true) rfl]
 by_cases h1 : a = b.length
 ·rw [if_neg (c := (!(!false && ((b.length : Int) - (a : Int) == 0))) = true) (by simp; omega)]
  by_cases h2 : b.length ≤ 65499
  ·rw [if_neg (c := decide ((b.length : Int) > 65499) = true) (by simp; omega)]
   cases hv : q0 kk f ii lo hi' s t l e bb qd with
   | true => rw [if_neg (c := (!true) = true) (by simp), if_pos ⟨h1, h2, rfl⟩]
   | false => rw [if_pos (c := (!false) = true) rfl, if_neg (by simp)]; all_goals rfl
  ·rw [if_pos (c := decide ((b.length : Int) > 65499) = true) (by simp; omega), if_neg (by omega)]; all_goals rfl
 ·rw [if_pos (c := (!(!false && ((b.length : Int) - (a : Int) == 0))) = true) (by simp; omega), if_neg (fun h => h1 h.1)]; all_goals rfl
theorem qh1 (qa : Nat) (b : List Int) (qb : LR) (k : Nat) (bs2 : LR) (n qe i : Int) (bs : List Int) (a : Int) (bad : Bool) (kk f ii lo hi' s t l e bb : Int) (qd : LR) :
  zg.l11 qa b qb (k + 1) bs2 n qe i true bs a bad kk f ii lo hi' s t l e bb qd = some (z12 4) := by
 rw [zg.l11]
 unfold zg.b11
 by_cases h : i < n
 ·rw [if_pos (c := decide (i < n) = true) (by simpa using h)]; all_goals rfl
 ·rw [if_neg (c := decide (i < n) = true) (by simpa using h)]; all_goals rfl
theorem qqw (qa : Nat) (b : List Int) (qb : LR) (hb : inB b = true) (bs2 : LR) (Qz : ∀ x ∈ bs2, zw x = true) (hbn : bs2.length < 1000000000) (n : Nat) (hn : n ≤ 255) (kk f ii lo hi s t l e bb : Int) : ∀ (m k i : Nat) (qe : Int) (a : Nat) (out : LR), i + m = n → m < k → -1 ≤ qe → qe ≤ 4096 * (i : Int) → a ≤ b.length → out.length ≤ i → (∀ r ∈ out, zo r.2.2.2.2.2 = true) →
  zg.l11 qa b qb k bs2 (n : Int) qe (i : Int) false b (a : Int) false kk f ii lo hi s t l e bb out = some (match qcW b bs2 m qe a with
   | none => z12 4
   | some (rs, a2) => qjh b kk f ii lo hi s t l e bb (out ++ rs) a2) := by
 obtain ⟨hl, hc⟩ := (QP b).1 hb
 intro m
 induction m with
 | zero =>
  intro k i qe a out hi' hk h1 h2 ha ho hs
  obtain ⟨k, rfl⟩ : ∃ k', k = k' + 1 := ⟨k - 1, by omega⟩
  rw [qnj qa b qb hb k bs2 _ _ _ a ha (by omega) _ _ _ _ _ _ _ _ _ _ out ((QO _).2 ⟨by omega, hs⟩), qcW]
  dsimp only
  rw [List.append_nil]
 | succ m ih =>
  intro k i qe a out hi' hk h1 h2 ha ho hs
  obtain ⟨k, rfl⟩ : ∃ k', k = k' + 2 := ⟨k - 2, by omega⟩
  have h3 := qqd b hb qe h1 (by omega) bs2 Qz hbn a ha
  rw [show k + 2 = (k + 1) + 1 from rfl, zg.l11, qcW]
  unfold zg.b11
  simp only [veil_eq]
  rw [if_pos (c := decide ((i : Int) < (n : Int)) = true) (by simp; omega), if_pos (c := (!false) = true) rfl]
  have hw : IntKind.wrap .i64 ((i : Int) + 1) = ((i + 1 : Nat) : Int) := by rw [qV _ (by omega) (by omega)]; omega
  have hlim : ∀ x : REC, (out.length + ([x] : LR).length) * 72 ≤ lim := fun x => by simp [lim]; omega
  cases hr : qfB b bs2 qe a with
  | none =>
   rw [hr] at h3
   obtain ⟨id, inc, st, l1, l2, cut, bag, a', bad', h3, h4⟩ := h3
   rw [h3]
   dsimp only
   rw [if_pos (hlim _)]
   exact qh1 qa b qb k bs2 _ _ _ _ _ _ _ _ _ _ _ _ _ _ _ _ _
  | some p =>
   obtain ⟨r, a2⟩ := p
   rw [hr] at h3
   dsimp only at h3 ⊢
   obtain ⟨_, l2, g1, g2⟩ := qjX hc hr
   have hsm := qoe hc Qz hr
   rw [h3]
   dsimp only
   rw [if_pos (hlim _), hw, ih (k + 1) (i + 1) r.1 a2 (out ++ [r]) (by omega) (by omega) (by omega) (by omega) l2 (by simp; omega) (fun x hx => by
    rcases List.mem_append.1 hx with h | h
    ·exact hs x h
    ·rw [List.mem_singleton.1 h]; exact hsm)]
   cases qcW b bs2 m r.1 a2 with
   | none => rfl
   | some q =>
    obtain ⟨rs, a3⟩ := q
    dsimp only
    rw [List.append_assoc]
    all_goals rfl
theorem qlg : ∀ (l : LR) (qe : Int), (∀ r ∈ l, r.1 ≤ 4095) → qfP qe l → -1 ≤ qe → qe ≤ 4095 → (l.length : Int) ≤ 4095 - qe
 | [], qe, _, _, _, h => by simp; omega
 | r :: l, qe, h, h1, h2, h3 => by
  have := qlg l r.1 (fun x hx => h x (List.mem_cons_of_mem _ hx)) h1.2 (by have := h1.1; omega) (h r (List.mem_cons_self ..))
  have := h1.1
  simp
  omega
theorem qnN {l : LR} (h : Qs l = true) : l.length < 1000000000 := by
 obtain ⟨h1, h2⟩ := qbR h
 have := qlg l (-1) (fun r hr => (zE (h1 r hr)).2.1) h2 (by omega) (by omega)
 omega
theorem qrW.pure (b : List Int) (qb : LR) (hb : inB b = true) (hs : za qb = true) : zg.f BIG b qb = some (qaH b qb) := by
 obtain ⟨hl, hc⟩ := (QP b).1 hb
 unfold zg.f zg.b qaH
 simp only [veil_eq]
 rw [hs, hb]
 cases hso : Qs qb with
 | false => rfl
 | true =>
  obtain ⟨Qz, hris⟩ := qbR hso
  have hbn := qnN hso
  have hh := qrB.pure b hb
  rw [if_pos (c := true = true) rfl, if_neg (c := (!true) = true) (by simp), if_pos (c := true = true) rfl]
  unfold qh2
  cases hd : hdS b with
  | none =>
   rw [hd] at hh
   obtain ⟨k, f, i, lo, hi, s, t, l, e, bb, a, bad, hh⟩ := hh
   rw [hh]
   dsimp only
   have hfw : ∀ m, qD.f BIG b a bad true m = some (0, true, b, a, bad) := fun m => qg3 b a bad m
   have hdw : ∀ (bs2 : LR) (n qe i1 : Int) (bs : List Int) (a1 : Int) (bad1 : Bool) (kk f1 i2 lo1 hi1 s1 t1 l1 e1 b1 : Int) (qd : LR), zg.l11 BIG b qb BIG bs2 n qe i1 true bs a1 bad1 kk f1 i2 lo1 hi1 s1 t1 l1 e1 b1 qd = some (z12 4) := by
    intro bs2 n qe i1 bs a1 bad1 kk f1 i2 lo1 hi1 s1 t1 l1 e1 b1 qd
    have := qh1 BIG b qb (BIG - 1) bs2 n qe i1 bs a1 bad1 kk f1 i2 lo1 hi1 s1 t1 l1 e1 b1 qd
    rw [← qaI] at this
    exact this
   simp only [hfw, hdw]
   cases (bb == 0) <;> cases qv k 4 <;> rfl
  | some p =>
   obtain ⟨k, f, i, lo, hi, s, t, l, e, bb, a⟩ := p
   rw [hd] at hh
   dsimp only at hh ⊢
   obtain ⟨hh, l1, hv⟩ := hh
   rw [hh]
   dsimp only
   have key : (if qv k 4 = true then (match qD.f BIG b (a : Int) false false 255 with
      | none => none
      | some y1 => zg.l11 BIG b qb BIG (qa3 bb qb) y1.1 (-1) 0 y1.2.1 y1.2.2.1 y1.2.2.2.1 y1.2.2.2.2 k f i lo hi s t l e bb []) else some (qjh b k f i lo hi s t l e bb [] a)) =
     some (match (match qfQ b (qa3 bb qb) k a with
      | none => none
      | some (rs, a2) => if a2 = b.length ∧ b.length ≤ 65499 ∧ q0 k f i lo hi s t l e bb rs = true then some (k, f, i, lo, hi, s, t, l, e, bb, rs) else none) with
      | none => z12 4
      | some m => okM m) := by
    unfold qfQ
    cases h4 : qv k 4 with
    | false =>
     rw [if_neg (by simp), if_neg (by simp)]
     dsimp only
     unfold qjh
     split <;> rfl
    | true =>
     rw [if_pos rfl, if_pos rfl]
     have hg := qdD b a 255 hb (by decide) (by decide) l1
     cases ht : tk b a 255 with
     | none =>
      rw [ht] at hg
      obtain ⟨a', bad, hg, h2⟩ := hg
      rw [hg]
      dsimp only
      rw [qaI]
      exact qh1 _ b qb _ _ _ _ _ _ _ _ _ _ _ _ _ _ _ _ _ _ _
     | some w =>
      obtain ⟨n, a1⟩ := w
      rw [ht] at hg
      dsimp only at hg ⊢
      obtain ⟨_, n0, n1, _, _, l2⟩ := qaO hc ht
      rw [hg]
      dsimp only
      have hbl : (qa3 bb qb).length < 1000000000 := by
       unfold qa3
       split
       ·simp
       ·exact hbn
      have := qqw BIG b qb hb (qa3 bb qb) (qh4 Qz bb) hbl n.toNat (by omega) k f i lo hi s t l e bb n.toNat BIG 0 (-1) a1 [] (by omega) (by rw [qaj]; omega) (by omega) (by omega) l2 (by simp) (by simp)
      rw [show ((n.toNat : Nat) : Int) = n from by omega] at this
      rw [show ((0 : Nat) : Int) = 0 from rfl] at this
      rw [this]
      cases qcW b (qa3 bb qb) n.toNat (-1) a1 with
      | none => rfl
      | some q =>
       obtain ⟨rs, a3⟩ := q
       dsimp only
       rw [List.nil_append]
       unfold qjh
       split <;> rfl
   have hend : (if zq b (a : Int) = true then (if (!(!false && (ZT b (a : Int) false == 0))) = true then some (z12 4) else if decide (((b.length : Nat) : Int) > 65499) = true then some (z12 4) else if (!q0 k f i lo hi s t l e bb []) = true then some (z12 4) else some (k, f, i, lo, hi, s, t, l, e, bb, [], 0)) else none) = some (qjh b k f i lo hi s t l e bb [] a) := by
    have := qnj 0 b qb hb 0 [] 0 0 0 a l1 (by omega) k f i lo hi s t l e bb [] rfl
    rw [← this, zg.l11]
    unfold zg.b11
    rfl
   refine Eq.trans ?_ key
   unfold qa3
   cases (bb == 0) <;> cases qv k 4 <;> first | exact hend | rfl
theorem qrJ.pure {bs : List Int} (hb : inB bs = true) : ZM.f BIG bs = some (qhR bs) := qrK.pure hb
theorem qoW : za [] = true := rfl
def qhu : Env := ⟨th, gam [(54, qbL), (16, qb7), (19, ZP)], fun i => ⟨[], [], []⟩⟩
def ZB.k (rs : List AV) (os : List Den.Obj) : Option (Int × Int × Int × Int × Int × Int × Int × Int × Int × Int × LR × Int) :=
 match rs, os with
 | [.agg [.d (.int .i64) r0, .d (.int .i64) r1, .d (.int .i64) r2, .d (.int .i64) r3, .d (.int .i64) r4, .d (.int .i64) r5, .d (.int .i64) r6, .d (.int .i64) r7, .d (.int .i64) r8, .d (.int .i64) r9, .d (.sl (.pair (.int .i64) (.pair (.int .i64) (.pair (.int .i64) (.pair (.pair (.int .i64) (.int .i64)) (.pair .bool (.sl (.pair (.int .i64) (.sl (.int .u8)))))))))) r10], .d (.int .i64) r11], [] => some (r0, r1, r2, r3, r4, r5, r6, r7, r8, r9, r10, r11)
 | _, _ => none
def ZB.b (gen : Int) (b : List Int) : Option (Int × Int × Int × Int × Int × Int × Int × Int × Int × Int × LR × Int) :=
 (if (gen == (3 : Int)) then (match (veil (ZM.f BIG b)) with | none => none | some y0 => some (y0.1, y0.2.1, y0.2.2.1, y0.2.2.2.1, y0.2.2.2.2.1, y0.2.2.2.2.2.1, y0.2.2.2.2.2.2.1, y0.2.2.2.2.2.2.2.1, y0.2.2.2.2.2.2.2.2.1, y0.2.2.2.2.2.2.2.2.2.1, y0.2.2.2.2.2.2.2.2.2.2.1, y0.2.2.2.2.2.2.2.2.2.2.2)) else (match (veil (zQ.f BIG gen b ([] : LR))) with | none => none | some y1 => (match (veil (qbk.f BIG y1.1 y1.2.1 y1.2.2.1 y1.2.2.2.1 y1.2.2.2.2.1 y1.2.2.2.2.2.1 y1.2.2.2.2.2.2.1 y1.2.2.2.2.2.2.2.1 y1.2.2.2.2.2.2.2.2.1 y1.2.2.2.2.2.2.2.2.2.1 y1.2.2.2.2.2.2.2.2.2.2.1)) with | none => none | some y2 => some (y2.1, y2.2.1, y2.2.2.1, y2.2.2.2.1, y2.2.2.2.2.1, y2.2.2.2.2.2.1, y2.2.2.2.2.2.2.1, y2.2.2.2.2.2.2.2.1, y2.2.2.2.2.2.2.2.2.1, y2.2.2.2.2.2.2.2.2.2.1, y2.2.2.2.2.2.2.2.2.2.2, y1.2.2.2.2.2.2.2.2.2.2.2))))
def ZB.f (qa : Nat) (gen : Int) (b : List Int) : Option (Int × Int × Int × Int × Int × Int × Int × Int × Int × Int × LR × Int) := ZB.b gen b
theorem ZB.eq (qa : Nat) (gen : Int) (b : List Int) : (denF qhu loopN qa Tryz.f32 [.dat (.pair tQi (.pair tQi (.pair tQi (.pair (.pair tQi tQi) (.pair tQi (.pair tQi (.pair tQi (.pair tQi (.pair tQi (.sl tQr)))))))))) true, .raw] [.d tQi gen, .d (.sl (.int .u8)) b] [] ZB.k) = ZB.f qa gen b := by
 kernel_rfl
def qbb : Den.Sum := ⟨[.raw, .dat (.sl (.int .u8)) false], fun qH ql κ => match qH, ql with
 | [.d (.int .i64) gen, .d (.sl (.int .u8)) b], [] => (match veil (ZB.f BIG gen b) with | none => none | some y => κ [.agg [.d (.int .i64) y.1, .d (.int .i64) y.2.1, .d (.int .i64) y.2.2.1, .d (.int .i64) y.2.2.2.1, .d (.int .i64) y.2.2.2.2.1, .d (.int .i64) y.2.2.2.2.2.1, .d (.int .i64) y.2.2.2.2.2.2.1, .d (.int .i64) y.2.2.2.2.2.2.2.1, .d (.int .i64) y.2.2.2.2.2.2.2.2.1, .d (.int .i64) y.2.2.2.2.2.2.2.2.2.1, .d (.sl (.pair (.int .i64) (.pair (.int .i64) (.pair (.int .i64) (.pair (.pair (.int .i64) (.int .i64)) (.pair .bool (.sl (.pair (.int .i64) (.sl (.int .u8)))))))))) y.2.2.2.2.2.2.2.2.2.2.1], .d (.int .i64) y.2.2.2.2.2.2.2.2.2.2.2] [])
 | _, _ => none⟩
theorem qiT : SumDet qbb := zi fun _ _ _ _ => by
 unfold qbb
 simp only [veil_eq]
 split
 ·split <;> rfl
 ·rfl
theorem qjy : SumOk Tryz.prog 32 qbb := by
 have hE : EnvOk Tryz.prog qhu := env_ok (l := [(54, qbL), (16, qb7), (19, ZP)]) th_ok qX ⟨⟨qkI, qjN⟩, ⟨qlE, qkE⟩, ⟨qeT, qeB⟩, trivial⟩ _
 refine sum_ok hE Tryz.func32 rfl (by kernel_rfl) qbb [.dat (.pair tQi (.pair tQi (.pair tQi (.pair (.pair tQi tQi) (.pair tQi (.pair tQi (.pair tQi (.pair tQi (.pair tQi (.sl tQr)))))))))) true, .raw] ZB.k ?_
 intro R avs ql κ r h
 unfold qbb at h
 simp only [veil_eq] at h
 split at h
 ·rename_i gen b
  split at h
  ·cases h
  ·rename_i y hy
   refine ⟨BIG, _, _, _, (ZB.eq BIG gen b).trans hy, ?_, h⟩
   intro rs ros hk
   unfold ZB.k at hk
   split at hk
   ·rw [← sj hk]; exact ⟨rfl, rfl⟩
   ·cases hk
 ·cases h
theorem qrU.pure (gen k f i lo hi s t l e b : Int) (qd qb : LR) (hr : za qd = true) (hl : za qb = true) (hln : qb.length < 1000000000) :
  zO.f BIG gen k f i lo hi s t l e b qd qb = some (zZ gen k f i lo hi s t l e b qd qb) := by
 refine qdC (gen := gen) (fun gen => zO.f BIG gen k f i lo hi s t l e b qd qb = some (zZ gen k f i lo hi s t l e b qd qb)) ?_ ?_ ?_ ?_
 ·rw [qgf]
  unfold zO.f zO.b
  simp only [veil_eq]
  rw [if_pos (c := ((1 : Int) == 1) = true) rfl]
  unfold Zv.f Zv.b
  rw [hr]
  all_goals rfl
 ·rw [qge]
  unfold zO.f zO.b
  simp only [veil_eq]
  rw [if_neg (c := ((2 : Int) == 1) = true) (by decide), if_pos (c := ((2 : Int) == 2) = true) rfl]
  unfold Zt.f Zt.b
  rw [hr]
  all_goals rfl
 ·rw [qeg]
  unfold zO.f zO.b
  simp only [veil_eq]
  rw [if_neg (c := ((3 : Int) == 1) = true) (by decide), if_neg (c := ((3 : Int) == 2) = true) (by decide), if_pos (c := ((3 : Int) == 3) = true) rfl, qrV.pure k f i lo hi s t l e b qd qb hr hl hln]
 ·intro h1 h2 h3
  rw [qgg h1 h2 h3]
  unfold zO.f zO.b
  simp only [veil_eq]
  rw [if_neg (c := (gen == 1) = true) (by simpa using h1), if_neg (c := (gen == 2) = true) (by simpa using h2), if_neg (c := (gen == 3) = true) (by simpa using h3)]
theorem qrm.pure (gen : Int) (b : List Int) (qb : LR) (hb : isB b) (hl : b.length < 1000000000) (hs : za qb = true) :
  zQ.f BIG gen b qb = some (Q0 gen b qb) := by
 have hin : inB b = true := (QP b).2 ⟨by omega, hb⟩
 have his : inS b = true := qmh hb hl
 refine qdC (gen := gen) (fun gen => zQ.f BIG gen b qb = some (Q0 gen b qb)) ?_ ?_ ?_ ?_
 ·rw [qj1]
  unfold zQ.f zQ.b
  simp only [veil_eq]
  rw [if_pos (c := ((1 : Int) == 1) = true) rfl]
  unfold Zu.f Zu.b
  simp only [veil_eq]
  rw [hin]
  all_goals rfl
 ·rw [qj0]
  unfold zQ.f zQ.b
  simp only [veil_eq]
  rw [if_neg (c := ((2 : Int) == 1) = true) (by decide), if_pos (c := ((2 : Int) == 2) = true) rfl]
  unfold Zs.f Zs.b
  simp only [veil_eq]
  rw [his]
  all_goals rfl
 ·rw [ql8]
  unfold zQ.f zQ.b
  simp only [veil_eq]
  rw [if_neg (c := ((3 : Int) == 1) = true) (by decide), if_neg (c := ((3 : Int) == 2) = true) (by decide), if_pos (c := ((3 : Int) == 3) = true) rfl, qrW.pure b qb hin hs]
 ·intro h1 h2 h3
  unfold zQ.f zQ.b
  simp only [veil_eq]
  unfold Q0
  simp only [show (gen == 1) = false from by simpa using h1, show (gen == 2) = false from by simpa using h2, show (gen == 3) = false from by simpa using h3, Bool.false_eq_true, if_false]
  all_goals rfl
theorem qrG.pure (gen : Int) (b : List Int) (hb : isB b) (hl : b.length < 1000000000) : ZB.f BIG gen b = some (QW gen b) := by
 have hin : inB b = true := (QP b).2 ⟨by omega, hb⟩
 unfold ZB.f ZB.b QW
 simp only [veil_eq]
 cases h3 : gen == 3
 ·simp only [Bool.false_eq_true, if_false]
  rw [qrm.pure gen b [] hb hl rfl]
  all_goals rfl
 ·simp only [if_true]
  rw [qrJ.pure hin]
def qhm : Env := ⟨th, gam [(13, ZJ), (29, qar), (30, qbg)], fun i => ⟨[], [], []⟩⟩
def Qq.k (rs : List AV) (os : List Den.Obj) : Option ((List Int) × Int) :=
 match rs, os with
 | [.d (.sl (.int .u8)) r0, .d (.int .i64) r1], [] => some (r0, r1)
 | _, _ => none
def Qq.b (gen qm qB qM qf qg qL qj qA qo qw : Int) (qh qb : LR) : Option ((List Int) × Int) :=
 (match (veil (Qw.f BIG qm)) with | none => none | some y0 => (if y0 then (if (gen != (1 : Int)) then some (([] : List Int), (10 : Int)) else (match (veil (zO.f BIG gen qm qB qM qf qg qL qj qA qo qw qh qb)) with | none => none | some y1 => (if (y1.2 != (0 : Int)) then some (([] : List Int), y1.2) else (match (veil (QT.f BIG gen y1.1)) with | none => none | some y2 => some (y2.1, y2.2))))) else (match (veil (zO.f BIG gen qm qB qM qf qg qL qj qA qo qw qh qb)) with | none => none | some y3 => (if (y3.2 != (0 : Int)) then some (([] : List Int), y3.2) else (match (veil (QT.f BIG gen y3.1)) with | none => none | some y4 => some (y4.1, y4.2))))))
def Qq.f (qa : Nat) (gen qm qB qM qf qg qL qj qA qo qw : Int) (qh qb : LR) : Option ((List Int) × Int) := Qq.b gen qm qB qM qf qg qL qj qA qo qw qh qb
theorem Qq.eq (qa : Nat) (gen qm qB qM qf qg qL qj qA qo qw : Int) (qh qb : LR) : (denF qhm loopN qa Tryz.f10 [.dat (.sl (.int .u8)) false, .raw] [.d tQi gen, .agg [.d tQi qm, .d tQi qB, .d tQi qM, .d tQi qf, .d tQi qg, .d tQi qL, .d tQi qj, .d tQi qA, .d tQi qo, .d tQi qw, .d (.sl tQr) qh], .d (.sl tQr) qb] [] Qq.k) = Qq.f qa gen qm qB qM qf qg qL qj qA qo qw qh qb := by
 kernel_rfl
def Z9 : Den.Sum := ⟨[.raw, .dat (.pair tQi (.pair tQi (.pair tQi (.pair (.pair tQi tQi) (.pair tQi (.pair tQi (.pair tQi (.pair tQi (.pair tQi (.sl tQr)))))))))) true, .dat (.sl tQr) false], fun qH ql κ => match qH, ql with
 | [.d (.int .i64) gen, .agg [.d (.int .i64) qm, .d (.int .i64) qB, .d (.int .i64) qM, .d (.int .i64) qf, .d (.int .i64) qg, .d (.int .i64) qL, .d (.int .i64) qj, .d (.int .i64) qA, .d (.int .i64) qo, .d (.int .i64) qw, .d (.sl (.pair (.int .i64) (.pair (.int .i64) (.pair (.int .i64) (.pair (.pair (.int .i64) (.int .i64)) (.pair .bool (.sl (.pair (.int .i64) (.sl (.int .u8)))))))))) qh], .d (.sl (.pair (.int .i64) (.pair (.int .i64) (.pair (.int .i64) (.pair (.pair (.int .i64) (.int .i64)) (.pair .bool (.sl (.pair (.int .i64) (.sl (.int .u8)))))))))) qb], [] => (match veil (Qq.f BIG gen qm qB qM qf qg qL qj qA qo qw qh qb) with | none => none | some y => κ [.d (.sl (.int .u8)) y.1, .d (.int .i64) y.2] [])
 | _, _ => none⟩
theorem qeV : SumDet Z9 := zi fun _ _ _ _ => by
 unfold Z9
 simp only [veil_eq]
 split
 ·split <;> rfl
 ·rfl
theorem qfp : SumOk Tryz.prog 10 Z9 := by
 have hE : EnvOk Tryz.prog qhm := env_ok (l := [(13, ZJ), (29, qar), (30, qbg)]) th_ok qX ⟨⟨qdP, qdo⟩, ⟨qig, qhD⟩, ⟨qjO, qi3⟩, trivial⟩ _
 refine sum_ok hE Tryz.func10 rfl (by kernel_rfl) Z9 [.dat (.sl (.int .u8)) false, .raw] Qq.k ?_
 intro R avs ql κ r h
 unfold Z9 at h
 simp only [veil_eq] at h
 split at h
 ·rename_i gen qm qB qM qf qg qL qj qA qo qw qh qb
  split at h
  ·cases h
  ·rename_i y hy
   refine ⟨BIG, _, _, _, (Qq.eq BIG gen qm qB qM qf qg qL qj qA qo qw qh qb).trans hy, ?_, h⟩
   intro rs ros hk
   unfold Qq.k at hk
   split at hk
   ·rw [← sj hk]; exact ⟨rfl, rfl⟩
   ·cases hk
 ·cases h
def qhn : Env := ⟨th, gam [(12, qb4), (13, ZJ), (31, qbh), (32, qbb)], fun i => ⟨[], [], []⟩⟩
def QM.k (rs : List AV) (os : List Den.Obj) : Option (Int × Int × Int × Int × Int × Int × Int × Int × Int × Int × LR × Int × (List Int) × Int) :=
 match rs, os with
 | [.agg [.d (.int .i64) r0, .d (.int .i64) r1, .d (.int .i64) r2, .d (.int .i64) r3, .d (.int .i64) r4, .d (.int .i64) r5, .d (.int .i64) r6, .d (.int .i64) r7, .d (.int .i64) r8, .d (.int .i64) r9, .d (.sl (.pair (.int .i64) (.pair (.int .i64) (.pair (.int .i64) (.pair (.pair (.int .i64) (.int .i64)) (.pair .bool (.sl (.pair (.int .i64) (.sl (.int .u8)))))))))) r10, .d (.int .i64) r11, .d (.sl (.int .u8)) r12], .d (.int .i64) r13], [] => some (r0, r1, r2, r3, r4, r5, r6, r7, r8, r9, r10, r11, r12, r13)
 | _, _ => none
def QM.b (b : List Int) (qdT qdU : Int) : Option (Int × Int × Int × Int × Int × Int × Int × Int × Int × Int × LR × Int × (List Int) × Int) :=
 (match (veil (Qx.f BIG b)) with | none => none | some y0 => (if (y0.2.2 != (0 : Int)) then some (0, 0, 0, 0, 0, 0, 0, 0, 0, 0, ([] : LR), 0, ([] : List Int), y0.2.2) else (match (veil (ZB.f BIG y0.1 y0.2.1)) with | none => none | some y1 => (if (y1.2.2.2.2.2.2.2.2.2.2.2 == (0 : Int)) then (match (veil (Qw.f BIG y1.1)) with | none => none | some y2 => (match (veil (ZI.f BIG qdT qdU y0.1)) with | none => none | some y3 => (if (!y3) then (if (y0.1 != (1 : Int)) then some (0, 0, 0, 0, 0, 0, 0, 0, 0, 0, ([] : LR), y0.1, ([] : List Int), (9 : Int)) else (if (!y2) then some (0, 0, 0, 0, 0, 0, 0, 0, 0, 0, ([] : LR), y0.1, ([] : List Int), (9 : Int)) else (if (y1.2.2.2.2.2.2.2.2.2.2.2 != (0 : Int)) then some (0, 0, 0, 0, 0, 0, 0, 0, 0, 0, ([] : LR), 0, ([] : List Int), y1.2.2.2.2.2.2.2.2.2.2.2) else (if y2 then (if (y0.1 != (1 : Int)) then some (0, 0, 0, 0, 0, 0, 0, 0, 0, 0, ([] : LR), 0, ([] : List Int), (10 : Int)) else some (y1.1, y1.2.1, y1.2.2.1, y1.2.2.2.1, y1.2.2.2.2.1, y1.2.2.2.2.2.1, y1.2.2.2.2.2.2.1, y1.2.2.2.2.2.2.2.1, y1.2.2.2.2.2.2.2.2.1, y1.2.2.2.2.2.2.2.2.2.1, y1.2.2.2.2.2.2.2.2.2.2.1, y0.1, y0.2.1, (0 : Int))) else some (y1.1, y1.2.1, y1.2.2.1, y1.2.2.2.1, y1.2.2.2.2.1, y1.2.2.2.2.2.1, y1.2.2.2.2.2.2.1, y1.2.2.2.2.2.2.2.1, y1.2.2.2.2.2.2.2.2.1, y1.2.2.2.2.2.2.2.2.2.1, y1.2.2.2.2.2.2.2.2.2.2.1, y0.1, y0.2.1, (0 : Int)))))) else (if (y1.2.2.2.2.2.2.2.2.2.2.2 != (0 : Int)) then some (0, 0, 0, 0, 0, 0, 0, 0, 0, 0, ([] : LR), 0, ([] : List Int), y1.2.2.2.2.2.2.2.2.2.2.2) else (if y2 then (if (y0.1 != (1 : Int)) then some (0, 0, 0, 0, 0, 0, 0, 0, 0, 0, ([] : LR), 0, ([] : List Int), (10 : Int)) else some (y1.1, y1.2.1, y1.2.2.1, y1.2.2.2.1, y1.2.2.2.2.1, y1.2.2.2.2.2.1, y1.2.2.2.2.2.2.1, y1.2.2.2.2.2.2.2.1, y1.2.2.2.2.2.2.2.2.1, y1.2.2.2.2.2.2.2.2.2.1, y1.2.2.2.2.2.2.2.2.2.2.1, y0.1, y0.2.1, (0 : Int))) else some (y1.1, y1.2.1, y1.2.2.1, y1.2.2.2.1, y1.2.2.2.2.1, y1.2.2.2.2.2.1, y1.2.2.2.2.2.2.1, y1.2.2.2.2.2.2.2.1, y1.2.2.2.2.2.2.2.2.1, y1.2.2.2.2.2.2.2.2.2.1, y1.2.2.2.2.2.2.2.2.2.2.1, y0.1, y0.2.1, (0 : Int))))))) else (match (veil (ZI.f BIG qdT qdU y0.1)) with | none => none | some y4 => (if (!y4) then (if (y0.1 != (1 : Int)) then some (0, 0, 0, 0, 0, 0, 0, 0, 0, 0, ([] : LR), y0.1, ([] : List Int), (9 : Int)) else some (0, 0, 0, 0, 0, 0, 0, 0, 0, 0, ([] : LR), y0.1, ([] : List Int), (9 : Int))) else (if (y1.2.2.2.2.2.2.2.2.2.2.2 != (0 : Int)) then some (0, 0, 0, 0, 0, 0, 0, 0, 0, 0, ([] : LR), 0, ([] : List Int), y1.2.2.2.2.2.2.2.2.2.2.2) else some (y1.1, y1.2.1, y1.2.2.1, y1.2.2.2.1, y1.2.2.2.2.1, y1.2.2.2.2.2.1, y1.2.2.2.2.2.2.1, y1.2.2.2.2.2.2.2.1, y1.2.2.2.2.2.2.2.2.1, y1.2.2.2.2.2.2.2.2.2.1, y1.2.2.2.2.2.2.2.2.2.2.1, y0.1, y0.2.1, (0 : Int)))))))))
def QM.f (qa : Nat) (b : List Int) (qdT qdU : Int) : Option (Int × Int × Int × Int × Int × Int × Int × Int × Int × Int × LR × Int × (List Int) × Int) := QM.b b qdT qdU
theorem QM.eq (qa : Nat) (b : List Int) (qdT qdU : Int) : (denF qhn loopN qa Tryz.f11 [.dat (.pair (.pair tQi (.pair tQi (.pair tQi (.pair (.pair tQi tQi) (.pair tQi (.pair tQi (.pair tQi (.pair tQi (.pair tQi (.sl tQr)))))))))) (.pair tQi (.sl (.int .u8)))) true, .raw] [.d (.sl (.int .u8)) b, .agg [.d tQi qdT, .d tQi qdU]] [] QM.k) = QM.f qa b qdT qdU := by
 kernel_rfl
def qaQ : Den.Sum := ⟨[.dat (.sl (.int .u8)) false, .dat (.pair tQi tQi) true], fun qH ql κ => match qH, ql with
 | [.d (.sl (.int .u8)) b, .agg [.d (.int .i64) qdT, .d (.int .i64) qdU]], [] => (match veil (QM.f BIG b qdT qdU) with | none => none | some y => κ [.agg [.d (.int .i64) y.1, .d (.int .i64) y.2.1, .d (.int .i64) y.2.2.1, .d (.int .i64) y.2.2.2.1, .d (.int .i64) y.2.2.2.2.1, .d (.int .i64) y.2.2.2.2.2.1, .d (.int .i64) y.2.2.2.2.2.2.1, .d (.int .i64) y.2.2.2.2.2.2.2.1, .d (.int .i64) y.2.2.2.2.2.2.2.2.1, .d (.int .i64) y.2.2.2.2.2.2.2.2.2.1, .d (.sl (.pair (.int .i64) (.pair (.int .i64) (.pair (.int .i64) (.pair (.pair (.int .i64) (.int .i64)) (.pair .bool (.sl (.pair (.int .i64) (.sl (.int .u8)))))))))) y.2.2.2.2.2.2.2.2.2.2.1, .d (.int .i64) y.2.2.2.2.2.2.2.2.2.2.2.1, .d (.sl (.int .u8)) y.2.2.2.2.2.2.2.2.2.2.2.2.1], .d (.int .i64) y.2.2.2.2.2.2.2.2.2.2.2.2.2] [])
 | _, _ => none⟩
theorem qii : SumDet qaQ := zi fun _ _ _ _ => by
 unfold qaQ
 simp only [veil_eq]
 split
 ·split <;> rfl
 ·rfl
theorem qiY : SumOk Tryz.prog 11 qaQ := by
 have hE : EnvOk Tryz.prog qhn := env_ok (l := [(12, qb4), (13, ZJ), (31, qbh), (32, qbb)]) th_ok qX ⟨⟨qlB, qky⟩, ⟨qdP, qdo⟩, ⟨qjP, qi4⟩, ⟨qjy, qiT⟩, trivial⟩ _
 refine sum_ok hE Tryz.func11 rfl (by kernel_rfl) qaQ [.dat (.pair (.pair tQi (.pair tQi (.pair tQi (.pair (.pair tQi tQi) (.pair tQi (.pair tQi (.pair tQi (.pair tQi (.pair tQi (.sl tQr)))))))))) (.pair tQi (.sl (.int .u8)))) true, .raw] QM.k ?_
 intro R avs ql κ r h
 unfold qaQ at h
 simp only [veil_eq] at h
 split at h
 ·rename_i b qdT qdU
  split at h
  ·cases h
  ·rename_i y hy
   refine ⟨BIG, _, _, _, (QM.eq BIG b qdT qdU).trans hy, ?_, h⟩
   intro rs ros hk
   unfold QM.k at hk
   split at hk
   ·rw [← sj hk]; exact ⟨rfl, rfl⟩
   ·cases hk
 ·cases h
def qeZ (gen k f i lo hi s t l e b : Int) (qd qb : LR) : List Int × Int :=
 if (1 ≤ k ∧ k ≤ 3) ∧ gen ≠ 1 then ([], 10) else if (zZ gen k f i lo hi s t l e b qd qb).2 ≠ 0 then ([], (zZ gen k f i lo hi s t l e b qd qb).2) else qjx gen (zZ gen k f i lo hi s t l e b qd qb).1
theorem qhv {gen k f i lo hi s t l e b : Int} {qd qb : LR} (hb : ZZ qd) (h0 : (zZ gen k f i lo hi s t l e b qd qb).2 = 0) : isB (zZ gen k f i lo hi s t l e b qd qb).1 := by
 by_cases h3 : gen = 3 ∧ Qs qb = false
 ·obtain ⟨rfl, hs⟩ := h3
  rw [qeg] at h0
  unfold qc5 at h0
  rw [hs] at h0
  simp at h0
 ·refine (qiq (fun h => ?_) hb).1
  cases hs : Qs qb with
  | true => rfl
  | false => exact absurd ⟨h, hs⟩ h3
theorem Qw.pure (k : Int) : Qw.f BIG k = some (decide (1 ≤ k ∧ k ≤ 3)) := by
 unfold Qw.f Qw.b
 by_cases h : k ≥ 1
 ·rw [if_pos (by simpa using h)]
  by_cases h2 : k ≤ 3
  ·simp [h2]; omega
  ·simp [h2]
 ·rw [if_neg (by simpa using h)]
  simp; omega
theorem Qq.pure (gen k f i lo hi s t l e b : Int) (qd qb : LR) (hr : za qd = true) (hl : za qb = true) (hln : qb.length < 1000000000) (hb : ZZ qd) :
  Qq.f BIG gen k f i lo hi s t l e b qd qb = some (qeZ gen k f i lo hi s t l e b qd qb) := by
 unfold Qq.f Qq.b qeZ
 rw [Qw.pure, qrU.pure gen k f i lo hi s t l e b qd qb hr hl hln]
 simp only [veil_eq]
 by_cases h0 : (zZ gen k f i lo hi s t l e b qd qb).2 = 0
 ·rw [QT.pure gen _ (qhv hb h0)]
  simp only [veil_eq]
  by_cases hg : 1 ≤ k ∧ k ≤ 3
  ·rw [if_pos (by simpa using hg)]
   by_cases g1 : gen = 1
   ·rw [if_neg (by simp [g1]), if_neg (by simp [h0]), if_neg (by simp [g1]), if_neg (by simp [h0])]
   ·rw [if_pos (by simp [g1]), if_pos ⟨hg, g1⟩]
  ·rw [if_neg (by simpa using hg), if_neg (by simp [h0]), if_neg (by intro h; exact hg h.1), if_neg (by simp [h0])]
 ·by_cases hg : 1 ≤ k ∧ k ≤ 3
  ·rw [if_pos (by simpa using hg)]
   by_cases g1 : gen = 1
   ·rw [if_neg (by simp [g1]), if_pos (by simpa using h0), if_neg (by simp [g1]), if_pos h0]
   ·rw [if_pos (by simp [g1]), if_pos ⟨hg, g1⟩]
  ·rw [if_neg (by simpa using hg), if_pos (by simpa using h0), if_neg (by intro h; exact hg h.1), if_pos h0]
def w4 : List Int := (zZ 1 4 0 0 2 3 0 0 0 0 0 [] []).1
def w1 : List Int := (zZ 1 1 0 0 2 3 7 0 0 0 0 [] []).1
theorem qoF : ZZ [] := by
 intro r hr
 simp at hr
def zM (b : List Int) : Int × List Int × Int :=
 if b.length > 65507 then (0, [], 3)
 else if b.length < 8 then (0, [], 2)
 else if QY ((b.take 1).drop 0) ≠ 156 ∨ QY ((b.take 2).drop 1) < 1 ∨ QY ((b.take 2).drop 1) > 3 ∨ QY ((b.take 4).drop 2) ≠ ((b.length - 8 : Nat) : Int) then (0, [], 4)
 else if IntKind.wrap .u32 (QY (b.drop (b.length - 4))) ≠ (qf8 (b.take (b.length - 4)) : Int) then (0, [], 8)
 else (QY ((b.take 2).drop 1), (b.take (b.length - 4)).drop 4, 0)
theorem qmf {l : List Int} (h : isB l) (n : Nat) : isB (l.take n) := fun c hc => h c (List.mem_of_mem_take hc)
theorem qqk {l : List Int} (h : isB l) (n : Nat) : isB (l.drop n) := fun c hc => h c (List.mem_of_mem_drop hc)
theorem Qx.pure (L : List Int) (hb : isB L) (hl : L.length ≤ 1000000) : Qx.f BIG L = some (zM L) := by
 have hin := qpr hb hl
 unfold Qx.f Qx.b zM
 by_cases h1 : L.length > 65507
 ·rw [if_pos (by simp; omega), if_pos h1]
 rw [if_neg (by simp; omega), if_neg h1]
 by_cases h2 : L.length < 8
 ·rw [if_pos (by simp; omega), if_pos h2]
 rw [if_neg (by simp; omega), if_neg h2]
 have hat : ∀ a : Nat, a ≤ L.length → zq L (a : Int) = true := by
  intro a h1
  unfold zq
  rw [hin]
  simp
  omega
 have r0 := qdz L 1 0 (by omega) (by omega) (by omega)
 have r1 := qdz L 1 1 (by omega) (by omega) (by omega)
 have r2 := qdz L 2 2 (by omega) (by omega) (by omega)
 simp only [show ((0 : Nat) : Int) = 0 from rfl, show ((1 : Nat) : Int) = 1 from rfl, show ((2 : Nat) : Int) = 2 from rfl, show ((0 + 1 : Nat) : Int) = 1 from rfl, show ((1 + 1 : Nat) : Int) = 2 from rfl, show ((2 + 2 : Nat) : Int) = 4 from rfl, show 0 + 1 = 1 from rfl, show 1 + 1 = 2 from rfl, show 2 + 2 = 4 from rfl] at r0 r1 r2
 have a0 := hat 0 (by omega)
 have a1 := hat 1 (by omega)
 have a2 := hat 2 (by omega)
 have a4 := hat 4 (by omega)
 simp only [show ((0 : Nat) : Int) = 0 from rfl, show ((1 : Nat) : Int) = 1 from rfl, show ((2 : Nat) : Int) = 2 from rfl, show ((4 : Nat) : Int) = 4 from rfl] at a0 a1 a2 a4
 rw [if_pos hin, if_pos a0]
 simp only [veil_eq, r0]
 rw [if_pos a1]
 simp only [veil_eq, r1]
 rw [if_pos a2]
 simp only [veil_eq, r2]
 have w8 : IntKind.wrap .i64 (((L.length : Nat) : Int) - 8) = ((L.length - 8 : Nat) : Int) := by rw [qV _ (by omega) (by omega)]; omega
 have w4 : IntKind.wrap .i64 (((L.length : Nat) : Int) - 4) = ((L.length - 4 : Nat) : Int) := by rw [qV _ (by omega) (by omega)]; omega
 rw [w8]
 by_cases c0' : QY ((L.take 1).drop 0) ≠ 156
 ·rw [if_pos (bne_iff_ne.2 c0'), if_pos (.inl c0')]
 have c0 : QY ((L.take 1).drop 0) = 156 := Decidable.not_not.1 c0'
 rw [if_neg (by rw [bne_iff_ne]; exact c0')]
 by_cases c1 : QY ((L.take 2).drop 1) < 1
 ·rw [if_pos (decide_eq_true c1), if_pos (.inr (.inl c1))]
 rw [if_neg (by rw [decide_eq_true_eq]; exact c1)]
 by_cases c3 : QY ((L.take 2).drop 1) > 3
 ·rw [if_pos (decide_eq_true c3), if_pos (.inr (.inr (.inl c3)))]
 rw [if_neg (by rw [decide_eq_true_eq]; exact c3)]
 by_cases cn' : QY ((L.take 4).drop 2) ≠ ((L.length - 8 : Nat) : Int)
 ·rw [if_pos (bne_iff_ne.2 cn'), if_pos (.inr (.inr (.inr cn')))]
 have cn : QY ((L.take 4).drop 2) = ((L.length - 8 : Nat) : Int) := Decidable.not_not.1 cn'
 have hno : ¬ (QY ((L.take 1).drop 0) ≠ 156 ∨ QY ((L.take 2).drop 1) < 1 ∨ QY ((L.take 2).drop 1) > 3 ∨ QY ((L.take 4).drop 2) ≠ ((L.length - 8 : Nat) : Int)) := by
  rintro (h | h | h | h)
  ·exact h c0
  ·exact c1 h
  ·exact c3 h
  ·exact h cn
 rw [if_neg (by rw [bne_iff_ne]; exact cn'), if_neg hno, if_pos a4, cn]
 have r3 := qkv L (L.length - 8) 4 (by omega)
 have r4 := qdz L 4 (4 + (L.length - 8)) (by omega) (by omega) (by omega)
 have a5 := hat (4 + (L.length - 8)) (by omega)
 have e4 : 4 + (L.length - 8) = L.length - 4 := by omega
 rw [e4] at r3 r4 a5
 rw [List.take_of_length_le (show L.length ≤ L.length - 4 + 4 by omega)] at r4
 simp only [show ((4 : Nat) : Int) = 4 from rfl] at r3 r4
 simp only [veil_eq, r3]
 rw [if_pos a5]
 simp only [veil_eq, r4]
 rw [w4, if_pos (by omega), Int.toNat_natCast, List.drop_zero, zS.pure _ (qmf hb _) (by simp; omega)]
 simp only [veil_eq]
 by_cases cs : IntKind.wrap .u32 (QY (L.drop (L.length - 4))) = (qf8 (L.take (L.length - 4)) : Int)
 ·rw [if_neg (by rw [bne_iff_ne]; exact fun h => h cs), if_neg (fun h => h cs)]
 ·rw [if_pos (bne_iff_ne.2 cs), if_pos cs]
theorem qgU {b : List Int} (hb : isB b) : isB (zM b).2.1 ∧ (zM b).2.1.length ≤ b.length := by
 unfold zM
 split
 ·exact ⟨qap, by simp⟩
 ·split
  ·exact ⟨qap, by simp⟩
  ·split
   ·exact ⟨qap, by simp⟩
   ·split
    ·exact ⟨qap, by simp⟩
    ·exact ⟨qqk (qmf hb _) _, by simp; omega⟩
def qhS (lo hi gen : Int) : Bool := okS lo hi && (decide (lo ≤ gen) && decide (gen ≤ hi))
theorem ZI.pure (lo hi gen : Int) : ZI.f BIG lo hi gen = some (qhS lo hi gen) := by
 unfold ZI.f ZI.b qhS
 cases okS lo hi with
 | false => rw [if_neg (by simp)]; rfl
 | true =>
  rw [if_pos rfl]
  by_cases h : lo ≤ gen
  ·rw [if_pos (decide_eq_true h), decide_eq_true h]; rfl
  ·rw [if_neg (by rw [decide_eq_true_eq]; exact h), decide_eq_false h]; rfl
abbrev P14 := Int × Int × Int × Int × Int × Int × Int × Int × Int × Int × LR × Int × List Int × Int
def zP (g e : Int) : P14 := (0, 0, 0, 0, 0, 0, 0, 0, 0, 0, [], g, [], e)
def qg2 (g : Int) (q9 : List Int) (h : M12) : P14 := (h.1, h.2.1, h.2.2.1, h.2.2.2.1, h.2.2.2.2.1, h.2.2.2.2.2.1, h.2.2.2.2.2.2.1, h.2.2.2.2.2.2.2.1, h.2.2.2.2.2.2.2.2.1, h.2.2.2.2.2.2.2.2.2.1, h.2.2.2.2.2.2.2.2.2.2.1, g, q9, 0)
def qde (k : Int) : Bool := decide (1 ≤ k ∧ k ≤ 3)
def zT (b : List Int) (lo hi : Int) : P14 :=
 if (zM b).2.2 ≠ 0 then zP 0 (zM b).2.2
 else if qhS lo hi (zM b).1 = false ∧ ((zM b).1 ≠ 1 ∨ ¬ (qaG (QW (zM b).1 (zM b).2.1) = 0 ∧ qde (QW (zM b).1 (zM b).2.1).1 = true)) then zP (zM b).1 9
 else if qaG (QW (zM b).1 (zM b).2.1) ≠ 0 then zP 0 (qaG (QW (zM b).1 (zM b).2.1))
 else if qde (QW (zM b).1 (zM b).2.1).1 = true ∧ (zM b).1 ≠ 1 then zP 0 10
 else qg2 (zM b).1 (zM b).2.1 (QW (zM b).1 (zM b).2.1)
theorem QM.pure (b : List Int) (lo hi : Int) (hb : isB b) (hl : b.length ≤ 1000000) : QM.f BIG b lo hi = some (zT b lo hi) := by
 obtain ⟨h1, h2⟩ := qgU hb
 unfold QM.f QM.b zT
 rw [Qx.pure b hb hl]
 simp only [veil_eq]
 rw [qrG.pure _ _ h1 (by omega), ZI.pure]
 simp only [veil_eq]
 rw [Qw.pure]
 simp only [veil_eq]
 rw [show (decide (1 ≤ (QW (zM b).1 (zM b).2.1).1 ∧ (QW (zM b).1 (zM b).2.1).1 ≤ 3)) = qde (QW (zM b).1 (zM b).2.1).1 from rfl]
 rw [show (QW (zM b).1 (zM b).2.1).2.2.2.2.2.2.2.2.2.2.2 = qaG (QW (zM b).1 (zM b).2.1) from rfl]
 generalize zM b = O
 generalize hH : QW O.1 O.2.1 = H
 generalize qhS lo hi O.1 = has
 generalize qde H.1 = gr
 by_cases e0 : O.2.2 = 0
 ·by_cases eh : qaG H = 0
  ·by_cases g1 : O.1 = 1
   ·cases has <;> cases gr <;> simp [e0, eh, g1, zP, qg2]
   ·cases has <;> cases gr <;> simp [e0, eh, g1, zP, qg2]
  ·by_cases g1 : O.1 = 1
   ·cases has <;> cases gr <;> simp [e0, eh, g1, zP, qg2]
   ·cases has <;> cases gr <;> simp [e0, eh, g1, zP, qg2]
 ·simp [e0, zP]
theorem qlk {b : List Int} (lo hi : Int) (hb : isB b) : isB (zT b lo hi).2.2.2.2.2.2.2.2.2.2.2.2.1 ∧ (zT b lo hi).2.2.2.2.2.2.2.2.2.2.2.2.1.length ≤ b.length := by
 have hz : ∀ g e : Int, isB (zP g e).2.2.2.2.2.2.2.2.2.2.2.2.1 ∧ (zP g e).2.2.2.2.2.2.2.2.2.2.2.2.1.length ≤ b.length := fun g e => ⟨qap, Nat.zero_le _⟩
 unfold zT
 split
 ·exact hz _ _
 ·split
  ·exact hz _ _
  ·split
   ·exact hz _ _
   ·split
    ·exact hz _ _
    ·exact qgU hb
def qhs : Env := ⟨th, gam [], fun i => ⟨[], [], []⟩⟩
def ZO.k (rs : List AV) (os : List Den.Obj) : Option (Int × Int) :=
 match rs, os with
 | [.agg [.d (.int .i64) r0, .d (.int .i64) r1]], [] => some (r0, r1)
 | _, _ => none
def ZO.b (u : Unit) : Option (Int × Int) :=
 some ((1 : Int), (3 : Int))
def ZO.f (qa : Nat) (u : Unit) : Option (Int × Int) := ZO.b u
theorem ZO.eq (qa : Nat) (u : Unit) : (denF qhs loopN qa Tryz.f36 [.dat (.pair tQi tQi) true] [] [] ZO.k) = ZO.f qa u := by
 kernel_rfl
def qaV : Den.Sum := ⟨[], fun qH ql κ => match qH, ql with
 | [], [] => (match veil (ZO.f BIG ()) with | none => none | some y => κ [.agg [.d (.int .i64) y.1, .d (.int .i64) y.2]] [])
 | _, _ => none⟩
theorem qin : SumDet qaV := zi fun _ _ _ _ => by
 unfold qaV
 simp only [veil_eq]
 split
 ·split <;> rfl
 ·rfl
theorem qi6 : SumOk Tryz.prog 36 qaV := by
 have hE : EnvOk Tryz.prog qhs := env_ok (l := []) th_ok qX trivial _
 refine sum_ok hE Tryz.func36 rfl (by kernel_rfl) qaV [.dat (.pair tQi tQi) true] ZO.k ?_
 intro R avs ql κ r h
 unfold qaV at h
 simp only [veil_eq] at h
 split at h
 ·skip
  split at h
  ·cases h
  ·rename_i y hy
   refine ⟨BIG, _, _, _, (ZO.eq BIG ()).trans hy, ?_, h⟩
   intro rs ros hk
   unfold ZO.k at hk
   split at hk
   ·rw [← sj hk]; exact ⟨rfl, rfl⟩
   ·cases hk
 ·cases h
def qhr : Env := ⟨th, gam [(45, qbI)], fun i => ⟨[], [], []⟩⟩
def QV.k (rs : List AV) (os : List Den.Obj) : Option ByteArray :=
 match rs, os with
 | [.d .str r0], [] => some r0
 | _, _ => none
def QV.b (e : Int) : Option ByteArray :=
 (match (veil (Z1.f BIG e)) with | none => none | some y0 => (if (((ByteArray.size (⟨((98 :: (97 :: (100 :: (32 :: ([] : List UInt8)))))).toArray⟩ : ByteArray)) + (ByteArray.size y0)) ≤ (1099511627776 : Nat)) then some (((⟨((98 :: (97 :: (100 :: (32 :: ([] : List UInt8)))))).toArray⟩ : ByteArray) ++ y0)) else none))
def QV.f (qa : Nat) (e : Int) : Option ByteArray := QV.b e
theorem QV.eq (qa : Nat) (e : Int) : (denF qhr loopN qa Tryz.f37 [.raw] [.d tQi e] [] QV.k) = QV.f qa e := by
 kernel_rfl
def qaU : Den.Sum := ⟨[.raw], fun qH ql κ => match qH, ql with
 | [.d (.int .i64) e], [] => (match veil (QV.f BIG e) with | none => none | some y => κ [.d .str y] [])
 | _, _ => none⟩
theorem qim : SumDet qaU := zi fun _ _ _ _ => by
 unfold qaU
 simp only [veil_eq]
 split
 ·split <;> rfl
 ·rfl
theorem qi5 : SumOk Tryz.prog 37 qaU := by
 have hE : EnvOk Tryz.prog qhr := env_ok (l := [(45, qbI)]) th_ok qX ⟨⟨qkF, qjK⟩, trivial⟩ _
 refine sum_ok hE Tryz.func37 rfl (by kernel_rfl) qaU [.raw] QV.k ?_
 intro R avs ql κ r h
 unfold qaU at h
 simp only [veil_eq] at h
 split at h
 ·rename_i e
  split at h
  ·cases h
  ·rename_i y hy
   refine ⟨BIG, _, _, _, (QV.eq BIG e).trans hy, ?_, h⟩
   intro rs ros hk
   unfold QV.k at hk
   split at hk
   ·rw [← sj hk]; exact ⟨rfl, rfl⟩
   ·cases hk
 ·cases h
def qd2 : Env := ⟨th, gam [(11, qaQ), (14, Zd), (18, Q3), (22, QU), (23, qaz), (24, qay), (36, qaV), (37, qaU)], fun i => if i = 11 then ⟨[5, 49, 50, 51], [], []⟩ else ⟨[], [], []⟩⟩
def zf.k (rs : List AV) (os : List Den.Obj) : Option (List ByteArray) :=
 match rs, os with
 | [.row 0], [.row 9 .str r0 false] => some r0
 | _, _ => none
def zf.s11 (b : List Int) (x8 : LR) (x9 x10 : Int) (x11 : (List ByteArray)) : St := ⟨[dD, dD, dD, dD, dD, .row 64, dD, dD, dD, dD, dD, dD, dD, dD, dD, dD, dD, dD, dD, dD, dD, dD, dD, dD, dD, dD, dD, dD, dD, dD, dD, dD, dD, dD, dD, dD, dD, dD, dD, dD, dD, dD, dD, dD, dD, dD, dD, dD, dD, .d (.sl tQr) x8, .d tQi x9, .d tQi x10, dD, dD, dD, dD, dD, dD, dD, dD, dD, dD, .dead], ofL [(64, .row 9 .str x11 false)], 0⟩
def zf.p11 (qa : Nat) (b : List Int) (k : Nat) := fun x8 x9 x10 x11 => lp qd2 qa Tryz.f21 [.own 9 .str] 0 zf.k 11 [] k (zf.s11 b x8 x9 x10 x11)
def zf.b11 (b : List Int) (A11 : LR → Int → Int → (List ByteArray) → Option (List ByteArray)) (x8 : LR) (x9 : Int) (x10 : Int) (x11 : (List ByteArray)) : Option (List ByteArray) :=
 (if (decide (x10 < x9)) then (match (idx x8 x10) with | none => none | some y12 => (match (veil (zv.f BIG y12.1 y12.2.1 y12.2.2.1 y12.2.2.2.1.1 y12.2.2.2.1.2 y12.2.2.2.2.1 y12.2.2.2.2.2)) with | none => none | some y13 => (if (((ByteArray.size (⟨((32 :: (32 :: ([] : List UInt8)))).toArray⟩ : ByteArray)) + (ByteArray.size y13)) ≤ (1099511627776 : Nat)) then (if ((((List.length x11) + (List.length (((⟨((32 :: (32 :: ([] : List UInt8)))).toArray⟩ : ByteArray) ++ y13) :: ([] : List ByteArray)))) * (16 : Nat)) ≤ lim) then A11 x8 x9 (IntKind.wrap .i64 (x10 + (1 : Int))) (x11 ++ (((⟨((32 :: (32 :: ([] : List UInt8)))).toArray⟩ : ByteArray) ++ y13) :: ([] : List ByteArray))) else none) else none))) else some (x11))
def zf.l11 (qa : Nat) (b : List Int) : Nat → LR → Int → Int → (List ByteArray) → Option (List ByteArray)
 | 0, _, _, _, _ => none
 | k + 1, x8, x9, x10, x11 => zf.b11 b (zf.l11 qa b k) x8 x9 x10 x11
def zf.b (b : List Int) (E11 : LR → Int → Int → (List ByteArray) → Option (List ByteArray)) : Option (List ByteArray) :=
 (match (veil (ZO.f BIG ())) with | none => none | some y0 => (match (veil (QM.f BIG b y0.1 y0.2)) with | none => none | some y1 => (if (y1.2.2.2.2.2.2.2.2.2.2.2.2.2 != (0 : Int)) then (match (veil (QV.f BIG y1.2.2.2.2.2.2.2.2.2.2.2.2.2)) with | none => none | some y2 => some ((y2 :: ([] : List ByteArray)))) else (match (veil (zj.f BIG y1.2.2.2.2.2.2.2.2.2.2.2.1)) with | none => none | some y3 => (if (((ByteArray.size (⟨((103 :: (101 :: (110 :: (32 :: ([] : List UInt8)))))).toArray⟩ : ByteArray)) + (ByteArray.size y3)) ≤ (1099511627776 : Nat)) then (if (((ByteArray.size ((⟨((103 :: (101 :: (110 :: (32 :: ([] : List UInt8)))))).toArray⟩ : ByteArray) ++ y3)) + (ByteArray.size (⟨((32 :: ([] : List UInt8))).toArray⟩ : ByteArray))) ≤ (1099511627776 : Nat)) then (match (veil (qE.f BIG y1.1 y1.2.1 y1.2.2.1 y1.2.2.2.1 y1.2.2.2.2.1 y1.2.2.2.2.2.1 y1.2.2.2.2.2.2.1 y1.2.2.2.2.2.2.2.1 y1.2.2.2.2.2.2.2.2.1 y1.2.2.2.2.2.2.2.2.2.1 y1.2.2.2.2.2.2.2.2.2.2.1)) with | none => none | some y4 => (if (((ByteArray.size (((⟨((103 :: (101 :: (110 :: (32 :: ([] : List UInt8)))))).toArray⟩ : ByteArray) ++ y3) ++ (⟨((32 :: ([] : List UInt8))).toArray⟩ : ByteArray))) + (ByteArray.size y4)) ≤ (1099511627776 : Nat)) then (match (veil (Qg.f BIG y1.1 y1.2.1 y1.2.2.1 y1.2.2.2.1 y1.2.2.2.2.1 y1.2.2.2.2.2.1 y1.2.2.2.2.2.2.1 y1.2.2.2.2.2.2.2.1 y1.2.2.2.2.2.2.2.2.1 y1.2.2.2.2.2.2.2.2.2.1 y1.2.2.2.2.2.2.2.2.2.2.1 y1.2.2.2.2.2.2.2.2.2.2.2.1 y1.2.2.2.2.2.2.2.2.2.2.2.2.1)) with | none => none | some y5 => (if y5 then some (((((((⟨((103 :: (101 :: (110 :: (32 :: ([] : List UInt8)))))).toArray⟩ : ByteArray) ++ y3) ++ (⟨((32 :: ([] : List UInt8))).toArray⟩ : ByteArray)) ++ y4) :: ([] : List ByteArray)) ++ ((⟨((32 :: (32 :: (117 :: (110 :: (114 :: (101 :: (97 :: (100 :: ([] : List UInt8)))))))))).toArray⟩ : ByteArray) :: ([] : List ByteArray)))) else (match (veil (z6.f BIG y1.1 y1.2.1 y1.2.2.1 y1.2.2.2.1 y1.2.2.2.2.1 y1.2.2.2.2.2.1 y1.2.2.2.2.2.2.1 y1.2.2.2.2.2.2.2.1 y1.2.2.2.2.2.2.2.2.1 y1.2.2.2.2.2.2.2.2.2.1 y1.2.2.2.2.2.2.2.2.2.2.1 y1.2.2.2.2.2.2.2.2.2.2.2.1 y1.2.2.2.2.2.2.2.2.2.2.2.2.1 ([] : LR))) with | none => none | some y6 => (if (y6.2.2.2.2.2.2.2.2.2.2.2 != (0 : Int)) then (match (veil (QV.f BIG y6.2.2.2.2.2.2.2.2.2.2.2)) with | none => none | some y7 => (if (((ByteArray.size (⟨((32 :: (32 :: ([] : List UInt8)))).toArray⟩ : ByteArray)) + (ByteArray.size y7)) ≤ (1099511627776 : Nat)) then some (((((((⟨((103 :: (101 :: (110 :: (32 :: ([] : List UInt8)))))).toArray⟩ : ByteArray) ++ y3) ++ (⟨((32 :: ([] : List UInt8))).toArray⟩ : ByteArray)) ++ y4) :: ([] : List ByteArray)) ++ (((⟨((32 :: (32 :: ([] : List UInt8)))).toArray⟩ : ByteArray) ++ y7) :: ([] : List ByteArray)))) else none)) else E11 y6.2.2.2.2.2.2.2.2.2.2.1 ((((List.length y6.2.2.2.2.2.2.2.2.2.2.1)) : Nat) : Int) (0 : Int) (((((⟨((103 :: (101 :: (110 :: (32 :: ([] : List UInt8)))))).toArray⟩ : ByteArray) ++ y3) ++ (⟨((32 :: ([] : List UInt8))).toArray⟩ : ByteArray)) ++ y4) :: ([] : List ByteArray)))))) else none)) else none) else none)))))
def zf.f (qa : Nat) (b : List Int) : Option (List ByteArray) := zf.b b (zf.l11 qa b qa)
theorem zf.l11_eq (qa : Nat) (b : List Int) : ∀ k : Nat, zf.p11 qa b k = zf.l11 qa b k
 | 0 => by kernel_rfl
 | k + 1 => by
  refine Eq.trans (b := zf.b11 b (zf.p11 qa b k)) (by kernel_rfl) ?_
  rw [zf.l11_eq qa b k]
  kernel_rfl
theorem zf.eq (qa : Nat) (b : List Int) : (denF qd2 loopN qa Tryz.f21 [.own 9 .str] [.d (.sl (.int .u8)) b] [] zf.k) = zf.f qa b := by
 refine Eq.trans (b := zf.b b (zf.p11 qa b qa)) (by kernel_rfl) ?_
 rw [zf.l11_eq qa b qa]
 kernel_rfl
def ZD : Den.Sum := ⟨[.dat (.sl (.int .u8)) false], fun qH ql κ => match qH, ql with
 | [.d (.sl (.int .u8)) b], [] => (match veil (zf.f BIG b) with | none => none | some y => κ [.row 0] [.row 9 .str y false])
 | _, _ => none⟩
theorem qed : SumDet ZD := zi fun _ _ _ _ => by
 unfold ZD
 simp only [veil_eq]
 split
 ·split <;> rfl
 ·rfl
theorem qeD : SumOk Tryz.prog 21 ZD := by
 have hE : EnvOk Tryz.prog qd2 := env_ok (l := [(11, qaQ), (14, Zd), (18, Q3), (22, QU), (23, qaz), (24, qay), (36, qaV), (37, qaU)]) th_ok qX ⟨⟨qiY, qii⟩, ⟨qfG, qfq⟩, ⟨qfr, qe0⟩, ⟨qbU, qbx⟩, ⟨qgr, qfO⟩, ⟨qgq, qfN⟩, ⟨qi6, qin⟩, ⟨qi5, qim⟩, trivial⟩ _
 refine sum_ok hE Tryz.func21 rfl (by kernel_rfl) ZD [.own 9 .str] zf.k ?_
 intro R avs ql κ r h
 unfold ZD at h
 simp only [veil_eq] at h
 split at h
 ·rename_i b
  split at h
  ·cases h
  ·rename_i y hy
   refine ⟨BIG, _, _, _, (zf.eq BIG b).trans hy, ?_, h⟩
   intro rs ros hk
   unfold zf.k at hk
   split at hk
   ·rw [← sj hk]; exact ⟨rfl, rfl⟩
   ·cases hk
 ·cases h
theorem qoj {gen : Int} {b : List Int} (hb : isB b) (hl : b.length < 1000000000) (h : qaG (QW gen b) = 0) :
  q0 (QW gen b).1 (QW gen b).2.1 (QW gen b).2.2.1 (QW gen b).2.2.2.1 (QW gen b).2.2.2.2.1 (QW gen b).2.2.2.2.2.1 (QW gen b).2.2.2.2.2.2.1 (QW gen b).2.2.2.2.2.2.2.1 (QW gen b).2.2.2.2.2.2.2.2.1 (QW gen b).2.2.2.2.2.2.2.2.2.1 [] = true := by
 unfold QW at h ⊢
 by_cases h3 : gen = 3
 ·rw [if_pos (by simp [h3])] at h ⊢
  unfold qhR at h ⊢
  cases hh : hdS b with
  | none => rw [hh] at h; exact absurd h (by decide)
  | some m =>
   obtain ⟨k, f, i, lo, hi, s, t, l, e, bb, a⟩ := m
   show q0 k f i lo hi s t l e bb [] = true
   unfold hdS at hh
   dsimp only at hh
   split at hh
   ·cases hh
   ·split at hh
    ·rename_i hv
     cases hh
     exact hv
    ·cases hh
 ·rw [if_neg (by simp [h3])] at h ⊢
  have h' : qaG (Q0 gen b []) = 0 := h
  exact qjs (qi7 hb hl h').1
theorem qpk {b : List Int} (h : (zM b).2.2 = 0) : 1 ≤ (zM b).1 ∧ (zM b).1 ≤ 3 := by
 unfold zM at h ⊢
 split at h
 ·exact absurd h (by decide)
 ·rename_i c1
  rw [if_neg c1]
  split at h
  ·exact absurd h (by decide)
  ·rename_i c2
   rw [if_neg c2]
   split at h
   ·exact absurd h (by decide)
   ·rename_i c3
    rw [if_neg c3]
    split at h
    ·exact absurd h (by decide)
    ·rename_i c4
     rw [if_neg c4]
     show 1 ≤ QY ((b.take 2).drop 1) ∧ QY ((b.take 2).drop 1) ≤ 3
     constructor
     ·apply Decidable.byContradiction
      intro k
      exact c3 (.inr (.inl (by omega)))
     ·apply Decidable.byContradiction
      intro k
      exact c3 (.inr (.inr (.inl (by omega))))
theorem qqc {b : List Int} (lo hi : Int) (hb : isB b) (hl : b.length ≤ 1000000) (h : (zT b lo hi).2.2.2.2.2.2.2.2.2.2.2.2.2 = 0) :
  (zM b).2.2 = 0 ∧ qaG (QW (zM b).1 (zM b).2.1) = 0 ∧ zT b lo hi = qg2 (zM b).1 (zM b).2.1 (QW (zM b).1 (zM b).2.1) := by
 unfold zT at h ⊢
 split at h
 ·rename_i c; exact absurd h c
 ·rename_i c
  rw [if_neg c]
  split at h
  ·exact absurd h (show (9 : Int) ≠ 0 by decide)
  ·rename_i c2
   rw [if_neg c2]
   split at h
   ·rename_i c3; exact absurd h c3
   ·rename_i c3
    rw [if_neg c3]
    split at h
    ·exact absurd h (show (10 : Int) ≠ 0 by decide)
    ·rename_i c4
     rw [if_neg c4]
     exact ⟨Decidable.not_not.1 c, Decidable.not_not.1 c3, rfl⟩
def qjn : List ByteArray := (Q6.b ()).getD []
def qeR (e : Int) : ByteArray := if e < 0 then wQ else if e ≥ 18 then wQ else (idx qjn e).getD wQ
theorem qoM : (List.range 18).all (fun n => match idx qjn (n : Int) with | some w => decide (w.size ≤ 10) | none => false) = true := by kernel_rfl
theorem qoL.pure (e : Int) : Z1.f BIG e = some (qeR e) ∧ (qeR e).size ≤ 10 := by
 unfold Z1.f Z1.b qeR Q6.f
 have hw : Q6.b () = some qjn := rfl
 simp only [veil_eq]
 rw [hw]
 dsimp only
 by_cases h : e < 0
 ·rw [if_pos (decide_eq_true h), if_pos h]; exact ⟨rfl, by decide⟩
 rw [if_neg (by rw [decide_eq_true_eq]; exact h), if_neg h]
 by_cases h2 : e ≥ 18
 ·rw [if_pos (decide_eq_true h2), if_pos h2]; exact ⟨rfl, by decide⟩
 rw [if_neg (by rw [decide_eq_true_eq]; exact h2), if_neg h2]
 have ht := List.all_eq_true.1 qoM e.toNat (List.mem_range.2 (by omega))
 rw [show ((e.toNat : Nat) : Int) = e from by omega] at ht
 cases hi : idx qjn e with
 | none => rw [hi] at ht; cases ht
 | some w => rw [hi] at ht; exact ⟨rfl, of_decide_eq_true ht⟩
theorem qq9 {b : LF} (h : qbQ b = true) (hb : ∀ x ∈ b, isB x.2) : qoG b := by
 refine ⟨by have := (Za h).1; omega, fun x hx => ?_⟩
 obtain ⟨h1, h2, h3⟩ := qbm h x hx
 exact ⟨⟨by omega, by omega⟩, hb x hx, by omega⟩
theorem qp7 {r : REC} (h : zw r = true) (hb : ∀ x ∈ r.2.2.2.2.2, isB x.2) :
  zv.f BIG r.1 r.2.1 r.2.2.1 r.2.2.2.1.1 r.2.2.2.1.2 r.2.2.2.2.1 r.2.2.2.2.2 = some (qgS r) ∧ (qgS r).size ≤ 1000000 := by
 obtain ⟨h1, h2, h3, h4, h5, h6, h7, h8, h9⟩ := zE h
 have hn := qq9 h8 hb
 refine ⟨qqD.pure r ⟨by omega, by omega⟩ ⟨by omega, by omega⟩ hn, ?_⟩
 have hs := qhy (qeM r) (qkN r) r.2.2.2.2.2 hn r.2.2.2.2.2.length (Nat.le_refl _)
 rw [List.take_length] at hs
 have h0 := qlh r
 have hl := (Za h8).1
 unfold qgS
 have : r.2.2.2.2.2.length * 20100 ≤ 32 * 20100 := Nat.mul_le_mul_right _ hl
 omega
abbrev qff : ByteArray := ⟨((98 :: (97 :: (100 :: (32 :: ([] : List UInt8)))))).toArray⟩
abbrev qlM : ByteArray := ⟨((32 :: (32 :: (98 :: (97 :: (100 :: (32 :: ([] : List UInt8)))))))).toArray⟩
abbrev qgB : ByteArray := ⟨((32 :: (32 :: ([] : List UInt8)))).toArray⟩
abbrev qdh : ByteArray := ⟨((103 :: (101 :: (110 :: (32 :: ([] : List UInt8)))))).toArray⟩
abbrev qeK : ByteArray := ⟨((32 :: ([] : List UInt8))).toArray⟩
abbrev qm8 : ByteArray := ⟨((32 :: (32 :: (117 :: (110 :: (114 :: (101 :: (97 :: (100 :: ([] : List UInt8)))))))))).toArray⟩
theorem qqQ (w : ByteArray) : qgB ++ (qff ++ w) = qlM ++ w := by
 apply qq2
 simp
def qie (W : P14) : ByteArray := ((qdh ++ Q8 W.2.2.2.2.2.2.2.2.2.2.2.1) ++ qeK) ++ qeO W.1 W.2.1 W.2.2.1 W.2.2.2.1 W.2.2.2.2.1 W.2.2.2.2.2.1 W.2.2.2.2.2.2.1 W.2.2.2.2.2.2.2.1 W.2.2.2.2.2.2.2.2.1 W.2.2.2.2.2.2.2.2.2.1
def qdY (r : REC) : ByteArray := qgB ++ qgS r
def qrC (m : M12) : List Int := [1, 2, 3].filter fun g => qrS m.1 m.2.1 m.2.2.1 m.2.2.2.1 m.2.2.2.2.1 m.2.2.2.2.2.1 m.2.2.2.2.2.2.1 m.2.2.2.2.2.2.2.1 m.2.2.2.2.2.2.2.2.1 m.2.2.2.2.2.2.2.2.2.1 m.2.2.2.2.2.2.2.2.2.2.1 g
def qbY (b : List Int) : List ByteArray × List Int :=
 if (zT b 1 3).2.2.2.2.2.2.2.2.2.2.2.2.2 ≠ 0 then ([qff ++ qeR (zT b 1 3).2.2.2.2.2.2.2.2.2.2.2.2.2], [])
 else if (zT b 1 3).2.2.2.2.2.2.2.2.2.1 ≠ 0 then ([qie (zT b 1 3), qm8], [])
 else if qaG (Q0 (zT b 1 3).2.2.2.2.2.2.2.2.2.2.2.1 (zT b 1 3).2.2.2.2.2.2.2.2.2.2.2.2.1 []) ≠ 0 then ([qie (zT b 1 3), qlM ++ qeR (qaG (Q0 (zT b 1 3).2.2.2.2.2.2.2.2.2.2.2.1 (zT b 1 3).2.2.2.2.2.2.2.2.2.2.2.2.1 []))], [])
 else (qie (zT b 1 3) :: (qlP (Q0 (zT b 1 3).2.2.2.2.2.2.2.2.2.2.2.1 (zT b 1 3).2.2.2.2.2.2.2.2.2.2.2.2.1 [])).map qdY, qrC (Q0 (zT b 1 3).2.2.2.2.2.2.2.2.2.2.2.1 (zT b 1 3).2.2.2.2.2.2.2.2.2.2.2.2.1 []))
def qlN (l : LR) : Prop := l.length ≤ 255 ∧ ∀ r ∈ l, zw r = true ∧ ∀ x ∈ r.2.2.2.2.2, isB x.2
theorem qop (b : List Int) (l : LR) (h : qlN l) : ∀ (m k i : Nat) (acc : List ByteArray), i + m = l.length → m < k → acc.length ≤ 1 + i →
  zf.l11 BIG b k l (l.length : Int) (i : Int) acc = some (acc ++ (l.drop i).map qdY) := by
 intro m
 induction m with
 | zero =>
  intro k i acc hi hk ha
  obtain ⟨k, rfl⟩ : ∃ k', k = k' + 1 := ⟨k - 1, by omega⟩
  rw [zf.l11]
  unfold zf.b11
  rw [if_neg (by simp; omega), List.drop_of_length_le (by omega)]
  simp
 | succ m ih =>
  intro k i acc hi hk ha
  obtain ⟨k, rfl⟩ : ∃ k', k = k' + 1 := ⟨k - 1, by omega⟩
  have hlt : i < l.length := by omega
  have h1 := h.1
  obtain ⟨hr, hb⟩ := h.2 _ (List.getElem_mem hlt)
  obtain ⟨hL, hS⟩ := qp7 hr hb
  rw [zf.l11]
  unfold zf.b11
  simp only [veil_eq]
  rw [if_pos (by simp; omega), Qh, List.getElem?_eq_getElem hlt]
  dsimp only
  rw [hL]
  dsimp only
  have e2 : qgB.size = 2 := rfl
  rw [if_pos (show ByteArray.size qgB + (qgS l[i]).size ≤ 1099511627776 by omega), if_pos (by simp [lim]; omega), qV _ (by omega) (by omega), show ((i : Int) + 1) = ((i + 1 : Nat) : Int) from by omega]
  rw [ih k (i + 1) _ (by omega) (by omega) (by simp; omega), List.drop_eq_getElem_cons hlt, List.map_cons]
  simp [qdY]
theorem qk3 {gen : Int} {b : List Int} (hb : isB b) (hl : b.length < 1000000000) (h : qaG (Q0 gen b []) = 0) : qlN (qlP (Q0 gen b [])) := by
 obtain ⟨hv, hp, _, _⟩ := qi7 hb hl h
 have hbag := qnG hp hb
 unfold qlR at hv
 obtain ⟨_, _, _, _, _, _, _, _, _, _, _, _, hn, hr⟩ := Qj hv
 exact ⟨hn, fun r hr' => ⟨hr r hr', fun x hx => hbag r hr' x hx⟩⟩
theorem qbz {v : Int} (h0 : 0 ≤ v) (h1 : v ≤ 281474976710655) : qhP v := ⟨by omega, by omega⟩
theorem qq4 {b : List Int} (hb : isB b) (hl : b.length ≤ 1000000) (h : (zT b 1 3).2.2.2.2.2.2.2.2.2.2.2.2.2 = 0) :
  zj.f BIG (zT b 1 3).2.2.2.2.2.2.2.2.2.2.2.1 = some (Q8 (zT b 1 3).2.2.2.2.2.2.2.2.2.2.2.1) ∧
  ∀ qd : LR, qE.f BIG (zT b 1 3).1 (zT b 1 3).2.1 (zT b 1 3).2.2.1 (zT b 1 3).2.2.2.1 (zT b 1 3).2.2.2.2.1 (zT b 1 3).2.2.2.2.2.1 (zT b 1 3).2.2.2.2.2.2.1 (zT b 1 3).2.2.2.2.2.2.2.1 (zT b 1 3).2.2.2.2.2.2.2.2.1 (zT b 1 3).2.2.2.2.2.2.2.2.2.1 qd = some (qeO (zT b 1 3).1 (zT b 1 3).2.1 (zT b 1 3).2.2.1 (zT b 1 3).2.2.2.1 (zT b 1 3).2.2.2.2.1 (zT b 1 3).2.2.2.2.2.1 (zT b 1 3).2.2.2.2.2.2.1 (zT b 1 3).2.2.2.2.2.2.2.1 (zT b 1 3).2.2.2.2.2.2.2.2.1 (zT b 1 3).2.2.2.2.2.2.2.2.2.1) := by
 obtain ⟨h0, he, hW⟩ := qqc 1 3 hb hl h
 have hg := qpk h0
 obtain ⟨ob, ol⟩ := qgU hb
 have hv := qoj ob (by omega) he
 rw [hW]
 generalize QW (zM b).1 (zM b).2.1 = P at *
 obtain ⟨_, _, f0, f1, i0, i1, _, s0, s1, t0, t1, hlv, _, _⟩ := Qj hv
 obtain ⟨l0, l1, e0, e1, b0, b1, _⟩ := qdc hlv
 unfold qg2
 dsimp only
 refine ⟨qeu.pure _ (by omega) (by omega), fun qd => qrr.pure _ _ _ _ _ _ _ _ _ _ qd (qbz f0 (by omega)) (qbz i0 (by omega)) (qbz s0 (by omega)) (qbz t0 (by omega)) (qbz l0 (by omega)) (qbz e0 (by omega)) (qbz b0 (by omega))⟩
theorem qrI.pure (k f i lo hi s t l e b : Int) (qd : LR) (g : Int) (q9 : List Int) : Qg.f BIG k f i lo hi s t l e b qd g q9 = some (b != 0) := rfl
theorem qrH.pure (k f i lo hi s t l e b : Int) (qd : LR) (g : Int) (q9 : List Int) (hb : isB q9) (hl : q9.length < 1000000000) : z6.f BIG k f i lo hi s t l e b qd g q9 [] = some (Q0 g q9 []) := by
 unfold z6.f z6.b
 rw [qrm.pure g q9 [] hb hl qoW]
 simp only [veil_eq]
theorem Bad.pure (e : Int) : QV.f BIG e = some (qff ++ qeR e) := by
 obtain ⟨h1, h2⟩ := qoL.pure e
 unfold QV.f QV.b
 simp only [veil_eq]
 rw [h1]
 dsimp only
 rw [if_pos (show qff.size + (qeR e).size ≤ 1099511627776 by have : qff.size = 4 := rfl; omega)]
theorem All.pure : ZO.f BIG () = some (1, 3) := rfl
theorem qoK.pure (b : List Int) (hb : isB b) (hl : b.length ≤ 1000000) : zf.f BIG b = some (qbY b).1 := by
 unfold zf.f zf.b qbY
 simp only [veil_eq]
 rw [All.pure]
 dsimp only
 rw [QM.pure b 1 3 hb hl]
 dsimp only
 have hhead := qq4 hb hl
 obtain ⟨ob, ol⟩ := qlk 1 3 hb
 have htell := @qk3 (zT b 1 3).2.2.2.2.2.2.2.2.2.2.2.1 _ ob (by omega)
 have hread := fun k f i lo hi s t l e bb qd => qrH.pure k f i lo hi s t l e bb qd (zT b 1 3).2.2.2.2.2.2.2.2.2.2.2.1 _ ob (by omega)
 generalize zT b 1 3 = W at *
 by_cases h0 : W.2.2.2.2.2.2.2.2.2.2.2.2.2 = 0
 ·obtain ⟨hN, hM⟩ := hhead h0
  have hns := ZL W.2.2.2.2.2.2.2.2.2.2.2.1
  have hms := (qe4 W.1 W.2.1 W.2.2.1 W.2.2.2.1 W.2.2.2.2.1 W.2.2.2.2.2.1 W.2.2.2.2.2.2.1 W.2.2.2.2.2.2.2.1 W.2.2.2.2.2.2.2.2.1 W.2.2.2.2.2.2.2.2.2.1).2
  have g4 : qdh.size = 4 := rfl
  have g1 : qeK.size = 1 := rfl
  rw [if_neg (by simp [h0]), if_neg (by simp [h0]), hN]
  dsimp only
  rw [if_pos (show qdh.size + (Q8 W.2.2.2.2.2.2.2.2.2.2.2.1).size ≤ 1099511627776 by omega), if_pos (show (qdh ++ Q8 W.2.2.2.2.2.2.2.2.2.2.2.1).size + qeK.size ≤ 1099511627776 by rw [Qo]; omega), hM]
  dsimp only
  rw [if_pos (show ((qdh ++ Q8 W.2.2.2.2.2.2.2.2.2.2.2.1) ++ qeK).size + (qeO W.1 W.2.1 W.2.2.1 W.2.2.2.1 W.2.2.2.2.1 W.2.2.2.2.2.1 W.2.2.2.2.2.2.1 W.2.2.2.2.2.2.2.1 W.2.2.2.2.2.2.2.2.1 W.2.2.2.2.2.2.2.2.2.1).size ≤ 1099511627776 by rw [Qo, Qo]; omega), qrI.pure]
  dsimp only
  by_cases hz : W.2.2.2.2.2.2.2.2.2.1 = 0
  ·rw [if_neg (by simp [hz]), if_neg (by simp [hz]), hread]
   dsimp only
   have hsm := qmW (gen := W.2.2.2.2.2.2.2.2.2.2.2.1) (qb := []) ob (by omega)
   generalize Q0 W.2.2.2.2.2.2.2.2.2.2.2.1 W.2.2.2.2.2.2.2.2.2.2.2.2.1 [] = M at *
   unfold qaG at htell ⊢
   by_cases hm : M.2.2.2.2.2.2.2.2.2.2.2 = 0
   ·rw [if_neg (by simp [hm]), if_neg (by simp [hm])]
    have ht := htell hm
    unfold qlP at ht ⊢
    rw [show (0 : Int) = ((0 : Nat) : Int) from rfl, qop b _ ht _ BIG 0 _ (Nat.zero_add _) (by rw [qaj]; have := ht.1; omega) (by simp), List.drop_zero]
    rfl
   ·rw [if_pos (bne_iff_ne.2 hm), if_pos hm, Bad.pure]
    dsimp only
    have he := (qoL.pure M.2.2.2.2.2.2.2.2.2.2.2).2
    rw [if_pos (show qgB.size + (qff ++ qeR M.2.2.2.2.2.2.2.2.2.2.2).size ≤ 1099511627776 by rw [Qo]; have : qgB.size = 2 := rfl; have : qff.size = 4 := rfl; omega), ← qqQ]
    rfl
  ·rw [if_pos (bne_iff_ne.2 hz), if_pos hz]
   rfl
 ·rw [if_pos (bne_iff_ne.2 h0), if_pos h0, Bad.pure]
theorem qpw (gen : Int) (q9 : List Int) : (qai gen q9).length = q9.length + 4 := by simp [qai]
theorem qgF (gen : Int) (q9 : List Int) : (qbn gen q9).length = q9.length + 8 := by simp [qbn, qpw, qgD]
theorem qok (gen : Int) (q9 : List Int) (h1 : 1 ≤ gen) (h3 : gen ≤ 3) (hb : isB q9) (hl : q9.length ≤ 65499) : zM (qbn gen q9) = (gen, q9, 0) := by
 have h := Qx.pure (qbn gen q9) (qdK h1 h3 hb hl) (by rw [qgF]; omega)
 rw [qpj gen q9 h1 h3 hb hl] at h
 exact (Option.some.inj h).symm
theorem qpl {b : List Int} (lo hi : Int) (h : (zM b).2.2 ≠ 0) : zT b lo hi = zP 0 (zM b).2.2 := by
 unfold zT
 rw [if_pos h]
theorem qoi {gen : Int} {k f i lo hi s t l e b : Int} {qd qb : LR} (hb : ZZ qd) (Qz : gen = 3 → Qs qb = true) (h : (zZ gen k f i lo hi s t l e b qd qb).2 = 0) :
  QW gen (zZ gen k f i lo hi s t l e b qd qb).1 = (k, f, i, lo, hi, s, t, l, e, b, [], 0) := by
 have hw := qhv hb h
 obtain ⟨hr, _, _, g1, g3⟩ := qgA Qz h
 generalize (zZ gen k f i lo hi s t l e b qd qb).1 = w at *
 unfold QW
 by_cases h3 : gen = 3
 ·subst h3
  rw [ql8] at hr
  have h0 : qaG (qaH w qb) = 0 := by rw [hr]; rfl
  rw [if_pos (by simp), (qnk hw h0).2.2, hr]
  rfl
 ·rw [if_neg (by simp [h3])]
  have e : Q0 gen w [] = Q0 gen w qb := by
   rcases (show gen = 1 ∨ gen = 2 by omega) with rfl | rfl
   ·rw [qj1, qj1]
   ·rw [qj0, qj0]
  rw [e, hr]
  rfl
theorem qnq {gen : Int} {k f i lo hi s t l e b : Int} {qd qb : LR} (h : (zZ gen k f i lo hi s t l e b qd qb).2 = 0) : gen = 3 → Qs qb = true := by
 rintro rfl
 cases hs : Qs qb with
 | true => rfl
 | false =>
  rw [qeg] at h
  unfold qc5 at h
  rw [hs] at h
  simp at h
theorem qiS {gen k f i lo hi s t l e b : Int} {qd qb : LR} (hb : ZZ qd) (h : (qeZ gen k f i lo hi s t l e b qd qb).2 = 0) :
  ∃ w, qeZ gen k f i lo hi s t l e b qd qb = (qbn gen w, 0) ∧ 1 ≤ gen ∧ gen ≤ 3 ∧ isB w ∧ w.length ≤ 65499 ∧ (qde k = true → gen = 1) ∧ Q0 gen w qb = (k, f, i, lo, hi, s, t, l, e, b, qd, 0) ∧ QW gen w = (k, f, i, lo, hi, s, t, l, e, b, [], 0) ∧ q0 k f i lo hi s t l e b qd = true := by
 unfold qeZ at h ⊢
 by_cases hg : (1 ≤ k ∧ k ≤ 3) ∧ gen ≠ 1
 ·rw [if_pos hg] at h; exact absurd h (show (10 : Int) ≠ 0 by decide)
 rw [if_neg hg] at h ⊢
 by_cases h0 : (zZ gen k f i lo hi s t l e b qd qb).2 = 0
 ·rw [if_neg (fun k => k h0)] at h ⊢
  have hw := qhv hb h0
  have hp := qoi hb (qnq h0) h0
  obtain ⟨hr, hv, hl, g1, g3⟩ := qgA (qnq h0) h0
  generalize (zZ gen k f i lo hi s t l e b qd qb).1 = w at *
  refine ⟨w, ?_, g1, g3, hw, hl, ?_, hr, hp, hv⟩
  ·unfold qjx
   rw [if_neg (by omega), if_neg (by omega)]
  ·intro hk
   unfold qde at hk
   have := of_decide_eq_true hk
   apply Decidable.byContradiction
   intro hn
   exact hg ⟨this, hn⟩
 ·rw [if_pos h0] at h
  exact absurd h h0
theorem qol {gen k f i lo hi s t l e b : Int} {w : List Int} (olo ohi : Int) (h1 : 1 ≤ gen) (h3 : gen ≤ 3) (hb : isB w) (hl : w.length ≤ 65499) (hg : qde k = true → gen = 1) (hp : QW gen w = (k, f, i, lo, hi, s, t, l, e, b, [], 0)) :
  zT (qbn gen w) olo ohi = if qhS olo ohi gen = true ∨ qde k = true then (k, f, i, lo, hi, s, t, l, e, b, [], gen, w, 0) else zP gen 9 := by
 unfold zT
 rw [qok gen w h1 h3 hb hl]
 dsimp only
 rw [hp]
 rw [if_neg (by simp)]
 have he : qaG (k, f, i, lo, hi, s, t, l, e, b, ([] : LR), (0 : Int)) = 0 := rfl
 rw [he]
 cases hh : qhS olo ohi gen with
 | true =>
  rw [if_neg (by simp), if_neg (by simp), if_neg (by rintro ⟨a, c⟩; exact c (hg a)), if_pos (.inl rfl)]
  rfl
 | false =>
  cases hk : qde k with
  | true =>
   have := hg hk
   subst this
   rw [if_neg (by simp [hk]), if_neg (by simp), if_neg (by simp), if_pos (.inr rfl)]
   rfl
  | false =>
   rw [if_pos ⟨rfl, .inr (by simp [hk])⟩, if_neg (by simp)]
def qdy : Den.Sum := s_bcheck 91
theorem qhk : SumDet qdy := s_bcheck_det 91
theorem qhL : SumOk Tryz.prog 71 qdy := s_bcheck_ok (ρ := qid) { qjb with } qhY.toX72 Tryz.func71 rfl (by kernel_rfl)
def qe2 : Den.Sum := s_bstring 91 5
theorem qkK : SumDet qe2 := s_bstring_det 91 5
theorem qlH : SumOk Tryz.prog 49 qe2 := s_bstring_ok (ρ := qid) { qjb with } qhY Tryz.func49 rfl (by kernel_rfl)
def qbN : Env := ⟨th, gam [(71, qdy)], fun i => ⟨[], [], []⟩⟩
def zt.k (rs : List AV) (os : List Den.Obj) : Option (Int × (List Int)) :=
 match rs, os with
 | [.d (.int .i64) r0, .nili], [.bld 91 (.row 2), .gone, .row 5 (.int .u8) r1 false] => some (r0, r1)
 | _, _ => none
def zt.b (buf : List Int) (s : ByteArray) : Option (Int × (List Int)) :=
 (if ((((List.length buf) + (List.length (bytesOf s))) * (1 : Nat)) ≤ lim) then some (((((ByteArray.size s)) : Nat) : Int), (buf ++ (bytesOf s))) else none)
def zt.f (qa : Nat) (buf : List Int) (s : ByteArray) : Option (Int × (List Int)) := zt.b buf s
theorem zt.eq (qa : Nat) (buf : List Int) (s : ByteArray) : (denF qbN loopN qa Tryz.f47 [.raw, .raw] [.ptr 0 0, .d .str s] [.bld 91 (.row 1), .row 5 (.int .u8) buf false] zt.k) = zt.f qa buf s := by
 kernel_rfl
def Qi : Den.Sum := ⟨[.raw, .raw], fun qH ql κ => match qH, ql with
 | [.ptr 0 0, .d .str s], [.bld 91 (.row 1), .row 5 (.int .u8) buf false] => (match veil (zt.f BIG buf s) with | none => none | some y => κ [.d (.int .i64) y.1, .nili] [.bld 91 (.row 2), .gone, .row 5 (.int .u8) y.2 false])
 | _, _ => none⟩
theorem qc7 : SumDet Qi := zi fun _ _ _ _ => by
 unfold Qi
 simp only [veil_eq]
 split
 ·split <;> rfl
 ·rfl
theorem qdn : SumOk Tryz.prog 47 Qi := by
 have hE : EnvOk Tryz.prog qbN := env_ok (l := [(71, qdy)]) th_ok qX ⟨⟨qhL, qhk⟩, trivial⟩ _
 refine sum_ok hE Tryz.func47 rfl (by kernel_rfl) Qi [.raw, .raw] zt.k ?_
 intro R avs ql κ r h
 unfold Qi at h
 simp only [veil_eq] at h
 split at h
 ·rename_i s buf
  split at h
  ·cases h
  ·rename_i y hy
   refine ⟨BIG, _, _, _, (zt.eq BIG buf s).trans hy, ?_, h⟩
   intro rs ros hk
   unfold zt.k at hk
   split at hk
   ·rw [← sj hk]; exact ⟨rfl, rfl⟩
   ·cases hk
 ·cases h
def qb0 : Env := ⟨th, gam [(71, qdy)], fun i => ⟨[], [], []⟩⟩
def zA.k (rs : List AV) (os : List Den.Obj) : Option (List Int) :=
 match rs, os with
 | [.nili], [.bld 91 (.row 2), .gone, .row 5 (.int .u8) r0 false] => some r0
 | _, _ => none
def zA.b (buf : List Int) (c : Int) : Option (List Int) :=
 (if ((((List.length buf) + (List.length (c :: ([] : List Int)))) * (1 : Nat)) ≤ lim) then some ((buf ++ (c :: ([] : List Int)))) else none)
def zA.f (qa : Nat) (buf : List Int) (c : Int) : Option (List Int) := zA.b buf c
theorem zA.eq (qa : Nat) (buf : List Int) (c : Int) : (denF qb0 loopN qa Tryz.f48 [.raw] [.ptr 0 0, .d (.int .u8) c] [.bld 91 (.row 1), .row 5 (.int .u8) buf false] zA.k) = zA.f qa buf c := by
 kernel_rfl
def Qt : Den.Sum := ⟨[.raw, .raw], fun qH ql κ => match qH, ql with
 | [.ptr 0 0, .d (.int .u8) c], [.bld 91 (.row 1), .row 5 (.int .u8) buf false] => (match veil (zA.f BIG buf c) with | none => none | some y => κ [.nili] [.bld 91 (.row 2), .gone, .row 5 (.int .u8) y false])
 | _, _ => none⟩
theorem qdF : SumDet Qt := zi fun _ _ _ _ => by
 unfold Qt
 simp only [veil_eq]
 split
 ·split <;> rfl
 ·rfl
theorem qdM : SumOk Tryz.prog 48 Qt := by
 have hE : EnvOk Tryz.prog qb0 := env_ok (l := [(71, qdy)]) th_ok qX ⟨⟨qhL, qhk⟩, trivial⟩ _
 refine sum_ok hE Tryz.func48 rfl (by kernel_rfl) Qt [.raw] zA.k ?_
 intro R avs ql κ r h
 unfold Qt at h
 simp only [veil_eq] at h
 split at h
 ·rename_i c buf
  split at h
  ·cases h
  ·rename_i y hy
   refine ⟨BIG, _, _, _, (zA.eq BIG buf c).trans hy, ?_, h⟩
   intro rs ros hk
   unfold zA.k at hk
   split at hk
   ·rw [← sj hk]; exact ⟨rfl, rfl⟩
   ·cases hk
 ·cases h
def qcX : Env := ⟨th, gam [(21, ZD), (47, Qi), (48, Qt), (49, qe2)], fun i => if i = 888887 then ⟨[91], [], []⟩ else if i = 3 then ⟨[3, 8, 9, 10], [], []⟩ else if i = 6 then ⟨[3, 8, 9, 10, 15, 16, 17], [], []⟩ else ⟨[], [], []⟩⟩
def qU.k (rs : List AV) (os : List Den.Obj) : Option ByteArray :=
 match rs, os with
 | [.d .str r0], [] => some r0
 | _, _ => none
def qU.s6 (zc : List (List Int)) (x5 : Int) (x6 : Int) (x7 : Int) (x8 : Int) (x9 : (List Int)) (x10 : (List ByteArray)) : St := ⟨[dD, dD, dD, .ptr 64 0, dD, dD, dD, dD, .d (.sl (.sl (.int .u8))) (zc), .d tQi x5, .d tQi x6, dD, dD, dD, dD, .row 66, .d tQi x7, .d tQi x8, dD, dD, dD, dD, dD, dD, dD, dD, .dead], ofL [(64, .bld 91 (.row 65)), (65, .row 5 (.int .u8) x9 false), (66, .row 9 .str x10 false)], 0⟩
def qU.p6 (qa : Nat) (zc : List (List Int)) (k3 : Nat) (k : Nat) := fun x5 x6 x7 x8 x9 x10 => lp qcX qa Tryz.f27 [.raw] 0 qU.k 6 [k3] k (qU.s6 zc x5 x6 x7 x8 x9 x10)
def qU.b6 (zc : List (List Int)) (A3 : Int → Int → (List Int) → Option ByteArray) (A6 : Int → Int → Int → Int → (List Int) → (List ByteArray) → Option ByteArray) (x5 : Int) (x6 : Int) (x7 : Int) (x8 : Int) (x9 : (List Int)) (x10 : (List ByteArray)) : Option ByteArray :=
 (if (decide (x8 < x7)) then (match (idx x10 x8) with | none => none | some y11 => (match (idx x10 x8) with | none => none | some y12 => (match (veil (zt.f BIG x9 y12)) with | none => none | some y13 => (match (veil (zA.f BIG y13.2 (10 : Int))) with | none => none | some y14 => A6 x5 x6 x7 (IntKind.wrap .i64 (x8 + (1 : Int))) y14 x10)))) else A3 x5 (IntKind.wrap .i64 (x6 + (1 : Int))) x9)
def qU.l6 (qa : Nat) (zc : List (List Int)) (A3 : Int → Int → (List Int) → Option ByteArray) : Nat → Int → Int → Int → Int → (List Int) → (List ByteArray) → Option ByteArray
 | 0, _, _, _, _, _, _ => none
 | k + 1, x5, x6, x7, x8, x9, x10 => qU.b6 zc A3 (qU.l6 qa zc A3 k) x5 x6 x7 x8 x9 x10
def qU.s3 (zc : List (List Int)) (x0 : Int) (x1 : Int) (x2 : (List Int)) : St := ⟨[dD, dD, dD, .ptr 64 0, dD, dD, dD, dD, .d (.sl (.sl (.int .u8))) (zc), .d tQi x0, .d tQi x1, dD, dD, dD, dD, dD, dD, dD, dD, dD, dD, dD, dD, dD, dD, dD, .dead], ofL [(64, .bld 91 (.row 65)), (65, .row 5 (.int .u8) x2 false)], 0⟩
def qU.p3 (qa : Nat) (zc : List (List Int)) (k : Nat) := fun x0 x1 x2 => lp qcX qa Tryz.f27 [.raw] 0 qU.k 3 [] k (qU.s3 zc x0 x1 x2)
def qU.b3 (zc : List (List Int)) (A3 : Int → Int → (List Int) → Option ByteArray) (E6 : Int → Int → Int → Int → (List Int) → (List ByteArray) → Option ByteArray) (x0 : Int) (x1 : Int) (x2 : (List Int)) : Option ByteArray :=
 (if (decide (x1 < x0)) then (match (idx zc x1) with | none => none | some y3 => (match (veil (zf.f BIG y3)) with | none => none | some y4 => E6 x0 x1 ((((List.length y4)) : Nat) : Int) (0 : Int) x2 y4)) else some ((strOf x2)))
def qU.l3 (qa : Nat) (zc : List (List Int)) : Nat → Int → Int → (List Int) → Option ByteArray
 | 0, _, _, _ => none
 | k + 1, x0, x1, x2 => qU.b3 zc (qU.l3 qa zc k) (qU.l6 qa zc (qU.l3 qa zc k) qa) x0 x1 x2
def qU.b (zc : List (List Int)) (E3 : Int → Int → (List Int) → Option ByteArray) : Option ByteArray :=
 E3 ((((List.length zc)) : Nat) : Int) (0 : Int) ([] : List Int)
def qU.f (qa : Nat) (zc : List (List Int)) : Option ByteArray := qU.b zc (qU.l3 qa zc qa)
theorem qU.l6_eq (qa : Nat) (zc : List (List Int)) (k3 : Nat) : ∀ k : Nat, qU.p6 qa zc k3 k = qU.l6 qa zc (qU.p3 qa zc k3) k
 | 0 => by kernel_rfl
 | k + 1 => by
  refine Eq.trans (b := qU.b6 zc (qU.p3 qa zc k3) (qU.p6 qa zc k3 k)) (by kernel_rfl) ?_
  rw [qU.l6_eq qa zc k3 k]
  kernel_rfl
theorem qU.l3_eq (qa : Nat) (zc : List (List Int)) : ∀ k : Nat, qU.p3 qa zc k = qU.l3 qa zc k
 | 0 => by kernel_rfl
 | k + 1 => by
  refine Eq.trans (b := qU.b3 zc (qU.p3 qa zc k) (qU.p6 qa zc k qa)) (by kernel_rfl) ?_
  rw [qU.l3_eq qa zc k, qU.l6_eq qa zc k qa, qU.l3_eq qa zc k]
  kernel_rfl
theorem qU.eq (qa : Nat) (zc : List (List Int)) : (denF qcX loopN qa Tryz.f27 [.raw] [.d (.sl (.sl (.int .u8))) zc] [] qU.k) = qU.f qa zc := by
 refine Eq.trans (b := qU.b zc (qU.p3 qa zc qa)) (by kernel_rfl) ?_
 rw [qU.l3_eq qa zc qa]
 kernel_rfl
def qas : Den.Sum := ⟨[.dat (.sl (.sl (.int .u8))) false], fun qH ql κ => match qH, ql with
 | [.d (.sl (.sl (.int .u8))) zc], [] => (match veil (qU.f BIG zc) with | none => none | some y => κ [.d .str y] [])
 | _, _ => none⟩
theorem qhJ : SumDet qas := zi fun _ _ _ _ => by
 unfold qas
 simp only [veil_eq]
 split
 ·split <;> rfl
 ·rfl
theorem qio : SumOk Tryz.prog 27 qas := by
 have hE : EnvOk Tryz.prog qcX := env_ok (l := [(21, ZD), (47, Qi), (48, Qt), (49, qe2)]) th_ok qX ⟨⟨qeD, qed⟩, ⟨qdn, qc7⟩, ⟨qdM, qdF⟩, ⟨qlH, qkK⟩, trivial⟩ _
 refine sum_ok hE Tryz.func27 rfl (by kernel_rfl) qas [.raw] qU.k ?_
 intro R avs ql κ r h
 unfold qas at h
 simp only [veil_eq] at h
 split at h
 ·rename_i zc
  split at h
  ·cases h
  ·rename_i y hy
   refine ⟨BIG, _, _, _, (qU.eq BIG zc).trans hy, ?_, h⟩
   intro rs ros hk
   unfold qU.k at hk
   split at hk
   ·rw [← sj hk]; exact ⟨rfl, rfl⟩
   ·cases hk
 ·cases h
def qho : Env := ⟨th, gam [(10, Z9), (27, qas)], fun i => ⟨[], [], []⟩⟩
def Qr.k (rs : List AV) (os : List Den.Obj) : Option Bool :=
 match rs, os with
 | [.d .bool r0], [] => some r0
 | _, _ => none
def Qr.b (u : Unit) : Option Bool :=
 (match (veil (Qq.f BIG (1 : Int) (1 : Int) (5 : Int) 0 (1 : Int) (3 : Int) (7 : Int) 0 0 0 0 ([] : LR) ([] : LR))) with | none => none | some y0 => (if (y0.2 == (0 : Int)) then (match (veil (qU.f BIG (y0.1 :: ([] : List (List Int))))) with | none => none | some y1 => (if ((ByteArray.toList y1) == (ByteArray.toList (⟨((103 :: (101 :: (110 :: (32 :: (49 :: (32 :: (104 :: (101 :: (108 :: (108 :: (111 :: (32 :: (102 :: (114 :: (111 :: (109 :: (32 :: (53 :: (32 :: (105 :: (110 :: (99 :: (32 :: (48 :: (32 :: (115 :: (112 :: (97 :: (110 :: (32 :: (49 :: (45 :: (51 :: (32 :: (115 :: (101 :: (113 :: (32 :: (55 :: (10 :: ([] : List UInt8)))))))))))))))))))))))))))))))))))))))))).toArray⟩ : ByteArray))) then (match (veil (qU.f BIG (([] : List Int) :: ([] : List (List Int))))) with | none => none | some y2 => some (((ByteArray.toList y2) == (ByteArray.toList (⟨((98 :: (97 :: (100 :: (32 :: (115 :: (104 :: (111 :: (114 :: (116 :: (10 :: ([] : List UInt8)))))))))))).toArray⟩ : ByteArray))))) else some (false))) else some (false)))
def Qr.f (qa : Nat) (u : Unit) : Option Bool := Qr.b u
theorem Qr.eq (qa : Nat) (u : Unit) : (denF qho loopN qa Tryz.f20 [.raw] [] [] Qr.k) = Qr.f qa u := by
 kernel_rfl
def qaR : Den.Sum := ⟨[], fun qH ql κ => match qH, ql with
 | [], [] => (match veil (Qr.f BIG ()) with | none => none | some y => κ [.d .bool y] [])
 | _, _ => none⟩
theorem qij : SumDet qaR := zi fun _ _ _ _ => by
 unfold qaR
 simp only [veil_eq]
 split
 ·split <;> rfl
 ·rfl
theorem qi0 : SumOk Tryz.prog 20 qaR := by
 have hE : EnvOk Tryz.prog qho := env_ok (l := [(10, Z9), (27, qas)]) th_ok qX ⟨⟨qfp, qeV⟩, ⟨qio, qhJ⟩, trivial⟩ _
 refine sum_ok hE Tryz.func20 rfl (by kernel_rfl) qaR [.raw] Qr.k ?_
 intro R avs ql κ r h
 unfold qaR at h
 simp only [veil_eq] at h
 split at h
 ·skip
  split at h
  ·cases h
  ·rename_i y hy
   refine ⟨BIG, _, _, _, (Qr.eq BIG ()).trans hy, ?_, h⟩
   intro rs ros hk
   unfold Qr.k at hk
   split at hk
   ·rw [← sj hk]; exact ⟨rfl, rfl⟩
   ·cases hk
 ·cases h
def qbo : Env := ⟨th, gam [(7, qeq), (10, Z9), (13, ZJ), (20, qaR), (21, ZD), (22, QU), (23, qaz), (24, qay)], fun i => if i = 12 then ⟨[3, 11, 12, 13], [], []⟩ else ⟨[], [], []⟩⟩
def zb.k (rs : List AV) (os : List Den.Obj) : Option Bool :=
 match rs, os with
 | [.d .bool r0], [] => some r0
 | _, _ => none
def zb.s12 (qm qB qM qf qg qL qj qA qo qw : Int) (qh : LR) (a b x18 : Int) (x19 x20 : (List ByteArray)) : St := ⟨[dD, dD, dD, .ptr 64 0, dD, dD, dD, dD, dD, dD, dD, .row 65, .row 66, .d tQi x18, dD, dD, dD, dD, dD, dD, dD, dD, dD, dD, dD, dD, dD, dD, dD, dD, dD, dD, dD, dD, dD, dD, dD, dD, dD, dD, dD, dD, dD, dD, dD, dD, dD, dD, dD, dD, dD, dD, dD, dD, dD, dD, dD, dD, dD, dD, dD, dD, dD, dD, dD, dD, dD, dD, dD, dD, dD, dD, dD, dD, dD, dD, dD, dD, dD, dD, dD, dD, dD, dD, dD, dD, dD, dD, dD, dD, dD, dD, dD, dD, dD, dD, dD, dD, dD, dD, dD, dD, dD, dD, dD, dD, dD, dD, dD, dD, dD, dD, dD, dD, dD, dD, dD, dD, dD, dD, dD, .dead], ofL [(64, .box [.d tQi (qm), .d tQi (qB), .d tQi (qM), .d tQi (qf), .d tQi (qg), .d tQi (qL), .d tQi (qj), .d tQi (qA), .d tQi (qo), .d tQi (qw), .d (.sl tQr) (qh)]), (65, .row 9 .str x19 false), (66, .row 9 .str x20 false)], 0⟩
def zb.p12 (qa : Nat) (qm qB qM qf qg qL qj qA qo qw : Int) (qh : LR) (a b : Int) (k : Nat) := fun x18 x19 x20 => lp qbo qa Tryz.f5 [.raw] 0 zb.k 12 [] k (zb.s12 qm qB qM qf qg qL qj qA qo qw qh a b x18 x19 x20)
def zb.b12 (qm qB qM qf qg qL qj qA qo qw : Int) (qh : LR) (a b : Int) (A12 : Int → (List ByteArray) → (List ByteArray) → Option Bool) (x18 : Int) (x19 : (List ByteArray)) (x20 : (List ByteArray)) : Option Bool :=
 (if (decide (x18 < ((((List.length x19)) : Nat) : Int))) then (match (idx x19 x18) with | none => none | some y21 => (match (idx x19 x18) with | none => none | some y22 => (match (idx x20 x18) with | none => none | some y23 => (match (idx x20 x18) with | none => none | some y24 => (if (!((ByteArray.toList y22) == (ByteArray.toList y24))) then some (false) else (match (idx x19 x18) with | none => none | some y25 => (match (idx x19 x18) with | none => none | some y26 => (match (idx qh (IntKind.wrap .i64 (x18 - (1 : Int)))) with | none => none | some y27 => (match (veil (zv.f BIG y27.1 y27.2.1 y27.2.2.1 y27.2.2.2.1.1 y27.2.2.2.1.2 y27.2.2.2.2.1 y27.2.2.2.2.2)) with | none => none | some y28 => (if (((ByteArray.size (⟨((32 :: (32 :: ([] : List UInt8)))).toArray⟩ : ByteArray)) + (ByteArray.size y28)) ≤ (1099511627776 : Nat)) then (if (!((ByteArray.toList y26) == (ByteArray.toList ((⟨((32 :: (32 :: ([] : List UInt8)))).toArray⟩ : ByteArray) ++ y28)))) then some (false) else A12 (IntKind.wrap .i64 (x18 + (1 : Int))) x19 x20) else none)))))))))) else (match (veil (Qr.f BIG ())) with | none => none | some y29 => some (y29)))
def zb.l12 (qa : Nat) (qm qB qM qf qg qL qj qA qo qw : Int) (qh : LR) (a b : Int) : Nat → Int → (List ByteArray) → (List ByteArray) → Option Bool
 | 0, _, _, _ => none
 | k + 1, x18, x19, x20 => zb.b12 qm qB qM qf qg qL qj qA qo qw qh a b (zb.l12 qa qm qB qM qf qg qL qj qA qo qw qh a b k) x18 x19 x20
def zb.b (qm qB qM qf qg qL qj qA qo qw : Int) (qh : LR) (a b : Int) (E12 : Int → (List ByteArray) → (List ByteArray) → Option Bool) : Option Bool :=
 (if (za qh) then (if (!(qhX qh)) then (match (veil (Qr.f BIG ())) with | none => none | some y0 => some (y0)) else (if (qw != (0 : Int)) then (match (veil (Qr.f BIG ())) with | none => none | some y1 => some (y1)) else (match (veil (Qw.f BIG qm)) with | none => none | some y2 => (if y2 then (match (veil (Qr.f BIG ())) with | none => none | some y3 => some (y3)) else (match (veil (Qq.f BIG a qm qB qM qf qg qL qj qA qo qw qh ([] : LR))) with | none => none | some y4 => (match (veil (Qq.f BIG b qm qB qM qf qg qL qj qA qo qw qh ([] : LR))) with | none => none | some y5 => (if (y4.2 != (0 : Int)) then (match (veil (Qr.f BIG ())) with | none => none | some y6 => some (y6)) else (if (y5.2 != (0 : Int)) then (match (veil (Qr.f BIG ())) with | none => none | some y7 => some (y7)) else (match (veil (zf.f BIG y4.1)) with | none => none | some y8 => (match (veil (zf.f BIG y5.1)) with | none => none | some y9 => (if (((((List.length y8)) : Nat) : Int) != ((((List.length y9)) : Nat) : Int)) then some (false) else (if (((((List.length y8)) : Nat) : Int) != (IntKind.wrap .i64 ((1 : Int) + ((((List.length qh)) : Nat) : Int)))) then some (false) else (match (idx y8 (0 : Int)) with | none => none | some y10 => (match (idx y8 (0 : Int)) with | none => none | some y11 => (match (veil (zj.f BIG a)) with | none => none | some y12 => (if (((ByteArray.size (⟨((103 :: (101 :: (110 :: (32 :: ([] : List UInt8)))))).toArray⟩ : ByteArray)) + (ByteArray.size y12)) ≤ (1099511627776 : Nat)) then (if (((ByteArray.size ((⟨((103 :: (101 :: (110 :: (32 :: ([] : List UInt8)))))).toArray⟩ : ByteArray) ++ y12)) + (ByteArray.size (⟨((32 :: ([] : List UInt8))).toArray⟩ : ByteArray))) ≤ (1099511627776 : Nat)) then (match (veil (qE.f BIG qm qB qM qf qg qL qj qA qo qw qh)) with | none => none | some y13 => (if (((ByteArray.size (((⟨((103 :: (101 :: (110 :: (32 :: ([] : List UInt8)))))).toArray⟩ : ByteArray) ++ y12) ++ (⟨((32 :: ([] : List UInt8))).toArray⟩ : ByteArray))) + (ByteArray.size y13)) ≤ (1099511627776 : Nat)) then (if (!((ByteArray.toList y11) == (ByteArray.toList ((((⟨((103 :: (101 :: (110 :: (32 :: ([] : List UInt8)))))).toArray⟩ : ByteArray) ++ y12) ++ (⟨((32 :: ([] : List UInt8))).toArray⟩ : ByteArray)) ++ y13)))) then some (false) else (match (idx y9 (0 : Int)) with | none => none | some y14 => (match (idx y9 (0 : Int)) with | none => none | some y15 => (match (veil (zj.f BIG b)) with | none => none | some y16 => (if (((ByteArray.size (⟨((103 :: (101 :: (110 :: (32 :: ([] : List UInt8)))))).toArray⟩ : ByteArray)) + (ByteArray.size y16)) ≤ (1099511627776 : Nat)) then (if (((ByteArray.size ((⟨((103 :: (101 :: (110 :: (32 :: ([] : List UInt8)))))).toArray⟩ : ByteArray) ++ y16)) + (ByteArray.size (⟨((32 :: ([] : List UInt8))).toArray⟩ : ByteArray))) ≤ (1099511627776 : Nat)) then (match (veil (qE.f BIG qm qB qM qf qg qL qj qA qo qw qh)) with | none => none | some y17 => (if (((ByteArray.size (((⟨((103 :: (101 :: (110 :: (32 :: ([] : List UInt8)))))).toArray⟩ : ByteArray) ++ y16) ++ (⟨((32 :: ([] : List UInt8))).toArray⟩ : ByteArray))) + (ByteArray.size y17)) ≤ (1099511627776 : Nat)) then (if (!((ByteArray.toList y15) == (ByteArray.toList ((((⟨((103 :: (101 :: (110 :: (32 :: ([] : List UInt8)))))).toArray⟩ : ByteArray) ++ y16) ++ (⟨((32 :: ([] : List UInt8))).toArray⟩ : ByteArray)) ++ y17)))) then some (false) else E12 (1 : Int) y8 y9) else none)) else none) else none))))) else none)) else none) else none)))))))))))))))) else none)
def zb.f (qa : Nat) (qm qB qM qf qg qL qj qA qo qw : Int) (qh : LR) (a b : Int) : Option Bool := zb.b qm qB qM qf qg qL qj qA qo qw qh a b (zb.l12 qa qm qB qM qf qg qL qj qA qo qw qh a b qa)
theorem zb.l12_eq (qa : Nat) (qm qB qM qf qg qL qj qA qo qw : Int) (qh : LR) (a b : Int) : ∀ k : Nat, zb.p12 qa qm qB qM qf qg qL qj qA qo qw qh a b k = zb.l12 qa qm qB qM qf qg qL qj qA qo qw qh a b k
 | 0 => by kernel_rfl
 | k + 1 => by
  refine Eq.trans (b := zb.b12 qm qB qM qf qg qL qj qA qo qw qh a b (zb.p12 qa qm qB qM qf qg qL qj qA qo qw qh a b k)) (by kernel_rfl) ?_
  rw [zb.l12_eq qa qm qB qM qf qg qL qj qA qo qw qh a b k]
  kernel_rfl
theorem zb.eq (qa : Nat) (qm qB qM qf qg qL qj qA qo qw : Int) (qh : LR) (a b : Int) : (denF qbo loopN qa Tryz.f5 [.raw] [.agg [.d tQi qm, .d tQi qB, .d tQi qM, .d tQi qf, .d tQi qg, .d tQi qL, .d tQi qj, .d tQi qA, .d tQi qo, .d tQi qw, .d (.sl tQr) qh], .d tQi a, .d tQi b] [] zb.k) = zb.f qa qm qB qM qf qg qL qj qA qo qw qh a b := by
 refine Eq.trans (b := zb.b qm qB qM qf qg qL qj qA qo qw qh a b (zb.p12 qa qm qB qM qf qg qL qj qA qo qw qh a b qa)) (by kernel_rfl) ?_
 rw [zb.l12_eq qa qm qB qM qf qg qL qj qA qo qw qh a b qa]
 kernel_rfl
def qe5 (w : ByteArray) : List Int := bytesOf w ++ [10]
def qcL (zc : List (List Int)) : List Int := zc.flatMap fun b => (qbY b).1.flatMap qe5
theorem qpn (w : ByteArray) : (qe5 w).length = w.size + 1 := by simp [qe5, qcm]
theorem qpy (W : List ByteArray) (h : ∀ w ∈ W, w.size ≤ 1100000) : (W.flatMap qe5).length ≤ W.length * 1100001 := by
 induction W with
 | nil => simp
 | cons w W ih =>
  have h1 := h w List.mem_cons_self
  have h2 := ih fun x hx => h x (List.mem_cons_of_mem _ hx)
  rw [List.flatMap_cons, List.length_append, qpn, List.length_cons]
  omega
theorem qiI {b : List Int} (hb : isB b) (hl : b.length ≤ 1000000) : (qbY b).1.length ≤ 256 ∧ ∀ w ∈ (qbY b).1, w.size ≤ 1100000 := by
 obtain ⟨ob, ol⟩ := qlk 1 3 hb
 have htell := @qk3 (zT b 1 3).2.2.2.2.2.2.2.2.2.2.2.1 _ ob (by omega)
 unfold qbY
 generalize zT b 1 3 = W at *
 have hh : (qie W).size ≤ 1000 := by
  have hns := ZL W.2.2.2.2.2.2.2.2.2.2.2.1
  have hms := (qe4 W.1 W.2.1 W.2.2.1 W.2.2.2.1 W.2.2.2.2.1 W.2.2.2.2.2.1 W.2.2.2.2.2.2.1 W.2.2.2.2.2.2.2.1 W.2.2.2.2.2.2.2.2.1 W.2.2.2.2.2.2.2.2.2.1).2
  have g4 : qdh.size = 4 := rfl
  have g1 : qeK.size = 1 := rfl
  unfold qie
  rw [Qo, Qo, Qo]
  omega
 have hbad : ∀ e, (qff ++ qeR e).size ≤ 1000 := fun e => by
  have h1 := (qoL.pure e).2
  have h2 : qff.size = 4 := rfl
  rw [Qo]; omega
 have hbad2 : ∀ e, (qlM ++ qeR e).size ≤ 1000 := fun e => by
  have h1 := (qoL.pure e).2
  have h2 : qlM.size = 6 := rfl
  rw [Qo]; omega
 have hun : qm8.size = 8 := rfl
 split
 ·refine ⟨by simp, fun w hw => ?_⟩
  simp only [List.mem_singleton] at hw
  rw [hw]; have := hbad W.2.2.2.2.2.2.2.2.2.2.2.2.2; omega
 ·split
  ·refine ⟨by simp, fun w hw => ?_⟩
   simp only [List.mem_cons, List.not_mem_nil, or_false] at hw
   rcases hw with hw | hw
   ·rw [hw]; omega
   ·rw [hw]; omega
  ·split
   ·refine ⟨by simp, fun w hw => ?_⟩
    simp only [List.mem_cons, List.not_mem_nil, or_false] at hw
    rcases hw with hw | hw
    ·rw [hw]; omega
    ·rw [hw]; have := hbad2 (qaG (Q0 W.2.2.2.2.2.2.2.2.2.2.2.1 W.2.2.2.2.2.2.2.2.2.2.2.2.1 [])); omega
   ·rename_i hm
    have ht := htell (Decidable.not_not.1 hm)
    refine ⟨by simp; exact ht.1, fun w hw => ?_⟩
    simp only [List.mem_cons, List.mem_map] at hw
    rcases hw with hw | ⟨r, hr, rfl⟩
    ·rw [hw]; omega
    ·have := (qp7 (ht.2 r hr).1 (ht.2 r hr).2).2
     have h2 : qgB.size = 2 := rfl
     unfold qdY
     rw [Qo]; omega
theorem qpY (zc : List (List Int)) (h : ∀ b ∈ zc, isB b ∧ b.length ≤ 1000000) : (qcL zc).length ≤ zc.length * 281600256 := by
 induction zc with
 | nil => simp [qcL]
 | cons b zc ih =>
  obtain ⟨h1, h2⟩ := h b List.mem_cons_self
  obtain ⟨h3, h4⟩ := qiI h1 h2
  have h5 := qpy _ h4
  have h6 := ih fun x hx => h x (List.mem_cons_of_mem _ hx)
  have h7 : (qbY b).1.length * 1100001 ≤ 256 * 1100001 := Nat.mul_le_mul_right _ h3
  unfold qcL at *
  rw [List.flatMap_cons, List.length_append, List.length_cons]
  omega
theorem qqR (zc : List (List Int)) (A : Int → Int → List Int → Option ByteArray) (x5 x6 : Int) (W : List ByteArray) (h : ∀ w ∈ W, w.size ≤ 1100000) (hn : W.length ≤ 256) : ∀ (m k i : Nat) (acc : List Int), i + m = W.length → m < k → acc.length + m * 1100001 ≤ 1099511627776 →
  qU.l6 BIG zc A k x5 x6 (W.length : Int) (i : Int) acc W = A x5 (IntKind.wrap .i64 (x6 + 1)) (acc ++ (W.drop i).flatMap qe5) := by
 intro m
 induction m with
 | zero =>
  intro k i acc hi hk ha
  obtain ⟨k, rfl⟩ : ∃ k', k = k' + 1 := ⟨k - 1, by omega⟩
  rw [qU.l6]
  unfold qU.b6
  rw [if_neg (by simp; omega), List.drop_of_length_le (by omega)]
  simp
 | succ m ih =>
  intro k i acc hi hk ha
  obtain ⟨k, rfl⟩ : ∃ k', k = k' + 1 := ⟨k - 1, by omega⟩
  have hlt : i < W.length := by omega
  have hw := h _ (List.getElem_mem hlt)
  rw [qU.l6]
  unfold qU.b6
  simp only [veil_eq]
  rw [if_pos (by simp; omega), Qh, List.getElem?_eq_getElem hlt]
  dsimp only
  unfold zt.f zt.b zA.f zA.b
  rw [if_pos (by rw [qcm]; unfold lim; omega)]
  dsimp only
  rw [if_pos (by rw [List.length_append, qcm]; unfold lim; simp; omega), qV _ (by omega) (by omega), show ((i : Int) + 1) = ((i + 1 : Nat) : Int) from by omega]
  dsimp only
  rw [ih k (i + 1) _ (by omega) (by omega) (by simp [qcm]; omega), List.drop_eq_getElem_cons hlt, List.flatMap_cons]
  simp [qe5]
theorem qpX (zc : List (List Int)) (h : ∀ b ∈ zc, isB b ∧ b.length ≤ 1000000) (hn : zc.length ≤ 1000) : ∀ (m k i : Nat), i + m = zc.length → m < k →
  qU.l3 BIG zc k (zc.length : Int) (i : Int) (qcL (zc.take i)) = some (strOf (qcL zc)) := by
 intro m
 induction m with
 | zero =>
  intro k i hi hk
  obtain ⟨k, rfl⟩ : ∃ k', k = k' + 1 := ⟨k - 1, by omega⟩
  rw [qU.l3]
  unfold qU.b3
  rw [if_neg (by simp; omega), List.take_of_length_le (by omega)]
 | succ m ih =>
  intro k i hi hk
  obtain ⟨k, rfl⟩ : ∃ k', k = k' + 1 := ⟨k - 1, by omega⟩
  have hlt : i < zc.length := by omega
  obtain ⟨h1, h2⟩ := h _ (List.getElem_mem hlt)
  obtain ⟨h3, h4⟩ := qiI h1 h2
  have h5 := qpY (zc.take i) fun x hx => h x (List.mem_of_mem_take hx)
  rw [List.length_take, Nat.min_eq_left (by omega)] at h5
  rw [qU.l3]
  unfold qU.b3
  simp only [veil_eq]
  rw [if_pos (by simp; omega), Qh, List.getElem?_eq_getElem hlt]
  dsimp only
  rw [qoK.pure _ h1 h2]
  dsimp only
  have h7 : (qbY zc[i]).1.length * 1100001 ≤ 256 * 1100001 := Nat.mul_le_mul_right _ h3
  rw [show (0 : Int) = ((0 : Nat) : Int) from rfl, qqR zc _ _ _ _ h4 h3 _ BIG 0 _ (Nat.zero_add _) (by rw [qaj]; omega) (by omega), List.drop_zero]
  have e : qcL (zc.take i) ++ (qbY zc[i]).1.flatMap qe5 = qcL (zc.take (i + 1)) := by
   unfold qcL
   rw [List.take_succ_eq_append_getElem hlt, List.flatMap_append, List.flatMap_cons, List.flatMap_nil, List.append_nil]
  rw [e, qV _ (by omega) (by omega), show ((i : Int) + 1) = ((i + 1 : Nat) : Int) from by omega]
  exact ih k (i + 1) (by omega) (by omega)
theorem qrp.pure (zc : List (List Int)) (h : ∀ b ∈ zc, isB b ∧ b.length ≤ 1000000) (hn : zc.length ≤ 1000) : qU.f BIG zc = some (strOf (qcL zc)) := by
 unfold qU.f qU.b
 have := qpX zc h hn zc.length BIG 0 (Nat.zero_add _) (by rw [qaj]; omega)
 rw [List.take_zero] at this
 exact this
theorem qf2 {gen k f i lo hi s t l e : Int} {qd : LR} {w : List Int} (h1 : 1 ≤ gen) (h3 : gen ≤ 3) (hb : isB w) (hl : w.length ≤ 65499) (hg : qde k = true → gen = 1) (hp : QW gen w = (k, f, i, lo, hi, s, t, l, e, 0, [], 0)) (hr : Q0 gen w [] = (k, f, i, lo, hi, s, t, l, e, 0, qd, 0)) :
  (qbY (qbn gen w)).1 = (((qdh ++ Q8 gen) ++ qeK) ++ qeO k f i lo hi s t l e 0) :: qd.map qdY := by
 have hh : qhS 1 3 gen = true := by
  unfold qhS
  rw [show okS 1 3 = true from by kernel_rfl, decide_eq_true h1, decide_eq_true h3]
  rfl
 have ho := qol 1 3 h1 h3 hb hl hg hp
 rw [if_pos (.inl hh)] at ho
 unfold qbY qie
 rw [ho]
 dsimp only
 rw [hr]
 rw [if_neg (by simp), if_neg (by simp), if_neg (show ¬ qaG _ ≠ 0 from fun h => h rfl)]
 rfl
def w5 : List Int := (zZ 1 1 5 0 1 3 7 0 0 0 0 [] []).1
theorem qfd.pure : Qr.f BIG () = some true := by
 have n0 : za ([] : LR) = true := rfl
 have hs := Qq.pure 1 1 5 0 1 3 7 0 0 0 0 [] [] n0 n0 (by simp) qoF
 have hw : (zZ 1 1 5 0 1 3 7 0 0 0 0 [] []).2 = 0 := by kernel_rfl
 have h0 : (qeZ 1 1 5 0 1 3 7 0 0 0 0 [] []).2 = 0 := by
  unfold qeZ
  rw [if_neg (by simp), if_neg (by simp [hw])]
  have hl := (qiq (gen := 1) (k := 1) (f := 5) (i := 0) (lo := 1) (hi := 3) (s := 7) (t := 0) (l := 0) (e := 0) (b := 0) (qd := []) (qb := []) (fun h => by cases h) qoF).2
  unfold qjx
  rw [if_neg (by decide), if_neg (by omega)]
 obtain ⟨w, hsw, h1, h3, hb, hl, hg, hrd, hpk, hv⟩ := qiS qoF h0
 have hsb := qdK h1 h3 hb hl
 have hsl := qgF 1 w
 have hlx := qf2 h1 h3 hb hl hg hpk hrd
 have hbE : isB ([] : List Int) := qap
 unfold Qr.f Qr.b
 simp only [veil_eq]
 rw [hs, hsw]
 dsimp only
 rw [qrp.pure [qbn 1 w] (fun b hb' => by rw [List.mem_singleton.1 hb']; exact ⟨hsb, by omega⟩) (by simp), qrp.pure [[]] (fun b hb' => by rw [List.mem_singleton.1 hb']; exact ⟨hbE, by simp⟩) (by simp)]
 dsimp only
 have t1 : qcL [qbn 1 w] = qe5 (((qdh ++ Q8 1) ++ qeK) ++ qeO 1 5 0 1 3 7 0 0 0 0) := by
  unfold qcL
  rw [List.flatMap_cons, List.flatMap_nil, List.append_nil, hlx]
  simp
 have t2 : qcL [[]] = qe5 (qff ++ qeR 2) := by
  have e : zM [] = (0, [], 2) := by unfold zM; rw [if_neg (by simp), if_pos (by simp)]
  have e2 : (zM []).2.2 ≠ 0 := by rw [e]; decide
  unfold qcL
  rw [List.flatMap_cons, List.flatMap_nil, List.append_nil]
  have : (qbY []).1 = [qff ++ qeR 2] := by
   unfold qbY
   rw [qpl 1 3 e2, e]
   rfl
  rw [this]
  simp
 rw [t1, t2, qa4, qa4, qa4, qa4]
 rw [if_pos (by rfl), if_pos (by kernel_rfl)]
 exact congrArg some (by kernel_rfl)
theorem qoY (k f i lo hi s t l e b0 : Int) (qd : LR) (a b : Int) (hr : qlN qd) (hP hQ : ByteArray) : ∀ (m n j : Nat), j + m = qd.length → m < n →
  zb.l12 BIG k f i lo hi s t l e b0 qd a b n ((j + 1 : Nat) : Int) (hP :: qd.map qdY) (hQ :: qd.map qdY) = some true := by
 intro m
 induction m with
 | zero =>
  intro n j hj hn
  obtain ⟨n, rfl⟩ : ∃ n', n = n' + 1 := ⟨n - 1, by omega⟩
  rw [zb.l12]
  unfold zb.b12
  simp only [veil_eq]
  rw [if_neg (by simp; omega), qfd.pure]
 | succ m ih =>
  intro n j hj hn
  obtain ⟨n, rfl⟩ : ∃ n', n = n' + 1 := ⟨n - 1, by omega⟩
  have hlt : j < qd.length := by omega
  have h1 := hr.1
  obtain ⟨hL, hS⟩ := qp7 (hr.2 _ (List.getElem_mem hlt)).1 (hr.2 _ (List.getElem_mem hlt)).2
  have gP : ∀ h : ByteArray, (h :: qd.map qdY)[j + 1]? = some (qdY qd[j]) := fun h => by
   rw [List.getElem?_cons_succ, List.getElem?_map, List.getElem?_eq_getElem hlt]; rfl
  rw [zb.l12]
  unfold zb.b12
  simp only [veil_eq]
  rw [if_pos (by simp; omega), Qh, gP, Qh, gP]
  dsimp only
  rw [if_neg (by rw [beq_self_eq_true]; simp), qV _ (by omega) (by omega), show (((j + 1 : Nat) : Int) - 1) = ((j : Nat) : Int) from by omega, Qh, List.getElem?_eq_getElem hlt]
  dsimp only
  rw [hL]
  dsimp only
  have e2 : qgB.size = 2 := rfl
  rw [if_pos (show qgB.size + (qgS qd[j]).size ≤ 1099511627776 by omega), if_neg (by show ¬ (!(ByteArray.toList (qdY qd[j]) == ByteArray.toList (qdY qd[j]))) = true; rw [beq_self_eq_true]; simp), qV _ (by omega) (by omega), show (((j + 1 : Nat) : Int) + 1) = ((j + 1 + 1 : Nat) : Int) from by omega]
  exact ih n (j + 1) (by omega) (by omega)
theorem qm7.pure (k f i lo hi s t l e b0 : Int) (qd : LR) (a b : Int) (hh : za qd = true ∧ ZZ qd) :
  zb.f BIG k f i lo hi s t l e b0 qd a b = some true := by
 obtain ⟨hr, hbg⟩ := hh
 unfold zb.f zb.b
 simp only [veil_eq]
 rw [hr]
 cases h8 : qhX qd
 ·rw [qfd.pure]; rfl
 rw [if_pos rfl, if_neg (by simp)]
 by_cases hb0 : b0 = 0
 ·subst hb0
  rw [if_neg (by simp), Qw.pure]
  dsimp only
  by_cases hg : 1 ≤ k ∧ k ≤ 3
  ·rw [if_pos (decide_eq_true hg), qfd.pure]
  rw [if_neg (by rw [decide_eq_true_eq]; exact hg)]
  have n0 : za ([] : LR) = true := rfl
  have hs := fun g => Qq.pure g k f i lo hi s t l e 0 qd [] hr n0 (by simp) hbg
  rw [hs a, hs b]
  dsimp only
  by_cases ha : (qeZ a k f i lo hi s t l e 0 qd []).2 = 0
  ·rw [if_neg (by simp [ha])]
   by_cases hb : (qeZ b k f i lo hi s t l e 0 qd []).2 = 0
   ·rw [if_neg (by simp [hb])]
    obtain ⟨w, hw, a1, a3, wb, wl, wg, wr, wp, hv⟩ := qiS hbg ha
    obtain ⟨v, hvw, b1, b3, vb, vl, vg, vr, vp, _⟩ := qiS hbg hb
    rw [hw, hvw]
    dsimp only
    have lw := qgF a w
    have lv := qgF b v
    rw [qoK.pure _ (qdK a1 a3 wb wl) (by omega), qoK.pure _ (qdK b1 b3 vb vl) (by omega)]
    dsimp only
    rw [qf2 a1 a3 wb wl wg wp wr, qf2 b1 b3 vb vl vg vp vr]
    obtain ⟨_, _, f0, f1, i0, i1, _, s0, s1, t0, t1, hlv, hn, hrs⟩ := Qj hv
    obtain ⟨l0, l1, e0, e1, _, _, _⟩ := qdc hlv
    have hM := qrr.pure k f i lo hi s t l e 0 qd (qbz f0 (by omega)) (qbz i0 (by omega)) (qbz s0 (by omega)) (qbz t0 (by omega)) (qbz l0 (by omega)) (qbz e0 (by omega)) (qbz (Int.le_refl 0) (by omega))
    have hNa := qeu.pure a (by omega) (by omega)
    have hNb := qeu.pure b (by omega) (by omega)
    have sa := ZL a
    have sb := ZL b
    have sm := (qe4 k f i lo hi s t l e 0).2
    have g4 : qdh.size = 4 := rfl
    have g1 : qeK.size = 1 := rfl
    have htell : qlN qd := ⟨hn, fun r hr' => ⟨hrs r hr', fun x hx => hbg r hr' x hx⟩⟩
    have i0' : ∀ (h : ByteArray) (T : List ByteArray), idx (h :: T) (0 : Int) = some h := fun _ _ => rfl
    rw [if_neg (by simp), if_neg (by rw [qV _ (by omega) (by omega)]; simp; omega), i0', hNa]
    dsimp only
    rw [if_pos (show qdh.size + (Q8 a).size ≤ 1099511627776 by omega), if_pos (show (qdh ++ Q8 a).size + qeK.size ≤ 1099511627776 by rw [Qo]; omega), hM]
    dsimp only
    rw [if_pos (show ((qdh ++ Q8 a) ++ qeK).size + (qeO k f i lo hi s t l e 0).size ≤ 1099511627776 by rw [Qo, Qo]; omega), if_neg (by rw [beq_self_eq_true]; simp), i0', hNb]
    dsimp only
    rw [if_pos (show qdh.size + (Q8 b).size ≤ 1099511627776 by omega), if_pos (show (qdh ++ Q8 b).size + qeK.size ≤ 1099511627776 by rw [Qo]; omega)]
    rw [if_pos (show ((qdh ++ Q8 b) ++ qeK).size + (qeO k f i lo hi s t l e 0).size ≤ 1099511627776 by rw [Qo, Qo]; omega), if_neg (by rw [beq_self_eq_true]; simp)]
    exact qoY k f i lo hi s t l e 0 qd a b htell _ _ _ BIG 0 (Nat.zero_add _) (by rw [qaj]; omega)
   ·rw [if_pos (bne_iff_ne.2 hb), qfd.pure]
  ·rw [if_pos (bne_iff_ne.2 ha), qfd.pure]
 ·rw [if_pos (bne_iff_ne.2 hb0), qfd.pure]
theorem qeW : EnvOk Tryz.prog qbo := env_ok (l := [(7, qeq), (10, Z9), (13, ZJ), (20, qaR), (21, ZD), (22, QU), (23, qaz), (24, qay)]) th_ok qX ⟨⟨qn6, qmS⟩, ⟨qfp, qeV⟩, ⟨qdP, qdo⟩, ⟨qi0, qij⟩, ⟨qeD, qed⟩, ⟨qbU, qbx⟩, ⟨qgr, qfO⟩, ⟨qgq, qfN⟩, trivial⟩ _
theorem qip (qm qB qM qf qg qL qj qA qo qw : Int) (qh : LR) (a b : Int) (hl : za qh = true ∧ ZZ qh) : denF qbo loopN BIG Tryz.f5 [.raw] [.agg [.d tQi qm, .d tQi qB, .d tQi qM, .d tQi qf, .d tQi qg, .d tQi qL, .d tQi qj, .d tQi qA, .d tQi qo, .d tQi qw, .d (.sl tQr) qh], .d tQi a, .d tQi b] [] isTrue = some () := by
 rw [denF_any qeW.D ((zb.eq BIG qm qB qM qf qg qL qj qA qo qw qh a b).trans (qm7.pure qm qB qM qf qg qL qj qA qo qw qh a b hl)) (out := [.d .bool true]) (os := []) (fun rs ros hk => by
  unfold zb.k at hk
  split at hk
  ·first | (cases hk; exact ⟨rfl, rfl⟩) | (have e := Option.some.inj hk; rw [← e]; exact ⟨rfl, rfl⟩)
  ·cases hk)]
 rfl
set_option maxRecDepth 100000 in
theorem qh0 (os : Os) (started : os.Started) (H : Type) (enc : TypeId × Value → H) :
  ReturnsInHanded {} Tryz.checked os 5 .any (fun w qH => (Rows.dissectSameSpec.pre enc Tryz.prog Tryz.f5 [] false w qH ∧ laidMetH Tryz.prog qj7 w) ∧ sizedMet enc Tryz.prog Tryz.f5 (OpenSpec.ofChange Rows.dissectSameSpec) false w qH)
   (Rows.dissectSameSpec.post enc Tryz.prog Tryz.f5 false true false false) := by
 refine returnsInHanded_of_change_and (C := Tryz.checked) (X := fun w _ => laidMetH Tryz.prog qj7 w) (fun _ _ _ hh h => h.of_heap hh) Tryz.own started (by kernel_rfl) Tryz.func5
  (ChangeSpec.witness_shaped (enc := enc) (C := Tryz.checked) (os := os) (X := fun w _ => laidMetH Tryz.prog qj7 w) false (World.doorLaid Tryz.prog 400 os) #[.agg #[.int .i64 0, .int .i64 0, .int .i64 0, .int .i64 0, .int .i64 0, .int .i64 0, .int .i64 0, .int .i64 0, .int .i64 0, .int .i64 0, .slice none 0 0], .int .i64 0, .int .i64 0] 8 rfl (World.shaped_of_RefB (by kernel_rfl) (by kernel_rfl)) (by kernel_rfl) (by kernel_rfl) (by kernel_rfl) (qqv os _)) ?_
 intro W qb qH ds gs before hval hW _ hwt hL _
 exact law_contract qeW Tryz.func5 rfl [((.pair tQi (.pair tQi (.pair tQi (.pair (.pair tQi tQi) (.pair tQi (.pair tQi (.pair tQi (.pair tQi (.pair tQi (.sl tQr)))))))))), true), (.int .i64, false), (.int .i64, false)] (tb := 4) (by kernel_rfl) (by kernel_rfl) (by kernel_rfl) rfl
  (fun ds h => by match ds, h with | [_, _, _], _ => rfl) Tryz.laidOut Tryz.mapsRow Tryz.slicesSize (fun y hg => ⟨BIG, qip y.1.1 y.1.2.1 y.1.2.2.1 y.1.2.2.2.1.1 y.1.2.2.2.1.2 y.1.2.2.2.2.1 y.1.2.2.2.2.2.1 y.1.2.2.2.2.2.2.1 y.1.2.2.2.2.2.2.2.1 y.1.2.2.2.2.2.2.2.2.1 y.1.2.2.2.2.2.2.2.2.2 y.2.1 y.2.2.1 ⟨qpu (hg.1.2.2.2.2.2.2.2.2.2), qpv (hg.1.2.2.2.2.2.2.2.2.2)⟩⟩) W qb qH ds gs before hval hW hwt (qpo hL)
theorem qkh : Rows.DissectSameSaid :=
 OpenClaim.holds_of_wide 5 Tryz.f5 rfl rfl rfl rfl rfl rfl rfl ⟨rfl, rfl, rfl, rfl, rfl⟩ rfl rfl rfl rfl rfl (by kernel_rfl) Tryz.func5 (by kernel_rfl)
  (of_decide_eq_true (by kernel_rfl)) (by unfold Func.isWrapper; first | (rw [if_pos (by decide +kernel)]; kernel_rfl) | (rw [if_neg (by decide +kernel)]; exact ⟨rfl, rfl⟩))
  (fun os started H enc _ => qh0 os started H enc)
theorem dissectSame_holds : Rows.DissectSameCardSaid :=
 Claim7.holds_tied_plain_at .later [] [.data] true (true, "7f56fd0b3a73f309c59e77fbd84be1dadc43cc16a837bd7876cbbb970f836cba") false
  qkh (fun _ h => by cases h) (by kernel_rfl) (fun _ h => by cases h) dissectSame_row_tie rfl ⟨rfl, rfl⟩ (by kernel_rfl) rfl
  (fun f fn hf hfn => by
   obtain rfl : f = 5 := Option.some.inj ((show Tryz.prog.funcNamed "polyglot/polyglotlaw41.DissectSame" = some 5 by kernel_rfl).symm.trans hf) |>.symm
   obtain rfl : fn = Tryz.f5 := (Option.some.inj (Tryz.func5.symm.trans hfn)).symm
   exact ⟨by kernel_rfl, fun j t ht => by
    have hm : t ∈ Tryz.f5.params.toList := by simpa using Array.mem_of_getElem? ht
    have hall : (Tryz.f5.params.toList.all fun u => !Tryz.prog.wantsStandIn u) = true := by kernel_rfl
    exact (show Tryz.prog.wantsStandIn t = false by simpa using List.all_eq_true.1 hall t hm)⟩)
  (by kernel_rfl)
end
end Go.Proofs.YtneiiplppcjjlaaGreatDoor
