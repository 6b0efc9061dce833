/- ParcelBack, part 3: what the row leans on. -/
import Derived.Test.YtneiiplppcjjlaaGreatDoorZParcelBack2
set_option linter.unusedVariables false
set_option linter.unusedSimpArgs false
set_option maxRecDepth 100000
namespace Go.Proofs.YtneiiplppcjjlaaGreatDoor
open Go.Den
noncomputable section
def varint_Get.s4 (b : List Int) (x0 x1 : Int) : St := ⟨[.d (.sl (.int .u8)) (b), dD, dD, dD, dD, .d (.int .u64) x0, .d tQi ((0 : Int)), .d tQi ((2 : Int)), .dead, .dead, .d tQi x1, dD, dD, dD, dD, dD, dD, dD, dD, dD, dD, dD, dD, dD, dD, dD, dD, dD, dD, dD, dD, dD, dD, dD, dD, dD, dD, dD, dD, dD, dD, dD, dD, dD, dD, dD, dD, dD, dD, dD, .dead], ofL [], 0⟩
def varint_Get.p4 (fuel : Nat) (b : List Int) (k : Nat) := fun x0 x1 => lp varint_Get_E fuel Tryz.f133 [.raw, .raw, .raw] 0 varint_Get.k 4 [] k (varint_Get.s4 b x0 x1)
def varint_Get.b4 (b : List Int) (A4 : Int → Int → Option (Int × Int × Int)) (x0 : Int) (x1 : Int) : Option (Int × Int × Int) :=
 (if (decide (x1 < (10 : Int))) then (if (decide (x1 ≥ ((((List.length b)) : Nat) : Int))) then some ((0 : Int), (0 : Int), (2 : Int)) else (match (idx b x1) with | none => none | some y2 => (if (x1 == (9 : Int)) then (if (decide (y2 > (1 : Int))) then some ((0 : Int), (0 : Int), (4 : Int)) else (if ((IntKind.wrap .i64 ((7 : Int) * x1)) < (0 : Int)) then none else (if (decide (y2 < (128 : Int))) then (if (y2 == (0 : Int)) then (if (decide (x1 > (0 : Int))) then some ((0 : Int), (0 : Int), (4 : Int)) else some ((bits BinOp.or .u64 x0 (IntKind.wrap .u64 ((IntKind.wrap .u64 (bits BinOp.and .u8 y2 (127 : Int))) * ((2 : Int) ^ (Min.min (Int.toNat (IntKind.wrap .i64 ((7 : Int) * x1))) (IntKind.bits .u64)))))), (IntKind.wrap .i64 (x1 + (1 : Int))), (0 : Int))) else some ((bits BinOp.or .u64 x0 (IntKind.wrap .u64 ((IntKind.wrap .u64 (bits BinOp.and .u8 y2 (127 : Int))) * ((2 : Int) ^ (Min.min (Int.toNat (IntKind.wrap .i64 ((7 : Int) * x1))) (IntKind.bits .u64)))))), (IntKind.wrap .i64 (x1 + (1 : Int))), (0 : Int))) else A4 (bits BinOp.or .u64 x0 (IntKind.wrap .u64 ((IntKind.wrap .u64 (bits BinOp.and .u8 y2 (127 : Int))) * ((2 : Int) ^ (Min.min (Int.toNat (IntKind.wrap .i64 ((7 : Int) * x1))) (IntKind.bits .u64)))))) (IntKind.wrap .i64 (x1 + (1 : Int)))))) else (if ((IntKind.wrap .i64 ((7 : Int) * x1)) < (0 : Int)) then none else (if (decide (y2 < (128 : Int))) then (if (y2 == (0 : Int)) then (if (decide (x1 > (0 : Int))) then some ((0 : Int), (0 : Int), (4 : Int)) else some ((bits BinOp.or .u64 x0 (IntKind.wrap .u64 ((IntKind.wrap .u64 (bits BinOp.and .u8 y2 (127 : Int))) * ((2 : Int) ^ (Min.min (Int.toNat (IntKind.wrap .i64 ((7 : Int) * x1))) (IntKind.bits .u64)))))), (IntKind.wrap .i64 (x1 + (1 : Int))), (0 : Int))) else some ((bits BinOp.or .u64 x0 (IntKind.wrap .u64 ((IntKind.wrap .u64 (bits BinOp.and .u8 y2 (127 : Int))) * ((2 : Int) ^ (Min.min (Int.toNat (IntKind.wrap .i64 ((7 : Int) * x1))) (IntKind.bits .u64)))))), (IntKind.wrap .i64 (x1 + (1 : Int))), (0 : Int))) else A4 (bits BinOp.or .u64 x0 (IntKind.wrap .u64 ((IntKind.wrap .u64 (bits BinOp.and .u8 y2 (127 : Int))) * ((2 : Int) ^ (Min.min (Int.toNat (IntKind.wrap .i64 ((7 : Int) * x1))) (IntKind.bits .u64)))))) (IntKind.wrap .i64 (x1 + (1 : Int)))))))) else some ((0 : Int), (0 : Int), (2 : Int)))
def varint_Get.l4 (fuel : Nat) (b : List Int) : Nat → Int → Int → Option (Int × Int × Int)
 | 0, _, _ => none
 | k + 1, x0, x1 => varint_Get.b4 b (varint_Get.l4 fuel b k) x0 x1
def varint_Get.b (b : List Int) (E4 : Int → Int → Option (Int × Int × Int)) : Option (Int × Int × Int) :=
 E4 (0 : Int) (0 : Int)
def varint_Get.f (fuel : Nat) (b : List Int) : Option (Int × Int × Int) := varint_Get.b b (varint_Get.l4 fuel b fuel)
theorem varint_Get.l4_eq (fuel : Nat) (b : List Int) : ∀ k : Nat, varint_Get.p4 fuel b k = varint_Get.l4 fuel b k
 | 0 => by kernel_rfl
 | k + 1 => by
  refine Eq.trans (b := varint_Get.b4 b (varint_Get.p4 fuel b k)) (by kernel_rfl) ?_
  rw [varint_Get.l4_eq fuel b k]
  kernel_rfl
theorem varint_Get.eq (fuel : Nat) (b : List Int) : (denF varint_Get_E loopN fuel Tryz.f133 [.raw, .raw, .raw] [.d (.sl (.int .u8)) b] [] varint_Get.k) = varint_Get.f fuel b := by
 refine Eq.trans (b := varint_Get.b b (varint_Get.p4 fuel b fuel)) (by kernel_rfl) ?_
 rw [varint_Get.l4_eq fuel b fuel]
 kernel_rfl
def s_varint_Get : Den.Sum := ⟨[.dat (.sl (.int .u8)) false], fun args objs κ => match args, objs with
 | [.d (.sl (.int .u8)) b], [] => (match veil (varint_Get.f BIG b) with | none => none | some y => κ [.d (.int .u64) y.1, .d (.int .i64) y.2.1, .d (.int .i64) y.2.2] [])
 | _, _ => none⟩
theorem s_varint_Get_det : SumDet s_varint_Get := sdet fun _ _ _ _ => by
 unfold s_varint_Get
 simp only [veil_eq]
 split
 ·split <;> rfl
 ·rfl
theorem s_varint_Get_ok : SumOk Tryz.prog 133 s_varint_Get := by
 have hE : EnvOk Tryz.prog varint_Get_E := env_ok (l := []) th_ok any_ok trivial _
 refine sum_ok hE Tryz.func133 rfl (by kernel_rfl) s_varint_Get [.raw, .raw, .raw] varint_Get.k ?_
 intro R avs objs κ r h
 unfold s_varint_Get at h
 simp only [veil_eq] at h
 split at h
 ·rename_i b
  split at h
  ·cases h
  ·rename_i y hy
   refine ⟨BIG, _, _, _, (varint_Get.eq BIG b).trans hy, ?_, h⟩
   intro rs ros hk
   unfold varint_Get.k at hk
   split at hk
   ·first | (cases hk; exact ⟨rfl, rfl⟩) | (rw [← Option.some.inj hk]; exact ⟨rfl, rfl⟩)
   ·cases hk
 ·cases h
def xlate_of_c1_E : Env := ⟨th, gam [(57, s_enc)], fun i => ⟨[], [], []⟩⟩
def xlate_of_c1.k (rs : List AV) (os : List Den.Obj) : Option ((List Int) × Int) :=
 match rs, os with
 | [.d (.sl (.int .u8)) r0, .d (.int .i64) r1], [] => some (r0, r1)
 | _, _ => none
def xlate_of_c1.b (mKind mFrom mInc mSpanLo mSpanHi mSeq mTarget mLife mEpoch mBase : Int) (mRecs base : LR) : Option ((List Int) × Int) :=
 (if (smallRecs mRecs) then some ((encF mKind mFrom mInc mSpanLo mSpanHi mSeq mTarget mLife mEpoch mBase mRecs).1, (encF mKind mFrom mInc mSpanLo mSpanHi mSeq mTarget mLife mEpoch mBase mRecs).2) else none)
def xlate_of_c1.f (fuel : Nat) (mKind mFrom mInc mSpanLo mSpanHi mSeq mTarget mLife mEpoch mBase : Int) (mRecs base : LR) : Option ((List Int) × Int) := xlate_of_c1.b mKind mFrom mInc mSpanLo mSpanHi mSeq mTarget mLife mEpoch mBase mRecs base
theorem xlate_of_c1.eq (fuel : Nat) (mKind mFrom mInc mSpanLo mSpanHi mSeq mTarget mLife mEpoch mBase : Int) (mRecs base : LR) : (denF xlate_of_c1_E loopN fuel Tryz.f56 [.own 5 (.int .u8), .raw] [.agg [.d tQi mKind, .d tQi mFrom, .d tQi mInc, .d tQi mSpanLo, .d tQi mSpanHi, .d tQi mSeq, .d tQi mTarget, .d tQi mLife, .d tQi mEpoch, .d tQi mBase, .d (.sl tQr) mRecs], .d (.sl tQr) base] [] xlate_of_c1.k) = xlate_of_c1.f fuel mKind mFrom mInc mSpanLo mSpanHi mSeq mTarget mLife mEpoch mBase mRecs base := by
 kernel_rfl
def s_xlate_of_c1 : Den.Sum := ⟨[.dat (.pair tQi (.pair tQi (.pair tQi (.pair (.pair tQi tQi) (.pair tQi (.pair tQi (.pair tQi (.pair tQi (.pair tQi (.sl tQr)))))))))) true, .dat (.sl tQr) false], fun args objs κ => match args, objs with
 | [.agg [.d (.int .i64) mKind, .d (.int .i64) mFrom, .d (.int .i64) mInc, .d (.int .i64) mSpanLo, .d (.int .i64) mSpanHi, .d (.int .i64) mSeq, .d (.int .i64) mTarget, .d (.int .i64) mLife, .d (.int .i64) mEpoch, .d (.int .i64) mBase, .d (.sl (.pair (.int .i64) (.pair (.int .i64) (.pair (.int .i64) (.pair (.pair (.int .i64) (.int .i64)) (.pair .bool (.sl (.pair (.int .i64) (.sl (.int .u8)))))))))) mRecs], .d (.sl (.pair (.int .i64) (.pair (.int .i64) (.pair (.int .i64) (.pair (.pair (.int .i64) (.int .i64)) (.pair .bool (.sl (.pair (.int .i64) (.sl (.int .u8)))))))))) base], [] => (match veil (xlate_of_c1.f BIG mKind mFrom mInc mSpanLo mSpanHi mSeq mTarget mLife mEpoch mBase mRecs base) with | none => none | some y => κ [.d (.sl (.int .u8)) y.1, .d (.int .i64) y.2] [])
 | _, _ => none⟩
theorem s_xlate_of_c1_det : SumDet s_xlate_of_c1 := sdet fun _ _ _ _ => by
 unfold s_xlate_of_c1
 simp only [veil_eq]
 split
 ·split <;> rfl
 ·rfl
theorem s_xlate_of_c1_ok : SumOk Tryz.prog 56 s_xlate_of_c1 := by
 have hE : EnvOk Tryz.prog xlate_of_c1_E := env_ok (l := [(57, s_enc)]) th_ok any_ok ⟨⟨s_enc_ok, s_enc_det⟩, trivial⟩ _
 refine sum_ok hE Tryz.func56 rfl (by kernel_rfl) s_xlate_of_c1 [.own 5 (.int .u8), .raw] xlate_of_c1.k ?_
 intro R avs objs κ r h
 unfold s_xlate_of_c1 at h
 simp only [veil_eq] at h
 split at h
 ·rename_i mKind mFrom mInc mSpanLo mSpanHi mSeq mTarget mLife mEpoch mBase mRecs base
  split at h
  ·cases h
  ·rename_i y hy
   refine ⟨BIG, _, _, _, (xlate_of_c1.eq BIG mKind mFrom mInc mSpanLo mSpanHi mSeq mTarget mLife mEpoch mBase mRecs base).trans hy, ?_, h⟩
   intro rs ros hk
   unfold xlate_of_c1.k at hk
   split at hk
   ·first | (cases hk; exact ⟨rfl, rfl⟩) | (rw [← Option.some.inj hk]; exact ⟨rfl, rfl⟩)
   ·cases hk
 ·cases h
def xlate_of_c2_E : Env := ⟨th, gam [(59, s_decb)], fun i => ⟨[], [], []⟩⟩
def xlate_of_c2.k (rs : List AV) (os : List Den.Obj) : Option (Int × Int × Int × Int × Int × Int × Int × Int × Int × Int × LR × Int) :=
 match rs, os with
 | [.agg [.d (.int .i64) r0, .d (.int .i64) r1, .d (.int .i64) r2, .d (.int .i64) r3, .d (.int .i64) r4, .d (.int .i64) r5, .d (.int .i64) r6, .d (.int .i64) r7, .d (.int .i64) r8, .d (.int .i64) r9, .d (.sl (.pair (.int .i64) (.pair (.int .i64) (.pair (.int .i64) (.pair (.pair (.int .i64) (.int .i64)) (.pair .bool (.sl (.pair (.int .i64) (.sl (.int .u8)))))))))) r10], .d (.int .i64) r11], [] => some (r0, r1, r2, r3, r4, r5, r6, r7, r8, r9, r10, r11)
 | _, _ => none
def xlate_of_c2.b (b : List Int) (base : LR) : Option (Int × Int × Int × Int × Int × Int × Int × Int × Int × Int × LR × Int) :=
 (if (inB b) then (match (veil (Option.some (decF b))) with | none => none | some y0 => some (y0.1, y0.2.1, y0.2.2.1, y0.2.2.2.1, y0.2.2.2.2.1, y0.2.2.2.2.2.1, y0.2.2.2.2.2.2.1, 0, 0, 0, y0.2.2.2.2.2.2.2.1, y0.2.2.2.2.2.2.2.2)) else none)
def xlate_of_c2.f (fuel : Nat) (b : List Int) (base : LR) : Option (Int × Int × Int × Int × Int × Int × Int × Int × Int × Int × LR × Int) := xlate_of_c2.b b base
theorem xlate_of_c2.eq (fuel : Nat) (b : List Int) (base : LR) : (denF xlate_of_c2_E loopN fuel Tryz.f58 [.dat (.pair tQi (.pair tQi (.pair tQi (.pair (.pair tQi tQi) (.pair tQi (.pair tQi (.pair tQi (.pair tQi (.pair tQi (.sl tQr)))))))))) true, .raw] [.d (.sl (.int .u8)) b, .d (.sl tQr) base] [] xlate_of_c2.k) = xlate_of_c2.f fuel b base := by
 kernel_rfl
def s_xlate_of_c2 : Den.Sum := ⟨[.dat (.sl (.int .u8)) false, .dat (.sl tQr) false], fun args objs κ => match args, objs with
 | [.d (.sl (.int .u8)) b, .d (.sl (.pair (.int .i64) (.pair (.int .i64) (.pair (.int .i64) (.pair (.pair (.int .i64) (.int .i64)) (.pair .bool (.sl (.pair (.int .i64) (.sl (.int .u8)))))))))) base], [] => (match veil (xlate_of_c2.f BIG b base) with | none => none | some y => κ [.agg [.d (.int .i64) y.1, .d (.int .i64) y.2.1, .d (.int .i64) y.2.2.1, .d (.int .i64) y.2.2.2.1, .d (.int .i64) y.2.2.2.2.1, .d (.int .i64) y.2.2.2.2.2.1, .d (.int .i64) y.2.2.2.2.2.2.1, .d (.int .i64) y.2.2.2.2.2.2.2.1, .d (.int .i64) y.2.2.2.2.2.2.2.2.1, .d (.int .i64) y.2.2.2.2.2.2.2.2.2.1, .d (.sl (.pair (.int .i64) (.pair (.int .i64) (.pair (.int .i64) (.pair (.pair (.int .i64) (.int .i64)) (.pair .bool (.sl (.pair (.int .i64) (.sl (.int .u8)))))))))) y.2.2.2.2.2.2.2.2.2.2.1], .d (.int .i64) y.2.2.2.2.2.2.2.2.2.2.2] [])
 | _, _ => none⟩
theorem s_xlate_of_c2_det : SumDet s_xlate_of_c2 := sdet fun _ _ _ _ => by
 unfold s_xlate_of_c2
 simp only [veil_eq]
 split
 ·split <;> rfl
 ·rfl
theorem s_xlate_of_c2_ok : SumOk Tryz.prog 58 s_xlate_of_c2 := by
 have hE : EnvOk Tryz.prog xlate_of_c2_E := env_ok (l := [(59, s_decb)]) th_ok any_ok ⟨⟨s_decb_ok, s_decb_det⟩, trivial⟩ _
 refine sum_ok hE Tryz.func58 rfl (by kernel_rfl) s_xlate_of_c2 [.dat (.pair tQi (.pair tQi (.pair tQi (.pair (.pair tQi tQi) (.pair tQi (.pair tQi (.pair tQi (.pair tQi (.pair tQi (.sl tQr)))))))))) true, .raw] xlate_of_c2.k ?_
 intro R avs objs κ r h
 unfold s_xlate_of_c2 at h
 simp only [veil_eq] at h
 split at h
 ·rename_i b base
  split at h
  ·cases h
  ·rename_i y hy
   refine ⟨BIG, _, _, _, (xlate_of_c2.eq BIG b base).trans hy, ?_, h⟩
   intro rs ros hk
   unfold xlate_of_c2.k at hk
   split at hk
   ·first | (cases hk; exact ⟨rfl, rfl⟩) | (rw [← Option.some.inj hk]; exact ⟨rfl, rfl⟩)
   ·cases hk
 ·cases h
def xlate_of_c3_E : Env := ⟨th, gam [(61, s_enc2)], fun i => ⟨[], [], []⟩⟩
def xlate_of_c3.k (rs : List AV) (os : List Den.Obj) : Option ((List Int) × Int) :=
 match rs, os with
 | [.d (.sl (.int .u8)) r0, .d (.int .i64) r1], [] => some (r0, r1)
 | _, _ => none
def xlate_of_c3.b (mKind mFrom mInc mSpanLo mSpanHi mSeq mTarget mLife mEpoch mBase : Int) (mRecs base : LR) : Option ((List Int) × Int) :=
 (if (smallRecs mRecs) then some ((enc2 mKind mFrom mInc mSpanLo mSpanHi mSeq mTarget mLife mEpoch mBase mRecs).1, (enc2 mKind mFrom mInc mSpanLo mSpanHi mSeq mTarget mLife mEpoch mBase mRecs).2) else none)
def xlate_of_c3.f (fuel : Nat) (mKind mFrom mInc mSpanLo mSpanHi mSeq mTarget mLife mEpoch mBase : Int) (mRecs base : LR) : Option ((List Int) × Int) := xlate_of_c3.b mKind mFrom mInc mSpanLo mSpanHi mSeq mTarget mLife mEpoch mBase mRecs base
theorem xlate_of_c3.eq (fuel : Nat) (mKind mFrom mInc mSpanLo mSpanHi mSeq mTarget mLife mEpoch mBase : Int) (mRecs base : LR) : (denF xlate_of_c3_E loopN fuel Tryz.f60 [.own 5 (.int .u8), .raw] [.agg [.d tQi mKind, .d tQi mFrom, .d tQi mInc, .d tQi mSpanLo, .d tQi mSpanHi, .d tQi mSeq, .d tQi mTarget, .d tQi mLife, .d tQi mEpoch, .d tQi mBase, .d (.sl tQr) mRecs], .d (.sl tQr) base] [] xlate_of_c3.k) = xlate_of_c3.f fuel mKind mFrom mInc mSpanLo mSpanHi mSeq mTarget mLife mEpoch mBase mRecs base := by
 kernel_rfl
def s_xlate_of_c3 : Den.Sum := ⟨[.dat (.pair tQi (.pair tQi (.pair tQi (.pair (.pair tQi tQi) (.pair tQi (.pair tQi (.pair tQi (.pair tQi (.pair tQi (.sl tQr)))))))))) true, .dat (.sl tQr) false], fun args objs κ => match args, objs with
 | [.agg [.d (.int .i64) mKind, .d (.int .i64) mFrom, .d (.int .i64) mInc, .d (.int .i64) mSpanLo, .d (.int .i64) mSpanHi, .d (.int .i64) mSeq, .d (.int .i64) mTarget, .d (.int .i64) mLife, .d (.int .i64) mEpoch, .d (.int .i64) mBase, .d (.sl (.pair (.int .i64) (.pair (.int .i64) (.pair (.int .i64) (.pair (.pair (.int .i64) (.int .i64)) (.pair .bool (.sl (.pair (.int .i64) (.sl (.int .u8)))))))))) mRecs], .d (.sl (.pair (.int .i64) (.pair (.int .i64) (.pair (.int .i64) (.pair (.pair (.int .i64) (.int .i64)) (.pair .bool (.sl (.pair (.int .i64) (.sl (.int .u8)))))))))) base], [] => (match veil (xlate_of_c3.f BIG mKind mFrom mInc mSpanLo mSpanHi mSeq mTarget mLife mEpoch mBase mRecs base) with | none => none | some y => κ [.d (.sl (.int .u8)) y.1, .d (.int .i64) y.2] [])
 | _, _ => none⟩
theorem s_xlate_of_c3_det : SumDet s_xlate_of_c3 := sdet fun _ _ _ _ => by
 unfold s_xlate_of_c3
 simp only [veil_eq]
 split
 ·split <;> rfl
 ·rfl
theorem s_xlate_of_c3_ok : SumOk Tryz.prog 60 s_xlate_of_c3 := by
 have hE : EnvOk Tryz.prog xlate_of_c3_E := env_ok (l := [(61, s_enc2)]) th_ok any_ok ⟨⟨s_enc2_ok, s_enc2_det⟩, trivial⟩ _
 refine sum_ok hE Tryz.func60 rfl (by kernel_rfl) s_xlate_of_c3 [.own 5 (.int .u8), .raw] xlate_of_c3.k ?_
 intro R avs objs κ r h
 unfold s_xlate_of_c3 at h
 simp only [veil_eq] at h
 split at h
 ·rename_i mKind mFrom mInc mSpanLo mSpanHi mSeq mTarget mLife mEpoch mBase mRecs base
  split at h
  ·cases h
  ·rename_i y hy
   refine ⟨BIG, _, _, _, (xlate_of_c3.eq BIG mKind mFrom mInc mSpanLo mSpanHi mSeq mTarget mLife mEpoch mBase mRecs base).trans hy, ?_, h⟩
   intro rs ros hk
   unfold xlate_of_c3.k at hk
   split at hk
   ·first | (cases hk; exact ⟨rfl, rfl⟩) | (rw [← Option.some.inj hk]; exact ⟨rfl, rfl⟩)
   ·cases hk
 ·cases h
def xlate_of_c4_E : Env := ⟨th, gam [(63, s_dec2b)], fun i => ⟨[], [], []⟩⟩
def xlate_of_c4.k (rs : List AV) (os : List Den.Obj) : Option (Int × Int × Int × Int × Int × Int × Int × Int × Int × Int × LR × Int) :=
 match rs, os with
 | [.agg [.d (.int .i64) r0, .d (.int .i64) r1, .d (.int .i64) r2, .d (.int .i64) r3, .d (.int .i64) r4, .d (.int .i64) r5, .d (.int .i64) r6, .d (.int .i64) r7, .d (.int .i64) r8, .d (.int .i64) r9, .d (.sl (.pair (.int .i64) (.pair (.int .i64) (.pair (.int .i64) (.pair (.pair (.int .i64) (.int .i64)) (.pair .bool (.sl (.pair (.int .i64) (.sl (.int .u8)))))))))) r10], .d (.int .i64) r11], [] => some (r0, r1, r2, r3, r4, r5, r6, r7, r8, r9, r10, r11)
 | _, _ => none
def xlate_of_c4.b (b : List Int) (base : LR) : Option (Int × Int × Int × Int × Int × Int × Int × Int × Int × Int × LR × Int) :=
 (if (inS b) then (match (veil (Option.some (decF2 b))) with | none => none | some y0 => some (y0.1, y0.2.1, y0.2.2.1, y0.2.2.2.1, y0.2.2.2.2.1, y0.2.2.2.2.2.1, y0.2.2.2.2.2.2.1, 0, 0, 0, y0.2.2.2.2.2.2.2.1, y0.2.2.2.2.2.2.2.2)) else none)
def xlate_of_c4.f (fuel : Nat) (b : List Int) (base : LR) : Option (Int × Int × Int × Int × Int × Int × Int × Int × Int × Int × LR × Int) := xlate_of_c4.b b base
theorem xlate_of_c4.eq (fuel : Nat) (b : List Int) (base : LR) : (denF xlate_of_c4_E loopN fuel Tryz.f62 [.dat (.pair tQi (.pair tQi (.pair tQi (.pair (.pair tQi tQi) (.pair tQi (.pair tQi (.pair tQi (.pair tQi (.pair tQi (.sl tQr)))))))))) true, .raw] [.d (.sl (.int .u8)) b, .d (.sl tQr) base] [] xlate_of_c4.k) = xlate_of_c4.f fuel b base := by
 kernel_rfl
def s_xlate_of_c4 : Den.Sum := ⟨[.dat (.sl (.int .u8)) false, .dat (.sl tQr) false], fun args objs κ => match args, objs with
 | [.d (.sl (.int .u8)) b, .d (.sl (.pair (.int .i64) (.pair (.int .i64) (.pair (.int .i64) (.pair (.pair (.int .i64) (.int .i64)) (.pair .bool (.sl (.pair (.int .i64) (.sl (.int .u8)))))))))) base], [] => (match veil (xlate_of_c4.f BIG b base) with | none => none | some y => κ [.agg [.d (.int .i64) y.1, .d (.int .i64) y.2.1, .d (.int .i64) y.2.2.1, .d (.int .i64) y.2.2.2.1, .d (.int .i64) y.2.2.2.2.1, .d (.int .i64) y.2.2.2.2.2.1, .d (.int .i64) y.2.2.2.2.2.2.1, .d (.int .i64) y.2.2.2.2.2.2.2.1, .d (.int .i64) y.2.2.2.2.2.2.2.2.1, .d (.int .i64) y.2.2.2.2.2.2.2.2.2.1, .d (.sl (.pair (.int .i64) (.pair (.int .i64) (.pair (.int .i64) (.pair (.pair (.int .i64) (.int .i64)) (.pair .bool (.sl (.pair (.int .i64) (.sl (.int .u8)))))))))) y.2.2.2.2.2.2.2.2.2.2.1], .d (.int .i64) y.2.2.2.2.2.2.2.2.2.2.2] [])
 | _, _ => none⟩
theorem s_xlate_of_c4_det : SumDet s_xlate_of_c4 := sdet fun _ _ _ _ => by
 unfold s_xlate_of_c4
 simp only [veil_eq]
 split
 ·split <;> rfl
 ·rfl
theorem s_xlate_of_c4_ok : SumOk Tryz.prog 62 s_xlate_of_c4 := by
 have hE : EnvOk Tryz.prog xlate_of_c4_E := env_ok (l := [(63, s_dec2b)]) th_ok any_ok ⟨⟨s_dec2b_ok, s_dec2b_det⟩, trivial⟩ _
 refine sum_ok hE Tryz.func62 rfl (by kernel_rfl) s_xlate_of_c4 [.dat (.pair tQi (.pair tQi (.pair tQi (.pair (.pair tQi tQi) (.pair tQi (.pair tQi (.pair tQi (.pair tQi (.pair tQi (.sl tQr)))))))))) true, .raw] xlate_of_c4.k ?_
 intro R avs objs κ r h
 unfold s_xlate_of_c4 at h
 simp only [veil_eq] at h
 split at h
 ·rename_i b base
  split at h
  ·cases h
  ·rename_i y hy
   refine ⟨BIG, _, _, _, (xlate_of_c4.eq BIG b base).trans hy, ?_, h⟩
   intro rs ros hk
   unfold xlate_of_c4.k at hk
   split at hk
   ·first | (cases hk; exact ⟨rfl, rfl⟩) | (rw [← Option.some.inj hk]; exact ⟨rfl, rfl⟩)
   ·cases hk
 ·cases h
def pv (top : Bool) : Nat → List Int → Option (Int × List Int)
 | _, [] => none
 | 0, c :: r => if c > 1 then none else if c = 0 then none else some (c, r)
 | k + 1, c :: r => if c < 128 then (if c = 0 ∧ top = false then none else some (c, r)) else
   match pv false k r with
   | some (v, s) => some (c - 128 + 128 * v, s)
   | none => none
theorem pv_sound : ∀ (k : Nat) (top : Bool) (l : List Int), (∀ c ∈ l, 0 ≤ c ∧ c ≤ 255) → ∀ v r, pv top k l = some (v, r) →
  l = viF k v ++ r ∧ 0 ≤ v ∧ v < 2 * 128 ^ k ∧ (top = false → 1 ≤ v) := by
 intro k
 induction k with
 | zero =>
  intro top l hb v r h
  cases l with
  | nil => rw [pv] at h; cases h
  | cons c l =>
   obtain ⟨c0, c1⟩ := hb c (List.mem_cons_self ..)
   rw [pv] at h
   split at h
   ·cases h
   ·split at h
    ·cases h
    ·cases h
     refine ⟨rfl, c0, by simp; omega, fun _ => by omega⟩
 | succ k ih =>
  intro top l hb v r h
  cases l with
  | nil => rw [pv] at h; cases h
  | cons c l =>
   obtain ⟨c0, c1⟩ := hb c (List.mem_cons_self ..)
   have hp : (1 : Int) ≤ 128 ^ k := Int.pow_pos (by decide)
   rw [pv] at h
   split at h
   ·rename_i hc
    split at h
    ·cases h
    ·rename_i hz
     have hz : ¬ (c = 0 ∧ top = false) := hz
     obtain ⟨rfl, rfl⟩ : c = v ∧ l = r := by cases h; exact ⟨rfl, rfl⟩
     refine ⟨?_, c0, ?_, fun ht => ?_⟩
     ·rw [viF, if_neg (by omega)]; rfl
     ·rw [Int.pow_succ]; generalize (128 : Int) ^ k = M at hp ⊢; omega
     ·by_cases hz' : c = 0
      ·exact absurd ⟨hz', ht⟩ hz
      ·omega
   ·rename_i hc
    split at h
    ·rename_i w s hw
     cases h
     obtain ⟨e, w0, w1, w2⟩ := ih false l (fun c h => hb c (List.mem_cons_of_mem _ h)) w _ hw
     have w2 := w2 rfl
     refine ⟨?_, by omega, ?_, fun _ => by omega⟩
     ·rw [viF, if_pos (by omega), show (c - 128 + 128 * w) % 128 + 128 = c from by omega, show (c - 128 + 128 * w) / 128 = w from by omega, e]; rfl
     ·rw [Int.pow_succ]; generalize (128 : Int) ^ k = M at hp w1 ⊢; omega
    ·cases h
theorem pv_back : ∀ (k : Nat) (top : Bool) (v : Int) (r : List Int), 0 ≤ v → v < 2 * 128 ^ k → (top = false ∨ k = 0 → 1 ≤ v) → pv top k (viF k v ++ r) = some (v, r) := by
 intro k
 induction k with
 | zero =>
  intro top v r h0 h1 h2
  have := h2 (Or.inr rfl)
  simp at h1
  rw [viF]
  show pv top 0 (v :: r) = _
  rw [pv, if_neg (by omega), if_neg (by omega)]
 | succ k ih =>
  intro top v r h0 h1 h2
  rw [viF]
  have hp : (1 : Int) ≤ 128 ^ k := Int.pow_pos (by decide)
  by_cases hc : v ≥ 128
  ·rw [if_pos hc]
   show pv top (k + 1) ((v % 128 + 128) :: (viF k (v / 128) ++ r)) = _
   rw [pv, if_neg (by omega), ih false (v / 128) r (by omega) (by rw [Int.pow_succ] at h1; generalize (128 : Int) ^ k = M at hp h1 ⊢; omega) (fun _ => by omega)]
   show some (v % 128 + 128 - 128 + 128 * (v / 128), r) = _
   rw [show v % 128 + 128 - 128 + 128 * (v / 128) = v from by omega]
  ·rw [if_neg hc]
   show pv top (k + 1) (v :: r) = _
   rw [pv, if_pos (by omega), if_neg]
   intro ⟨a, b⟩
   have := h2 (Or.inl b)
   omega
def pV (l : List Int) : Option (Int × List Int) := pv true 9 l
theorem pV_sound {l : List Int} (hb : ∀ c ∈ l, 0 ≤ c ∧ c ≤ 255) {v : Int} {r : List Int} (h : pV l = some (v, r)) : l = vi v ++ r ∧ 0 ≤ v ∧ v < 18446744073709551616 := by
 obtain ⟨a, b, c, _⟩ := pv_sound 9 true l hb v r h
 exact ⟨a, b, by simpa using c⟩
theorem pV_back {v : Int} (r : List Int) (h0 : 0 ≤ v) (h1 : v < 18446744073709551616) : pV (vi v ++ r) = some (v, r) :=
 pv_back 9 true v r h0 (by simpa using h1) (fun h => by simp at h)
theorem and127_tab : (List.range 256).all (fun n => bits BinOp.and .u8 (n : Int) 127 == (n : Int) % 128) = true := by kernel_rfl
theorem and127 (c : Int) (h0 : 0 ≤ c) (h1 : c ≤ 255) : bits BinOp.and .u8 c 127 = c % 128 := by
 have := List.all_eq_true.1 and127_tab c.toNat (by simp; omega)
 rw [show ((c.toNat : Nat) : Int) = c from by omega] at this
 simpa using this
theorem or_high (x y : Int) (m : Nat) (h0 : 0 ≤ x) (h1 : x < 2 ^ m) (y0 : 0 ≤ y) (hy : y * 2 ^ m < 18446744073709551616) (hx : x + y * 2 ^ m < 18446744073709551616) : bits BinOp.or .u64 x (y * 2 ^ m) = x + y * 2 ^ m := by
 obtain ⟨a, rfl⟩ := Int.eq_ofNat_of_zero_le h0
 obtain ⟨b, rfl⟩ := Int.eq_ofNat_of_zero_le y0
 have e2 : ((b : Int) * 2 ^ m) = ((b * 2 ^ m : Nat) : Int) := by simp
 rw [e2] at hy hx ⊢
 have h1' : a < 2 ^ m := by
  have : ((2 : Int) ^ m) = ((2 ^ m : Nat) : Int) := by simp
  rw [this] at h1
  exact Int.ofNat_lt.1 h1
 unfold bits
 dsimp only
 have b64 : IntKind.bits .u64 = 64 := rfl
 have t1 : (BitVec.ofInt (IntKind.bits .u64) (a : Int)).toNat = a := by
  rw [b64, BitVec.ofInt_natCast, BitVec.toNat_ofNat, Nat.mod_eq_of_lt (by omega)]
 have t2 : (BitVec.ofInt (IntKind.bits .u64) ((b * 2 ^ m : Nat) : Int)).toNat = b * 2 ^ m := by
  rw [b64, BitVec.ofInt_natCast, BitVec.toNat_ofNat, Nat.mod_eq_of_lt (by omega)]
 rw [BitVec.toNat_or, t1, t2]
 have t3 : a ||| b * 2 ^ m = a + b * 2 ^ m := by
  rw [Nat.or_comm, Nat.mul_comm, ← Nat.two_pow_add_eq_or_of_lt h1']
  omega
 rw [t3, wrapU64 _ (by omega) (by omega)]
 omega
theorem u64bits : IntKind.bits .u64 = 64 := rfl
theorem Get.loop (fuel : Nat) (b : List Int) (hb : ∀ c ∈ b, 0 ≤ c ∧ c ≤ 255) (hl : b.length < 1099511600000) : ∀ (j k : Nat) (i : Nat) (x : Int), i + j = 9 → j < k → i ≤ b.length → 0 ≤ x → x < 2 ^ (7 * i) →
  match pv (i == 0) j (b.drop i) with
  | some (v, r) => varint_Get.l4 fuel b k x (i : Int) = some (x + v * 2 ^ (7 * i), (b.length : Int) - (r.length : Int), 0)
  | none => ∃ e, (e = 2 ∨ e = 4) ∧ varint_Get.l4 fuel b k x (i : Int) = some (0, 0, e) := by
 intro j
 induction j with
 | zero =>
  intro k i x hi hk hle x0 x1
  obtain ⟨k, rfl⟩ : ∃ k', k = k' + 1 := ⟨k - 1, by omega⟩
  obtain rfl : i = 9 := by omega
  rw [varint_Get.l4]
  unfold varint_Get.b4
  rw [if_pos (by simp)]
  by_cases hlt : 9 < b.length
  ·rw [if_neg (by simp; omega), idx_at, List.getElem?_eq_getElem hlt, ← List.getElem_cons_drop hlt]
   dsimp only
   obtain ⟨c0, c1⟩ := hb _ (List.getElem_mem hlt)
   have hd : (b.drop (9 + 1)).length = b.length - 10 := by simp
   generalize b[9] = c at c0 c1 ⊢
   generalize b.drop (9 + 1) = rest at hd ⊢
   rw [pv, show ((((9 : Nat)) : Int) == (9 : Int)) = true from rfl, if_pos (c := true = true) rfl]
   by_cases hc : c > 1
   ·rw [if_pos hc, if_pos (c := decide (c > 1) = true) (by simpa using hc)]
    exact ⟨4, Or.inr rfl, rfl⟩
   ·rw [if_neg hc, if_neg (c := decide (c > 1) = true) (by simpa using hc), if_neg (c := IntKind.wrap .i64 ((7 : Int) * ((9 : Nat) : Int)) < 0) (by decide), if_pos (c := decide (c < 128) = true) (by simp; omega)]
    by_cases hz : c = 0
    ·rw [if_pos hz, if_pos (c := (c == 0) = true) (by simpa using hz), if_pos (c := decide ((((9 : Nat)) : Int) > 0) = true) (by simp)]
     exact ⟨4, Or.inr rfl, rfl⟩
    ·rw [if_neg hz, if_neg (c := (c == 0) = true) (by simpa using hz)]
     obtain rfl : c = 1 := by omega
     dsimp only
     have e7 : Int.toNat (IntKind.wrap .i64 ((7 : Int) * ((9 : Nat) : Int))) = 63 := by decide
     rw [and127 1 (by decide) (by decide), e7, u64bits, show Min.min 63 64 = 63 from rfl, wrapU64 ((1 : Int) % 128) (by decide) (by decide), wrapU64 _ (by decide) (by decide), or_high x _ 63 x0 (by simpa using x1) (by decide) (by decide) (by simp at x1 ⊢; omega)]
     rw [wrap_small _ (by omega) (by omega)]
     simp
     omega
  ·rw [if_pos (by simp; omega), List.drop_of_length_le (by omega), pv]
   exact ⟨2, Or.inl rfl, rfl⟩
 | succ j ih =>
  intro k i x hi hk hle x0 x1
  obtain ⟨k, rfl⟩ : ∃ k', k = k' + 1 := ⟨k - 1, by omega⟩
  rw [varint_Get.l4]
  unfold varint_Get.b4
  rw [if_pos (by simp; omega)]
  by_cases hlt : i < b.length
  ·rw [if_neg (by simp; omega), idx_at, List.getElem?_eq_getElem hlt, ← List.getElem_cons_drop hlt]
   dsimp only
   obtain ⟨c0, c1⟩ := hb _ (List.getElem_mem hlt)
   have hd : (b.drop (i + 1)).length = b.length - (i + 1) := by simp
   have IH := ih k (i + 1)
   generalize b[i] = c at c0 c1 ⊢
   generalize b.drop (i + 1) = rest at hd IH ⊢
   have w7 : IntKind.wrap .i64 ((7 : Int) * (i : Int)) = ((7 * i : Nat) : Int) := by rw [wrap_small _ (by omega) (by omega)]; omega
   have w1 : IntKind.wrap .i64 ((i : Int) + 1) = ((i + 1 : Nat) : Int) := by rw [wrap_small _ (by omega) (by omega)]; omega
   have hm : Min.min (Int.toNat ((7 * i : Nat) : Int)) 64 = 7 * i := by rw [Int.toNat_natCast]; omega
   have hpos : (1 : Int) ≤ 2 ^ (7 * i) := Int.pow_pos (by decide)
   have hbig : (2 : Int) ^ (7 * i) ≤ 2 ^ 56 := by
    have : (2 : Nat) ^ (7 * i) ≤ 2 ^ 56 := Nat.pow_le_pow_right (by decide) (by omega)
    exact_mod_cast this
   have hs : (2 : Int) ^ (7 * (i + 1)) = 2 ^ (7 * i) * 128 := by rw [show 7 * (i + 1) = 7 * i + 7 from by omega, Int.pow_add]; rfl
   rw [pv, if_neg (c := ((i : Int) == 9) = true) (by simp; omega), w7, w1, u64bits, hm, if_neg (c := ((7 * i : Nat) : Int) < 0) (by omega), and127 c c0 c1, wrapU64 (c % 128) (by omega) (by omega)]
   have hq : c % 128 * 2 ^ (7 * i) < 18446744073709551616 ∧ x + c % 128 * 2 ^ (7 * i) < 2 ^ (7 * i) * 128 ∧ 0 ≤ c % 128 * 2 ^ (7 * i) ∧ x + c % 128 * 2 ^ (7 * i) < 18446744073709551616 := by
    have a1 : c % 128 * 2 ^ (7 * i) ≤ 127 * 2 ^ (7 * i) := Int.mul_le_mul_of_nonneg_right (by omega) (by omega)
    have a2 : 0 ≤ c % 128 * 2 ^ (7 * i) := Int.mul_nonneg (by omega) (by omega)
    generalize c % 128 * 2 ^ (7 * i) = Q at a1 a2 ⊢
    generalize (2 : Int) ^ (7 * i) = M at a1 x1 hbig ⊢
    simp at hbig
    omega
   rw [wrapU64 _ hq.2.2.1 hq.1, or_high x _ (7 * i) x0 x1 (by omega) hq.1 hq.2.2.2]
   by_cases hc : c < 128
   ·rw [if_pos hc, if_pos (c := decide (c < 128) = true) (by simpa using hc)]
    by_cases hz : c = 0
    ·rw [if_pos (c := (c == 0) = true) (by simpa using hz)]
     by_cases hi0 : i = 0
     ·subst hi0
      rw [if_neg (c := decide ((((0 : Nat)) : Int) > 0) = true) (by simp), if_neg (by simp)]
      subst hz
      simp
      omega
     ·rw [if_pos (c := decide ((i : Int) > 0) = true) (by simp; omega), if_pos ⟨hz, by simpa using hi0⟩]
      exact ⟨4, Or.inr rfl, rfl⟩
    ·rw [if_neg (fun h => hz h.1), if_neg (c := (c == 0) = true) (by simpa using hz)]
     rw [show c % 128 = c from by omega]
     simp
     omega
   ·rw [if_neg hc, if_neg (c := decide (c < 128) = true) (by simpa using hc)]
    have := IH (x + c % 128 * 2 ^ (7 * i)) (by omega) (by omega) (by omega) (by omega) (by rw [hs]; exact hq.2.1)
    rw [show (i + 1 == 0) = false from rfl] at this
    split at this
    ·rename_i v r hv
     rw [this, hs]
     refine congrArg (fun z => some (z, _)) ?_
     rw [show c % 128 = c - 128 from by omega, Int.add_mul, show 128 * v * 2 ^ (7 * i) = v * (2 ^ (7 * i) * 128) from by rw [Int.mul_comm 128 v, Int.mul_assoc, Int.mul_comm 128]]
     omega
    ·exact this
  ·rw [if_pos (by simp; omega), List.drop_of_length_le (by omega), pv]
   exact ⟨2, Or.inl rfl, rfl⟩
theorem Get.pure (b : List Int) (hb : ∀ c ∈ b, 0 ≤ c ∧ c ≤ 255) (hl : b.length < 1099511600000) :
  match pV b with
  | some (v, r) => varint_Get.f BIG b = some (v, (b.length : Int) - (r.length : Int), 0)
  | none => ∃ e, (e = 2 ∨ e = 4) ∧ varint_Get.f BIG b = some (0, 0, e) := by
 have := Get.loop BIG b hb hl 9 BIG 0 0 rfl (by rw [BIG_eq]; omega) (by omega) (by omega) (by simp)
 unfold varint_Get.f varint_Get.b pV
 simpa using this
def varint_From_E : Env := ⟨th, gam [(52, s_rnumb), (84, s_bad), (133, s_varint_Get)], fun i => if i = 2 then ⟨[0, 1, 6], [(6, 5, (.int .u8))], []⟩ else ⟨[], [], []⟩⟩
def varint_From.k (rs : List AV) (os : List Den.Obj) : Option (Int × Bool × (List Int) × Int × Bool) :=
 match rs, os with
 | [.d (.int .i64) r0, .d .bool r1], [.box [.d (.sl (.int .u8)) r2, .d (.int .i64) r3, .d .bool r4]] => some (r0, r1, r2, r3, r4)
 | _, _ => none
def varint_From.s2 (bs : List Int) (at0 : Int) (bad : Bool) (most x0 : Int) (x1 : Bool) (x2 : (List Int)) : St := ⟨[.ptr 0 0, .d tQi (most), dD, dD, dD, dD, .row 64, dD, dD, dD, dD, dD, dD, dD, dD, dD, dD, dD, dD, dD, dD, dD, dD, dD, dD, dD, dD, dD, dD, dD, dD, dD, dD, dD, dD, dD, dD, dD, dD, dD, dD, dD, dD, dD, .dead], ofL [(0, .box [.d (.sl (.int .u8)) (bs), .d tQi x0, .d .bool x1]), (64, .row 5 (.int .u8) x2 false)], 1⟩
def varint_From.p2 (fuel : Nat) (bs : List Int) (at0 : Int) (bad : Bool) (most : Int) (k : Nat) := fun x0 x1 x2 => lp varint_From_E fuel Tryz.f121 [.raw, .raw] 1 varint_From.k 2 [] k (varint_From.s2 bs at0 bad most x0 x1 x2)
def varint_From.b2 (bs : List Int) (at0 : Int) (bad : Bool) (most : Int) (A2 : Int → Bool → (List Int) → Option (Int × Bool × (List Int) × Int × Bool)) (x0 : Int) (x1 : Bool) (x2 : (List Int)) : Option (Int × Bool × (List Int) × Int × Bool) :=
 (if (decide (((((List.length x2)) : Nat) : Int) < (10 : Int))) then (if (atOk bs x0) then (match (veil (Option.some (readF bs (1 : Int) x0 x1))) with | none => none | some y3 => (if y3.2.2 then some ((0 : Int), false, bs, y3.2.1, y3.2.2) else (if ((((List.length x2) + (List.length ((IntKind.wrap .u8 y3.1) :: ([] : List Int)))) * (1 : Nat)) ≤ lim) then (if (decide (y3.1 < (128 : Int))) then (match (veil (varint_Get.f BIG (x2 ++ ((IntKind.wrap .u8 y3.1) :: ([] : List Int))))) with | none => none | some y4 => (if (y4.2.2 != (0 : Int)) then some ((0 : Int), false, bs, y3.2.1, y3.2.2) else (if (decide (most < (0 : Int))) then some ((0 : Int), false, bs, y3.2.1, y3.2.2) else (if (decide (y4.1 > (IntKind.wrap .u64 most))) then some ((0 : Int), false, bs, y3.2.1, y3.2.2) else some ((IntKind.wrap .i64 y4.1), true, bs, y3.2.1, y3.2.2))))) else A2 y3.2.1 y3.2.2 (x2 ++ ((IntKind.wrap .u8 y3.1) :: ([] : List Int)))) else none))) else none) else (match (veil (varint_Get.f BIG x2)) with | none => none | some y5 => (if (y5.2.2 != (0 : Int)) then some ((0 : Int), false, bs, x0, x1) else (if (decide (most < (0 : Int))) then some ((0 : Int), false, bs, x0, x1) else (if (decide (y5.1 > (IntKind.wrap .u64 most))) then some ((0 : Int), false, bs, x0, x1) else some ((IntKind.wrap .i64 y5.1), true, bs, x0, x1))))))
def varint_From.l2 (fuel : Nat) (bs : List Int) (at0 : Int) (bad : Bool) (most : Int) : Nat → Int → Bool → (List Int) → Option (Int × Bool × (List Int) × Int × Bool)
 | 0, _, _, _ => none
 | k + 1, x0, x1, x2 => varint_From.b2 bs at0 bad most (varint_From.l2 fuel bs at0 bad most k) x0 x1 x2
def varint_From.b (bs : List Int) (at0 : Int) (bad : Bool) (most : Int) (E2 : Int → Bool → (List Int) → Option (Int × Bool × (List Int) × Int × Bool)) : Option (Int × Bool × (List Int) × Int × Bool) :=
 E2 at0 bad ([] : List Int)
def varint_From.f (fuel : Nat) (bs : List Int) (at0 : Int) (bad : Bool) (most : Int) : Option (Int × Bool × (List Int) × Int × Bool) := varint_From.b bs at0 bad most (varint_From.l2 fuel bs at0 bad most fuel)
theorem varint_From.l2_eq (fuel : Nat) (bs : List Int) (at0 : Int) (bad : Bool) (most : Int) : ∀ k : Nat, varint_From.p2 fuel bs at0 bad most k = varint_From.l2 fuel bs at0 bad most k
 | 0 => by kernel_rfl
 | k + 1 => by
  refine Eq.trans (b := varint_From.b2 bs at0 bad most (varint_From.p2 fuel bs at0 bad most k)) (by kernel_rfl) ?_
  rw [varint_From.l2_eq fuel bs at0 bad most k]
  kernel_rfl
theorem varint_From.eq (fuel : Nat) (bs : List Int) (at0 : Int) (bad : Bool) (most : Int) : (denF varint_From_E loopN fuel Tryz.f121 [.raw, .raw] [.ptr 0 0, .d tQi most] [.box [.d (.sl (.int .u8)) bs, .d tQi at0, .d .bool bad]] varint_From.k) = varint_From.f fuel bs at0 bad most := by
 refine Eq.trans (b := varint_From.b bs at0 bad most (varint_From.p2 fuel bs at0 bad most fuel)) (by kernel_rfl) ?_
 rw [varint_From.l2_eq fuel bs at0 bad most fuel]
 kernel_rfl
def s_varint_From : Den.Sum := ⟨[.pb [.frz none [] 0 (.int .u8)], .raw], fun args objs κ => match args, objs with
 | [.ptr 0 0, .d (.int .i64) most], [.box [.d (.sl (.int .u8)) bs, .d (.int .i64) at0, .d .bool bad]] => (match veil (varint_From.f BIG bs at0 bad most) with | none => none | some y => κ [.d (.int .i64) y.1, .d .bool y.2.1] [.box [.d (.sl (.int .u8)) y.2.2.1, .d (.int .i64) y.2.2.2.1, .d .bool y.2.2.2.2]])
 | _, _ => none⟩
theorem s_varint_From_det : SumDet s_varint_From := sdet fun _ _ _ _ => by
 unfold s_varint_From
 simp only [veil_eq]
 split
 ·split <;> rfl
 ·rfl
theorem s_varint_From_ok : SumOk Tryz.prog 121 s_varint_From := by
 have hE : EnvOk Tryz.prog varint_From_E := env_ok (l := [(52, s_rnumb), (84, s_bad), (133, s_varint_Get)]) th_ok any_ok ⟨⟨s_rnumb_ok, s_rnumb_det⟩, ⟨s_bad_ok, s_bad_det⟩, ⟨s_varint_Get_ok, s_varint_Get_det⟩, trivial⟩ _
 refine sum_ok hE Tryz.func121 rfl (by kernel_rfl) s_varint_From [.raw, .raw] varint_From.k ?_
 intro R avs objs κ r h
 unfold s_varint_From at h
 simp only [veil_eq] at h
 split at h
 ·rename_i most bs at0 bad
  split at h
  ·cases h
  ·rename_i y hy
   refine ⟨BIG, _, _, _, (varint_From.eq BIG bs at0 bad most).trans hy, ?_, h⟩
   intro rs ros hk
   unfold varint_From.k at hk
   split at hk
   ·first | (cases hk; exact ⟨rfl, rfl⟩) | (rw [← Option.some.inj hk]; exact ⟨rfl, rfl⟩)
   ·cases hk
 ·cases h
def fld3 (x : Int × List Int) : List Int := x.1 :: (vi (x.2.length : Int) ++ x.2)
def bag3 (b : LF) : List Int := vi (b.length : Int) ++ b.flatMap fld3
def sameSpan (o : REC × Bool) (r : REC) : Bool := o.2 && (o.1.2.2.2.1.1 == r.2.2.2.1.1 && o.1.2.2.2.1.2 == r.2.2.2.1.2)
def sameBag (o : REC × Bool) (r : REC) : Bool := o.2 && (!r.2.2.2.2.1 && cmpGo o.1.2.2.2.2.2 r.2.2.2.2.2 == 0)
def flagV (o : REC × Bool) (r : REC) : Int := r.2.2.1 + (if r.2.2.2.2.1 then 4 else 0) + (if sameSpan o r then 8 else 0) + (if sameBag o r then 16 else 0)
def rec3 (o : REC × Bool) (last : Int) (r : REC) : List Int :=
 vi (r.1 - last - 1) ++ (flagV o r :: ((if sameSpan o r then [] else [r.2.2.2.1.1 * 16 + r.2.2.2.1.2]) ++ (vi (zigF (r.2.1 - o.1.2.1)) ++ (if r.2.2.2.2.1 || sameBag o r then [] else bag3 r.2.2.2.2.2))))
theorem flag_tab : (List.range 32).all (fun n => (bits BinOp.and .i64 (n : Int) 8 == if (n : Int) / 8 % 2 = 1 then 8 else 0) && ((bits BinOp.and .i64 (n : Int) 20 == if (n : Int) / 4 % 2 = 1 then (if (n : Int) / 16 = 1 then 20 else 4) else (if (n : Int) / 16 = 1 then 16 else 0)) && ((decide ((n : Int) ≥ 4) || (bits BinOp.or .i64 (n : Int) 4 == (n : Int) + 4)) && ((decide ((n : Int) ≥ 8) || (bits BinOp.or .i64 (n : Int) 8 == (n : Int) + 8)) && (decide ((n : Int) ≥ 16) || (bits BinOp.or .i64 (n : Int) 16 == (n : Int) + 16)))))) = true := by kernel_rfl
theorem flag_at (v : Int) (h0 : 0 ≤ v) (h1 : v < 32) : (bits BinOp.and .i64 v 8 = if v / 8 % 2 = 1 then 8 else 0) ∧ (bits BinOp.and .i64 v 20 = if v / 4 % 2 = 1 then (if v / 16 = 1 then 20 else 4) else (if v / 16 = 1 then 16 else 0)) ∧ (v < 4 → bits BinOp.or .i64 v 4 = v + 4) ∧ (v < 8 → bits BinOp.or .i64 v 8 = v + 8) ∧ (v < 16 → bits BinOp.or .i64 v 16 = v + 16) := by
 have := List.all_eq_true.1 flag_tab v.toNat (by simp; omega)
 rw [show ((v.toNat : Nat) : Int) = v from by omega] at this
 simp only [Bool.and_eq_true, beq_iff_eq, Bool.or_eq_true, decide_eq_true_eq] at this
 obtain ⟨a, b, c, d, e⟩ := this
 exact ⟨a, b, fun h => c.resolve_left (by omega), fun h => d.resolve_left (by omega), fun h => e.resolve_left (by omega)⟩
theorem fitByte (v : Int) (h0 : 0 ≤ v) (h1 : v < 256) : fitsF 1 v = true := (fitsF_iff 1 v).2 ⟨by omega, by omega, h0, by simpa using h1⟩
theorem be_one (v : Int) (h0 : 0 ≤ v) (h1 : v < 256) : be (Int.toNat (1 : Int)) v = [v] := be1 v h0 h1
theorem put_fields (l : List Int) (id inc st lo hi : Int) (cut : Bool) (bag : LF) (last : Int) (base : LR) (hb : ∀ x ∈ bag, 0 ≤ x.1 ∧ x.1 ≤ 255 ∧ x.2.length ≤ 1000000) (hn : bag.length < 1000000) :
  ∀ (k i : Nat) (acc : List Int), i ≤ bag.length → bag.length - i < k → acc.length + 2000000 * (bag.length - i) ≤ 1000000000000 →
  gen3_writer_put.l17 BIG l id inc st lo hi cut bag last base k (bag.length : Int) (i : Int) acc = some (acc ++ (bag.drop i).flatMap fld3) := by
 intro k
 induction k with
 | zero => intro i acc h1 h2; omega
 | succ k ih =>
  intro i acc h1 h2 h3
  rw [gen3_writer_put.l17_at BIG (k + 1) k rfl]
  unfold gen3_writer_put.b17
  simp only [veil_eq]
  by_cases hi' : i < bag.length
  ·rw [if_pos (by simp; omega), idx_at, List.getElem?_eq_getElem hi']
   dsimp only
   obtain ⟨t0, t1, t2⟩ := hb bag[i] (List.getElem_mem hi')
   rw [List.drop_eq_getElem_cons hi', List.flatMap_cons]
   generalize bag[i] = x at t0 t1 t2 ⊢
   have hl := vi_len (x.2.length : Int)
   rw [if_pos ⟨fitByte _ t0 (by omega), (roomy_iff _).2 (by omega)⟩, be_one _ t0 (by omega), Form.pure _ _ (by intro v hv; simp at hv; omega) (by simp) (by simp; omega)]
   dsimp only
   simp only [List.flatMap_cons, List.flatMap_nil, List.append_nil]
   rw [Raw.pure _ _ (by simp; omega)]
   dsimp only
   rw [wrap_small _ (by omega) (by omega), show ((i : Int) + 1) = ((i + 1 : Nat) : Int) from by omega, ih (i + 1) _ (by omega) (by omega) (by simp; omega)]
   simp [fld3]
  ·rw [if_neg (by simp; omega), List.drop_of_length_le (by omega)]
   simp
theorem put13 (l : List Int) (id inc st lo hi : Int) (cut : Bool) (bag : LF) (last : Int) (base : LR) (v : Int) (acc : List Int) (a1 old a3 a4 a5 : Int) (a6 : Bool) (a7 : LF)
  (hb : ∀ x ∈ bag, 0 ≤ x.1 ∧ x.1 ≤ 255 ∧ x.2.length ≤ 1000000) (hn : bag.length < 10000) (hi0 : 0 ≤ inc) (hi1 : inc ≤ 281474976710655) (ho0 : 0 ≤ old) (ho1 : old ≤ 281474976710655) (hv0 : 0 ≤ v) (hv1 : v < 32) (hl : acc.length ≤ 100000000000) :
  gen3_writer_put.l13 BIG l id inc st lo hi cut bag last base BIG v acc a1 old a3 a4 a5 a6 a7 = some (acc ++ (vi (zigF (inc - old)) ++ (if v / 4 % 2 = 1 ∨ v / 16 = 1 then [] else bag3 bag))) := by
 rw [gen3_writer_put.l13_at BIG BIG (BIG - 1) big_eq]
 unfold gen3_writer_put.b13
 simp only [veil_eq]
 have hz : 0 ≤ zigF (inc - old) ∧ zigF (inc - old) < 1000000000000000000 := by unfold zigF; split <;> omega
 have hlz := vi_len (zigF (inc - old))
 rw [wrap_small _ (by omega) (by omega), Zig.pure _ (by omega) (by omega)]
 dsimp only
 rw [Of.pure _ hz.1 (by omega)]
 dsimp only
 rw [Raw.pure _ _ (by omega)]
 dsimp only
 rw [(flag_at v hv0 hv1).2.1]
 by_cases h4 : v / 4 % 2 = 1
 ·rw [if_pos h4, if_pos (by split <;> decide), if_pos (.inl h4)]
  simp
 ·rw [if_neg h4]
  by_cases h16 : v / 16 = 1
  ·rw [if_pos h16, if_pos (by decide), if_pos (.inr h16)]
   simp
  ·rw [if_neg h16, if_neg (by decide), if_neg (by omega), Form.pure _ _ (by intro x hx; simp at hx; omega) (by simp) (by simp; omega)]
   dsimp only
   simp only [List.flatMap_cons, List.flatMap_nil, List.append_nil]
   have hlb := vi_len (bag.length : Int)
   have := put_fields l id inc st lo hi cut bag last base hb (by omega) BIG 0 (acc ++ vi (zigF (inc - old)) ++ vi (bag.length : Int)) (by omega) (by rw [BIG_eq]; omega) (by simp; omega)
   rw [show ((0 : Nat) : Int) = 0 from rfl, List.drop_zero] at this
   rw [this]
   simp [bag3]
theorem put9 (l : List Int) (id inc st lo hi : Int) (cut : Bool) (bag : LF) (last : Int) (base : LR) (v : Int) (a1 old a3 a4 a5 : Int) (a6 : Bool) (a7 : LF)
  (hb : ∀ x ∈ bag, 0 ≤ x.1 ∧ x.1 ≤ 255 ∧ x.2.length ≤ 1000000) (hn : bag.length < 10000) (hi0 : 0 ≤ inc) (hi1 : inc ≤ 281474976710655) (ho0 : 0 ≤ old) (ho1 : old ≤ 281474976710655) (hv0 : 0 ≤ v) (hv1 : v < 32) (hl : l.length ≤ 10000000000)
  (hs : okS lo hi = true) (hid : id ≤ 4095) (hlast : -1 ≤ last) (hlt : last < id) :
  gen3_writer_put.l9 BIG l id inc st lo hi cut bag last base BIG v a1 old a3 a4 a5 a6 a7 = some (l ++ (vi (id - last - 1) ++ (v :: ((if v / 8 % 2 = 1 then [] else [lo * 16 + hi]) ++ (vi (zigF (inc - old)) ++ (if v / 4 % 2 = 1 ∨ v / 16 = 1 then [] else bag3 bag)))))) := by
 rw [gen3_writer_put.l9_at BIG BIG (BIG - 1) big_eq]
 unfold gen3_writer_put.b9
 simp only [veil_eq]
 have hlv := vi_len (id - last - 1)
 have hs' := (okS_iff _ _).1 hs
 rw [wrap_small (id - last) (by omega) (by omega), wrap_small (id - last - 1) (by omega) (by omega), Form.pure _ _ (by intro x hx; simp at hx; omega) (by simp) (by simp; omega)]
 dsimp only
 simp only [List.flatMap_cons, List.flatMap_nil, List.append_nil]
 rw [if_pos ⟨fitByte _ hv0 (by omega), (roomy_iff _).2 (by simp; omega)⟩, (flag_at v hv0 hv1).1, be_one v hv0 (by omega), code_eq hs]
 by_cases h8 : v / 8 % 2 = 1
 ·rw [if_pos h8, if_neg (by decide), put13 _ _ _ _ _ _ _ _ _ _ _ _ _ _ _ _ _ _ _ hb hn hi0 hi1 ho0 ho1 hv0 hv1 (by simp; omega), if_pos h8]
  simp
 ·rw [if_neg h8, if_pos (by decide), if_pos ⟨fitByte _ (by omega) (by omega), (roomy_iff _).2 (by simp; omega)⟩, be_one _ (by omega) (by omega), put13 _ _ _ _ _ _ _ _ _ _ _ _ _ _ _ _ _ _ _ hb hn hi0 hi1 ho0 ho1 hv0 hv1 (by simp; omega), if_neg h8]
  simp
theorem oldR_mem {base : LR} {id : Int} : (oldR base id).2 = false ∧ (oldR base id).1 = (0, 0, 0, (0, 0), false, []) ∨ (oldR base id).2 = true ∧ (oldR base id).1 ∈ base ∧ (oldR base id).1.1 = id := by
 unfold oldR
 cases h : base.find? (fun r => r.1 == id) with
 | none => exact .inl ⟨rfl, rfl⟩
 | some r => exact .inr ⟨rfl, List.mem_of_find?_eq_some h, by have := List.find?_some h; simpa using this⟩
theorem fine_of {base : LR} (h : ∀ r ∈ base, recOkT r = true) (hn : base.length < 1000000000) : fineRecs base := by
 refine ⟨hn, fun r hr => ?_⟩
 have hb := (recOk_facts (h r hr)).2.2.2.2.2.2.2.1
 have hl := bagOk_len hb
 exact ⟨by omega, fun x hx => by have := bag_tags hb x hx; omega⟩
theorem put.pure (l : List Int) (r : REC) (last : Int) (base : LR) (hr : recOkT r = true) (hbase : ∀ x ∈ base, recOkT x = true) (hbn : base.length < 1000000000) (hlast : -1 ≤ last) (hlt : last < r.1) (hl : l.length ≤ 10000000000) :
  gen3_writer_put.f BIG l r.1 r.2.1 r.2.2.1 r.2.2.2.1.1 r.2.2.2.1.2 r.2.2.2.2.1 r.2.2.2.2.2 last base = some (l ++ rec3 (oldR base r.1) last r) := by
 obtain ⟨f1, f2, f3, f4, f5, f6, f7, f8, f9⟩ := recOk_facts hr
 have hbl := bagOk_len f8
 have hbt := bag_tags f8
 have hb : ∀ x ∈ r.2.2.2.2.2, 0 ≤ x.1 ∧ x.1 ≤ 255 ∧ x.2.length ≤ 1000000 := fun x hx => by have := hbt x hx; omega
 have hold : 0 ≤ (oldR base r.1).1.2.1 ∧ (oldR base r.1).1.2.1 ≤ 281474976710655 ∧ smallBag (oldR base r.1).1.2.2.2.2.2 = true := by
  rcases oldR_mem (base := base) (id := r.1) with ⟨_, h⟩ | ⟨_, h, _⟩
  ·rw [h]; exact ⟨by simp, by simp, rfl⟩
  ·have := recOk_facts (hbase _ h)
   have hb2 := bagOk_len this.2.2.2.2.2.2.2.1
   exact ⟨this.2.2.1, this.2.2.2.1, (smallBag_iff _).2 ⟨by omega, fun x hx => by have := bag_tags this.2.2.2.2.2.2.2.1 x hx; omega⟩⟩
 have hsb : smallBag r.2.2.2.2.2 = true := (smallBag_iff _).2 ⟨by omega, fun x hx => by have := hbt x hx; omega⟩
 unfold gen3_writer_put.f gen3_writer_put.b
 simp only [veil_eq]
 rw [Find.pure base r.1 (fine_of hbase hbn)]
 dsimp only
 unfold rec3 flagV sameSpan sameBag
 generalize oldR base r.1 = o at hold ⊢
 obtain ⟨o0, o1, o2⟩ := hold
 -- what comes behind the first flag
 have h9 : ∀ v a1 a3 a4 a5 a6 a7, 0 ≤ v → v < 32 → gen3_writer_put.l9 BIG l r.1 r.2.1 r.2.2.1 r.2.2.2.1.1 r.2.2.2.1.2 r.2.2.2.2.1 r.2.2.2.2.2 last base BIG v a1 o.1.2.1 a3 a4 a5 a6 a7 = _ :=
  fun v a1 a3 a4 a5 a6 a7 hv0 hv1 => put9 l r.1 r.2.1 r.2.2.1 r.2.2.2.1.1 r.2.2.2.1.2 r.2.2.2.2.1 r.2.2.2.2.2 last base v a1 o.1.2.1 a3 a4 a5 a6 a7 hb (by omega) f3 f4 o0 o1 hv0 hv1 hl f7 f2 hlast hlt
 have h7 : ∀ v, 0 ≤ v → v < 16 → gen3_writer_put.l7 BIG l r.1 r.2.1 r.2.2.1 r.2.2.2.1.1 r.2.2.2.1.2 r.2.2.2.2.1 r.2.2.2.2.2 last base BIG o.2 v o.1.1 o.1.2.1 o.1.2.2.1 o.1.2.2.2.1.1 o.1.2.2.2.1.2 o.1.2.2.2.2.1 o.1.2.2.2.2.2 =
   gen3_writer_put.l9 BIG l r.1 r.2.1 r.2.2.1 r.2.2.2.1.1 r.2.2.2.1.2 r.2.2.2.2.1 r.2.2.2.2.2 last base BIG (v + if (o.2 && (!r.2.2.2.2.1 && cmpGo o.1.2.2.2.2.2 r.2.2.2.2.2 == 0)) = true then 16 else 0) o.1.1 o.1.2.1 o.1.2.2.1 o.1.2.2.2.1.1 o.1.2.2.2.1.2 o.1.2.2.2.2.1 o.1.2.2.2.2.2 := by
  intro v hv0 hv1
  rw [gen3_writer_put.l7_at BIG BIG (BIG - 1) big_eq]
  unfold gen3_writer_put.b7
  cases o.2
  ·simp
  ·cases r.2.2.2.2.1
   ·simp only [Bool.not_false, if_true, o2, hsb, Bool.and_self, Bool.true_and]
    by_cases hc : cmpGo o.1.2.2.2.2.2 r.2.2.2.2.2 = 0
    ·simp only [hc, beq_self_eq_true, if_true]
     rw [(flag_at v hv0 (by omega)).2.2.2.2 hv1]
    ·have : (cmpGo o.1.2.2.2.2.2 r.2.2.2.2.2 == 0) = false := by simpa using hc
     simp [this]
   ·simp
 have h5 : ∀ v, 0 ≤ v → v < 8 → gen3_writer_put.l5 BIG l r.1 r.2.1 r.2.2.1 r.2.2.2.1.1 r.2.2.2.1.2 r.2.2.2.2.1 r.2.2.2.2.2 last base BIG o.2 v o.1.1 o.1.2.1 o.1.2.2.1 o.1.2.2.2.1.1 o.1.2.2.2.1.2 o.1.2.2.2.2.1 o.1.2.2.2.2.2 =
   gen3_writer_put.l7 BIG l r.1 r.2.1 r.2.2.1 r.2.2.2.1.1 r.2.2.2.1.2 r.2.2.2.2.1 r.2.2.2.2.2 last base BIG o.2 (v + if (o.2 && (o.1.2.2.2.1.1 == r.2.2.2.1.1 && o.1.2.2.2.1.2 == r.2.2.2.1.2)) = true then 8 else 0) o.1.1 o.1.2.1 o.1.2.2.1 o.1.2.2.2.1.1 o.1.2.2.2.1.2 o.1.2.2.2.2.1 o.1.2.2.2.2.2 := by
  intro v hv0 hv1
  rw [gen3_writer_put.l5_at BIG BIG (BIG - 1) big_eq]
  unfold gen3_writer_put.b5
  cases o.2
  ·simp
  ·cases h1 : (o.1.2.2.2.1.1 == r.2.2.2.1.1)
   ·simp
   ·cases h2 : (o.1.2.2.2.1.2 == r.2.2.2.1.2)
    ·simp
    ·simp only [if_true, Bool.and_self]
     rw [(flag_at v hv0 (by omega)).2.2.2.1 hv1]
 have hst : ∀ A : Int → Option (List Int), (if r.2.2.2.2.1 then A (bits BinOp.or .i64 r.2.2.1 4) else A r.2.2.1) = A (r.2.2.1 + if r.2.2.2.2.1 then 4 else 0) := by
  intro A
  cases r.2.2.2.2.1
  ·simp
  ·simp only [if_true]
   rw [(flag_at r.2.2.1 f5 (by omega)).2.2.1 (by omega)]
 rw [hst (fun v => gen3_writer_put.l5 BIG l r.1 r.2.1 r.2.2.1 r.2.2.2.1.1 r.2.2.2.1.2 r.2.2.2.2.1 r.2.2.2.2.2 last base BIG o.2 v o.1.1 o.1.2.1 o.1.2.2.1 o.1.2.2.2.1.1 o.1.2.2.2.1.2 o.1.2.2.2.2.1 o.1.2.2.2.2.2)]
 generalize hs1 : (o.2 && (o.1.2.2.2.1.1 == r.2.2.2.1.1 && o.1.2.2.2.1.2 == r.2.2.2.1.2)) = s1 at h5 ⊢
 generalize hs2 : (o.2 && (!r.2.2.2.2.1 && cmpGo o.1.2.2.2.2.2 r.2.2.2.2.2 == 0)) = s2 at h7 ⊢
 have hcut : s2 = true → r.2.2.2.2.1 = false := by
  intro h
  rw [← hs2] at h
  simp at h
  exact h.2.1
 rw [h5 _ (by split <;> omega) (by split <;> omega), h7 _ (by split <;> split <;> omega) (by split <;> split <;> omega), h9 _ _ _ _ _ _ _ (by split <;> split <;> split <;> omega) (by split <;> split <;> split <;> omega)]
 congr 2
 congr 1
 generalize r.2.2.2.2.1 = c at hcut ⊢
 generalize r.2.2.1 = st at f5 f6 ⊢
 have hst4 : st = 0 ∨ st = 1 ∨ st = 2 ∨ st = 3 := by omega
 cases c <;> cases s1 <;> cases s2 <;> rcases hst4 with rfl | rfl | rfl | rfl <;> first | rfl | simp at hcut
theorem viF_le : ∀ (j k : Nat) (v : Int), 0 ≤ v → v < 128 ^ (k + 1) → (viF j v).length ≤ k + 1
 | 0, k, v, _, _ => by simp [viF]
 | j + 1, k, v, h0, h => by
  rw [viF]
  split
  ·rename_i hc
   cases k with
   | zero => simp at h; omega
   | succ k =>
    have := viF_le j k (v / 128) (by omega) (by rw [Int.pow_succ] at h; generalize (128 : Int) ^ (k + 1) = M at h ⊢; omega)
    simp; omega
  ·simp
theorem vi_le (k : Nat) (v : Int) (h0 : 0 ≤ v) (h : v < 128 ^ (k + 1)) : (vi v).length ≤ k + 1 := viF_le 9 k v h0 h
def recs3 (base : LR) : Int → LR → List Int
 | _, [] => []
 | last, r :: rs => rec3 (oldR base r.1) last r ++ recs3 base r.1 rs
def head3 (kind from0 inc lo hi seq target life epoch base : Int) (n : Int) : List Int :=
 kind :: (vi from0 ++ (vi inc ++ ((lo * 16 + hi) :: ((if hasF kind 0 then vi seq else []) ++ ((if hasF kind 1 then vi target else []) ++ ((if hasF kind 2 then vi life ++ vi epoch else []) ++ ((if hasF kind 3 then vi base else []) ++ (if hasF kind 4 then vi n else []))))))))
def baseF (base : Int) (l : LR) : LR := if base == 0 then [] else l
def body3 (kind from0 inc lo hi seq target life epoch base : Int) (recs : LR) (l : LR) : List Int :=
 head3 kind from0 inc lo hi seq target life epoch base (recs.length : Int) ++ recs3 (baseF base l) (-1) recs
theorem fld3_len {x : Int × List Int} (h : x.2.length ≤ 4096) : (fld3 x).length ≤ 3 + x.2.length := by
 have := vi_le 1 (x.2.length : Int) (by omega) (by simp; omega)
 simp [fld3]; omega
theorem flat3_len : ∀ (b : LF), (∀ x ∈ b, x.2.length ≤ 4096) → (((b.flatMap fld3).length : Nat) : Int) ≤ bagLen b
 | [], _ => by simp [bagLen]
 | x :: b, h => by
  have h1 := fld3_len (h x (by simp))
  have h2 := flat3_len b fun y hy => h y (by simp [hy])
  have e : bagLen (x :: b) = 3 + x.2.length + bagLen b := by simp [bagLen]
  rw [List.flatMap_cons, List.length_append, e]
  omega
theorem bag3_len {b : LF} (h : bagOk b = true) : ((bag3 b).length : Int) ≤ 1 + bagLen b := by
 have hl := bagOk_len h
 have ht := bag_tags h
 have h1 := vi_le 0 (b.length : Int) (by omega) (by simp; omega)
 have h2 := flat3_len b fun x hx => (ht x hx).2.2
 unfold bag3
 rw [List.length_append]
 omega
def risen : Int → LR → Prop
 | _, [] => True
 | last, r :: rs => last < r.1 ∧ risen r.1 rs
theorem whGo_risen : ∀ (l : LR) (i last : Int), (whGo l i last).1 = i + (l.length : Int) → risen last l
 | [], _, _, _ => trivial
 | x :: l, i, last, h => by
  unfold whGo at h
  split at h
  ·simp at h; omega
  ·rename_i hc
   simp only [Bool.or_eq_true, not_or, Bool.not_eq_true', Bool.not_eq_false] at hc
   exact ⟨by simpa using hc.2, whGo_risen l (i + 1) x.1 (by simp only [List.length_cons] at h; omega)⟩
theorem sorted_facts {l : LR} (h : sortedF l = true) : (∀ r ∈ l, recOkT r = true) ∧ risen (-1) l := by
 unfold sortedF at h
 have h' : (whGo l 0 (-1)).1 = 0 + (l.length : Int) := by simpa using h
 exact ⟨whGo_all l 0 (-1) h', whGo_risen l 0 (-1) h'⟩
theorem lives_facts {kind life epoch base : Int} (h : livesF kind life epoch base = true) : 0 ≤ life ∧ life ≤ 281474976710655 ∧ 0 ≤ epoch ∧ epoch ≤ 65535 ∧ 0 ≤ base ∧ base ≤ 65535 ∧ (hasF kind 2 = false → life = 0 ∧ epoch = 0) ∧ (hasF kind 3 = false → base = 0) ∧ (base = 0 ∨ base < epoch) ∧ (epoch = 0 → life = 0 ∧ kind ≠ 9) := by
 unfold livesF at h
 split at h
 ·cases h
 rename_i c1
 split at h
 ·cases h
 rename_i c2
 simp only [Bool.or_eq_true, Bool.not_eq_true', not_or, Bool.not_eq_false] at c1
 have w1 := within_facts c1.1 (by omega)
 have w2 := within_facts c1.2 (by omega)
 simp only [Bool.or_eq_true, Bool.and_eq_true, beq_iff_eq, decide_eq_true_eq, bne_iff_ne, ne_eq] at h c2
 refine ⟨w1.1, w1.2, w2.1, w2.2, by omega, by omega, ?_, ?_, by omega, ?_⟩
 ·intro h2
  rw [h2] at c1
  simp [withinF] at c1
  exact ⟨c1.1, c1.2⟩
 ·intro h3
  rw [h3] at h
  simpa using h
 ·intro he
  refine ⟨?_, ?_⟩
  ·exact Classical.byContradiction fun hl => c2 ⟨he, .inl hl⟩
  ·exact fun hk => c2 ⟨he, .inr hk⟩
theorem valid_recs {kind from0 inc lo hi seq target life epoch base : Int} {recs : LR} (h : validF kind from0 inc lo hi seq target life epoch base recs = true) :
  (hasF kind 4 = false → recs = []) ∧ risen (-1) recs := by
 unfold validF at h
 have h1 : ((ofF kind).1.toList == (⟨#[]⟩ : ByteArray).toList || (decide (from0 < 0) || (decide (from0 > 4095) || (decide (inc < 0) || (decide (inc > 281474976710655) || !okS lo hi))))) = false := by
  cases hc : ((ofF kind).1.toList == (⟨#[]⟩ : ByteArray).toList || (decide (from0 < 0) || (decide (from0 > 4095) || (decide (inc < 0) || (decide (inc > 281474976710655) || !okS lo hi))))) with
  | false => rfl
  | true => rw [hc] at h; cases h
 rw [h1] at h
 have h2 : (!withinF (hasF kind 0) seq 0 65535 || (!withinF (hasF kind 1) target (if kind == 3 then 1 else 0) (if kind == 3 then 3 else 4095) || !livesF kind life epoch base)) = false := by
  cases hc : (!withinF (hasF kind 0) seq 0 65535 || (!withinF (hasF kind 1) target (if kind == 3 then 1 else 0) (if kind == 3 then 3 else 4095) || !livesF kind life epoch base)) with
  | false => rfl
  | true => rw [hc] at h; cases h
 rw [h2] at h
 simp only [Bool.false_eq_true, if_false] at h
 cases h4 : hasF kind 4
 ·rw [h4] at h
  have : recs = [] := List.eq_nil_of_length_eq_zero (by simpa using h)
  subst this
  exact ⟨fun _ => rfl, trivial⟩
 ·rw [h4] at h
  simp at h
  exact ⟨by simp, (sorted_facts h.2).2⟩
theorem rec3_any {o : REC × Bool} {r : REC} {last : Int} (hr : recOkT r = true) : (rec3 o last r).length ≤ 5000 := by
 obtain ⟨f1, f2, f3, f4, f5, f6, f7, f8, f9⟩ := recOk_facts hr
 have a1 := vi_len (r.1 - last - 1)
 have a2 := vi_len (zigF (r.2.1 - o.1.2.1))
 have a3 := bag3_len f8
 have a4 := bagOk_len f8
 unfold rec3
 simp only [List.length_append, List.length_cons]
 have e1 : (if sameSpan o r = true then ([] : List Int) else [r.2.2.2.1.1 * 16 + r.2.2.2.1.2]).length ≤ 1 := by split <;> simp
 have e2 : (if (r.2.2.2.2.1 || sameBag o r) = true then ([] : List Int) else bag3 r.2.2.2.2.2).length ≤ 4300 := by
  split
  ·simp
  ·omega
 omega
theorem lay_recs (kind from0 inc lo hi seq target life epoch base : Int) (recs l base' : LR) (hr : ∀ r ∈ recs, recOkT r = true) (hb : ∀ r ∈ base', recOkT r = true) (hbn : base'.length < 1000000000) (hn : recs.length ≤ 1000) :
  ∀ (k i : Nat) (last : Int) (acc : List Int), i ≤ recs.length → recs.length - i < k → -1 ≤ last → risen last (recs.drop i) → acc.length + 5000 * (recs.length - i) ≤ 1000000000 →
  gen3_lay.l19 BIG kind from0 inc lo hi seq target life epoch base recs l k base' last (recs.length : Int) (i : Int) acc = some (acc ++ recs3 base' last (recs.drop i)) := by
 intro k
 induction k with
 | zero => intro i last acc h1 h2; omega
 | succ k ih =>
  intro i last acc h1 h2 h3 h4 h5
  rw [gen3_lay.l19]
  unfold gen3_lay.b19
  simp only [veil_eq]
  by_cases hi' : i < recs.length
  ·rw [if_pos (by simp; omega), idx_at, List.getElem?_eq_getElem hi']
   dsimp only
   have hm := hr recs[i] (List.getElem_mem hi')
   rw [List.drop_eq_getElem_cons hi'] at h4 ⊢
   generalize recs[i] = r at hm h4 ⊢
   obtain ⟨h6, h7⟩ := h4
   have hlen := rec3_any (o := oldR base' r.1) (last := last) hm
   rw [put.pure acc r last base' hm hb hbn h3 h6 (by omega)]
   dsimp only
   have hid := (recOk_facts hm).1
   rw [wrap_small _ (by omega) (by omega), show ((i : Int) + 1) = ((i + 1 : Nat) : Int) from by omega, ih (i + 1) r.1 _ (by omega) (by omega) (by omega) h7 (by simp; omega)]
   simp [recs3]
  ·rw [if_neg (by simp; omega), List.drop_of_length_le (by omega), if_pos ((roomy_iff _).2 (by omega))]
   simp [recs3]
theorem kind_byte {kind : Int} (h1 : 1 ≤ kind) (h2 : kind ≤ 9) : fitsF 1 kind = true := fitByte kind (by omega) (by omega)
theorem Form1 (l : List Int) (a : Int) (h0 : 0 ≤ a) (h1 : a < 9223372036854775808) (hl : l.length ≤ 1000000) : gen3_writer_form.f BIG l [a] = some (l ++ vi a) := by
 rw [Form.pure l [a] (by intro v hv; simp at hv; omega) (by simp) (by simp; omega)]
 simp
theorem Form2 (l : List Int) (a b : Int) (h0 : 0 ≤ a) (h1 : a < 9223372036854775808) (h2 : 0 ≤ b) (h3 : b < 9223372036854775808) (hl : l.length ≤ 1000000) : gen3_writer_form.f BIG l [a, b] = some (l ++ (vi a ++ vi b)) := by
 rw [Form.pure l [a, b] (by intro v hv; simp at hv; omega) (by simp) (by simp; omega)]
 simp
set_option maxHeartbeats 4000000 in
theorem lay.pure (kind from0 inc lo hi seq target life epoch base : Int) (recs l : LR) (hv : validF kind from0 inc lo hi seq target life epoch base recs = true) (hl : ∀ r ∈ l, recOkT r = true) (hln : l.length < 1000000000) :
  gen3_lay.f BIG kind from0 inc lo hi seq target life epoch base recs l = some (body3 kind from0 inc lo hi seq target life epoch base recs l) := by
 obtain ⟨v1, v2, v3, v4, v5, v6, v7, v8, v9, v10, v11, v12, v13, v14⟩ := valid_facts hv
 obtain ⟨w1, w2, w3, w4, w5, w6, _⟩ := lives_facts v12
 obtain ⟨_, hris⟩ := valid_recs hv
 have hs := (okS_iff _ _).1 v7
 have n1 := vi_len from0
 have n2 := vi_len inc
 have n3 := vi_len seq
 have n4 := vi_len target
 have n5 := vi_len life
 have n6 := vi_len epoch
 have n7 := vi_len base
 have n8 := vi_len (recs.length : Int)
 have hlp : ∀ (base' : LR) (hb : ∀ r ∈ base', recOkT r = true) (hbn : base'.length < 1000000000) (acc : List Int), acc.length ≤ 1000 → gen3_lay.l19 BIG kind from0 inc lo hi seq target life epoch base recs l BIG base' (-1) (recs.length : Int) 0 acc = some (acc ++ recs3 base' (-1) recs) := by
  intro base' hb hbn acc ha
  have := lay_recs kind from0 inc lo hi seq target life epoch base recs l base' v14 hb hbn (by omega) BIG 0 (-1) acc (by omega) (by rw [BIG_eq]; omega) (by omega) (by simpa using hris) (by omega)
  simpa using this
 have hb0 : ∀ acc : List Int, acc.length ≤ 1000 → gen3_lay.l19 BIG kind from0 inc lo hi seq target life epoch base recs l BIG [] (-1) (recs.length : Int) 0 acc = some (acc ++ recs3 [] (-1) recs) := fun acc ha => hlp [] (by simp) (by simp) acc ha
 have hb1 : ∀ acc : List Int, acc.length ≤ 1000 → gen3_lay.l19 BIG kind from0 inc lo hi seq target life epoch base recs l BIG l (-1) (recs.length : Int) 0 acc = some (acc ++ recs3 l (-1) recs) := fun acc ha => hlp l hl hln acc ha
 clear hlp
 unfold gen3_lay.f gen3_lay.b
 simp only [veil_eq]
 rw [kind_byte v1 v2, be_one kind (by omega) (by omega), code_eq v7, fitByte (lo * 16 + hi) (by omega) (by omega), be_one (lo * 16 + hi) (by omega) (by omega), Form2 [kind] from0 inc (by omega) (by omega) (by omega) (by omega) (by simp)]
 dsimp only
 have hro : roomy ([kind] ++ (vi from0 ++ vi inc)) = true := (roomy_iff _).2 (by simp; omega)
 unfold body3 head3 baseF
 simp only [if_true, hro, and_self]
 cases hb : (base == 0) <;> cases h0 : hasF kind 0 <;> cases h1 : hasF kind 1 <;> cases h2 : hasF kind 2 <;> cases h3 : hasF kind 3 <;> cases h4 : hasF kind 4 <;>
  simp only [Bool.false_eq_true, if_false, if_true] <;>
  repeat (first | (rw [Form1 _ _ (by omega) (by omega) (by simp; omega)]; dsimp only) | (rw [Form2 _ _ _ (by omega) (by omega) (by omega) (by omega) (by simp; omega)]; dsimp only))
 all_goals (first | rw [hb0 _ (by simp; omega)] | rw [hb1 _ (by simp; omega)])
 all_goals simp
def enc3 (kind from0 inc lo hi seq target life epoch base : Int) (recs l : LR) : List Int × Int :=
 if validF kind from0 inc lo hi seq target life epoch base recs && sortedF l then (if (body3 kind from0 inc lo hi seq target life epoch base recs l).length > 65499 then ([], 14) else (body3 kind from0 inc lo hi seq target life epoch base recs l, 0)) else ([], 1)
theorem Enc3.pure (kind from0 inc lo hi seq target life epoch base : Int) (recs l : LR) (hr : smallRecs recs = true) (hl : smallRecs l = true) (hln : l.length < 1000000000) :
  gen3_Encode.f BIG kind from0 inc lo hi seq target life epoch base recs l = some ((enc3 kind from0 inc lo hi seq target life epoch base recs l).1, (enc3 kind from0 inc lo hi seq target life epoch base recs l).2) := by
 unfold gen3_Encode.f gen3_Encode.b enc3
 simp only [veil_eq]
 rw [hr, hl]
 cases hv : validF kind from0 inc lo hi seq target life epoch base recs
 ·rfl
 ·cases hs : sortedF l
  ·rfl
  ·rw [lay.pure kind from0 inc lo hi seq target life epoch base recs l hv (sorted_facts hs).1 hln]
   simp only [Bool.not_true, Bool.false_eq_true, if_false, if_true, Bool.and_self]
   by_cases hc : (body3 kind from0 inc lo hi seq target life epoch base recs l).length > 65499
   ·rw [if_pos (by simp; omega), if_pos hc]
   ·rw [if_neg (by simp; omega), if_neg hc]
theorem byteW (v : Int) (h0 : 0 ≤ v) (h1 : v < 256) : IntKind.wrap .u8 v = v := by rw [wrapU8]; omega
theorem pv_stop : ∀ (p : List Int) (k : Nat) (top : Bool) (c : Int) (s : List Int), (∀ x ∈ p, 128 ≤ x) → p.length ≤ k → c < 128 →
  (pv top k (p ++ [c]) = none ∧ pv top k (p ++ c :: s) = none) ∨ ∃ v, pv top k (p ++ [c]) = some (v, []) ∧ pv top k (p ++ c :: s) = some (v, s) := by
 intro p
 induction p with
 | nil =>
  intro k top c s hp hk hc
  cases k with
  | zero =>
   simp only [List.nil_append, pv]
   by_cases h1 : c > 1
   ·rw [if_pos h1, if_pos h1]; exact Or.inl ⟨rfl, rfl⟩
   ·rw [if_neg h1, if_neg h1]
    by_cases h2 : c = 0
    ·rw [if_pos h2, if_pos h2]; exact Or.inl ⟨rfl, rfl⟩
    ·rw [if_neg h2, if_neg h2]; exact Or.inr ⟨c, rfl, rfl⟩
  | succ k =>
   simp only [List.nil_append, pv]
   rw [if_pos hc, if_pos hc]
   by_cases h2 : c = 0 ∧ top = false
   ·rw [if_pos h2, if_pos h2]; exact Or.inl ⟨rfl, rfl⟩
   ·rw [if_neg h2, if_neg h2]; exact Or.inr ⟨c, rfl, rfl⟩
 | cons x p ih =>
  intro k top c s hp hk hc
  cases k with
  | zero => simp at hk
  | succ k =>
   have hx : 128 ≤ x := hp x (List.mem_cons_self ..)
   simp only [List.cons_append, pv]
   rw [if_neg (by omega), if_neg (by omega)]
   rcases ih k false c s (fun y h => hp y (List.mem_cons_of_mem _ h)) (by simpa using hk) hc with ⟨a, b⟩ | ⟨v, a, b⟩
   ·rw [a, b]; exact Or.inl ⟨rfl, rfl⟩
   ·rw [a, b]; exact Or.inr ⟨_, rfl, rfl⟩
theorem pv_long : ∀ (p : List Int) (k : Nat) (top : Bool) (s : List Int), (∀ x ∈ p, 128 ≤ x) → p.length = k + 1 → pv top k (p ++ s) = none := by
 intro p
 induction p with
 | nil => intro k top s hp hk; simp at hk
 | cons x p ih =>
  intro k top s hp hk
  have hx : 128 ≤ x := hp x (List.mem_cons_self ..)
  cases k with
  | zero =>
   simp only [List.cons_append, pv]
   rw [if_pos (by omega)]
  | succ k =>
   simp only [List.cons_append, pv]
   rw [if_neg (by omega), ih k false s (fun y h => hp y (List.mem_cons_of_mem _ h)) (by simpa using hk)]
theorem pv_short : ∀ (p : List Int) (k : Nat) (top : Bool), (∀ x ∈ p, 128 ≤ x) → p.length ≤ k → pv top k p = none := by
 intro p
 induction p with
 | nil => intro k top hp hk; cases k <;> rfl
 | cons x p ih =>
  intro k top hp hk
  have hx : 128 ≤ x := hp x (List.mem_cons_self ..)
  cases k with
  | zero => simp at hk
  | succ k =>
   rw [pv, if_neg (by omega), ih k false (fun y h => hp y (List.mem_cons_of_mem _ h)) (by simpa using hk)]
theorem readF_one (l : List Int) (a : Nat) (h : a < l.length) : readF l 1 (a : Int) false = (l[a], ((a + 1 : Nat) : Int), false) := by
 unfold readF
 have hn : (if (decide ((1 : Int) < 1) || decide ((1 : Int) > 7)) = true then (-1 : Int) else 1) = 1 := by decide
 simp only [hn]
 have hs : stepF l 1 (a : Int) false = (seg l a 1, true, (a : Int) + 1, false) := by
  unfold stepF
  rw [if_neg (by decide), if_neg (by simp; omega)]
 rw [hs]
 dsimp only
 rw [if_pos rfl]
 have e : seg l (a : Int) 1 = [l[a]] := by
  unfold seg
  rw [show ((a : Int) + 1).toNat = a + 1 from by omega, Int.toNat_natCast, List.take_succ_eq_append_getElem h, List.drop_append_of_le_length (by simp; omega), List.drop_of_length_le (by simp; omega)]
  rfl
 rw [e]
 simp [numB]
theorem readF_end (l : List Int) (a : Nat) (h : l.length ≤ a) : readF l 1 (a : Int) false = (0, (a : Int), true) := by
 unfold readF
 have hn : (if (decide ((1 : Int) < 1) || decide ((1 : Int) > 7)) = true then (-1 : Int) else 1) = 1 := by decide
 simp only [hn]
 have hs : stepF l 1 (a : Int) false = ([], false, (a : Int), true) := by
  unfold stepF
  rw [if_neg (by decide), if_pos (by simp; omega)]
 rw [hs]
 rfl
theorem readF_bad (l : List Int) (a : Int) : readF l 1 a true = (0, a, true) := by
 unfold readF stepF
 simp
def Got (bs : List Int) (a0 : Nat) (most : Int) (o : Option (Int × Bool × List Int × Int × Bool)) : Prop :=
 ∃ (v : Int) (ok : Bool) (a : Nat) (bad : Bool), o = some (v, ok, bs, (a : Int), bad) ∧ a ≤ bs.length ∧
  match pV (bs.drop a0) with
  | some (w, r) => if w ≤ most then v = w ∧ ok = true ∧ bad = false ∧ bs.drop a = r else ok = false ∧ v = 0
  | none => ok = false ∧ v = 0
theorem From.loop (fuel : Nat) (bs : List Int) (a0 : Nat) (bad0 : Bool) (most : Int) (hb : inB bs = true) (m0 : 0 ≤ most) (m1 : most < 9223372036854775808) : ∀ (j k : Nat) (a : Nat) (p : List Int), p.length + j = 10 → j < k → (∀ x ∈ p, 128 ≤ x ∧ x ≤ 255) → bs.drop a0 = p ++ bs.drop a → a ≤ bs.length →
  Got bs a0 most (varint_From.l2 fuel bs (a0 : Int) bad0 most k (a : Int) false p) := by
 obtain ⟨hl, hc⟩ := (inB_iff bs).1 hb
 have gp : ∀ q : List Int, (∀ x ∈ q, 0 ≤ x ∧ x ≤ 255) → q.length ≤ 10 → _ := fun q h1 h2 => Get.pure q h1 (by omega)
 intro j
 induction j with
 | zero =>
  intro k a p hj hk hp hd ha
  obtain ⟨k, rfl⟩ : ∃ k', k = k' + 1 := ⟨k - 1, by omega⟩
  rw [varint_From.l2]
  unfold varint_From.b2
  simp only [veil_eq]
  rw [if_neg (by simp; omega)]
  have hn : pV (bs.drop a0) = none := by rw [hd]; exact pv_long p 9 true _ (fun x h => (hp x h).1) (by omega)
  have hq := gp p (fun x h => ⟨by have := hp x h; omega, (hp x h).2⟩) (by omega)
  have hn2 : pV p = none := by have := pv_long p 9 true [] (fun x h => (hp x h).1) (by omega); simpa [pV] using this
  rw [hn2] at hq
  obtain ⟨e, he, hq⟩ := hq
  rw [hq]
  dsimp only
  rw [if_pos (by rcases he with rfl | rfl <;> rfl)]
  refine ⟨0, false, a, false, rfl, ha, ?_⟩
  rw [hn]
  exact ⟨rfl, rfl⟩
 | succ j ih =>
  intro k a p hj hk hp hd ha
  obtain ⟨k, rfl⟩ : ∃ k', k = k' + 1 := ⟨k - 1, by omega⟩
  rw [varint_From.l2]
  unfold varint_From.b2
  simp only [veil_eq]
  rw [if_pos (by simp; omega), if_pos ((atOk_iff _ _).2 ⟨hb, by omega, by omega⟩)]
  by_cases hlt : a < bs.length
  ·rw [readF_one bs a hlt]
   dsimp only
   rw [if_neg (by simp), if_pos (by simp [lim]; omega)]
   obtain ⟨c0, c1⟩ := hc _ (List.getElem_mem hlt)
   have hda : bs.drop a = bs[a] :: bs.drop (a + 1) := (List.getElem_cons_drop hlt).symm
   generalize bs[a] = c at c0 c1 hda ⊢
   rw [byteW c c0 (by omega)]
   by_cases h128 : c < 128
   ·rw [if_pos (by simpa using h128)]
    have hq := gp (p ++ [c]) (fun x h => by
     rcases List.mem_append.1 h with h | h
     ·have := hp x h; omega
     ·rw [List.mem_singleton.1 h]; omega) (by simp; omega)
    rcases pv_stop p 9 true c (bs.drop (a + 1)) (fun x h => (hp x h).1) (by omega) h128 with ⟨e1, e2⟩ | ⟨v, e1, e2⟩
    ·have e1 : pV (p ++ [c]) = none := e1
     rw [e1] at hq
     obtain ⟨e, he, hq⟩ := hq
     rw [hq]
     dsimp only
     rw [if_pos (by rcases he with rfl | rfl <;> rfl)]
     refine ⟨0, false, a + 1, false, rfl, by omega, ?_⟩
     rw [hd, hda, show pV (p ++ c :: bs.drop (a + 1)) = none from e2]
     exact ⟨rfl, rfl⟩
    ·have e1 : pV (p ++ [c]) = some (v, []) := e1
     rw [e1] at hq
     dsimp only at hq
     rw [hq]
     dsimp only
     have hv := pV_sound (l := p ++ [c]) (fun x h => by
      rcases List.mem_append.1 h with h | h
      ·have := hp x h; omega
      ·rw [List.mem_singleton.1 h]; omega) e1
     rw [if_neg (by decide), if_neg (by simpa using m0), wrapU64 _ m0 (by omega)]
     by_cases hm : v > most
     ·rw [if_pos (by simpa using hm)]
      refine ⟨0, false, a + 1, false, rfl, by omega, ?_⟩
      rw [hd, hda, show pV (p ++ c :: bs.drop (a + 1)) = some (v, bs.drop (a + 1)) from e2]
      dsimp only
      rw [if_neg (by omega)]
      exact ⟨rfl, rfl⟩
     ·rw [if_neg (by simpa using hm), wrap_small v (by omega) (by omega)]
      refine ⟨v, true, a + 1, false, rfl, by omega, ?_⟩
      rw [hd, hda, show pV (p ++ c :: bs.drop (a + 1)) = some (v, bs.drop (a + 1)) from e2]
      dsimp only
      rw [if_pos (by omega)]
      exact ⟨rfl, rfl, rfl, rfl⟩
   ·rw [if_neg (by simpa using h128)]
    exact ih k (a + 1) (p ++ [c]) (by simp; omega) (by omega) (fun x h => by
     rcases List.mem_append.1 h with h | h
     ·exact hp x h
     ·rw [List.mem_singleton.1 h]; omega) (by rw [hd, hda]; simp) (by omega)
  ·rw [readF_end bs a (by omega)]
   dsimp only
   rw [if_pos rfl]
   refine ⟨0, false, a, true, rfl, ha, ?_⟩
   rw [hd, List.drop_of_length_le (by omega), List.append_nil, show pV p = none from pv_short p 9 true (fun x h => (hp x h).1) (by omega)]
   exact ⟨rfl, rfl⟩
theorem From.pure (bs : List Int) (a0 : Nat) (most : Int) (hb : inB bs = true) (m0 : 0 ≤ most) (m1 : most < 9223372036854775808) (ha : a0 ≤ bs.length) :
  Got bs a0 most (varint_From.f BIG bs (a0 : Int) false most) := by
 unfold varint_From.f varint_From.b
 exact From.loop BIG bs a0 false most hb m0 m1 10 BIG a0 [] rfl (by rw [BIG_eq]; omega) (by simp) rfl ha
theorem From.bad (bs : List Int) (a0 : Nat) (most : Int) (hb : inB bs = true) (ha : a0 ≤ bs.length) :
  varint_From.f BIG bs (a0 : Int) true most = some (0, false, bs, (a0 : Int), true) := by
 unfold varint_From.f varint_From.b
 rw [big_eq, varint_From.l2]
 unfold varint_From.b2
 simp only [veil_eq]
 rw [if_pos (by simp), if_pos ((atOk_iff _ _).2 ⟨hb, by omega, by omega⟩), readF_bad]
 rfl
def gen3_reader_form_E : Env := ⟨th, gam [(121, s_varint_From)], fun i => ⟨[], [], []⟩⟩
def gen3_reader_form.k (rs : List AV) (os : List Den.Obj) : Option (Int × Bool × (List Int) × Int × Bool) :=
 match rs, os with
 | [.d (.int .i64) r0], [.box [.ptr 1 0, .d .bool r1], .box [.d (.sl (.int .u8)) r2, .d (.int .i64) r3, .d .bool r4]] => some (r0, r1, r2, r3, r4)
 | _, _ => none
def gen3_reader_form.b (bs : List Int) (at0 : Int) (bad wrong : Bool) (limit : Int) : Option (Int × Bool × (List Int) × Int × Bool) :=
 (if wrong then some ((0 : Int), wrong, bs, at0, bad) else (match (veil (varint_From.f BIG bs at0 bad limit)) with | none => none | some y0 => some (y0.1, (!y0.2.1), y0.2.2.1, y0.2.2.2.1, y0.2.2.2.2)))
def gen3_reader_form.f (fuel : Nat) (bs : List Int) (at0 : Int) (bad wrong : Bool) (limit : Int) : Option (Int × Bool × (List Int) × Int × Bool) := gen3_reader_form.b bs at0 bad wrong limit
theorem gen3_reader_form.eq (fuel : Nat) (bs : List Int) (at0 : Int) (bad wrong : Bool) (limit : Int) : (denF gen3_reader_form_E loopN fuel Tryz.f98 [.raw] [.ptr 0 0, .d tQi limit] [.box [.ptr 1 0, .d .bool wrong], .box [.d (.sl (.int .u8)) bs, .d tQi at0, .d .bool bad]] gen3_reader_form.k) = gen3_reader_form.f fuel bs at0 bad wrong limit := by
 kernel_rfl
def s_gen3_reader_form : Den.Sum := ⟨[.pb [.frz none [0] 0 (.int .u8)], .raw], fun args objs κ => match args, objs with
 | [.ptr 0 0, .d (.int .i64) limit], [.box [.ptr 1 0, .d .bool wrong], .box [.d (.sl (.int .u8)) bs, .d (.int .i64) at0, .d .bool bad]] => (match veil (gen3_reader_form.f BIG bs at0 bad wrong limit) with | none => none | some y => κ [.d (.int .i64) y.1] [.box [.ptr 1 0, .d .bool y.2.1], .box [.d (.sl (.int .u8)) y.2.2.1, .d (.int .i64) y.2.2.2.1, .d .bool y.2.2.2.2]])
 | _, _ => none⟩
theorem s_gen3_reader_form_det : SumDet s_gen3_reader_form := sdet fun _ _ _ _ => by
 unfold s_gen3_reader_form
 simp only [veil_eq]
 split
 ·split <;> rfl
 ·rfl
theorem s_gen3_reader_form_ok : SumOk Tryz.prog 98 s_gen3_reader_form := by
 have hE : EnvOk Tryz.prog gen3_reader_form_E := env_ok (l := [(121, s_varint_From)]) th_ok any_ok ⟨⟨s_varint_From_ok, s_varint_From_det⟩, trivial⟩ _
 refine sum_ok hE Tryz.func98 rfl (by kernel_rfl) s_gen3_reader_form [.raw] gen3_reader_form.k ?_
 intro R avs objs κ r h
 unfold s_gen3_reader_form at h
 simp only [veil_eq] at h
 split at h
 ·rename_i limit wrong bs at0 bad
  split at h
  ·cases h
  ·rename_i y hy
   refine ⟨BIG, _, _, _, (gen3_reader_form.eq BIG bs at0 bad wrong limit).trans hy, ?_, h⟩
   intro rs ros hk
   unfold gen3_reader_form.k at hk
   split at hk
   ·first | (cases hk; exact ⟨rfl, rfl⟩) | (rw [← Option.some.inj hk]; exact ⟨rfl, rfl⟩)
   ·cases hk
 ·cases h
def gen3_reader_head_E : Env := ⟨th, gam [(76, s_valid), (41, s_has), (98, s_gen3_reader_form), (52, s_rnumb), (107, s_gen3_reader_span), (84, s_bad)], fun i => ⟨[], [], []⟩⟩
def gen3_reader_head.k (rs : List AV) (os : List Den.Obj) : Option (Int × Int × Int × Int × Int × Int × Int × Int × Int × Int × LR × Bool × (List Int) × Int × Bool) :=
 match rs, os with
 | [.agg [.d (.int .i64) r0, .d (.int .i64) r1, .d (.int .i64) r2, .d (.int .i64) r3, .d (.int .i64) r4, .d (.int .i64) r5, .d (.int .i64) r6, .d (.int .i64) r7, .d (.int .i64) r8, .d (.int .i64) r9, .d (.sl (.pair (.int .i64) (.pair (.int .i64) (.pair (.int .i64) (.pair (.pair (.int .i64) (.int .i64)) (.pair .bool (.sl (.pair (.int .i64) (.sl (.int .u8)))))))))) r10]], [.box [.ptr 1 0, .d .bool r11], .box [.d (.sl (.int .u8)) r12, .d (.int .i64) r13, .d .bool r14]] => some (r0, r1, r2, r3, r4, r5, r6, r7, r8, r9, r10, r11, r12, r13, r14)
 | _, _ => none
def gen3_reader_head.b (bs : List Int) (at0 : Int) (bad wrong : Bool) : Option (Int × Int × Int × Int × Int × Int × Int × Int × Int × Int × LR × Bool × (List Int) × Int × Bool) :=
 (if (atOk bs at0) then (match (veil (Option.some (readF bs (1 : Int) at0 bad))) with | none => none | some y0 => (match (veil (gen3_reader_form.f BIG bs y0.2.1 y0.2.2 wrong (4095 : Int))) with | none => none | some y1 => (match (veil (gen3_reader_form.f BIG y1.2.2.1 y1.2.2.2.1 y1.2.2.2.2 y1.2.1 (veil (281474976710655 : Int)))) with | none => none | some y2 => (match (veil (gen3_reader_span.f BIG y2.2.2.1 y2.2.2.2.1 y2.2.2.2.2 y2.2.1)) with | none => none | some y3 => (if (hasF y0.1 (0 : Int)) then (match (veil (gen3_reader_form.f BIG y3.2.2.2.1 y3.2.2.2.2.1 y3.2.2.2.2.2 y3.2.2.1 (65535 : Int))) with | none => none | some y4 => (if (hasF y0.1 (1 : Int)) then (match (veil (gen3_reader_form.f BIG y4.2.2.1 y4.2.2.2.1 y4.2.2.2.2 y4.2.1 (4095 : Int))) with | none => none | some y5 => (if (hasF y0.1 (2 : Int)) then (match (veil (gen3_reader_form.f BIG y5.2.2.1 y5.2.2.2.1 y5.2.2.2.2 y5.2.1 (veil (281474976710655 : Int)))) with | none => none | some y6 => (match (veil (gen3_reader_form.f BIG y6.2.2.1 y6.2.2.2.1 y6.2.2.2.2 y6.2.1 (65535 : Int))) with | none => none | some y7 => (if (hasF y0.1 (3 : Int)) then (match (veil (gen3_reader_form.f BIG y7.2.2.1 y7.2.2.2.1 y7.2.2.2.2 y7.2.1 (65535 : Int))) with | none => none | some y8 => (if y8.2.2.2.2 then some (y0.1, y1.1, y2.1, y3.1, y3.2.1, y4.1, y5.1, y6.1, y7.1, y8.1, ([] : LR), true, y8.2.2.1, y8.2.2.2.1, y8.2.2.2.2) else (if (!(validF y0.1 y1.1 y2.1 y3.1 y3.2.1 y4.1 y5.1 y6.1 y7.1 y8.1 ([] : LR))) then some (y0.1, y1.1, y2.1, y3.1, y3.2.1, y4.1, y5.1, y6.1, y7.1, y8.1, ([] : LR), true, y8.2.2.1, y8.2.2.2.1, y8.2.2.2.2) else some (y0.1, y1.1, y2.1, y3.1, y3.2.1, y4.1, y5.1, y6.1, y7.1, y8.1, ([] : LR), y8.2.1, y8.2.2.1, y8.2.2.2.1, y8.2.2.2.2)))) else (if y7.2.2.2.2 then some (y0.1, y1.1, y2.1, y3.1, y3.2.1, y4.1, y5.1, y6.1, y7.1, 0, ([] : LR), true, y7.2.2.1, y7.2.2.2.1, y7.2.2.2.2) else (if (!(validF y0.1 y1.1 y2.1 y3.1 y3.2.1 y4.1 y5.1 y6.1 y7.1 0 ([] : LR))) then some (y0.1, y1.1, y2.1, y3.1, y3.2.1, y4.1, y5.1, y6.1, y7.1, 0, ([] : LR), true, y7.2.2.1, y7.2.2.2.1, y7.2.2.2.2) else some (y0.1, y1.1, y2.1, y3.1, y3.2.1, y4.1, y5.1, y6.1, y7.1, 0, ([] : LR), y7.2.1, y7.2.2.1, y7.2.2.2.1, y7.2.2.2.2)))))) else (if (hasF y0.1 (3 : Int)) then (match (veil (gen3_reader_form.f BIG y5.2.2.1 y5.2.2.2.1 y5.2.2.2.2 y5.2.1 (65535 : Int))) with | none => none | some y9 => (if y9.2.2.2.2 then some (y0.1, y1.1, y2.1, y3.1, y3.2.1, y4.1, y5.1, 0, 0, y9.1, ([] : LR), true, y9.2.2.1, y9.2.2.2.1, y9.2.2.2.2) else (if (!(validF y0.1 y1.1 y2.1 y3.1 y3.2.1 y4.1 y5.1 0 0 y9.1 ([] : LR))) then some (y0.1, y1.1, y2.1, y3.1, y3.2.1, y4.1, y5.1, 0, 0, y9.1, ([] : LR), true, y9.2.2.1, y9.2.2.2.1, y9.2.2.2.2) else some (y0.1, y1.1, y2.1, y3.1, y3.2.1, y4.1, y5.1, 0, 0, y9.1, ([] : LR), y9.2.1, y9.2.2.1, y9.2.2.2.1, y9.2.2.2.2)))) else (if y5.2.2.2.2 then some (y0.1, y1.1, y2.1, y3.1, y3.2.1, y4.1, y5.1, 0, 0, 0, ([] : LR), true, y5.2.2.1, y5.2.2.2.1, y5.2.2.2.2) else (if (!(validF y0.1 y1.1 y2.1 y3.1 y3.2.1 y4.1 y5.1 0 0 0 ([] : LR))) then some (y0.1, y1.1, y2.1, y3.1, y3.2.1, y4.1, y5.1, 0, 0, 0, ([] : LR), true, y5.2.2.1, y5.2.2.2.1, y5.2.2.2.2) else some (y0.1, y1.1, y2.1, y3.1, y3.2.1, y4.1, y5.1, 0, 0, 0, ([] : LR), y5.2.1, y5.2.2.1, y5.2.2.2.1, y5.2.2.2.2)))))) else (if (hasF y0.1 (2 : Int)) then (match (veil (gen3_reader_form.f BIG y4.2.2.1 y4.2.2.2.1 y4.2.2.2.2 y4.2.1 (veil (281474976710655 : Int)))) with | none => none | some y10 => (match (veil (gen3_reader_form.f BIG y10.2.2.1 y10.2.2.2.1 y10.2.2.2.2 y10.2.1 (65535 : Int))) with | none => none | some y11 => (if (hasF y0.1 (3 : Int)) then (match (veil (gen3_reader_form.f BIG y11.2.2.1 y11.2.2.2.1 y11.2.2.2.2 y11.2.1 (65535 : Int))) with | none => none | some y12 => (if y12.2.2.2.2 then some (y0.1, y1.1, y2.1, y3.1, y3.2.1, y4.1, 0, y10.1, y11.1, y12.1, ([] : LR), true, y12.2.2.1, y12.2.2.2.1, y12.2.2.2.2) else (if (!(validF y0.1 y1.1 y2.1 y3.1 y3.2.1 y4.1 0 y10.1 y11.1 y12.1 ([] : LR))) then some (y0.1, y1.1, y2.1, y3.1, y3.2.1, y4.1, 0, y10.1, y11.1, y12.1, ([] : LR), true, y12.2.2.1, y12.2.2.2.1, y12.2.2.2.2) else some (y0.1, y1.1, y2.1, y3.1, y3.2.1, y4.1, 0, y10.1, y11.1, y12.1, ([] : LR), y12.2.1, y12.2.2.1, y12.2.2.2.1, y12.2.2.2.2)))) else (if y11.2.2.2.2 then some (y0.1, y1.1, y2.1, y3.1, y3.2.1, y4.1, 0, y10.1, y11.1, 0, ([] : LR), true, y11.2.2.1, y11.2.2.2.1, y11.2.2.2.2) else (if (!(validF y0.1 y1.1 y2.1 y3.1 y3.2.1 y4.1 0 y10.1 y11.1 0 ([] : LR))) then some (y0.1, y1.1, y2.1, y3.1, y3.2.1, y4.1, 0, y10.1, y11.1, 0, ([] : LR), true, y11.2.2.1, y11.2.2.2.1, y11.2.2.2.2) else some (y0.1, y1.1, y2.1, y3.1, y3.2.1, y4.1, 0, y10.1, y11.1, 0, ([] : LR), y11.2.1, y11.2.2.1, y11.2.2.2.1, y11.2.2.2.2)))))) else (if (hasF y0.1 (3 : Int)) then (match (veil (gen3_reader_form.f BIG y4.2.2.1 y4.2.2.2.1 y4.2.2.2.2 y4.2.1 (65535 : Int))) with | none => none | some y13 => (if y13.2.2.2.2 then some (y0.1, y1.1, y2.1, y3.1, y3.2.1, y4.1, 0, 0, 0, y13.1, ([] : LR), true, y13.2.2.1, y13.2.2.2.1, y13.2.2.2.2) else (if (!(validF y0.1 y1.1 y2.1 y3.1 y3.2.1 y4.1 0 0 0 y13.1 ([] : LR))) then some (y0.1, y1.1, y2.1, y3.1, y3.2.1, y4.1, 0, 0, 0, y13.1, ([] : LR), true, y13.2.2.1, y13.2.2.2.1, y13.2.2.2.2) else some (y0.1, y1.1, y2.1, y3.1, y3.2.1, y4.1, 0, 0, 0, y13.1, ([] : LR), y13.2.1, y13.2.2.1, y13.2.2.2.1, y13.2.2.2.2)))) else (if y4.2.2.2.2 then some (y0.1, y1.1, y2.1, y3.1, y3.2.1, y4.1, 0, 0, 0, 0, ([] : LR), true, y4.2.2.1, y4.2.2.2.1, y4.2.2.2.2) else (if (!(validF y0.1 y1.1 y2.1 y3.1 y3.2.1 y4.1 0 0 0 0 ([] : LR))) then some (y0.1, y1.1, y2.1, y3.1, y3.2.1, y4.1, 0, 0, 0, 0, ([] : LR), true, y4.2.2.1, y4.2.2.2.1, y4.2.2.2.2) else some (y0.1, y1.1, y2.1, y3.1, y3.2.1, y4.1, 0, 0, 0, 0, ([] : LR), y4.2.1, y4.2.2.1, y4.2.2.2.1, y4.2.2.2.2))))))) else (if (hasF y0.1 (1 : Int)) then (match (veil (gen3_reader_form.f BIG y3.2.2.2.1 y3.2.2.2.2.1 y3.2.2.2.2.2 y3.2.2.1 (4095 : Int))) with | none => none | some y14 => (if (hasF y0.1 (2 : Int)) then (match (veil (gen3_reader_form.f BIG y14.2.2.1 y14.2.2.2.1 y14.2.2.2.2 y14.2.1 (veil (281474976710655 : Int)))) with | none => none | some y15 => (match (veil (gen3_reader_form.f BIG y15.2.2.1 y15.2.2.2.1 y15.2.2.2.2 y15.2.1 (65535 : Int))) with | none => none | some y16 => (if (hasF y0.1 (3 : Int)) then (match (veil (gen3_reader_form.f BIG y16.2.2.1 y16.2.2.2.1 y16.2.2.2.2 y16.2.1 (65535 : Int))) with | none => none | some y17 => (if y17.2.2.2.2 then some (y0.1, y1.1, y2.1, y3.1, y3.2.1, 0, y14.1, y15.1, y16.1, y17.1, ([] : LR), true, y17.2.2.1, y17.2.2.2.1, y17.2.2.2.2) else (if (!(validF y0.1 y1.1 y2.1 y3.1 y3.2.1 0 y14.1 y15.1 y16.1 y17.1 ([] : LR))) then some (y0.1, y1.1, y2.1, y3.1, y3.2.1, 0, y14.1, y15.1, y16.1, y17.1, ([] : LR), true, y17.2.2.1, y17.2.2.2.1, y17.2.2.2.2) else some (y0.1, y1.1, y2.1, y3.1, y3.2.1, 0, y14.1, y15.1, y16.1, y17.1, ([] : LR), y17.2.1, y17.2.2.1, y17.2.2.2.1, y17.2.2.2.2)))) else (if y16.2.2.2.2 then some (y0.1, y1.1, y2.1, y3.1, y3.2.1, 0, y14.1, y15.1, y16.1, 0, ([] : LR), true, y16.2.2.1, y16.2.2.2.1, y16.2.2.2.2) else (if (!(validF y0.1 y1.1 y2.1 y3.1 y3.2.1 0 y14.1 y15.1 y16.1 0 ([] : LR))) then some (y0.1, y1.1, y2.1, y3.1, y3.2.1, 0, y14.1, y15.1, y16.1, 0, ([] : LR), true, y16.2.2.1, y16.2.2.2.1, y16.2.2.2.2) else some (y0.1, y1.1, y2.1, y3.1, y3.2.1, 0, y14.1, y15.1, y16.1, 0, ([] : LR), y16.2.1, y16.2.2.1, y16.2.2.2.1, y16.2.2.2.2)))))) else (if (hasF y0.1 (3 : Int)) then (match (veil (gen3_reader_form.f BIG y14.2.2.1 y14.2.2.2.1 y14.2.2.2.2 y14.2.1 (65535 : Int))) with | none => none | some y18 => (if y18.2.2.2.2 then some (y0.1, y1.1, y2.1, y3.1, y3.2.1, 0, y14.1, 0, 0, y18.1, ([] : LR), true, y18.2.2.1, y18.2.2.2.1, y18.2.2.2.2) else (if (!(validF y0.1 y1.1 y2.1 y3.1 y3.2.1 0 y14.1 0 0 y18.1 ([] : LR))) then some (y0.1, y1.1, y2.1, y3.1, y3.2.1, 0, y14.1, 0, 0, y18.1, ([] : LR), true, y18.2.2.1, y18.2.2.2.1, y18.2.2.2.2) else some (y0.1, y1.1, y2.1, y3.1, y3.2.1, 0, y14.1, 0, 0, y18.1, ([] : LR), y18.2.1, y18.2.2.1, y18.2.2.2.1, y18.2.2.2.2)))) else (if y14.2.2.2.2 then some (y0.1, y1.1, y2.1, y3.1, y3.2.1, 0, y14.1, 0, 0, 0, ([] : LR), true, y14.2.2.1, y14.2.2.2.1, y14.2.2.2.2) else (if (!(validF y0.1 y1.1 y2.1 y3.1 y3.2.1 0 y14.1 0 0 0 ([] : LR))) then some (y0.1, y1.1, y2.1, y3.1, y3.2.1, 0, y14.1, 0, 0, 0, ([] : LR), true, y14.2.2.1, y14.2.2.2.1, y14.2.2.2.2) else some (y0.1, y1.1, y2.1, y3.1, y3.2.1, 0, y14.1, 0, 0, 0, ([] : LR), y14.2.1, y14.2.2.1, y14.2.2.2.1, y14.2.2.2.2)))))) else (if (hasF y0.1 (2 : Int)) then (match (veil (gen3_reader_form.f BIG y3.2.2.2.1 y3.2.2.2.2.1 y3.2.2.2.2.2 y3.2.2.1 (veil (281474976710655 : Int)))) with | none => none | some y19 => (match (veil (gen3_reader_form.f BIG y19.2.2.1 y19.2.2.2.1 y19.2.2.2.2 y19.2.1 (65535 : Int))) with | none => none | some y20 => (if (hasF y0.1 (3 : Int)) then (match (veil (gen3_reader_form.f BIG y20.2.2.1 y20.2.2.2.1 y20.2.2.2.2 y20.2.1 (65535 : Int))) with | none => none | some y21 => (if y21.2.2.2.2 then some (y0.1, y1.1, y2.1, y3.1, y3.2.1, 0, 0, y19.1, y20.1, y21.1, ([] : LR), true, y21.2.2.1, y21.2.2.2.1, y21.2.2.2.2) else (if (!(validF y0.1 y1.1 y2.1 y3.1 y3.2.1 0 0 y19.1 y20.1 y21.1 ([] : LR))) then some (y0.1, y1.1, y2.1, y3.1, y3.2.1, 0, 0, y19.1, y20.1, y21.1, ([] : LR), true, y21.2.2.1, y21.2.2.2.1, y21.2.2.2.2) else some (y0.1, y1.1, y2.1, y3.1, y3.2.1, 0, 0, y19.1, y20.1, y21.1, ([] : LR), y21.2.1, y21.2.2.1, y21.2.2.2.1, y21.2.2.2.2)))) else (if y20.2.2.2.2 then some (y0.1, y1.1, y2.1, y3.1, y3.2.1, 0, 0, y19.1, y20.1, 0, ([] : LR), true, y20.2.2.1, y20.2.2.2.1, y20.2.2.2.2) else (if (!(validF y0.1 y1.1 y2.1 y3.1 y3.2.1 0 0 y19.1 y20.1 0 ([] : LR))) then some (y0.1, y1.1, y2.1, y3.1, y3.2.1, 0, 0, y19.1, y20.1, 0, ([] : LR), true, y20.2.2.1, y20.2.2.2.1, y20.2.2.2.2) else some (y0.1, y1.1, y2.1, y3.1, y3.2.1, 0, 0, y19.1, y20.1, 0, ([] : LR), y20.2.1, y20.2.2.1, y20.2.2.2.1, y20.2.2.2.2)))))) else (if (hasF y0.1 (3 : Int)) then (match (veil (gen3_reader_form.f BIG y3.2.2.2.1 y3.2.2.2.2.1 y3.2.2.2.2.2 y3.2.2.1 (65535 : Int))) with | none => none | some y22 => (if y22.2.2.2.2 then some (y0.1, y1.1, y2.1, y3.1, y3.2.1, 0, 0, 0, 0, y22.1, ([] : LR), true, y22.2.2.1, y22.2.2.2.1, y22.2.2.2.2) else (if (!(validF y0.1 y1.1 y2.1 y3.1 y3.2.1 0 0 0 0 y22.1 ([] : LR))) then some (y0.1, y1.1, y2.1, y3.1, y3.2.1, 0, 0, 0, 0, y22.1, ([] : LR), true, y22.2.2.1, y22.2.2.2.1, y22.2.2.2.2) else some (y0.1, y1.1, y2.1, y3.1, y3.2.1, 0, 0, 0, 0, y22.1, ([] : LR), y22.2.1, y22.2.2.1, y22.2.2.2.1, y22.2.2.2.2)))) else (if y3.2.2.2.2.2 then some (y0.1, y1.1, y2.1, y3.1, y3.2.1, 0, 0, 0, 0, 0, ([] : LR), true, y3.2.2.2.1, y3.2.2.2.2.1, y3.2.2.2.2.2) else (if (!(validF y0.1 y1.1 y2.1 y3.1 y3.2.1 0 0 0 0 0 ([] : LR))) then some (y0.1, y1.1, y2.1, y3.1, y3.2.1, 0, 0, 0, 0, 0, ([] : LR), true, y3.2.2.2.1, y3.2.2.2.2.1, y3.2.2.2.2.2) else some (y0.1, y1.1, y2.1, y3.1, y3.2.1, 0, 0, 0, 0, 0, ([] : LR), y3.2.2.1, y3.2.2.2.1, y3.2.2.2.2.1, y3.2.2.2.2.2))))))))))) else none)
def gen3_reader_head.f (fuel : Nat) (bs : List Int) (at0 : Int) (bad wrong : Bool) : Option (Int × Int × Int × Int × Int × Int × Int × Int × Int × Int × LR × Bool × (List Int) × Int × Bool) := gen3_reader_head.b bs at0 bad wrong
theorem gen3_reader_head.eq (fuel : Nat) (bs : List Int) (at0 : Int) (bad wrong : Bool) : (denF gen3_reader_head_E loopN fuel Tryz.f74 [.dat (.pair tQi (.pair tQi (.pair tQi (.pair (.pair tQi tQi) (.pair tQi (.pair tQi (.pair tQi (.pair tQi (.pair tQi (.sl tQr)))))))))) true] [.ptr 0 0] [.box [.ptr 1 0, .d .bool wrong], .box [.d (.sl (.int .u8)) bs, .d tQi at0, .d .bool bad]] gen3_reader_head.k) = gen3_reader_head.f fuel bs at0 bad wrong := by
 kernel_rfl
def s_gen3_reader_head : Den.Sum := ⟨[.pb [.frz none [0] 0 (.int .u8)]], fun args objs κ => match args, objs with
 | [.ptr 0 0], [.box [.ptr 1 0, .d .bool wrong], .box [.d (.sl (.int .u8)) bs, .d (.int .i64) at0, .d .bool bad]] => (match veil (gen3_reader_head.f BIG bs at0 bad wrong) with | none => none | some y => κ [.agg [.d (.int .i64) y.1, .d (.int .i64) y.2.1, .d (.int .i64) y.2.2.1, .d (.int .i64) y.2.2.2.1, .d (.int .i64) y.2.2.2.2.1, .d (.int .i64) y.2.2.2.2.2.1, .d (.int .i64) y.2.2.2.2.2.2.1, .d (.int .i64) y.2.2.2.2.2.2.2.1, .d (.int .i64) y.2.2.2.2.2.2.2.2.1, .d (.int .i64) y.2.2.2.2.2.2.2.2.2.1, .d (.sl (.pair (.int .i64) (.pair (.int .i64) (.pair (.int .i64) (.pair (.pair (.int .i64) (.int .i64)) (.pair .bool (.sl (.pair (.int .i64) (.sl (.int .u8)))))))))) y.2.2.2.2.2.2.2.2.2.2.1]] [.box [.ptr 1 0, .d .bool y.2.2.2.2.2.2.2.2.2.2.2.1], .box [.d (.sl (.int .u8)) y.2.2.2.2.2.2.2.2.2.2.2.2.1, .d (.int .i64) y.2.2.2.2.2.2.2.2.2.2.2.2.2.1, .d .bool y.2.2.2.2.2.2.2.2.2.2.2.2.2.2]])
 | _, _ => none⟩
theorem s_gen3_reader_head_det : SumDet s_gen3_reader_head := sdet fun _ _ _ _ => by
 unfold s_gen3_reader_head
 simp only [veil_eq]
 split
 ·split <;> rfl
 ·rfl
theorem s_gen3_reader_head_ok : SumOk Tryz.prog 74 s_gen3_reader_head := by
 have hE : EnvOk Tryz.prog gen3_reader_head_E := env_ok (l := [(76, s_valid), (41, s_has), (98, s_gen3_reader_form), (52, s_rnumb), (107, s_gen3_reader_span), (84, s_bad)]) th_ok any_ok ⟨⟨s_valid_ok, s_valid_det⟩, ⟨s_has_ok, s_has_det⟩, ⟨s_gen3_reader_form_ok, s_gen3_reader_form_det⟩, ⟨s_rnumb_ok, s_rnumb_det⟩, ⟨s_gen3_reader_span_ok, s_gen3_reader_span_det⟩, ⟨s_bad_ok, s_bad_det⟩, trivial⟩ _
 refine sum_ok hE Tryz.func74 rfl (by kernel_rfl) s_gen3_reader_head [.dat (.pair tQi (.pair tQi (.pair tQi (.pair (.pair tQi tQi) (.pair tQi (.pair tQi (.pair tQi (.pair tQi (.pair tQi (.sl tQr)))))))))) true] gen3_reader_head.k ?_
 intro R avs objs κ r h
 unfold s_gen3_reader_head at h
 simp only [veil_eq] at h
 split at h
 ·rename_i wrong bs at0 bad
  split at h
  ·cases h
  ·rename_i y hy
   refine ⟨BIG, _, _, _, (gen3_reader_head.eq BIG bs at0 bad wrong).trans hy, ?_, h⟩
   intro rs ros hk
   unfold gen3_reader_head.k at hk
   split at hk
   ·first | (cases hk; exact ⟨rfl, rfl⟩) | (rw [← Option.some.inj hk]; exact ⟨rfl, rfl⟩)
   ·cases hk
 ·cases h
def tk (bs : List Int) (a : Nat) (most : Int) : Option (Int × Nat) :=
 match pV (bs.drop a) with
 | some (w, r) => if w ≤ most then some (w, bs.length - r.length) else none
 | none => none
theorem tk_facts {bs : List Int} {a : Nat} {most w : Int} {a2 : Nat} (hb : ∀ c ∈ bs, 0 ≤ c ∧ c ≤ 255) (h : tk bs a most = some (w, a2)) : bs.drop a = vi w ++ bs.drop a2 ∧ 0 ≤ w ∧ w ≤ most ∧ w < 18446744073709551616 ∧ a < a2 ∧ a2 ≤ bs.length := by
 unfold tk at h
 split at h
 ·rename_i v r hv
  split at h
  ·rename_i hm
   obtain ⟨rfl, rfl⟩ : v = w ∧ bs.length - r.length = a2 := by cases h; exact ⟨rfl, rfl⟩
   obtain ⟨e, v0, v1⟩ := pV_sound (fun c hc => hb c (List.mem_of_mem_drop hc)) hv
   have hl := congrArg List.length e
   have h1 := (vi_len v).1
   simp only [List.length_drop, List.length_append] at hl
   refine ⟨?_, v0, hm, v1, by omega, by omega⟩
   have e2 : bs = (bs.take a ++ vi v) ++ r := by rw [List.append_assoc, ← e, List.take_append_drop]
   have e3 : bs.length - r.length = (bs.take a ++ vi v).length := by simp; omega
   rw [e, e3]
   congr 1
   generalize bs.take a ++ vi v = q at e2
   rw [e2, List.drop_left]
  ·cases h
 ·cases h
theorem tk_vi {bs : List Int} {a : Nat} {most w : Int} {r : List Int} (h : bs.drop a = vi w ++ r) (h0 : 0 ≤ w) (h1 : w < 18446744073709551616) (hm : w ≤ most) : tk bs a most = some (w, bs.length - r.length) := by
 unfold tk
 rw [h, pV_back r h0 h1]
 exact if_pos hm
theorem Got.tk {bs : List Int} {a0 : Nat} {most : Int} {o : Option (Int × Bool × List Int × Int × Bool)} (h : Got bs a0 most o) :
  match tk bs a0 most with
  | some (w, a2) => o = some (w, true, bs, (a2 : Int), false)
  | none => ∃ (a : Nat) (bad : Bool), o = some (0, false, bs, (a : Int), bad) ∧ a ≤ bs.length := by
 obtain ⟨v, ok, a, bad, rfl, ha, h⟩ := h
 unfold Proofs.YtneiiplppcjjlaaGreatDoor.tk
 revert h
 cases hw : pV (bs.drop a0) with
 | none =>
  intro h
  obtain ⟨rfl, rfl⟩ := h
  exact ⟨a, bad, rfl, ha⟩
 | some x =>
  obtain ⟨w, r⟩ := x
  intro h
  dsimp only at h ⊢
  by_cases hm : w ≤ most
  ·rw [if_pos hm] at h ⊢
   obtain ⟨rfl, rfl, rfl, rfl⟩ := h
   dsimp only
   rw [show bs.length - (bs.drop a).length = a from by simp; omega]
  ·rw [if_neg hm] at h ⊢
   obtain ⟨rfl, rfl⟩ := h
   exact ⟨a, bad, rfl, ha⟩
theorem form_wrong (bs : List Int) (a : Int) (bad : Bool) (most : Int) : gen3_reader_form.f BIG bs a bad true most = some (0, true, bs, a, bad) := rfl
theorem form_bad (bs : List Int) (a : Nat) (most : Int) (hb : inB bs = true) (ha : a ≤ bs.length) : gen3_reader_form.f BIG bs (a : Int) true false most = some (0, true, bs, (a : Int), true) := by
 unfold gen3_reader_form.f gen3_reader_form.b
 simp only [veil_eq]
 rw [if_neg (by simp), From.bad bs a most hb ha]
 rfl
theorem form_good (bs : List Int) (a : Nat) (most : Int) (hb : inB bs = true) (m0 : 0 ≤ most) (m1 : most < 9223372036854775808) (ha : a ≤ bs.length) :
  match tk bs a most with
  | some (w, a2) => gen3_reader_form.f BIG bs (a : Int) false false most = some (w, false, bs, (a2 : Int), false)
  | none => ∃ (a' : Nat) (bad : Bool), gen3_reader_form.f BIG bs (a : Int) false false most = some (0, true, bs, (a' : Int), bad) ∧ a' ≤ bs.length := by
 have h := Got.tk (From.pure bs a most hb m0 m1 ha)
 unfold gen3_reader_form.f gen3_reader_form.b
 simp only [veil_eq]
 rw [if_neg (by simp)]
 revert h
 cases tk bs a most with
 | some p =>
  intro h
  obtain ⟨w, a2⟩ := p
  try dsimp only at h ⊢
  rw [h]
  all_goals rfl
 | none =>
  intro h
  obtain ⟨a', bad, h, h2⟩ := h
  refine ⟨a', bad, ?_, h2⟩
  rw [h]
  all_goals rfl
abbrev HD := Int × Int × Int × Int × Int × Int × Int × Int × Int × Int × LR × Bool × List Int × Int × Bool
def optC {R : Type} (c : Bool) (most : Int) (wr : Bool) (bs : List Int) (a : Int) (bad : Bool) (k : Int → Bool → List Int → Int → Bool → Option R) : Option R :=
 if c then (match gen3_reader_form.f BIG bs a bad wr most with
  | none => none
  | some y => k y.1 y.2.1 y.2.2.1 y.2.2.2.1 y.2.2.2.2)
 else k 0 wr bs a bad
def finC (k f i lo hi s t l e b : Int) (wr : Bool) (bs : List Int) (a : Int) (bad : Bool) : Option HD :=
 if bad then some (k, f, i, lo, hi, s, t, l, e, b, [], true, bs, a, bad)
 else if (!(validF k f i lo hi s t l e b [])) then some (k, f, i, lo, hi, s, t, l, e, b, [], true, bs, a, bad)
 else some (k, f, i, lo, hi, s, t, l, e, b, [], wr, bs, a, bad)
def headC (bs : List Int) (at0 : Int) (bad wrong : Bool) : Option HD :=
 if atOk bs at0 then
  optC true 4095 wrong bs (readF bs 1 at0 bad).2.1 (readF bs 1 at0 bad).2.2 fun f w b1 a1 d1 =>
  optC true 281474976710655 w b1 a1 d1 fun i w b2 a2 d2 =>
  match gen3_reader_span.f BIG b2 a2 d2 w with
  | none => none
  | some y =>
   optC (hasF (readF bs 1 at0 bad).1 0) 65535 y.2.2.1 y.2.2.2.1 y.2.2.2.2.1 y.2.2.2.2.2 fun s w b3 a3 d3 =>
   optC (hasF (readF bs 1 at0 bad).1 1) 4095 w b3 a3 d3 fun t w b4 a4 d4 =>
   optC (hasF (readF bs 1 at0 bad).1 2) 281474976710655 w b4 a4 d4 fun l w b5 a5 d5 =>
   optC (hasF (readF bs 1 at0 bad).1 2) 65535 w b5 a5 d5 fun e w b6 a6 d6 =>
   optC (hasF (readF bs 1 at0 bad).1 3) 65535 w b6 a6 d6 fun b w b7 a7 d7 =>
   finC (readF bs 1 at0 bad).1 f i y.1 y.2.1 s t l e b w b7 a7 d7
 else none
theorem head_eq (bs : List Int) (at0 : Int) (bad wrong : Bool) : gen3_reader_head.f BIG bs at0 bad wrong = headC bs at0 bad wrong := by
 unfold gen3_reader_head.f gen3_reader_head.b headC optC finC
 simp only [veil_eq]
 generalize hasF (readF bs 1 at0 bad).1 0 = h0
 generalize hasF (readF bs 1 at0 bad).1 1 = h1
 generalize hasF (readF bs 1 at0 bad).1 2 = h2
 generalize hasF (readF bs 1 at0 bad).1 3 = h3
 cases h0 <;> cases h1 <;> cases h2 <;> cases h3 <;> rfl
def Rel (bs : List Int) (st : Option Nat) (wr : Bool) (a : Int) (bad : Bool) : Prop :=
 (∃ n : Nat, a = (n : Int) ∧ n ≤ bs.length) ∧ match st with
  | some n => wr = false ∧ bad = false ∧ a = (n : Int)
  | none => wr = true ∨ bad = true
def optS (bs : List Int) (c : Bool) (st : Option Nat) (most : Int) : Int × Option Nat :=
 if c then (match st with
  | none => (0, none)
  | some a => match tk bs a most with
   | some (w, a2) => (w, some a2)
   | none => (0, none))
 else (0, st)
theorem optC_rel {R : Type} {bs : List Int} {st : Option Nat} {wr : Bool} {a : Int} {bad : Bool} (hb : inB bs = true) (h : Rel bs st wr a bad) (c : Bool) (most : Int) (m0 : 0 ≤ most) (m1 : most < 9223372036854775808) (k : Int → Bool → List Int → Int → Bool → Option R) :
  ∃ wr' a' bad', optC c most wr bs a bad k = k (optS bs c st most).1 wr' bs a' bad' ∧ Rel bs (optS bs c st most).2 wr' a' bad' := by
 obtain ⟨hl, hc⟩ := (inB_iff bs).1 hb
 obtain ⟨⟨n, rfl, hn⟩, h⟩ := h
 cases c with
 | false => exact ⟨wr, n, bad, rfl, ⟨n, rfl, hn⟩, h⟩
 | true =>
  cases st with
  | none =>
   cases wr with
   | true => exact ⟨true, n, bad, rfl, ⟨n, rfl, hn⟩, Or.inl rfl⟩
   | false =>
    obtain rfl : bad = true := by rcases h with h | h; cases h; exact h
    refine ⟨true, n, true, ?_, ⟨n, rfl, hn⟩, Or.inl rfl⟩
    unfold optC
    rw [if_pos rfl, form_bad bs n most hb hn]
    rfl
  | some m =>
   obtain ⟨rfl, rfl, e⟩ := h
   obtain rfl : n = m := by omega
   have hg := form_good bs n most hb m0 m1 hn
   unfold optC optS
   rw [if_pos rfl, if_pos rfl]
   dsimp only
   split at hg
   ·rename_i w a2 ht
    obtain ⟨_, _, _, _, _, h2⟩ := tk_facts hc ht
    rw [hg]
    try simp only [ht]
    exact ⟨false, a2, false, rfl, ⟨a2, rfl, h2⟩, rfl, rfl, rfl⟩
   ·rename_i ht
    obtain ⟨a', bad', hg, h2⟩ := hg
    rw [hg]
    try simp only [ht]
    exact ⟨true, a', bad', rfl, ⟨a', rfl, h2⟩, Or.inl rfl⟩
def spS (bs : List Int) (st : Option Nat) : Int × Int × Option Nat :=
 match st with
 | some n => (match bs[n]? with
  | some c => if okS (c / 16) (c % 16) then (c / 16, c % 16, some (n + 1)) else (0, 0, none)
  | none => (0, 0, none))
 | none => (0, 0, none)
theorem ofGo_tab : (List.range 256).all (fun n => (ofGo allF (n : Int)).2.2 == okS ((n : Int) / 16) ((n : Int) % 16)) = true := by kernel_rfl
theorem ofGo_ok3 (c : Int) (h0 : 0 ≤ c) (h1 : c ≤ 255) : (ofGo allF c).2.2 = okS (c / 16) (c % 16) := by
 have := List.all_eq_true.1 ofGo_tab c.toNat (by simp; omega)
 rw [show ((c.toNat : Nat) : Int) = c from by omega] at this
 simpa using this
theorem span_rel {bs : List Int} {st : Option Nat} {wr : Bool} {a : Int} {bad : Bool} (hb : inB bs = true) (h : Rel bs st wr a bad) :
  ∃ lo hi wr' a' bad', gen3_reader_span.f BIG bs a bad wr = some (lo, hi, wr', bs, a', bad') ∧ Rel bs (spS bs st).2.2 wr' a' bad' ∧ ((spS bs st).2.2 ≠ none → lo = (spS bs st).1 ∧ hi = (spS bs st).2.1) := by
 obtain ⟨hl, hc⟩ := (inB_iff bs).1 hb
 obtain ⟨⟨n, rfl, hn⟩, h⟩ := h
 have hat : atOk bs (n : Int) = true := (atOk_iff _ _).2 ⟨hb, by omega, by omega⟩
 have ha' := (atOk_iff _ _).1 (readF_at bs 1 (n : Int) bad hat)
 have hex : ∃ m : Nat, (readF bs 1 (n : Int) bad).2.1 = (m : Int) ∧ m ≤ bs.length := ⟨(readF bs 1 (n : Int) bad).2.1.toNat, by omega, by omega⟩
 unfold gen3_reader_span.f gen3_reader_span.b
 simp only [veil_eq]
 rw [if_pos hat]
 cases wr with
 | true =>
  refine ⟨_, _, true, _, _, rfl, ⟨hex, ?_⟩, ?_⟩
  ·cases st with
   | none => exact Or.inl rfl
   | some m => exact absurd h.1 (by simp)
  ·cases st with
   | none => intro h; exact absurd rfl h
   | some m => exact absurd h.1 (by simp)
 | false =>
  cases st with
  | none =>
   obtain rfl : bad = true := by rcases h with h | h; cases h; exact h
   refine ⟨_, _, _, _, _, rfl, ⟨hex, ?_⟩, fun h => absurd rfl h⟩
   refine Or.inr ?_
   rw [readF_bad]
  | some m =>
   obtain ⟨_, rfl, e⟩ := h
   obtain rfl : n = m := by omega
   by_cases hlt : n < bs.length
   ·have hs : spS bs (some n) = if okS (bs[n] / 16) (bs[n] % 16) then (bs[n] / 16, bs[n] % 16, some (n + 1)) else (0, 0, none) := by
     unfold spS; dsimp only
     rw [List.getElem?_eq_getElem hlt]
    rw [hs]
    obtain ⟨c0, c1⟩ := hc _ (List.getElem_mem hlt)
    rw [readF_one bs n hlt]
    dsimp only
    rw [if_neg (by simp)]
    have ht := ofGo_ok3 _ c0 c1
    have hd := ofGo_div _ c0 c1
    generalize bs[n] = c at c0 c1 ht hd ⊢
    refine ⟨_, _, _, _, _, rfl, ?_, ?_⟩
    ·refine ⟨⟨n + 1, rfl, hlt⟩, ?_⟩
     rw [ht]
     cases ho : okS (c / 16) (c % 16) with
     | true => exact ⟨rfl, rfl, rfl⟩
     | false => exact Or.inl rfl
    ·cases ho : okS (c / 16) (c % 16) with
     | true => intro _; rw [hd.1 ho]; exact ⟨rfl, rfl⟩
     | false => intro h; exact absurd rfl h
   ·have hs : spS bs (some n) = (0, 0, none) := by
     unfold spS; dsimp only
     rw [List.getElem?_eq_none (by omega)]
    rw [hs, readF_end bs n (by omega)]
    exact ⟨_, _, _, _, _, rfl, ⟨⟨n, rfl, hn⟩, Or.inr rfl⟩, fun h => absurd rfl h⟩
def hdSt (bs : List Int) : Option Nat := if 0 < bs.length then some 1 else none
def hdK (bs : List Int) : Int := bs.getD 0 0
def hdS (bs : List Int) : Option (Int × Int × Int × Int × Int × Int × Int × Int × Int × Int × Nat) :=
 let k := hdK bs
 let f := optS bs true (hdSt bs) 4095
 let i := optS bs true f.2 281474976710655
 let p := spS bs i.2
 let s := optS bs (hasF k 0) p.2.2 65535
 let t := optS bs (hasF k 1) s.2 4095
 let l := optS bs (hasF k 2) t.2 281474976710655
 let e := optS bs (hasF k 2) l.2 65535
 let b := optS bs (hasF k 3) e.2 65535
 match b.2 with
 | none => none
 | some a => if validF k f.1 i.1 p.1 p.2.1 s.1 t.1 l.1 e.1 b.1 [] then some (k, f.1, i.1, p.1, p.2.1, s.1, t.1, l.1, e.1, b.1, a) else none
theorem optS_none {bs : List Int} {c : Bool} {st : Option Nat} {most : Int} (h : (optS bs c st most).2 ≠ none) : st ≠ none := by
 intro e
 subst e
 cases c <;> exact h rfl
theorem head.pure (bs : List Int) (hb : inB bs = true) :
  match hdS bs with
  | some (k, f, i, lo, hi, s, t, l, e, b, a) => gen3_reader_head.f BIG bs 0 false false = some (k, f, i, lo, hi, s, t, l, e, b, [], false, bs, (a : Int), false) ∧ a ≤ bs.length ∧ validF k f i lo hi s t l e b [] = true
  | none => ∃ k f i lo hi s t l e b a bad, gen3_reader_head.f BIG bs 0 false false = some (k, f, i, lo, hi, s, t, l, e, b, [], true, bs, a, bad) := by
 rw [head_eq]
 unfold headC
 rw [if_pos ((atOk_iff _ _).2 ⟨hb, by omega, by omega⟩)]
 have h0 : (readF bs 1 0 false).1 = hdK bs ∧ Rel bs (hdSt bs) false (readF bs 1 0 false).2.1 (readF bs 1 0 false).2.2 := by
  unfold hdK hdSt
  by_cases h : 0 < bs.length
  ·rw [if_pos h, show (0 : Int) = ((0 : Nat) : Int) from rfl, readF_one bs 0 h]
   refine ⟨?_, ⟨1, rfl, h⟩, rfl, rfl, rfl⟩
   simp [List.getD, List.getElem?_eq_getElem h]
  ·rw [if_neg h, show (0 : Int) = ((0 : Nat) : Int) from rfl, readF_end bs 0 (by omega)]
   refine ⟨?_, ⟨0, rfl, by omega⟩, Or.inr rfl⟩
   simp [List.getD, List.getElem?_eq_none (show bs.length ≤ 0 by omega)]
 obtain ⟨e0, r0⟩ := h0
 rw [e0]
 obtain ⟨w1, a1, d1, e1, r1⟩ := optC_rel hb r0 true 4095 (by decide) (by decide) _
 rw [e1]
 obtain ⟨w2, a2, d2, e2, r2⟩ := optC_rel hb r1 true 281474976710655 (by decide) (by decide) _
 rw [e2]
 obtain ⟨lo, hi, w3, a3, d3, e3, r3, q3⟩ := span_rel hb r2
 rw [e3]
 dsimp only
 obtain ⟨w4, a4, d4, e4, r4⟩ := optC_rel hb r3 (hasF (hdK bs) 0) 65535 (by decide) (by decide) _
 rw [e4]
 obtain ⟨w5, a5, d5, e5, r5⟩ := optC_rel hb r4 (hasF (hdK bs) 1) 4095 (by decide) (by decide) _
 rw [e5]
 obtain ⟨w6, a6, d6, e6, r6⟩ := optC_rel hb r5 (hasF (hdK bs) 2) 281474976710655 (by decide) (by decide) _
 rw [e6]
 obtain ⟨w7, a7, d7, e7, r7⟩ := optC_rel hb r6 (hasF (hdK bs) 2) 65535 (by decide) (by decide) _
 rw [e7]
 obtain ⟨w8, a8, d8, e8, r8⟩ := optC_rel hb r7 (hasF (hdK bs) 3) 65535 (by decide) (by decide) _
 rw [e8]
 have hs : (optS bs (hasF (hdK bs) 3) (optS bs (hasF (hdK bs) 2) (optS bs (hasF (hdK bs) 2) (optS bs (hasF (hdK bs) 1) (optS bs (hasF (hdK bs) 0) (spS bs (optS bs true (optS bs true (hdSt bs) 4095).2 281474976710655).2).2.2 65535).2 4095).2 281474976710655).2 65535).2 65535).2 ≠ none → lo = (spS bs (optS bs true (optS bs true (hdSt bs) 4095).2 281474976710655).2).1 ∧ hi = (spS bs (optS bs true (optS bs true (hdSt bs) 4095).2 281474976710655).2).2.1 :=
  fun h => q3 (optS_none (optS_none (optS_none (optS_none (optS_none h)))))
 unfold hdS finC
 dsimp only
 generalize optS bs (hasF (hdK bs) 3) _ 65535 = B at r8 hs ⊢
 obtain ⟨b, st⟩ := B
 dsimp only at r8 hs ⊢
 obtain ⟨⟨n, rfl, hn⟩, r8⟩ := r8
 cases st with
 | none =>
  dsimp only at r8 ⊢
  cases d8 with
  | true => exact ⟨_, _, _, _, _, _, _, _, _, _, _, _, rfl⟩
  | false =>
   obtain rfl : w8 = true := by rcases r8 with h | h; exact h; cases h
   rw [if_neg (by simp)]
   split <;> exact ⟨_, _, _, _, _, _, _, _, _, _, _, _, rfl⟩
 | some m =>
  obtain ⟨rfl, rfl, e⟩ := r8
  obtain ⟨rfl, rfl⟩ := hs (by simp)
  obtain rfl : n = m := by omega
  dsimp only
  rw [if_neg (c := false = true) (by simp)]
  by_cases hv : validF (hdK bs) (optS bs true (hdSt bs) 4095).1 (optS bs true (optS bs true (hdSt bs) 4095).2 281474976710655).1 (spS bs (optS bs true (optS bs true (hdSt bs) 4095).2 281474976710655).2).1 (spS bs (optS bs true (optS bs true (hdSt bs) 4095).2 281474976710655).2).2.1 (optS bs (hasF (hdK bs) 0) (spS bs (optS bs true (optS bs true (hdSt bs) 4095).2 281474976710655).2).2.2 65535).1 (optS bs (hasF (hdK bs) 1) (optS bs (hasF (hdK bs) 0) (spS bs (optS bs true (optS bs true (hdSt bs) 4095).2 281474976710655).2).2.2 65535).2 4095).1 (optS bs (hasF (hdK bs) 2) (optS bs (hasF (hdK bs) 1) (optS bs (hasF (hdK bs) 0) (spS bs (optS bs true (optS bs true (hdSt bs) 4095).2 281474976710655).2).2.2 65535).2 4095).2 281474976710655).1 (optS bs (hasF (hdK bs) 2) (optS bs (hasF (hdK bs) 2) (optS bs (hasF (hdK bs) 1) (optS bs (hasF (hdK bs) 0) (spS bs (optS bs true (optS bs true (hdSt bs) 4095).2 281474976710655).2).2.2 65535).2 4095).2 281474976710655).2 65535).1 b [] = true
  ·rw [if_pos hv, if_neg (by rw [Bool.not_eq_true, Bool.not_eq_false']; exact hv)]
   exact ⟨rfl, hn, hv⟩
  ·rw [if_neg hv, if_pos (by simpa using hv)]
   exact ⟨_, _, _, _, _, _, _, _, _, _, _, _, rfl⟩
theorem tk_at {bs : List Int} {a : Nat} {most w : Int} {r : List Int} (h : bs.drop a = vi w ++ r) (h0 : 0 ≤ w) (h1 : w < 18446744073709551616) (hm : w ≤ most) : tk bs a most = some (w, a + (vi w).length) ∧ bs.drop (a + (vi w).length) = r := by
 have hl := congrArg List.length h
 have h1' := (vi_len w).1
 simp only [List.length_drop, List.length_append] at hl
 refine ⟨?_, ?_⟩
 ·rw [tk_vi h h0 h1 hm, show bs.length - r.length = a + (vi w).length from by omega]
 ·rw [← List.drop_drop, h, List.drop_left]
theorem get_at {bs : List Int} {a : Nat} {c : Int} {r : List Int} (h : bs.drop a = c :: r) : bs[a]? = some c ∧ bs.drop (a + 1) = r := by
 constructor
 ·have := List.getElem?_drop (xs := bs) (i := a) (j := 0)
  rw [h] at this
  simpa using this.symm
 ·rw [← List.drop_drop, h]; all_goals rfl
theorem get_drop {bs : List Int} {a : Nat} {c : Int} (h : bs[a]? = some c) : bs.drop a = c :: bs.drop (a + 1) ∧ a < bs.length := by
 obtain ⟨hlt, he⟩ := List.getElem?_eq_some_iff.1 h
 rw [List.drop_eq_getElem_cons hlt, he]
 exact ⟨rfl, hlt⟩
def fldS (bs : List Int) (a : Nat) : Option ((Int × List Int) × Nat) :=
 match bs[a]? with
 | none => none
 | some t => match tk bs (a + 1) 4096 with
  | none => none
  | some (n, a2) => if a2 + n.toNat ≤ bs.length then some ((t, (bs.drop a2).take n.toNat), a2 + n.toNat) else none
theorem fldS_sound {bs : List Int} {a : Nat} {x : Int × List Int} {a2 : Nat} (hb : ∀ c ∈ bs, 0 ≤ c ∧ c ≤ 255) (h : fldS bs a = some (x, a2)) : bs.drop a = fld3 x ++ bs.drop a2 ∧ a2 ≤ bs.length ∧ x.2.length ≤ 4096 := by
 unfold fldS at h
 cases hc : bs[a]? with
 | none => rw [hc] at h; cases h
 | some c =>
  rw [hc] at h
  dsimp only at h
  cases ht : tk bs (a + 1) 4096 with
  | none => rw [ht] at h; cases h
  | some p =>
   obtain ⟨n, a3⟩ := p
   rw [ht] at h
   dsimp only at h
   by_cases hle : a3 + n.toNat ≤ bs.length
   ·rw [if_pos hle] at h
    obtain ⟨e1, n0, n1, _, _, _⟩ := tk_facts hb ht
    obtain ⟨e0, _⟩ := get_drop hc
    have hlen : ((bs.drop a3).take n.toNat).length = n.toNat := by rw [List.length_take, List.length_drop]; omega
    obtain ⟨rfl, rfl⟩ : (c, (bs.drop a3).take n.toNat) = x ∧ a3 + n.toNat = a2 := by cases h; exact ⟨rfl, rfl⟩
    refine ⟨?_, hle, by dsimp only; omega⟩
    unfold fld3
    dsimp only
    rw [hlen, e0, e1, show ((n.toNat : Nat) : Int) = n from by omega, ← List.drop_drop, List.cons_append, List.append_assoc, List.take_append_drop]
   ·rw [if_neg hle] at h; cases h
theorem fldS_back {bs : List Int} {a : Nat} {x : Int × List Int} {r : List Int} (h : bs.drop a = fld3 x ++ r) (hx : x.2.length ≤ 4096) : fldS bs a = some (x, a + (fld3 x).length) ∧ bs.drop (a + (fld3 x).length) = r := by
 have hl := congrArg List.length h
 refine ⟨?_, by rw [← List.drop_drop, h, List.drop_left]⟩
 obtain ⟨t, d⟩ := x
 dsimp only at hx
 obtain ⟨g1, g2⟩ := get_at (show bs.drop a = t :: (vi (d.length : Int) ++ (d ++ r)) from by rw [h]; simp [fld3])
 obtain ⟨k1, k2⟩ := tk_at (most := 4096) g2 (by omega) (by omega) (by omega)
 have hv := vi_len (d.length : Int)
 unfold fldS
 rw [g1]
 dsimp only
 rw [k1]
 dsimp only
 simp only [List.length_drop, List.length_append, fld3, List.length_cons] at hl ⊢
 rw [if_pos (by omega), k2, Int.toNat_natCast, List.take_left, show a + 1 + (vi (d.length : Int)).length + d.length = a + ((vi (d.length : Int)).length + d.length + 1) from by omega]
def fldsS (bs : List Int) : Nat → Nat → Option (LF × Nat)
 | 0, a => some ([], a)
 | k + 1, a => match fldS bs a with
  | none => none
  | some (x, a2) => match fldsS bs k a2 with
   | none => none
   | some (l, a3) => some (x :: l, a3)
theorem fldsS_sound {bs : List Int} (hb : ∀ c ∈ bs, 0 ≤ c ∧ c ≤ 255) : ∀ (k a : Nat) (l : LF) (a2 : Nat), a ≤ bs.length → fldsS bs k a = some (l, a2) → bs.drop a = l.flatMap fld3 ++ bs.drop a2 ∧ a2 ≤ bs.length ∧ l.length = k ∧ ∀ x ∈ l, x.2.length ≤ 4096 := by
 intro k
 induction k with
 | zero =>
  intro a l a2 ha h
  rw [fldsS] at h
  cases h
  exact ⟨rfl, ha, rfl, by simp⟩
 | succ k ih =>
  intro a l a2 ha h
  rw [fldsS] at h
  cases h1 : fldS bs a with
  | none => rw [h1] at h; cases h
  | some p =>
   obtain ⟨x, a3⟩ := p
   rw [h1] at h
   dsimp only at h
   obtain ⟨e1, l1, s1⟩ := fldS_sound hb h1
   cases h2 : fldsS bs k a3 with
   | none => rw [h2] at h; cases h
   | some q =>
    obtain ⟨m, a4⟩ := q
    rw [h2] at h
    dsimp only at h
    obtain ⟨e2, l2, n2, s2⟩ := ih a3 m a4 l1 h2
    cases h
    refine ⟨by rw [e1, e2]; simp, l2, by simp [n2], ?_⟩
    intro y hy
    rcases List.mem_cons.1 hy with rfl | hy
    ·exact s1
    ·exact s2 y hy
theorem fldsS_back {bs : List Int} : ∀ (l : LF) (a : Nat) (r : List Int), bs.drop a = l.flatMap fld3 ++ r → (∀ x ∈ l, x.2.length ≤ 4096) → fldsS bs l.length a = some (l, a + (l.flatMap fld3).length) ∧ bs.drop (a + (l.flatMap fld3).length) = r
 | [], a, r, h, _ => ⟨rfl, h⟩
 | x :: l, a, r, h, hx => by
  obtain ⟨h1, h2⟩ := fldS_back (x := x) (r := l.flatMap fld3 ++ r) (by rw [h]; simp) (hx x (List.mem_cons_self ..))
  obtain ⟨h3, h4⟩ := fldsS_back l _ r h2 (fun y hy => hx y (List.mem_cons_of_mem _ hy))
  have e : a + ((x :: l).flatMap fld3).length = a + (fld3 x).length + (l.flatMap fld3).length := by simp; omega
  rw [e]
  refine ⟨?_, h4⟩
  rw [List.length_cons, fldsS, h1]
  dsimp only
  rw [h3]
def bagS (bs : List Int) (a : Nat) : Option (LF × Nat) :=
 match tk bs a 32 with
 | none => none
 | some (n, a1) => fldsS bs n.toNat a1
theorem bagS_sound {bs : List Int} (hb : ∀ c ∈ bs, 0 ≤ c ∧ c ≤ 255) {a : Nat} {l : LF} {a2 : Nat} (h : bagS bs a = some (l, a2)) : bs.drop a = bag3 l ++ bs.drop a2 ∧ a2 ≤ bs.length ∧ l.length ≤ 32 ∧ ∀ x ∈ l, x.2.length ≤ 4096 := by
 unfold bagS at h
 cases ht : tk bs a 32 with
 | none => rw [ht] at h; cases h
 | some p =>
  obtain ⟨n, a1⟩ := p
  rw [ht] at h
  dsimp only at h
  obtain ⟨e1, n0, n1, _, _, l1⟩ := tk_facts hb ht
  obtain ⟨e2, l2, n2, s2⟩ := fldsS_sound hb _ _ _ _ l1 h
  refine ⟨?_, l2, by omega, s2⟩
  rw [e1, e2]
  unfold bag3
  rw [n2, show ((n.toNat : Nat) : Int) = n from by omega, List.append_assoc]
theorem bagS_back {bs : List Int} {a : Nat} {l : LF} {r : List Int} (h : bs.drop a = bag3 l ++ r) (hn : l.length ≤ 32) (hx : ∀ x ∈ l, x.2.length ≤ 4096) : bagS bs a = some (l, a + (bag3 l).length) ∧ bs.drop (a + (bag3 l).length) = r := by
 refine ⟨?_, by rw [← List.drop_drop, h, List.drop_left]⟩
 obtain ⟨h1, h2⟩ := tk_at (w := (l.length : Int)) (most := 32) (r := l.flatMap fld3 ++ r) (by rw [h]; simp [bag3]) (by omega) (by omega) (by omega)
 obtain ⟨h3, h4⟩ := fldsS_back l _ r h2 hx
 unfold bagS
 rw [h1]
 dsimp only
 rw [Int.toNat_natCast, h3]
 simp [bag3]
 omega
theorem lexB_eq : ∀ (l m : List Int), lexB l m = 0 → l = m
 | [], [], _ => rfl
 | [], _ :: _, h => by simp [lexB] at h
 | _ :: _, [], h => by simp [lexB] at h
 | x :: l, y :: m, h => by
  rw [lexB] at h
  by_cases h1 : x < y
  ·rw [if_pos (by simpa using h1)] at h; omega
  ·rw [if_neg (by simpa using h1)] at h
   by_cases h2 : x > y
   ·rw [if_pos (by simpa using h2)] at h; omega
   ·rw [if_neg (by simpa using h2)] at h
    rw [lexB_eq l m h, show x = y from by omega]
theorem cmpGo_eq : ∀ (l m : LF), cmpGo l m = 0 → l = m
 | [], [], _ => rfl
 | [], _ :: _, h => by simp [cmpGo] at h
 | _ :: _, [], h => by simp [cmpGo] at h
 | (t, d) :: l, (u, e) :: m, h => by
  rw [cmpGo] at h
  dsimp only at h
  by_cases h1 : signF t d u e = 0
  ·rw [if_neg (by simp [h1])] at h
   rw [cmpGo_eq l m h]
   unfold signF at h1
   by_cases h2 : t = u
   ·subst h2
    rw [if_neg (by simp)] at h1
    rw [lexB_eq d e h1]
   ·rw [if_pos (by simpa using h2)] at h1
    split at h1 <;> omega
  ·rw [if_pos (by simpa using h1)] at h
   exact absurd h h1
theorem cmpGo_iff (l m : LF) : (cmpGo l m == 0) = decide (l = m) := by
 by_cases h : l = m
 ·subst h; rw [cmpGo_self]; simp
 ·rw [decide_eq_false h]
  cases hc : cmpGo l m == 0 with
  | false => rfl
  | true => exact absurd (cmpGo_eq l m (by simpa using hc)) h
def zagF (z : Int) : Int := if z % 2 = 0 then z / 2 else -((z + 1) / 2)
theorem zig_zag (z : Int) (h : 0 ≤ z) : zigF (zagF z) = z := by unfold zigF zagF; split <;> split <;> omega
theorem zag_zig (n : Int) : zagF (zigF n) = n := by unfold zigF zagF; split <;> split <;> omega
def spanS (bs : List Int) (o : REC × Bool) (v : Int) (a : Nat) : Option ((Int × Int) × Nat) :=
 if v / 8 % 2 = 1 then some (o.1.2.2.2.1, a) else
 match bs[a]? with
 | none => none
 | some c => if okS (c / 16) (c % 16) = true ∧ (o.2 && (c / 16 == o.1.2.2.2.1.1 && c % 16 == o.1.2.2.2.1.2)) = false then some ((c / 16, c % 16), a + 1) else none
def bagsS (bs : List Int) (o : REC × Bool) (v : Int) (a : Nat) : Option (LF × Nat) :=
 if v / 4 % 2 = 1 then some ([], a) else if 16 ≤ v then some (o.1.2.2.2.2.2, a) else
 match bagS bs a with
 | none => none
 | some (b, a2) => if (o.2 && cmpGo b o.1.2.2.2.2.2 == 0) = true then none else some (b, a2)
def flagBad (o : REC × Bool) (v : Int) : Bool := decide (32 ≤ v) || ((!o.2 && decide (8 ≤ v)) || (decide (v / 4 % 2 = 1) && decide (16 ≤ v)))
def recS (bs : List Int) (base : LR) (last : Int) (a : Nat) : Option (REC × Nat) :=
 match tk bs a 4095 with
 | none => none
 | some (d, a1) => match bs[a1]? with
  | none => none
  | some v => if flagBad (oldR base (last + 1 + d)) v then none else
   match spanS bs (oldR base (last + 1 + d)) v (a1 + 1) with
   | none => none
   | some (sp, a2) => match tk bs a2 562949953421310 with
    | none => none
    | some (z, a3) => match bagsS bs (oldR base (last + 1 + d)) v a3 with
     | none => none
     | some (b, a4) => some ((last + 1 + d, (oldR base (last + 1 + d)).1.2.1 + zagF z, v % 4, sp, v / 4 % 2 == 1, b), a4)
theorem spanS_sound {bs : List Int} (hb : ∀ c ∈ bs, 0 ≤ c ∧ c ≤ 255) {o : REC × Bool} {v : Int} {a : Nat} {sp : Int × Int} {a2 : Nat} (ha : a ≤ bs.length) (v0 : 0 ≤ v) (ho : o.2 = false → v < 8) (h : spanS bs o v a = some (sp, a2)) :
  bs.drop a = (if v / 8 % 2 = 1 then [] else [sp.1 * 16 + sp.2]) ++ bs.drop a2 ∧ a2 ≤ bs.length ∧ (o.2 && (o.1.2.2.2.1.1 == sp.1 && o.1.2.2.2.1.2 == sp.2)) = decide (v / 8 % 2 = 1) ∧ (v / 8 % 2 = 1 ∨ okS sp.1 sp.2 = true) := by
 unfold spanS at h
 by_cases hv : v / 8 % 2 = 1
 ·rw [if_pos hv] at h
  cases h
  rw [if_pos hv]
  refine ⟨rfl, ha, ?_, Or.inl hv⟩
  have : o.2 = true := by
   cases h2 : o.2 with
   | true => rfl
   | false => have := ho h2; omega
  rw [this, decide_eq_true hv]
  simp
 ·rw [if_neg hv] at h ⊢
  cases hc : bs[a]? with
  | none => rw [hc] at h; cases h
  | some c =>
   rw [hc] at h
   dsimp only at h
   obtain ⟨e0, hlt⟩ := get_drop hc
   obtain ⟨c0, c1⟩ := hb c (List.mem_of_getElem? hc)
   by_cases hk : okS (c / 16) (c % 16) = true ∧ (o.2 && (c / 16 == o.1.2.2.2.1.1 && c % 16 == o.1.2.2.2.1.2)) = false
   ·rw [if_pos hk] at h
    cases h
    refine ⟨by rw [e0, show c / 16 * 16 + c % 16 = c from by omega]; rfl, hlt, ?_, Or.inr hk.1⟩
    rw [decide_eq_false hv, ← hk.2, Bool.beq_comm (a := o.1.2.2.2.1.1), Bool.beq_comm (a := o.1.2.2.2.1.2)]
   ·rw [if_neg hk] at h; cases h
theorem decide_comm (l m : LF) : decide (l = m) = decide (m = l) := by
 by_cases h : l = m
 ·rw [decide_eq_true h, decide_eq_true h.symm]
 ·rw [decide_eq_false h, decide_eq_false (fun e => h e.symm)]
theorem flagBad_no {o : REC × Bool} {v : Int} (h : flagBad o v = false) : v < 32 ∧ (o.2 = false → v < 8) ∧ (v / 4 % 2 = 1 → v < 16) := by
 unfold flagBad at h
 simp only [Bool.or_eq_false_iff, Bool.and_eq_false_iff, decide_eq_false_iff_not, Bool.not_eq_false'] at h
 obtain ⟨h1, h2, h3⟩ := h
 refine ⟨by omega, fun ho => ?_, fun hc => ?_⟩
 ·rcases h2 with h2 | h2
  ·rw [ho] at h2; cases h2
  ·omega
 ·rcases h3 with h3 | h3
  ·exact absurd hc h3
  ·omega
theorem flagBad_of {o : REC × Bool} {v : Int} (h1 : v < 32) (h2 : o.2 = false → v < 8) (h3 : v / 4 % 2 = 1 → v < 16) : flagBad o v = false := by
 unfold flagBad
 rw [decide_eq_false (by omega : ¬ 32 ≤ v)]
 have e1 : (!o.2 && decide (8 ≤ v)) = false := by
  cases ho : o.2 with
  | true => rfl
  | false => have := h2 ho; rw [decide_eq_false (by omega : ¬ 8 ≤ v)]; all_goals rfl
 have e2 : (decide (v / 4 % 2 = 1) && decide (16 ≤ v)) = false := by
  by_cases hc : v / 4 % 2 = 1
  ·have := h3 hc; rw [decide_eq_false (by omega : ¬ 16 ≤ v)]; simp
  ·rw [decide_eq_false hc]; all_goals rfl
 rw [e1, e2]; all_goals rfl
theorem bagsS_sound {bs : List Int} (hb : ∀ c ∈ bs, 0 ≤ c ∧ c ≤ 255) {o : REC × Bool} {v : Int} {a : Nat} {b : LF} {a2 : Nat} (ha : a ≤ bs.length) (ho : o.2 = false → v < 8) (hc : v / 4 % 2 = 1 → v < 16) (h : bagsS bs o v a = some (b, a2)) :
  bs.drop a = (if (v / 4 % 2 == 1 || decide (16 ≤ v)) = true then [] else bag3 b) ++ bs.drop a2 ∧ a2 ≤ bs.length ∧ (o.2 && (!(v / 4 % 2 == 1) && cmpGo o.1.2.2.2.2.2 b == 0)) = decide (16 ≤ v) := by
 unfold bagsS at h
 by_cases h1 : v / 4 % 2 = 1
 ·rw [if_pos h1] at h
  cases h
  have := hc h1
  have e1 : (v / 4 % 2 == 1) = true := by simpa using h1
  rw [e1, decide_eq_false (by omega : ¬ 16 ≤ v)]
  exact ⟨rfl, ha, by simp⟩
 ·rw [if_neg h1] at h
  have e1 : (v / 4 % 2 == 1) = false := by simpa using h1
  rw [e1]
  by_cases h2 : 16 ≤ v
  ·rw [if_pos h2] at h
   cases h
   rw [decide_eq_true h2, cmpGo_self]
   have : o.2 = true := by
    cases h2 : o.2 with
    | true => rfl
    | false => have := ho h2; omega
   exact ⟨rfl, ha, by rw [this]; rfl⟩
  ·rw [if_neg h2] at h
   rw [decide_eq_false h2]
   cases hg : bagS bs a with
   | none => rw [hg] at h; cases h
   | some p =>
    obtain ⟨b', a3⟩ := p
    rw [hg] at h
    dsimp only at h
    obtain ⟨e2, l2, _, _⟩ := bagS_sound hb hg
    by_cases h3 : (o.2 && cmpGo b' o.1.2.2.2.2.2 == 0) = true
    ·rw [if_pos h3] at h; cases h
    ·rw [if_neg h3] at h
     cases h
     refine ⟨by rw [e2]; rfl, l2, ?_⟩
     rw [cmpGo_iff] at h3
     rw [cmpGo_iff, ← decide_comm b]
     simpa using h3
theorem recS_sound {bs : List Int} (hb : ∀ c ∈ bs, 0 ≤ c ∧ c ≤ 255) {base : LR} {last : Int} {a : Nat} {r : REC} {a2 : Nat} (h : recS bs base last a = some (r, a2)) :
  bs.drop a = rec3 (oldR base r.1) last r ++ bs.drop a2 ∧ a2 ≤ bs.length ∧ last < r.1 ∧ r.1 ≤ last + 4096 := by
 unfold recS at h
 cases ht : tk bs a 4095 with
 | none => rw [ht] at h; cases h
 | some p =>
  obtain ⟨d, a1⟩ := p
  rw [ht] at h
  dsimp only at h
  obtain ⟨e1, d0, d1, _, _, l1⟩ := tk_facts hb ht
  cases hc : bs[a1]? with
  | none => rw [hc] at h; cases h
  | some v =>
   rw [hc] at h
   dsimp only at h
   obtain ⟨e2, l2⟩ := get_drop hc
   obtain ⟨v0, v1⟩ := hb v (List.mem_of_getElem? hc)
   cases hf : flagBad (oldR base (last + 1 + d)) v with
   | true => rw [hf] at h; cases h
   | false =>
    obtain ⟨f1, f2, f3⟩ := flagBad_no hf
    rw [hf, if_neg (by simp)] at h
    cases hs : spanS bs (oldR base (last + 1 + d)) v (a1 + 1) with
    | none => rw [hs] at h; cases h
    | some q =>
     obtain ⟨sp, a3⟩ := q
     rw [hs] at h
     dsimp only at h
     obtain ⟨e3, l3, s3, _⟩ := spanS_sound hb (by omega) v0 f2 hs
     cases hz : tk bs a3 562949953421310 with
     | none => rw [hz] at h; cases h
     | some w =>
      obtain ⟨z, a4⟩ := w
      rw [hz] at h
      dsimp only at h
      obtain ⟨e4, z0, z1, _, _, l4⟩ := tk_facts hb hz
      cases hg : bagsS bs (oldR base (last + 1 + d)) v a4 with
      | none => rw [hg] at h; cases h
      | some u =>
       obtain ⟨b, a5⟩ := u
       rw [hg] at h
       dsimp only at h
       obtain ⟨e5, l5, s5⟩ := bagsS_sound hb l4 f2 f3 hg
       cases h
       refine ⟨?_, l5, by dsimp only; omega, by dsimp only; omega⟩
       rw [e1, e2, e3, e4, e5]
       dsimp only
       unfold rec3 flagV sameSpan sameBag
       dsimp only
       rw [s3, s5]
       generalize oldR base (last + 1 + d) = o
       rw [show last + 1 + d - last - 1 = d from by omega, show o.1.2.1 + zagF z - o.1.2.1 = zagF z from by omega, zig_zag z z0]
       have ev : v % 4 + (if (v / 4 % 2 == 1) = true then 4 else 0) + (if decide (v / 8 % 2 = 1) = true then 8 else 0) + (if decide (16 ≤ v) = true then 16 else 0) = v := by
        simp only [beq_iff_eq, decide_eq_true_eq]
        split <;> split <;> split <;> omega
       rw [ev]
       simp only [decide_eq_true_eq, List.append_assoc, List.cons_append]
theorem tk_bound {w o : Int} (h0 : 0 ≤ w) (h1 : w ≤ 281474976710655) (o0 : 0 ≤ o) (o1 : o ≤ 281474976710655) : 0 ≤ zigF (w - o) ∧ zigF (w - o) ≤ 562949953421310 := by
 unfold zigF; split <;> omega
theorem old_inc {base : LR} (hbase : ∀ x ∈ base, recOkT x = true) (id : Int) : 0 ≤ (oldR base id).1.2.1 ∧ (oldR base id).1.2.1 ≤ 281474976710655 := by
 rcases oldR_mem (base := base) (id := id) with ⟨_, h⟩ | ⟨_, h, _⟩
 ·rw [h]; exact ⟨by simp, by simp⟩
 ·have := recOk_facts (hbase _ h)
  exact ⟨this.2.2.1, this.2.2.2.1⟩
theorem recS_back {bs : List Int} {base : LR} (hbase : ∀ x ∈ base, recOkT x = true) {last : Int} {a : Nat} {r : REC} {rest : List Int} (hr : recOkT r = true) (h1 : -1 ≤ last) (h2 : last < r.1) (h : bs.drop a = rec3 (oldR base r.1) last r ++ rest) :
  recS bs base last a = some (r, a + (rec3 (oldR base r.1) last r).length) ∧ bs.drop (a + (rec3 (oldR base r.1) last r).length) = rest := by
 refine ⟨?_, by rw [← List.drop_drop, h, List.drop_left]⟩
 obtain ⟨f1, f2, f3, f4, f5, f6, f7, f8, f9⟩ := recOk_facts hr
 have hbl := bagOk_len f8
 have hbt := bag_tags f8
 obtain ⟨o0, o1⟩ := old_inc hbase r.1
 obtain ⟨z0, z1⟩ := tk_bound f3 f4 o0 o1
 have hsp := (okS_iff _ _).1 f7
 have hS : sameSpan (oldR base r.1) r = true → (oldR base r.1).2 = true ∧ (oldR base r.1).1.2.2.2.1 = r.2.2.2.1 := by
  intro hs
  unfold sameSpan at hs
  simp only [Bool.and_eq_true, beq_iff_eq] at hs
  exact ⟨hs.1, Prod.ext hs.2.1 hs.2.2⟩
 have hB : sameBag (oldR base r.1) r = true → (oldR base r.1).2 = true ∧ r.2.2.2.2.1 = false ∧ (oldR base r.1).1.2.2.2.2.2 = r.2.2.2.2.2 := by
  intro hs
  unfold sameBag at hs
  rw [cmpGo_iff] at hs
  simp only [Bool.and_eq_true, Bool.not_eq_true', decide_eq_true_eq] at hs
  exact ⟨hs.1, hs.2.1, hs.2.2⟩
 have hS' : sameSpan (oldR base r.1) r = false → ((oldR base r.1).2 && (r.2.2.2.1.1 == (oldR base r.1).1.2.2.2.1.1 && r.2.2.2.1.2 == (oldR base r.1).1.2.2.2.1.2)) = false := by
  intro hs
  unfold sameSpan at hs
  rw [← hs, Bool.beq_comm (a := r.2.2.2.1.1), Bool.beq_comm (a := r.2.2.2.1.2)]
 have hB' : sameBag (oldR base r.1) r = false → r.2.2.2.2.1 = false → ((oldR base r.1).2 && cmpGo r.2.2.2.2.2 (oldR base r.1).1.2.2.2.2.2 == 0) = false := by
  intro hs hc
  unfold sameBag at hs
  rw [cmpGo_iff, hc] at hs
  rw [cmpGo_iff, ← hs, decide_comm]
  all_goals rfl
 unfold rec3 at h ⊢
 generalize hss : sameSpan (oldR base r.1) r = ss at h hS hS' ⊢
 generalize hsb : sameBag (oldR base r.1) r = sb at h hB hB' ⊢
 obtain ⟨t1, t2⟩ := tk_at (most := 4095) (r := flagV (oldR base r.1) r :: ((if ss = true then [] else [r.2.2.2.1.1 * 16 + r.2.2.2.1.2]) ++ (vi (zigF (r.2.1 - (oldR base r.1).1.2.1)) ++ ((if (r.2.2.2.2.1 || sb) = true then [] else bag3 r.2.2.2.2.2) ++ rest)))) (by rw [h]; simp) (by omega : 0 ≤ r.1 - last - 1) (by omega) (by omega)
 obtain ⟨g1, g2⟩ := get_at t2
 have hv : flagV (oldR base r.1) r = r.2.2.1 + (if r.2.2.2.2.1 = true then 4 else 0) + (if ss = true then 8 else 0) + (if sb = true then 16 else 0) := by unfold flagV; rw [hss, hsb]
 generalize flagV (oldR base r.1) r = v at hv g1 g2 h t1 t2 ⊢
 obtain ⟨id, inc, st, ⟨lo, hi⟩, cut, bag⟩ := r
 dsimp only at *
 have hid : last + 1 + (id - last - 1) = id := by omega
 generalize ho : oldR base id = o at *
 have q4 : v / 4 % 2 = 1 ↔ cut = true := by
  cases cut <;> cases ss <;> cases sb <;> simp at hv ⊢ <;> omega
 have q8 : v / 8 % 2 = 1 ↔ ss = true := by
  cases cut <;> cases ss <;> cases sb <;> simp at hv ⊢ <;> omega
 have q16 : 16 ≤ v ↔ sb = true := by
  cases cut <;> cases ss <;> cases sb <;> simp at hv ⊢ <;> omega
 have q3 : v % 4 = st := by
  cases cut <;> cases ss <;> cases sb <;> simp at hv <;> omega
 have hf : flagBad o v = false := by
  refine flagBad_of (by cases cut <;> cases ss <;> cases sb <;> simp at hv <;> omega) (fun hno => ?_) (fun hcb => ?_)
  ·have a1 : ss = false := by
    cases ss with
    | false => rfl
    | true => have := (hS rfl).1; rw [hno] at this; cases this
   have a2 : sb = false := by
    cases sb with
    | false => rfl
    | true => have := (hB rfl).1; rw [hno] at this; cases this
   subst a1 a2
   cases cut <;> simp at hv <;> omega
  ·have a1 := q4.1 hcb
   have a2 : sb = false := by
    cases sb with
    | false => rfl
    | true => have := (hB rfl).2.1; rw [a1] at this; cases this
   subst a1 a2
   cases ss <;> simp at hv <;> omega
 unfold recS
 rw [t1]
 dsimp only
 rw [hid, ho, g1]
 dsimp only
 rw [hf, if_neg (by simp)]
 have hspan : spanS bs o v (a + (vi (id - last - 1)).length + 1) = some ((lo, hi), a + (vi (id - last - 1)).length + 1 + (if ss = true then [] else [lo * 16 + hi] : List Int).length) ∧ bs.drop (a + (vi (id - last - 1)).length + 1 + (if ss = true then [] else [lo * 16 + hi] : List Int).length) = vi (zigF (inc - o.1.2.1)) ++ ((if (cut || sb) = true then [] else bag3 bag) ++ rest) := by
  unfold spanS
  cases ss with
  | true =>
   rw [if_pos (q8.2 rfl), (hS rfl).2]
   exact ⟨rfl, by simpa using g2⟩
  | false =>
   rw [if_neg (fun h => by have := q8.1 h; cases this)]
   obtain ⟨k1, k2⟩ := get_at (show bs.drop (a + (vi (id - last - 1)).length + 1) = (lo * 16 + hi) :: (vi (zigF (inc - o.1.2.1)) ++ ((if (cut || sb) = true then [] else bag3 bag) ++ rest)) from by simpa using g2)
   rw [k1]
   dsimp only
   rw [show (lo * 16 + hi) / 16 = lo from by omega, show (lo * 16 + hi) % 16 = hi from by omega, if_pos ⟨f7, hS' rfl⟩]
   exact ⟨rfl, by simpa using k2⟩
 rw [hspan.1]
 dsimp only
 obtain ⟨u1, u2⟩ := tk_at (most := 562949953421310) hspan.2 z0 (by omega) z1
 rw [u1]
 dsimp only
 have hbag : bagsS bs o v (a + (vi (id - last - 1)).length + 1 + (if ss = true then [] else [lo * 16 + hi] : List Int).length + (vi (zigF (inc - o.1.2.1))).length) = some (bag, a + (vi (id - last - 1)).length + 1 + (if ss = true then [] else [lo * 16 + hi] : List Int).length + (vi (zigF (inc - o.1.2.1))).length + (if (cut || sb) = true then [] else bag3 bag).length) := by
  unfold bagsS
  cases cut with
  | true =>
   rw [if_pos (q4.2 rfl), f9 rfl]
   all_goals rfl
  | false =>
   rw [if_neg (fun h => by have := q4.1 h; cases this)]
   cases sb with
   | true => rw [if_pos (q16.2 rfl), (hB rfl).2.2]; all_goals rfl
   | false =>
    rw [if_neg (fun h => by have := q16.1 h; cases this)]
    have hg := bagS_back (l := bag) (r := rest) (by simpa using u2) hbl.1 (fun x hx => (hbt x hx).2.2)
    rw [hg.1]
    dsimp only
    rw [hB' rfl rfl, if_neg (by simp)]
    all_goals rfl
 rw [hbag]
 dsimp only
 rw [zag_zig, q3, show o.1.2.1 + (inc - o.1.2.1) = inc from by omega]
 have hcut : (v / 4 % 2 == 1) = cut := by
  cases cut with
  | true => simpa using q4.2 rfl
  | false => simp; intro h; have := q4.1 h; cases this
 rw [hcut]
 refine congrArg (fun n => some ((id, inc, st, (lo, hi), cut, bag), n)) ?_
 simp only [List.length_append, List.length_cons]
 omega
def recsS (bs : List Int) (base : LR) : Nat → Int → Nat → Option (LR × Nat)
 | 0, _, a => some ([], a)
 | k + 1, last, a => match recS bs base last a with
  | none => none
  | some (r, a2) => match recsS bs base k r.1 a2 with
   | none => none
   | some (l, a3) => some (r :: l, a3)
theorem recsS_sound {bs : List Int} (hb : ∀ c ∈ bs, 0 ≤ c ∧ c ≤ 255) {base : LR} : ∀ (k : Nat) (last : Int) (a : Nat) (l : LR) (a2 : Nat), a ≤ bs.length → recsS bs base k last a = some (l, a2) → bs.drop a = recs3 base last l ++ bs.drop a2 ∧ a2 ≤ bs.length ∧ l.length = k := by
 intro k
 induction k with
 | zero =>
  intro last a l a2 ha h
  rw [recsS] at h
  cases h
  exact ⟨rfl, ha, rfl⟩
 | succ k ih =>
  intro last a l a2 ha h
  rw [recsS] at h
  cases h1 : recS bs base last a with
  | none => rw [h1] at h; cases h
  | some p =>
   obtain ⟨x, a3⟩ := p
   rw [h1] at h
   dsimp only at h
   obtain ⟨e1, l1, _⟩ := recS_sound hb h1
   cases h2 : recsS bs base k x.1 a3 with
   | none => rw [h2] at h; cases h
   | some q =>
    obtain ⟨m, a4⟩ := q
    rw [h2] at h
    dsimp only at h
    obtain ⟨e2, l2, n2⟩ := ih x.1 a3 m a4 l1 h2
    cases h
    exact ⟨by rw [e1, e2, recs3, List.append_assoc], l2, by simp [n2]⟩
theorem recsS_back {bs : List Int} {base : LR} (hbase : ∀ x ∈ base, recOkT x = true) : ∀ (l : LR) (last : Int) (a : Nat) (rest : List Int), (∀ r ∈ l, recOkT r = true) → -1 ≤ last → risen last l → bs.drop a = recs3 base last l ++ rest →
  recsS bs base l.length last a = some (l, a + (recs3 base last l).length) ∧ bs.drop (a + (recs3 base last l).length) = rest
 | [], last, a, rest, _, _, _, h => ⟨rfl, h⟩
 | r :: l, last, a, rest, hr, h1, h2, h => by
  obtain ⟨h3, h4⟩ := h2
  have hm := hr r (List.mem_cons_self ..)
  have hid := (recOk_facts hm).1
  obtain ⟨k1, k2⟩ := recS_back hbase (rest := recs3 base r.1 l ++ rest) hm h1 h3 (by rw [h, recs3, List.append_assoc])
  obtain ⟨k3, k4⟩ := recsS_back hbase l r.1 _ rest (fun x hx => hr x (List.mem_cons_of_mem _ hx)) (by omega) h4 k2
  have e : a + (recs3 base last (r :: l)).length = a + (rec3 (oldR base r.1) last r).length + (recs3 base r.1 l).length := by rw [recs3, List.length_append]; omega
  rw [e]
  refine ⟨?_, k4⟩
  rw [List.length_cons, recsS, k1]
  dsimp only
  rw [k3]
theorem valid_bare {kind from0 inc lo hi seq target life epoch base : Int} {recs : LR} (h : validF kind from0 inc lo hi seq target life epoch base recs = true) : validF kind from0 inc lo hi seq target life epoch base [] = true := by
 unfold validF at h ⊢
 generalize ((ofF kind).1.toList == (⟨#[]⟩ : ByteArray).toList || (decide (from0 < 0) || (decide (from0 > 4095) || (decide (inc < 0) || (decide (inc > 281474976710655) || !okS lo hi))))) = c1 at h ⊢
 generalize (!withinF (hasF kind 0) seq 0 65535 || (!withinF (hasF kind 1) target (if kind == 3 then 1 else 0) (if kind == 3 then 3 else 4095) || !livesF kind life epoch base)) = c2 at h ⊢
 cases c1
 ·cases c2
  ·generalize hasF kind 4 = c4 at h ⊢
   cases c4 <;> rfl
  ·exact absurd h (by simp)
 ·exact absurd h (by simp)
theorem optS_sound {bs : List Int} (hb : ∀ c ∈ bs, 0 ≤ c ∧ c ≤ 255) {c : Bool} {st : Option Nat} {most : Int} {a' : Nat} (h : (optS bs c st most).2 = some a') :
  ∃ a0, st = some a0 ∧ bs.drop a0 = (if c = true then vi (optS bs c st most).1 else []) ++ bs.drop a' ∧ (a0 ≤ bs.length → a' ≤ bs.length) := by
 cases c with
 | false => exact ⟨a', h, rfl, id⟩
 | true =>
  cases st with
  | none => exact absurd h (by unfold optS; simp)
  | some a0 =>
   unfold optS at h ⊢
   simp only [if_true] at h ⊢
   cases ht : tk bs a0 most with
   | none => rw [ht] at h; cases h
   | some p =>
    obtain ⟨w, a2⟩ := p
    rw [ht] at h
    cases h
    obtain ⟨e, _, _, _, _, l⟩ := tk_facts hb ht
    exact ⟨a0, rfl, e, fun _ => l⟩
theorem optS_back {bs : List Int} {a : Nat} {c : Bool} {v most : Int} {r : List Int} (h : bs.drop a = (if c = true then vi v else []) ++ r) (ha : a ≤ bs.length) (h0 : 0 ≤ v) (h1 : v < 18446744073709551616) (hm : v ≤ most) (hz : c = false → v = 0) :
  ∃ a', optS bs c (some a) most = (v, some a') ∧ bs.drop a' = r ∧ a' ≤ bs.length := by
 cases c with
 | false =>
  have := hz rfl
  subst this
  exact ⟨a, rfl, by simpa using h, ha⟩
 | true =>
  rw [if_pos rfl] at h
  obtain ⟨k1, k2⟩ := tk_at (most := most) h h0 h1 hm
  have hl := congrArg List.length h
  simp only [List.length_drop, List.length_append] at hl
  refine ⟨a + (vi v).length, ?_, k2, by omega⟩
  unfold optS
  rw [if_pos rfl]
  dsimp only
  rw [k1]
theorem spS_sound {bs : List Int} (hb : ∀ c ∈ bs, 0 ≤ c ∧ c ≤ 255) {st : Option Nat} {a' : Nat} (h : (spS bs st).2.2 = some a') :
  ∃ a0, st = some a0 ∧ bs.drop a0 = ((spS bs st).1 * 16 + (spS bs st).2.1) :: bs.drop a' ∧ a' ≤ bs.length := by
 cases st with
 | none => cases h
 | some a0 =>
  unfold spS at h ⊢
  dsimp only at h ⊢
  cases hc : bs[a0]? with
  | none => rw [hc] at h; cases h
  | some c =>
   rw [hc] at h
   dsimp only at h ⊢
   obtain ⟨c0, c1⟩ := hb c (List.mem_of_getElem? hc)
   obtain ⟨e, hlt⟩ := get_drop hc
   by_cases ho : okS (c / 16) (c % 16) = true
   ·rw [if_pos ho] at h ⊢
    cases h
    exact ⟨a0, rfl, by rw [e]; congr 1; dsimp only; omega, hlt⟩
   ·rw [if_neg ho] at h; cases h
theorem spS_back {bs : List Int} {a : Nat} {lo hi : Int} {r : List Int} (h : bs.drop a = (lo * 16 + hi) :: r) (ha : a ≤ bs.length) (ho : okS lo hi = true) : spS bs (some a) = (lo, hi, some (a + 1)) ∧ bs.drop (a + 1) = r ∧ a + 1 ≤ bs.length := by
 obtain ⟨g1, g2⟩ := get_at h
 have hs := (okS_iff _ _).1 ho
 refine ⟨?_, g2, (get_drop g1).2⟩
 unfold spS
 dsimp only
 rw [g1]
 dsimp only
 rw [show (lo * 16 + hi) / 16 = lo from by omega, show (lo * 16 + hi) % 16 = hi from by omega, if_pos ho]
def hd3 (k f i lo hi s t l e b : Int) (r : List Int) : List Int :=
 k :: (vi f ++ (vi i ++ ((lo * 16 + hi) :: ((if hasF k 0 = true then vi s else []) ++ ((if hasF k 1 = true then vi t else []) ++ ((if hasF k 2 = true then vi l else []) ++ ((if hasF k 2 = true then vi e else []) ++ ((if hasF k 3 = true then vi b else []) ++ r))))))))
theorem hd3_body (k f i lo hi s t l e b : Int) (recs base : LR) : body3 k f i lo hi s t l e b recs base = hd3 k f i lo hi s t l e b ((if hasF k 4 = true then vi (recs.length : Int) else []) ++ recs3 (baseF b base) (-1) recs) := by
 unfold body3 head3 hd3
 cases hasF k 2 <;> simp
theorem hdS_sound {bs : List Int} (hb : ∀ c ∈ bs, 0 ≤ c ∧ c ≤ 255) {k f i lo hi s t l e b : Int} {a : Nat} (h : hdS bs = some (k, f, i, lo, hi, s, t, l, e, b, a)) :
  bs = hd3 k f i lo hi s t l e b (bs.drop a) ∧ a ≤ bs.length ∧ validF k f i lo hi s t l e b [] = true := by
 unfold hdS at h
 dsimp only at h
 generalize hF : optS bs true (hdSt bs) 4095 = F at h
 generalize hI : optS bs true F.2 281474976710655 = I at h
 generalize hP : spS bs I.2 = P at h
 generalize hS : optS bs (hasF (hdK bs) 0) P.2.2 65535 = S at h
 generalize hT : optS bs (hasF (hdK bs) 1) S.2 4095 = T at h
 generalize hL : optS bs (hasF (hdK bs) 2) T.2 281474976710655 = L at h
 generalize hE : optS bs (hasF (hdK bs) 2) L.2 65535 = E at h
 generalize hB : optS bs (hasF (hdK bs) 3) E.2 65535 = B at h
 cases hB2 : B.2 with
 | none => rw [hB2] at h; cases h
 | some a' =>
  rw [hB2] at h
  dsimp only at h
  by_cases hv : validF (hdK bs) F.1 I.1 P.1 P.2.1 S.1 T.1 L.1 E.1 B.1 [] = true
  ·rw [if_pos hv] at h
   cases h
   obtain ⟨a8, q8, e8, l8⟩ := optS_sound hb (h := by rw [hB]; exact hB2)
   obtain ⟨a7, q7, e7, l7⟩ := optS_sound hb (h := by rw [hE]; exact q8)
   obtain ⟨a6, q6, e6, l6⟩ := optS_sound hb (h := by rw [hL]; exact q7)
   obtain ⟨a5, q5, e5, l5⟩ := optS_sound hb (h := by rw [hT]; exact q6)
   obtain ⟨a4, q4, e4, l4⟩ := optS_sound hb (h := by rw [hS]; exact q5)
   obtain ⟨a3, q3, e3, l3⟩ := spS_sound hb (h := by rw [hP]; exact q4)
   obtain ⟨a2, q2, e2, l2⟩ := optS_sound hb (h := by rw [hI]; exact q3)
   obtain ⟨a1, q1, e1, l1⟩ := optS_sound hb (h := by rw [hF]; exact q2)
   rw [hF] at e1
   rw [hI] at e2
   rw [hP] at e3
   rw [hS] at e4
   rw [hT] at e5
   rw [hL] at e6
   rw [hE] at e7
   rw [hB] at e8
   have h1 : 0 < bs.length ∧ a1 = 1 := by
    unfold hdSt at q1
    by_cases h0 : 0 < bs.length
    ·rw [if_pos h0] at q1; cases q1; exact ⟨h0, rfl⟩
    ·rw [if_neg h0] at q1; cases q1
   obtain ⟨h0, rfl⟩ := h1
   have hk : bs = hdK bs :: bs.drop 1 := by
    cases bs with
    | nil => simp at h0
    | cons x m => rfl
   refine ⟨?_, l8 (l7 (l6 (l5 (l4 l3)))), hv⟩
   unfold hd3
   rw [← e8, ← e7, ← e6, ← e5, ← e4, ← e3]
   rw [if_pos rfl] at e1 e2
   rw [← e2, ← e1]
   exact hk
  ·rw [if_neg hv] at h; cases h
theorem hdS_back {bs : List Int} {k f i lo hi s t l e b : Int} {r : List Int} (h : bs = hd3 k f i lo hi s t l e b r) (hv : validF k f i lo hi s t l e b [] = true) :
  ∃ a, hdS bs = some (k, f, i, lo, hi, s, t, l, e, b, a) ∧ bs.drop a = r ∧ a ≤ bs.length := by
 obtain ⟨v1, v2, v3, v4, v5, v6, v7, v8, v9, v10, v11, v12, v13, v14⟩ := valid_facts hv
 obtain ⟨w1, w2, w3, w4, w5, w6, w7, w8, _⟩ := lives_facts v12
 obtain ⟨z1, z2⟩ := valid_zero hv
 unfold hd3 at h
 have hlen : 0 < bs.length := by rw [h]; simp
 have hk : hdK bs = k := by rw [h]; all_goals rfl
 have hst : hdSt bs = some 1 := by unfold hdSt; rw [if_pos hlen]
 have d1 : bs.drop 1 = (if true = true then vi f else []) ++ (vi i ++ ((lo * 16 + hi) :: ((if hasF k 0 = true then vi s else []) ++ ((if hasF k 1 = true then vi t else []) ++ ((if hasF k 2 = true then vi l else []) ++ ((if hasF k 2 = true then vi e else []) ++ ((if hasF k 3 = true then vi b else []) ++ r))))))) := by rw [h]; all_goals rfl
 obtain ⟨a1, e1, d1, l1⟩ := optS_back (most := 4095) d1 hlen v3 (by omega) v4 (by simp)
 obtain ⟨a2, e2, d2, l2⟩ := optS_back (c := true) (most := 281474976710655) d1 l1 v5 (by omega) v6 (by simp)
 obtain ⟨e3, d3, l3⟩ := spS_back d2 l2 v7
 obtain ⟨a4, e4, d4, l4⟩ := optS_back (most := 65535) d3 l3 v8 (by omega) v9 z1
 obtain ⟨a5, e5, d5, l5⟩ := optS_back (most := 4095) d4 l4 v10 (by omega) v11 z2
 obtain ⟨a6, e6, d6, l6⟩ := optS_back (most := 281474976710655) d5 l5 w1 (by omega) w2 (fun hh => (w7 hh).1)
 obtain ⟨a7, e7, d7, l7⟩ := optS_back (most := 65535) d6 l6 w3 (by omega) w4 (fun hh => (w7 hh).2)
 obtain ⟨a8, e8, d8, l8⟩ := optS_back (most := 65535) d7 l7 w5 (by omega) w6 w8
 refine ⟨a8, ?_, d8, l8⟩
 unfold hdS
 dsimp only
 rw [hk, hst, e1]
 dsimp only
 rw [e2]
 dsimp only
 rw [e3]
 dsimp only
 rw [e4]
 dsimp only
 rw [e5]
 dsimp only
 rw [e6]
 dsimp only
 rw [e7]
 dsimp only
 rw [e8]
 dsimp only
 rw [if_pos hv]
abbrev MSG3 := Int × Int × Int × Int × Int × Int × Int × Int × Int × Int × LR
def restS (bs : List Int) (base : LR) (k : Int) (a : Nat) : Option (LR × Nat) :=
 if hasF k 4 = true then (match tk bs a 255 with
  | none => none
  | some (n, a1) => recsS bs base n.toNat (-1) a1) else some ([], a)
def decS (bs : List Int) (base : LR) : Option MSG3 :=
 match hdS bs with
 | none => none
 | some (k, f, i, lo, hi, s, t, l, e, b, a) =>
  match restS bs (baseF b base) k a with
  | none => none
  | some (rs, a2) => if a2 = bs.length ∧ bs.length ≤ 65499 ∧ validF k f i lo hi s t l e b rs = true then some (k, f, i, lo, hi, s, t, l, e, b, rs) else none
theorem restS_sound {bs : List Int} (hb : ∀ c ∈ bs, 0 ≤ c ∧ c ≤ 255) {base : LR} {k : Int} {a : Nat} {rs : LR} {a2 : Nat} (ha : a ≤ bs.length) (h : restS bs base k a = some (rs, a2)) :
  bs.drop a = (if hasF k 4 = true then vi (rs.length : Int) else []) ++ recs3 base (-1) rs ++ bs.drop a2 ∧ a2 ≤ bs.length := by
 unfold restS at h
 cases h4 : hasF k 4 with
 | false =>
  rw [h4, if_neg (by simp)] at h
  cases h
  exact ⟨rfl, ha⟩
 | true =>
  rw [h4, if_pos rfl] at h
  rw [if_pos rfl]
  cases ht : tk bs a 255 with
  | none => rw [ht] at h; cases h
  | some p =>
   obtain ⟨n, a1⟩ := p
   rw [ht] at h
   dsimp only at h
   obtain ⟨e1, n0, n1, _, _, l1⟩ := tk_facts hb ht
   obtain ⟨e2, l2, n2⟩ := recsS_sound hb _ _ _ _ _ l1 h
   refine ⟨?_, l2⟩
   rw [e1, e2, n2, show ((n.toNat : Nat) : Int) = n from by omega, List.append_assoc]
theorem decS_sound {bs : List Int} (hb : ∀ c ∈ bs, 0 ≤ c ∧ c ≤ 255) {base : LR} {k f i lo hi s t l e b : Int} {rs : LR} (h : decS bs base = some (k, f, i, lo, hi, s, t, l, e, b, rs)) :
  body3 k f i lo hi s t l e b rs base = bs ∧ validF k f i lo hi s t l e b rs = true ∧ bs.length ≤ 65499 ∧ ∃ a, hdS bs = some (k, f, i, lo, hi, s, t, l, e, b, a) := by
 unfold decS at h
 cases hh : hdS bs with
 | none => rw [hh] at h; cases h
 | some p =>
  obtain ⟨k', f', i', lo', hi', s', t', l', e', b', a⟩ := p
  rw [hh] at h
  dsimp only at h
  obtain ⟨e1, l1, _⟩ := hdS_sound hb hh
  cases hr : restS bs (baseF b' base) k' a with
  | none => rw [hr] at h; cases h
  | some q =>
   obtain ⟨rs', a2⟩ := q
   rw [hr] at h
   dsimp only at h
   obtain ⟨e2, l2⟩ := restS_sound hb l1 hr
   by_cases hc : a2 = bs.length ∧ bs.length ≤ 65499 ∧ validF k' f' i' lo' hi' s' t' l' e' b' rs' = true
   ·rw [if_pos hc] at h
    obtain ⟨c1, c2, c3⟩ := hc
    cases h
    refine ⟨?_, c3, c2, a, rfl⟩
    rw [hd3_body]
    have e3 : bs.drop a = (if hasF k 4 = true then vi (rs.length : Int) else []) ++ recs3 (baseF b base) (-1) rs := by
     rw [e2, c1, List.drop_length, List.append_nil]
    rw [← e3]
    exact e1.symm
   ·rw [if_neg hc] at h; cases h
theorem baseF_all {base : LR} (h : ∀ x ∈ base, recOkT x = true) (b : Int) : ∀ x ∈ baseF b base, recOkT x = true := by
 unfold baseF
 split
 ·simp
 ·exact h
theorem decS_back {base : LR} (hbase : ∀ x ∈ base, recOkT x = true) {k f i lo hi s t l e b : Int} {rs : LR} (hv : validF k f i lo hi s t l e b rs = true) (hlen : (body3 k f i lo hi s t l e b rs base).length ≤ 65499) :
  decS (body3 k f i lo hi s t l e b rs base) base = some (k, f, i, lo, hi, s, t, l, e, b, rs) := by
 obtain ⟨v1, v2, v3, v4, v5, v6, v7, v8, v9, v10, v11, v12, v13, v14⟩ := valid_facts hv
 obtain ⟨u1, u2⟩ := valid_recs hv
 generalize hbs : body3 k f i lo hi s t l e b rs base = bs at hlen ⊢
 rw [hd3_body] at hbs
 obtain ⟨a, e1, d1, l1⟩ := hdS_back hbs.symm (valid_bare hv)
 have hr : restS bs (baseF b base) k a = some (rs, bs.length) := by
  unfold restS
  cases h4 : hasF k 4 with
  | false =>
   rw [h4] at d1
   have := u1 h4
   subst this
   have hl := congrArg List.length d1
   simp [recs3] at hl
   rw [if_neg (by simp), show a = bs.length from by omega]
  | true =>
   rw [h4, if_pos rfl] at d1
   rw [if_pos rfl]
   obtain ⟨k1, k2⟩ := tk_at (most := 255) d1 (by omega) (by omega) (by omega)
   rw [k1]
   dsimp only
   obtain ⟨k3, k4⟩ := recsS_back (baseF_all hbase b) rs (-1) _ [] v14 (by omega) u2 (by rw [k2, List.append_nil])
   rw [Int.toNat_natCast, k3]
   have hl := congrArg List.length d1
   simp only [List.length_drop, List.length_append] at hl
   rw [show a + (vi (rs.length : Int)).length + (recs3 (baseF b base) (-1) rs).length = bs.length from by omega]
 unfold decS
 rw [e1]
 dsimp only
 rw [hr]
 dsimp only
 rw [if_pos ⟨rfl, hlen, hv⟩]
def enc : Option Nat → Int
 | some a => (a : Int)
 | none => -1
def msg_Head_E : Env := ⟨th, gam [], fun i => ⟨[], [], []⟩⟩
def msg_Head.k (rs : List AV) (os : List Den.Obj) : Option (Int × Int × Int × Int × Int × Int × Int × Int × Int × Int × LR) :=
 match rs, os with
 | [.agg [.d (.int .i64) r0, .d (.int .i64) r1, .d (.int .i64) r2, .d (.int .i64) r3, .d (.int .i64) r4, .d (.int .i64) r5, .d (.int .i64) r6, .d (.int .i64) r7, .d (.int .i64) r8, .d (.int .i64) r9, .d (.sl (.pair (.int .i64) (.pair (.int .i64) (.pair (.int .i64) (.pair (.pair (.int .i64) (.int .i64)) (.pair .bool (.sl (.pair (.int .i64) (.sl (.int .u8)))))))))) r10]], [] => some (r0, r1, r2, r3, r4, r5, r6, r7, r8, r9, r10)
 | _, _ => none
def msg_Head.b (mKind mFrom mInc mSpanLo mSpanHi mSeq mTarget mLife mEpoch mBase : Int) (mRecs : LR) : Option (Int × Int × Int × Int × Int × Int × Int × Int × Int × Int × LR) :=
 some (mKind, mFrom, mInc, mSpanLo, mSpanHi, mSeq, mTarget, mLife, mEpoch, mBase, ([] : LR))
def msg_Head.f (fuel : Nat) (mKind mFrom mInc mSpanLo mSpanHi mSeq mTarget mLife mEpoch mBase : Int) (mRecs : LR) : Option (Int × Int × Int × Int × Int × Int × Int × Int × Int × Int × LR) := msg_Head.b mKind mFrom mInc mSpanLo mSpanHi mSeq mTarget mLife mEpoch mBase mRecs
theorem msg_Head.eq (fuel : Nat) (mKind mFrom mInc mSpanLo mSpanHi mSeq mTarget mLife mEpoch mBase : Int) (mRecs : LR) : (denF msg_Head_E loopN fuel Tryz.f16 [.dat (.pair tQi (.pair tQi (.pair tQi (.pair (.pair tQi tQi) (.pair tQi (.pair tQi (.pair tQi (.pair tQi (.pair tQi (.sl tQr)))))))))) true] [.agg [.d tQi mKind, .d tQi mFrom, .d tQi mInc, .d tQi mSpanLo, .d tQi mSpanHi, .d tQi mSeq, .d tQi mTarget, .d tQi mLife, .d tQi mEpoch, .d tQi mBase, .d (.sl tQr) mRecs]] [] msg_Head.k) = msg_Head.f fuel mKind mFrom mInc mSpanLo mSpanHi mSeq mTarget mLife mEpoch mBase mRecs := by
 kernel_rfl
def s_msg_Head : Den.Sum := ⟨[.dat (.pair tQi (.pair tQi (.pair tQi (.pair (.pair tQi tQi) (.pair tQi (.pair tQi (.pair tQi (.pair tQi (.pair tQi (.sl tQr)))))))))) true], fun args objs κ => match args, objs with
 | [.agg [.d (.int .i64) mKind, .d (.int .i64) mFrom, .d (.int .i64) mInc, .d (.int .i64) mSpanLo, .d (.int .i64) mSpanHi, .d (.int .i64) mSeq, .d (.int .i64) mTarget, .d (.int .i64) mLife, .d (.int .i64) mEpoch, .d (.int .i64) mBase, .d (.sl (.pair (.int .i64) (.pair (.int .i64) (.pair (.int .i64) (.pair (.pair (.int .i64) (.int .i64)) (.pair .bool (.sl (.pair (.int .i64) (.sl (.int .u8)))))))))) mRecs]], [] => (match veil (msg_Head.f BIG mKind mFrom mInc mSpanLo mSpanHi mSeq mTarget mLife mEpoch mBase mRecs) with | none => none | some y => κ [.agg [.d (.int .i64) y.1, .d (.int .i64) y.2.1, .d (.int .i64) y.2.2.1, .d (.int .i64) y.2.2.2.1, .d (.int .i64) y.2.2.2.2.1, .d (.int .i64) y.2.2.2.2.2.1, .d (.int .i64) y.2.2.2.2.2.2.1, .d (.int .i64) y.2.2.2.2.2.2.2.1, .d (.int .i64) y.2.2.2.2.2.2.2.2.1, .d (.int .i64) y.2.2.2.2.2.2.2.2.2.1, .d (.sl (.pair (.int .i64) (.pair (.int .i64) (.pair (.int .i64) (.pair (.pair (.int .i64) (.int .i64)) (.pair .bool (.sl (.pair (.int .i64) (.sl (.int .u8)))))))))) y.2.2.2.2.2.2.2.2.2.2]] [])
 | _, _ => none⟩
theorem s_msg_Head_det : SumDet s_msg_Head := sdet fun _ _ _ _ => by
 unfold s_msg_Head
 simp only [veil_eq]
 split
 ·split <;> rfl
 ·rfl
theorem s_msg_Head_ok : SumOk Tryz.prog 16 s_msg_Head := by
 have hE : EnvOk Tryz.prog msg_Head_E := env_ok (l := []) th_ok any_ok trivial _
 refine sum_ok hE Tryz.func16 rfl (by kernel_rfl) s_msg_Head [.dat (.pair tQi (.pair tQi (.pair tQi (.pair (.pair tQi tQi) (.pair tQi (.pair tQi (.pair tQi (.pair tQi (.pair tQi (.sl tQr)))))))))) true] msg_Head.k ?_
 intro R avs objs κ r h
 unfold s_msg_Head at h
 simp only [veil_eq] at h
 split at h
 ·rename_i mKind mFrom mInc mSpanLo mSpanHi mSeq mTarget mLife mEpoch mBase mRecs
  split at h
  ·cases h
  ·rename_i y hy
   refine ⟨BIG, _, _, _, (msg_Head.eq BIG mKind mFrom mInc mSpanLo mSpanHi mSeq mTarget mLife mEpoch mBase mRecs).trans hy, ?_, h⟩
   intro rs ros hk
   unfold msg_Head.k at hk
   split at hk
   ·first | (cases hk; exact ⟨rfl, rfl⟩) | (rw [← Option.some.inj hk]; exact ⟨rfl, rfl⟩)
   ·cases hk
 ·cases h
def varint_Zag_E : Env := ⟨th, gam [], fun i => ⟨[], [], []⟩⟩
def varint_Zag.k (rs : List AV) (os : List Den.Obj) : Option Int :=
 match rs, os with
 | [.d (.int .i64) r0], [] => some r0
 | _, _ => none
def varint_Zag.b (v : Int) : Option Int :=
 some ((bits BinOp.xor .i64 (IntKind.wrap .i64 (Int.fdiv v ((2 : Int) ^ (Min.min (Int.toNat (1 : Int)) (IntKind.bits .u64))))) (IntKind.wrap .i64 ((0 : Int) - (IntKind.wrap .i64 (bits BinOp.and .u64 v (1 : Int)))))))
def varint_Zag.f (fuel : Nat) (v : Int) : Option Int := varint_Zag.b v
theorem varint_Zag.eq (fuel : Nat) (v : Int) : (denF varint_Zag_E loopN fuel Tryz.f123 [.raw] [.d (.int .u64) v] [] varint_Zag.k) = varint_Zag.f fuel v := by
 kernel_rfl
def s_varint_Zag : Den.Sum := ⟨[.raw], fun args objs κ => match args, objs with
 | [.d (.int .u64) v], [] => (match veil (varint_Zag.f BIG v) with | none => none | some y => κ [.d (.int .i64) y] [])
 | _, _ => none⟩
theorem s_varint_Zag_det : SumDet s_varint_Zag := sdet fun _ _ _ _ => by
 unfold s_varint_Zag
 simp only [veil_eq]
 split
 ·split <;> rfl
 ·rfl
theorem s_varint_Zag_ok : SumOk Tryz.prog 123 s_varint_Zag := by
 have hE : EnvOk Tryz.prog varint_Zag_E := env_ok (l := []) th_ok any_ok trivial _
 refine sum_ok hE Tryz.func123 rfl (by kernel_rfl) s_varint_Zag [.raw] varint_Zag.k ?_
 intro R avs objs κ r h
 unfold s_varint_Zag at h
 simp only [veil_eq] at h
 split at h
 ·rename_i v
  split at h
  ·cases h
  ·rename_i y hy
   refine ⟨BIG, _, _, _, (varint_Zag.eq BIG v).trans hy, ?_, h⟩
   intro rs ros hk
   unfold varint_Zag.k at hk
   split at hk
   ·first | (cases hk; exact ⟨rfl, rfl⟩) | (rw [← Option.some.inj hk]; exact ⟨rfl, rfl⟩)
   ·cases hk
 ·cases h
def gen3_Head_E : Env := ⟨th, gam [(51, s_read), (74, s_gen3_reader_head)], fun i => ⟨[], [], []⟩⟩
def gen3_Head.k (rs : List AV) (os : List Den.Obj) : Option (Int × Int × Int × Int × Int × Int × Int × Int × Int × Int × LR × Int) :=
 match rs, os with
 | [.agg [.d (.int .i64) r0, .d (.int .i64) r1, .d (.int .i64) r2, .d (.int .i64) r3, .d (.int .i64) r4, .d (.int .i64) r5, .d (.int .i64) r6, .d (.int .i64) r7, .d (.int .i64) r8, .d (.int .i64) r9, .d (.sl (.pair (.int .i64) (.pair (.int .i64) (.pair (.int .i64) (.pair (.pair (.int .i64) (.int .i64)) (.pair .bool (.sl (.pair (.int .i64) (.sl (.int .u8)))))))))) r10], .d (.int .i64) r11], [] => some (r0, r1, r2, r3, r4, r5, r6, r7, r8, r9, r10, r11)
 | _, _ => none
def gen3_Head.b (b : List Int) : Option (Int × Int × Int × Int × Int × Int × Int × Int × Int × Int × LR × Int) :=
 (if (inB b) then (match (veil (gen3_reader_head.f BIG b 0 false false)) with | none => none | some y0 => (if y0.2.2.2.2.2.2.2.2.2.2.2.1 then some (0, 0, 0, 0, 0, 0, 0, 0, 0, 0, ([] : LR), (4 : Int)) else some (y0.1, y0.2.1, y0.2.2.1, y0.2.2.2.1, y0.2.2.2.2.1, y0.2.2.2.2.2.1, y0.2.2.2.2.2.2.1, y0.2.2.2.2.2.2.2.1, y0.2.2.2.2.2.2.2.2.1, y0.2.2.2.2.2.2.2.2.2.1, y0.2.2.2.2.2.2.2.2.2.2.1, (0 : Int)))) else none)
def gen3_Head.f (fuel : Nat) (b : List Int) : Option (Int × Int × Int × Int × Int × Int × Int × Int × Int × Int × LR × Int) := gen3_Head.b b
theorem gen3_Head.eq (fuel : Nat) (b : List Int) : (denF gen3_Head_E loopN fuel Tryz.f54 [.dat (.pair tQi (.pair tQi (.pair tQi (.pair (.pair tQi tQi) (.pair tQi (.pair tQi (.pair tQi (.pair tQi (.pair tQi (.sl tQr)))))))))) true, .raw] [.d (.sl (.int .u8)) b] [] gen3_Head.k) = gen3_Head.f fuel b := by
 kernel_rfl
def s_gen3_Head : Den.Sum := ⟨[.dat (.sl (.int .u8)) false], fun args objs κ => match args, objs with
 | [.d (.sl (.int .u8)) b], [] => (match veil (gen3_Head.f BIG b) with | none => none | some y => κ [.agg [.d (.int .i64) y.1, .d (.int .i64) y.2.1, .d (.int .i64) y.2.2.1, .d (.int .i64) y.2.2.2.1, .d (.int .i64) y.2.2.2.2.1, .d (.int .i64) y.2.2.2.2.2.1, .d (.int .i64) y.2.2.2.2.2.2.1, .d (.int .i64) y.2.2.2.2.2.2.2.1, .d (.int .i64) y.2.2.2.2.2.2.2.2.1, .d (.int .i64) y.2.2.2.2.2.2.2.2.2.1, .d (.sl (.pair (.int .i64) (.pair (.int .i64) (.pair (.int .i64) (.pair (.pair (.int .i64) (.int .i64)) (.pair .bool (.sl (.pair (.int .i64) (.sl (.int .u8)))))))))) y.2.2.2.2.2.2.2.2.2.2.1], .d (.int .i64) y.2.2.2.2.2.2.2.2.2.2.2] [])
 | _, _ => none⟩
theorem s_gen3_Head_det : SumDet s_gen3_Head := sdet fun _ _ _ _ => by
 unfold s_gen3_Head
 simp only [veil_eq]
 split
 ·split <;> rfl
 ·rfl
theorem s_gen3_Head_ok : SumOk Tryz.prog 54 s_gen3_Head := by
 have hE : EnvOk Tryz.prog gen3_Head_E := env_ok (l := [(51, s_read), (74, s_gen3_reader_head)]) th_ok any_ok ⟨⟨s_read_ok, s_read_det⟩, ⟨s_gen3_reader_head_ok, s_gen3_reader_head_det⟩, trivial⟩ _
 refine sum_ok hE Tryz.func54 rfl (by kernel_rfl) s_gen3_Head [.dat (.pair tQi (.pair tQi (.pair tQi (.pair (.pair tQi tQi) (.pair tQi (.pair tQi (.pair tQi (.pair tQi (.pair tQi (.sl tQr)))))))))) true, .raw] gen3_Head.k ?_
 intro R avs objs κ r h
 unfold s_gen3_Head at h
 simp only [veil_eq] at h
 split at h
 ·rename_i b
  split at h
  ·cases h
  ·rename_i y hy
   refine ⟨BIG, _, _, _, (gen3_Head.eq BIG b).trans hy, ?_, h⟩
   intro rs ros hk
   unfold gen3_Head.k at hk
   split at hk
   ·first | (cases hk; exact ⟨rfl, rfl⟩) | (rw [← Option.some.inj hk]; exact ⟨rfl, rfl⟩)
   ·cases hk
 ·cases h
theorem Head3.pure {bs : List Int} (hb : inB bs = true) : gen3_Head.f BIG bs = some (match hdS bs with
  | none => (0, 0, 0, 0, 0, 0, 0, 0, 0, 0, [], 4)
  | some (k, f, i, lo, hi, s, t, l, e, b, _) => (k, f, i, lo, hi, s, t, l, e, b, [], 0)) := by
 unfold gen3_Head.f gen3_Head.b
 simp only [veil_eq]
 rw [if_pos hb]
 have h := head.pure bs hb
 cases hs : hdS bs with
 | none =>
  rw [hs] at h
  obtain ⟨k, f, i, lo, hi, s, t, l, e, b, a, bad, h⟩ := h
  rw [h]
  rfl
 | some x =>
  obtain ⟨k, f, i, lo, hi, s, t, l, e, b, a⟩ := x
  rw [hs] at h
  dsimp only at h
  rw [h.1]
  rfl
abbrev M12 := Int × Int × Int × Int × Int × Int × Int × Int × Int × Int × LR × Int
def z12 (e : Int) : M12 := (0, 0, 0, 0, 0, 0, 0, 0, 0, 0, [], e)
def bareX (m : M12) : M12 := (m.1, m.2.1, m.2.2.1, m.2.2.2.1, m.2.2.2.2.1, m.2.2.2.2.2.1, m.2.2.2.2.2.2.1, m.2.2.2.2.2.2.2.1, m.2.2.2.2.2.2.2.2.1, m.2.2.2.2.2.2.2.2.2.1, [], m.2.2.2.2.2.2.2.2.2.2.2)
def errX (m : M12) : Int := m.2.2.2.2.2.2.2.2.2.2.2
def validX (m : M12) : Prop := validF m.1 m.2.1 m.2.2.1 m.2.2.2.1 m.2.2.2.2.1 m.2.2.2.2.2.1 m.2.2.2.2.2.2.1 m.2.2.2.2.2.2.2.1 m.2.2.2.2.2.2.2.2.1 m.2.2.2.2.2.2.2.2.2.1 m.2.2.2.2.2.2.2.2.2.2.1 = true
def okM (m : MSG3) : M12 := (m.1, m.2.1, m.2.2.1, m.2.2.2.1, m.2.2.2.2.1, m.2.2.2.2.2.1, m.2.2.2.2.2.2.1, m.2.2.2.2.2.2.2.1, m.2.2.2.2.2.2.2.2.1, m.2.2.2.2.2.2.2.2.2.1, m.2.2.2.2.2.2.2.2.2.2, 0)
def dec3 (b : List Int) (base : LR) : M12 :=
 if sortedF base = true then (match decS b base with
  | none => z12 4
  | some m => okM m) else z12 1
def head3X (b : List Int) : M12 := match hdS b with
 | none => z12 4
 | some (k, f, i, lo, hi, s, t, l, e, b, _) => (k, f, i, lo, hi, s, t, l, e, b, [], 0)
theorem dec3_ok {b : List Int} {base : LR} (hb : ∀ c ∈ b, 0 ≤ c ∧ c ≤ 255) (h : errX (dec3 b base) = 0) :
  validX (dec3 b base) ∧ enc3 (dec3 b base).1 (dec3 b base).2.1 (dec3 b base).2.2.1 (dec3 b base).2.2.2.1 (dec3 b base).2.2.2.2.1 (dec3 b base).2.2.2.2.2.1 (dec3 b base).2.2.2.2.2.2.1 (dec3 b base).2.2.2.2.2.2.2.1 (dec3 b base).2.2.2.2.2.2.2.2.1 (dec3 b base).2.2.2.2.2.2.2.2.2.1 (dec3 b base).2.2.2.2.2.2.2.2.2.2.1 base = (b, 0) ∧ head3X b = bareX (dec3 b base) := by
 unfold dec3 at h ⊢
 by_cases hs : sortedF base = true
 ·rw [if_pos hs] at h ⊢
  cases hd : decS b base with
  | none => rw [hd] at h; exact absurd h (by unfold errX z12; decide)
  | some m =>
   obtain ⟨k, f, i, lo, hi, s, t, l, e, b', rs⟩ := m
   obtain ⟨e1, e2, e3, a, e4⟩ := decS_sound hb hd
   dsimp only [okM]
   refine ⟨e2, ?_, ?_⟩
   ·unfold enc3
    rw [e2, hs, e1]
    simp only [Bool.and_self, if_true]
    rw [if_neg (by omega)]
   ·unfold head3X
    rw [e4]
    all_goals rfl
 ·rw [if_neg hs] at h
  exact absurd h (by unfold errX z12; decide)
theorem enc3_back {k f i lo hi s t l e b : Int} {recs base : LR} (hs : sortedF base = true) (h : (enc3 k f i lo hi s t l e b recs base).2 = 0) :
  dec3 (enc3 k f i lo hi s t l e b recs base).1 base = (k, f, i, lo, hi, s, t, l, e, b, recs, 0) ∧ validF k f i lo hi s t l e b recs = true ∧ (enc3 k f i lo hi s t l e b recs base).1.length ≤ 65499 := by
 unfold enc3 at h ⊢
 cases hv : validF k f i lo hi s t l e b recs with
 | false => rw [hv] at h; exact absurd h (by simp)
 | true =>
  rw [hv, hs] at h
  rw [hs]
  simp only [Bool.and_self, if_true] at h ⊢
  by_cases hl : (body3 k f i lo hi s t l e b recs base).length > 65499
  ·rw [if_pos hl] at h; exact absurd h (by decide)
  ·rw [if_neg hl]
   dsimp only
   refine ⟨?_, trivial, by omega⟩
   unfold dec3
   rw [if_pos hs, decS_back (sorted_facts hs).1 hv (by omega)]
   all_goals rfl
def readX (gen : Int) (b : List Int) (base : LR) : M12 :=
 if gen == 1 then ((decF b).1, (decF b).2.1, (decF b).2.2.1, (decF b).2.2.2.1, (decF b).2.2.2.2.1, (decF b).2.2.2.2.2.1, (decF b).2.2.2.2.2.2.1, 0, 0, 0, (decF b).2.2.2.2.2.2.2.1, (decF b).2.2.2.2.2.2.2.2)
 else if gen == 2 then ((decF2 b).1, (decF2 b).2.1, (decF2 b).2.2.1, (decF2 b).2.2.2.1, (decF2 b).2.2.2.2.1, (decF2 b).2.2.2.2.2.1, (decF2 b).2.2.2.2.2.2.1, 0, 0, 0, (decF2 b).2.2.2.2.2.2.2.1, (decF2 b).2.2.2.2.2.2.2.2)
 else if gen == 3 then dec3 b base else z12 5
def writeX (gen : Int) (k f i lo hi s t l e b : Int) (recs base : LR) : List Int × Int :=
 if gen == 1 then encF k f i lo hi s t l e b recs else if gen == 2 then enc2 k f i lo hi s t l e b recs else if gen == 3 then enc3 k f i lo hi s t l e b recs base else ([], 5)
def peekX (gen : Int) (b : List Int) : M12 := if gen == 3 then head3X b else bareX (readX gen b [])
theorem gen_cases {gen : Int} (P : Int → Prop) (h1 : P 1) (h2 : P 2) (h3 : P 3) (h0 : gen ≠ 1 → gen ≠ 2 → gen ≠ 3 → P gen) : P gen := by
 by_cases e1 : gen = 1
 ·subst e1; exact h1
 ·by_cases e2 : gen = 2
  ·subst e2; exact h2
  ·by_cases e3 : gen = 3
   ·subst e3; exact h3
   ·exact h0 e1 e2 e3
theorem writeX1 (k f i lo hi s t l e b : Int) (recs base : LR) : writeX 1 k f i lo hi s t l e b recs base = encF k f i lo hi s t l e b recs := rfl
theorem writeX2 (k f i lo hi s t l e b : Int) (recs base : LR) : writeX 2 k f i lo hi s t l e b recs base = enc2 k f i lo hi s t l e b recs := rfl
theorem writeX3 (k f i lo hi s t l e b : Int) (recs base : LR) : writeX 3 k f i lo hi s t l e b recs base = enc3 k f i lo hi s t l e b recs base := rfl
theorem writeX0 {gen : Int} (h1 : gen ≠ 1) (h2 : gen ≠ 2) (h3 : gen ≠ 3) (k f i lo hi s t l e b : Int) (recs base : LR) : writeX gen k f i lo hi s t l e b recs base = ([], 5) := by
 unfold writeX
 rw [if_neg (by simpa using h1), if_neg (by simpa using h2), if_neg (by simpa using h3)]
theorem readX1 (b : List Int) (base : LR) : readX 1 b base = ((decF b).1, (decF b).2.1, (decF b).2.2.1, (decF b).2.2.2.1, (decF b).2.2.2.2.1, (decF b).2.2.2.2.2.1, (decF b).2.2.2.2.2.2.1, 0, 0, 0, (decF b).2.2.2.2.2.2.2.1, (decF b).2.2.2.2.2.2.2.2) := rfl
theorem readX2 (b : List Int) (base : LR) : readX 2 b base = ((decF2 b).1, (decF2 b).2.1, (decF2 b).2.2.1, (decF2 b).2.2.2.1, (decF2 b).2.2.2.2.1, (decF2 b).2.2.2.2.2.1, (decF2 b).2.2.2.2.2.2.1, 0, 0, 0, (decF2 b).2.2.2.2.2.2.2.1, (decF2 b).2.2.2.2.2.2.2.2) := rfl
theorem readX3 (b : List Int) (base : LR) : readX 3 b base = dec3 b base := rfl
theorem enc1_ok {k f i lo hi s t l e b : Int} {recs : LR} (h : (encF k f i lo hi s t l e b recs).2 = 0) : validF k f i lo hi s t l e b recs = true ∧ fits1 k f i lo hi s t l e b recs = true ∧ l = 0 ∧ e = 0 ∧ b = 0 ∧ encF k f i lo hi s t l e b recs = (bodyF k f i lo hi s t recs, 0) := by
 unfold encF at h ⊢
 cases hv : validF k f i lo hi s t l e b recs with
 | false => rw [hv] at h; exact absurd h (by simp)
 | true =>
  rw [hv] at h
  cases hf : fits1 k f i lo hi s t l e b recs with
  | false => rw [hf] at h; exact absurd h (by simp)
  | true =>
   have hf' := hf
   rw [fits_same] at hf'
   obtain ⟨h1, h2, h3⟩ := fitsL_zero hf'
   exact ⟨rfl, rfl, h1, h2, h3, rfl⟩
theorem enc2_ok {k f i lo hi s t l e b : Int} {recs : LR} (h : (enc2 k f i lo hi s t l e b recs).2 = 0) : validF k f i lo hi s t l e b recs = true ∧ k ≠ 9 ∧ l = 0 ∧ e = 0 ∧ b = 0 ∧ fit2Go recs = true ∧ (body2 k f i lo hi s t recs).length ≤ 65499 ∧ enc2 k f i lo hi s t l e b recs = (body2 k f i lo hi s t recs, 0) := by
 unfold enc2 at h ⊢
 cases hv : validF k f i lo hi s t l e b recs with
 | false => rw [hv] at h; exact absurd h (by simp)
 | true =>
  rw [hv] at h
  cases hf : fits2 k f i lo hi s t l e b recs with
  | false => rw [hf] at h; exact absurd h (by simp)
  | true =>
   have hf' := hf
   rw [fits2_same] at hf'
   obtain ⟨_, h9, h1, h2, h3, h2', hlen⟩ := fits13_facts hf'
   exact ⟨rfl, h9, h1, h2, h3, h2', hlen, rfl⟩
theorem write_back {gen : Int} {k f i lo hi s t l e b : Int} {recs base : LR} (hbase : gen = 3 → sortedF base = true) (h : (writeX gen k f i lo hi s t l e b recs base).2 = 0) :
  readX gen (writeX gen k f i lo hi s t l e b recs base).1 base = (k, f, i, lo, hi, s, t, l, e, b, recs, 0) ∧ validF k f i lo hi s t l e b recs = true ∧ (writeX gen k f i lo hi s t l e b recs base).1.length ≤ 65499 ∧ 1 ≤ gen ∧ gen ≤ 3 := by
 revert hbase h
 refine gen_cases (gen := gen) (fun gen => (gen = 3 → sortedF base = true) → (writeX gen k f i lo hi s t l e b recs base).2 = 0 → readX gen (writeX gen k f i lo hi s t l e b recs base).1 base = (k, f, i, lo, hi, s, t, l, e, b, recs, 0) ∧ validF k f i lo hi s t l e b recs = true ∧ (writeX gen k f i lo hi s t l e b recs base).1.length ≤ 65499 ∧ 1 ≤ gen ∧ gen ≤ 3) ?_ ?_ ?_ ?_
 ·intro _ h
  rw [writeX1] at h ⊢
  obtain ⟨hv, hf, rfl, rfl, rfl, he⟩ := enc1_ok h
  rw [readX1, he]
  dsimp only
  rw [back k f i lo hi s t recs hf]
  have := body_len k f i lo hi s t recs
  have hlen := (valid_facts hv).2.2.2.2.2.2.2.2.2.2.2.2.1
  exact ⟨rfl, hv, by omega, by omega, by omega⟩
 ·intro _ h
  rw [writeX2] at h ⊢
  obtain ⟨hv, h9, rfl, rfl, rfl, h2, hl, he⟩ := enc2_ok h
  rw [readX2, he]
  dsimp only
  rw [back2 hv h9 h2 hl]
  exact ⟨rfl, hv, hl, by omega, by omega⟩
 ·intro hs h
  rw [writeX3] at h ⊢
  rw [readX3]
  obtain ⟨q1, q2, q3⟩ := enc3_back (hs rfl) h
  exact ⟨q1, q2, q3, by omega, by omega⟩
 ·intro h1 h2 h3 _ h
  rw [writeX0 h1 h2 h3] at h
  exact absurd h (by simp)
def isB (l : List Int) : Prop := ∀ c ∈ l, 0 ≤ c ∧ c ≤ 255
theorem isB_nil : isB [] := by simp [isB]
theorem isB_app {l m : List Int} (h1 : isB l) (h2 : isB m) : isB (l ++ m) := fun c hc => by
 rcases List.mem_append.1 hc with h | h
 ·exact h1 c h
 ·exact h2 c h
theorem isB_cons {x : Int} {m : List Int} (h0 : 0 ≤ x) (h1 : x ≤ 255) (h2 : isB m) : isB (x :: m) := fun c hc => by
 rcases List.mem_cons.1 hc with rfl | h
 ·exact ⟨h0, h1⟩
 ·exact h2 c h
theorem isB_if {b : Bool} {l : List Int} (h : isB l) : isB (if b = true then l else []) := by
 cases b
 ·exact isB_nil
 ·exact h
theorem isB_if2 {b : Bool} {l : List Int} (h : isB l) : isB (if b = true then [] else l) := by
 cases b
 ·exact h
 ·exact isB_nil
theorem viF_bytes : ∀ (j : Nat) (v : Int), 0 ≤ v → v < 2 * 128 ^ j → isB (viF j v)
 | 0, v, h0, h1 => by
  rw [viF]
  exact isB_cons h0 (by simp at h1; omega) isB_nil
 | j + 1, v, h0, h1 => by
  rw [viF]
  by_cases h : v ≥ 128
  ·rw [if_pos h]
   exact isB_cons (by omega) (by omega) (viF_bytes j (v / 128) (by omega) (by rw [Int.pow_succ] at h1; generalize (128 : Int) ^ j = M at h1 ⊢; omega))
  ·rw [if_neg h]
   exact isB_cons h0 (by omega) isB_nil
theorem vi_bytes {v : Int} (h0 : 0 ≤ v) (h1 : v < 18446744073709551616) : isB (vi v) := viF_bytes 9 v h0 (by simpa using h1)
theorem fld3_bytes {x : Int × List Int} (h0 : 0 ≤ x.1) (h1 : x.1 ≤ 255) (h2 : x.2.length ≤ 4096) (h3 : isB x.2) : isB (fld3 x) :=
 isB_cons h0 h1 (isB_app (vi_bytes (by omega) (by omega)) h3)
theorem bag3_bytes {b : LF} (h : bagOk b = true) (hb : ∀ x ∈ b, isB x.2) : isB (bag3 b) := by
 have hl := bagOk_len h
 have ht := bag_tags h
 exact isB_app (vi_bytes (by omega) (by omega)) (flat_mem fun x hx => fld3_bytes (by have := ht x hx; omega) (ht x hx).2.1 (ht x hx).2.2 (hb x hx))
theorem flagV_range {o : REC × Bool} {r : REC} (hr : recOkT r = true) : 0 ≤ flagV o r ∧ flagV o r ≤ 31 := by
 obtain ⟨f1, f2, f3, f4, f5, f6, _⟩ := recOk_facts hr
 unfold flagV
 split <;> split <;> split <;> omega
theorem rec3_bytes {base : LR} (hbase : ∀ x ∈ base, recOkT x = true) {last : Int} {r : REC} (hr : recOkT r = true) (h1 : -1 ≤ last) (h2 : last < r.1) (hb : ∀ x ∈ r.2.2.2.2.2, isB x.2) : isB (rec3 (oldR base r.1) last r) := by
 obtain ⟨f1, f2, f3, f4, f5, f6, f7, f8, f9⟩ := recOk_facts hr
 obtain ⟨o0, o1⟩ := old_inc hbase r.1
 obtain ⟨z0, z1⟩ := tk_bound f3 f4 o0 o1
 obtain ⟨g0, g1⟩ := flagV_range (o := oldR base r.1) hr
 have hs := (okS_iff _ _).1 f7
 unfold rec3
 exact isB_app (vi_bytes (by omega) (by omega)) (isB_cons g0 (by omega) (isB_app (isB_if2 (isB_cons (by omega) (by omega) isB_nil)) (isB_app (vi_bytes z0 (by omega)) (isB_if2 (bag3_bytes f8 hb)))))
theorem recs3_bytes {base : LR} (hbase : ∀ x ∈ base, recOkT x = true) : ∀ (l : LR) (last : Int), (∀ r ∈ l, recOkT r = true) → -1 ≤ last → risen last l → byteBags l → isB (recs3 base last l)
 | [], _, _, _, _, _ => isB_nil
 | r :: l, last, hr, h1, h2, hb => by
  have hm := hr r (List.mem_cons_self ..)
  have hid := (recOk_facts hm).1
  exact isB_app (rec3_bytes hbase hm h1 h2.1 (hb r (List.mem_cons_self ..))) (recs3_bytes hbase l r.1 (fun x hx => hr x (List.mem_cons_of_mem _ hx)) (by omega) h2.2 (fun x hx => hb x (List.mem_cons_of_mem _ hx)))
theorem body3_bytes {k f i lo hi s t l e b : Int} {recs base : LR} (hv : validF k f i lo hi s t l e b recs = true) (hbase : ∀ x ∈ base, recOkT x = true) (hb : byteBags recs) : isB (body3 k f i lo hi s t l e b recs base) := by
 obtain ⟨v1, v2, v3, v4, v5, v6, v7, v8, v9, v10, v11, v12, v13, v14⟩ := valid_facts hv
 obtain ⟨w1, w2, w3, w4, w5, w6, _⟩ := lives_facts v12
 obtain ⟨_, hris⟩ := valid_recs hv
 have hs := (okS_iff _ _).1 v7
 rw [hd3_body]
 unfold hd3
 exact isB_cons (by omega) (by omega) (isB_app (vi_bytes v3 (by omega)) (isB_app (vi_bytes v5 (by omega)) (isB_cons (by omega) (by omega) (isB_app (isB_if (vi_bytes v8 (by omega))) (isB_app (isB_if (vi_bytes v10 (by omega))) (isB_app (isB_if (vi_bytes w1 (by omega))) (isB_app (isB_if (vi_bytes w3 (by omega))) (isB_app (isB_if (vi_bytes w5 (by omega))) (isB_app (isB_if (vi_bytes (by omega) (by omega))) (recs3_bytes (baseF_all hbase b) recs (-1) v14 (by omega) hris hb))))))))))
theorem write_no {gen : Int} {k f i lo hi s t l e b : Int} {recs base : LR} (h : (writeX gen k f i lo hi s t l e b recs base).2 ≠ 0) : (writeX gen k f i lo hi s t l e b recs base).1 = [] := by
 revert h
 refine gen_cases (gen := gen) (fun gen => (writeX gen k f i lo hi s t l e b recs base).2 ≠ 0 → (writeX gen k f i lo hi s t l e b recs base).1 = []) ?_ ?_ ?_ ?_
 ·rw [writeX1]
  unfold encF
  cases validF k f i lo hi s t l e b recs <;> cases fits1 k f i lo hi s t l e b recs <;> simp
 ·rw [writeX2]
  unfold enc2
  cases validF k f i lo hi s t l e b recs <;> cases fits2 k f i lo hi s t l e b recs <;> simp
 ·rw [writeX3]
  unfold enc3
  split
  ·split
   ·intro _; rfl
   ·intro h; exact absurd rfl h
  ·intro _; rfl
 ·intro h1 h2 h3 _
  rw [writeX0 h1 h2 h3]
theorem write_bytes {gen : Int} {k f i lo hi s t l e b : Int} {recs base : LR} (hbase : gen = 3 → sortedF base = true) (hb : byteBags recs) : isB (writeX gen k f i lo hi s t l e b recs base).1 ∧ (writeX gen k f i lo hi s t l e b recs base).1.length ≤ 65499 := by
 by_cases h : (writeX gen k f i lo hi s t l e b recs base).2 = 0
 ·obtain ⟨_, hv, hl, _⟩ := write_back hbase h
  refine ⟨?_, hl⟩
  have hv' := valid_facts hv
  revert h hbase
  refine gen_cases (gen := gen) (fun gen => (gen = 3 → sortedF base = true) → (writeX gen k f i lo hi s t l e b recs base).2 = 0 → isB (writeX gen k f i lo hi s t l e b recs base).1) ?_ ?_ ?_ ?_
  ·intro _ h
   rw [writeX1] at h ⊢
   obtain ⟨_, _, _, _, _, he⟩ := enc1_ok h
   rw [he]
   exact ((inB_iff _).1 (body_bytes k f i lo hi s t recs hv'.2.2.2.2.2.2.2.2.2.2.2.2.1)).2
  ·intro _ h
   rw [writeX2] at h ⊢
   obtain ⟨_, _, _, _, _, _, _, he⟩ := enc2_ok h
   rw [he]
   exact body2_bytes hv'.2.2.2.2.2.2.2.2.2.2.2.2.2 hb
  ·intro hs h
   rw [writeX3] at h ⊢
   unfold enc3 at h ⊢
   rw [hv, hs rfl] at h ⊢
   simp only [Bool.and_self, if_true] at h ⊢
   split
   ·exact isB_nil
   ·exact body3_bytes hv (sorted_facts (hs rfl)).1 hb
  ·intro h1 h2 h3 _ _
   rw [writeX0 h1 h2 h3]
   exact isB_nil
 ·rw [write_no h]
  exact ⟨isB_nil, by simp⟩
def gen3_reader_headR_E : Env := ⟨th, gam [(76, s_valid), (41, s_has), (98, s_gen3_reader_form), (52, s_rnumb), (107, s_gen3_reader_span), (84, s_bad)], fun i => ⟨[], [], []⟩⟩
def gen3_reader_headR.k (rs : List AV) (os : List Den.Obj) : Option (Int × Int × Int × Int × Int × Int × Int × Int × Int × Int × Bool × (List Int) × Int × Bool) :=
 match rs, os with
 | [.agg [.d (.int .i64) r0, .d (.int .i64) r1, .d (.int .i64) r2, .d (.int .i64) r3, .d (.int .i64) r4, .d (.int .i64) r5, .d (.int .i64) r6, .d (.int .i64) r7, .d (.int .i64) r8, .d (.int .i64) r9, .nilsl]], [.box [.ptr 1 0, .d .bool r10], .box [.d (.sl (.int .u8)) r11, .d (.int .i64) r12, .d .bool r13]] => some (r0, r1, r2, r3, r4, r5, r6, r7, r8, r9, r10, r11, r12, r13)
 | _, _ => none
def gen3_reader_headR.b (bs : List Int) (at0 : Int) (bad wrong : Bool) : Option (Int × Int × Int × Int × Int × Int × Int × Int × Int × Int × Bool × (List Int) × Int × Bool) :=
 (if (atOk bs at0) then (match (veil (Option.some (readF bs (1 : Int) at0 bad))) with | none => none | some y0 => (match (veil (gen3_reader_form.f BIG bs y0.2.1 y0.2.2 wrong (4095 : Int))) with | none => none | some y1 => (match (veil (gen3_reader_form.f BIG y1.2.2.1 y1.2.2.2.1 y1.2.2.2.2 y1.2.1 (veil (281474976710655 : Int)))) with | none => none | some y2 => (match (veil (gen3_reader_span.f BIG y2.2.2.1 y2.2.2.2.1 y2.2.2.2.2 y2.2.1)) with | none => none | some y3 => (if (hasF y0.1 (0 : Int)) then (match (veil (gen3_reader_form.f BIG y3.2.2.2.1 y3.2.2.2.2.1 y3.2.2.2.2.2 y3.2.2.1 (65535 : Int))) with | none => none | some y4 => (if (hasF y0.1 (1 : Int)) then (match (veil (gen3_reader_form.f BIG y4.2.2.1 y4.2.2.2.1 y4.2.2.2.2 y4.2.1 (4095 : Int))) with | none => none | some y5 => (if (hasF y0.1 (2 : Int)) then (match (veil (gen3_reader_form.f BIG y5.2.2.1 y5.2.2.2.1 y5.2.2.2.2 y5.2.1 (veil (281474976710655 : Int)))) with | none => none | some y6 => (match (veil (gen3_reader_form.f BIG y6.2.2.1 y6.2.2.2.1 y6.2.2.2.2 y6.2.1 (65535 : Int))) with | none => none | some y7 => (if (hasF y0.1 (3 : Int)) then (match (veil (gen3_reader_form.f BIG y7.2.2.1 y7.2.2.2.1 y7.2.2.2.2 y7.2.1 (65535 : Int))) with | none => none | some y8 => (if y8.2.2.2.2 then some (y0.1, y1.1, y2.1, y3.1, y3.2.1, y4.1, y5.1, y6.1, y7.1, y8.1, true, y8.2.2.1, y8.2.2.2.1, y8.2.2.2.2) else (if (!(validF y0.1 y1.1 y2.1 y3.1 y3.2.1 y4.1 y5.1 y6.1 y7.1 y8.1 ([] : LR))) then some (y0.1, y1.1, y2.1, y3.1, y3.2.1, y4.1, y5.1, y6.1, y7.1, y8.1, true, y8.2.2.1, y8.2.2.2.1, y8.2.2.2.2) else some (y0.1, y1.1, y2.1, y3.1, y3.2.1, y4.1, y5.1, y6.1, y7.1, y8.1, y8.2.1, y8.2.2.1, y8.2.2.2.1, y8.2.2.2.2)))) else (if y7.2.2.2.2 then some (y0.1, y1.1, y2.1, y3.1, y3.2.1, y4.1, y5.1, y6.1, y7.1, 0, true, y7.2.2.1, y7.2.2.2.1, y7.2.2.2.2) else (if (!(validF y0.1 y1.1 y2.1 y3.1 y3.2.1 y4.1 y5.1 y6.1 y7.1 0 ([] : LR))) then some (y0.1, y1.1, y2.1, y3.1, y3.2.1, y4.1, y5.1, y6.1, y7.1, 0, true, y7.2.2.1, y7.2.2.2.1, y7.2.2.2.2) else some (y0.1, y1.1, y2.1, y3.1, y3.2.1, y4.1, y5.1, y6.1, y7.1, 0, y7.2.1, y7.2.2.1, y7.2.2.2.1, y7.2.2.2.2)))))) else (if (hasF y0.1 (3 : Int)) then (match (veil (gen3_reader_form.f BIG y5.2.2.1 y5.2.2.2.1 y5.2.2.2.2 y5.2.1 (65535 : Int))) with | none => none | some y9 => (if y9.2.2.2.2 then some (y0.1, y1.1, y2.1, y3.1, y3.2.1, y4.1, y5.1, 0, 0, y9.1, true, y9.2.2.1, y9.2.2.2.1, y9.2.2.2.2) else (if (!(validF y0.1 y1.1 y2.1 y3.1 y3.2.1 y4.1 y5.1 0 0 y9.1 ([] : LR))) then some (y0.1, y1.1, y2.1, y3.1, y3.2.1, y4.1, y5.1, 0, 0, y9.1, true, y9.2.2.1, y9.2.2.2.1, y9.2.2.2.2) else some (y0.1, y1.1, y2.1, y3.1, y3.2.1, y4.1, y5.1, 0, 0, y9.1, y9.2.1, y9.2.2.1, y9.2.2.2.1, y9.2.2.2.2)))) else (if y5.2.2.2.2 then some (y0.1, y1.1, y2.1, y3.1, y3.2.1, y4.1, y5.1, 0, 0, 0, true, y5.2.2.1, y5.2.2.2.1, y5.2.2.2.2) else (if (!(validF y0.1 y1.1 y2.1 y3.1 y3.2.1 y4.1 y5.1 0 0 0 ([] : LR))) then some (y0.1, y1.1, y2.1, y3.1, y3.2.1, y4.1, y5.1, 0, 0, 0, true, y5.2.2.1, y5.2.2.2.1, y5.2.2.2.2) else some (y0.1, y1.1, y2.1, y3.1, y3.2.1, y4.1, y5.1, 0, 0, 0, y5.2.1, y5.2.2.1, y5.2.2.2.1, y5.2.2.2.2)))))) else (if (hasF y0.1 (2 : Int)) then (match (veil (gen3_reader_form.f BIG y4.2.2.1 y4.2.2.2.1 y4.2.2.2.2 y4.2.1 (veil (281474976710655 : Int)))) with | none => none | some y10 => (match (veil (gen3_reader_form.f BIG y10.2.2.1 y10.2.2.2.1 y10.2.2.2.2 y10.2.1 (65535 : Int))) with | none => none | some y11 => (if (hasF y0.1 (3 : Int)) then (match (veil (gen3_reader_form.f BIG y11.2.2.1 y11.2.2.2.1 y11.2.2.2.2 y11.2.1 (65535 : Int))) with | none => none | some y12 => (if y12.2.2.2.2 then some (y0.1, y1.1, y2.1, y3.1, y3.2.1, y4.1, 0, y10.1, y11.1, y12.1, true, y12.2.2.1, y12.2.2.2.1, y12.2.2.2.2) else (if (!(validF y0.1 y1.1 y2.1 y3.1 y3.2.1 y4.1 0 y10.1 y11.1 y12.1 ([] : LR))) then some (y0.1, y1.1, y2.1, y3.1, y3.2.1, y4.1, 0, y10.1, y11.1, y12.1, true, y12.2.2.1, y12.2.2.2.1, y12.2.2.2.2) else some (y0.1, y1.1, y2.1, y3.1, y3.2.1, y4.1, 0, y10.1, y11.1, y12.1, y12.2.1, y12.2.2.1, y12.2.2.2.1, y12.2.2.2.2)))) else (if y11.2.2.2.2 then some (y0.1, y1.1, y2.1, y3.1, y3.2.1, y4.1, 0, y10.1, y11.1, 0, true, y11.2.2.1, y11.2.2.2.1, y11.2.2.2.2) else (if (!(validF y0.1 y1.1 y2.1 y3.1 y3.2.1 y4.1 0 y10.1 y11.1 0 ([] : LR))) then some (y0.1, y1.1, y2.1, y3.1, y3.2.1, y4.1, 0, y10.1, y11.1, 0, true, y11.2.2.1, y11.2.2.2.1, y11.2.2.2.2) else some (y0.1, y1.1, y2.1, y3.1, y3.2.1, y4.1, 0, y10.1, y11.1, 0, y11.2.1, y11.2.2.1, y11.2.2.2.1, y11.2.2.2.2)))))) else (if (hasF y0.1 (3 : Int)) then (match (veil (gen3_reader_form.f BIG y4.2.2.1 y4.2.2.2.1 y4.2.2.2.2 y4.2.1 (65535 : Int))) with | none => none | some y13 => (if y13.2.2.2.2 then some (y0.1, y1.1, y2.1, y3.1, y3.2.1, y4.1, 0, 0, 0, y13.1, true, y13.2.2.1, y13.2.2.2.1, y13.2.2.2.2) else (if (!(validF y0.1 y1.1 y2.1 y3.1 y3.2.1 y4.1 0 0 0 y13.1 ([] : LR))) then some (y0.1, y1.1, y2.1, y3.1, y3.2.1, y4.1, 0, 0, 0, y13.1, true, y13.2.2.1, y13.2.2.2.1, y13.2.2.2.2) else some (y0.1, y1.1, y2.1, y3.1, y3.2.1, y4.1, 0, 0, 0, y13.1, y13.2.1, y13.2.2.1, y13.2.2.2.1, y13.2.2.2.2)))) else (if y4.2.2.2.2 then some (y0.1, y1.1, y2.1, y3.1, y3.2.1, y4.1, 0, 0, 0, 0, true, y4.2.2.1, y4.2.2.2.1, y4.2.2.2.2) else (if (!(validF y0.1 y1.1 y2.1 y3.1 y3.2.1 y4.1 0 0 0 0 ([] : LR))) then some (y0.1, y1.1, y2.1, y3.1, y3.2.1, y4.1, 0, 0, 0, 0, true, y4.2.2.1, y4.2.2.2.1, y4.2.2.2.2) else some (y0.1, y1.1, y2.1, y3.1, y3.2.1, y4.1, 0, 0, 0, 0, y4.2.1, y4.2.2.1, y4.2.2.2.1, y4.2.2.2.2))))))) else (if (hasF y0.1 (1 : Int)) then (match (veil (gen3_reader_form.f BIG y3.2.2.2.1 y3.2.2.2.2.1 y3.2.2.2.2.2 y3.2.2.1 (4095 : Int))) with | none => none | some y14 => (if (hasF y0.1 (2 : Int)) then (match (veil (gen3_reader_form.f BIG y14.2.2.1 y14.2.2.2.1 y14.2.2.2.2 y14.2.1 (veil (281474976710655 : Int)))) with | none => none | some y15 => (match (veil (gen3_reader_form.f BIG y15.2.2.1 y15.2.2.2.1 y15.2.2.2.2 y15.2.1 (65535 : Int))) with | none => none | some y16 => (if (hasF y0.1 (3 : Int)) then (match (veil (gen3_reader_form.f BIG y16.2.2.1 y16.2.2.2.1 y16.2.2.2.2 y16.2.1 (65535 : Int))) with | none => none | some y17 => (if y17.2.2.2.2 then some (y0.1, y1.1, y2.1, y3.1, y3.2.1, 0, y14.1, y15.1, y16.1, y17.1, true, y17.2.2.1, y17.2.2.2.1, y17.2.2.2.2) else (if (!(validF y0.1 y1.1 y2.1 y3.1 y3.2.1 0 y14.1 y15.1 y16.1 y17.1 ([] : LR))) then some (y0.1, y1.1, y2.1, y3.1, y3.2.1, 0, y14.1, y15.1, y16.1, y17.1, true, y17.2.2.1, y17.2.2.2.1, y17.2.2.2.2) else some (y0.1, y1.1, y2.1, y3.1, y3.2.1, 0, y14.1, y15.1, y16.1, y17.1, y17.2.1, y17.2.2.1, y17.2.2.2.1, y17.2.2.2.2)))) else (if y16.2.2.2.2 then some (y0.1, y1.1, y2.1, y3.1, y3.2.1, 0, y14.1, y15.1, y16.1, 0, true, y16.2.2.1, y16.2.2.2.1, y16.2.2.2.2) else (if (!(validF y0.1 y1.1 y2.1 y3.1 y3.2.1 0 y14.1 y15.1 y16.1 0 ([] : LR))) then some (y0.1, y1.1, y2.1, y3.1, y3.2.1, 0, y14.1, y15.1, y16.1, 0, true, y16.2.2.1, y16.2.2.2.1, y16.2.2.2.2) else some (y0.1, y1.1, y2.1, y3.1, y3.2.1, 0, y14.1, y15.1, y16.1, 0, y16.2.1, y16.2.2.1, y16.2.2.2.1, y16.2.2.2.2)))))) else (if (hasF y0.1 (3 : Int)) then (match (veil (gen3_reader_form.f BIG y14.2.2.1 y14.2.2.2.1 y14.2.2.2.2 y14.2.1 (65535 : Int))) with | none => none | some y18 => (if y18.2.2.2.2 then some (y0.1, y1.1, y2.1, y3.1, y3.2.1, 0, y14.1, 0, 0, y18.1, true, y18.2.2.1, y18.2.2.2.1, y18.2.2.2.2) else (if (!(validF y0.1 y1.1 y2.1 y3.1 y3.2.1 0 y14.1 0 0 y18.1 ([] : LR))) then some (y0.1, y1.1, y2.1, y3.1, y3.2.1, 0, y14.1, 0, 0, y18.1, true, y18.2.2.1, y18.2.2.2.1, y18.2.2.2.2) else some (y0.1, y1.1, y2.1, y3.1, y3.2.1, 0, y14.1, 0, 0, y18.1, y18.2.1, y18.2.2.1, y18.2.2.2.1, y18.2.2.2.2)))) else (if y14.2.2.2.2 then some (y0.1, y1.1, y2.1, y3.1, y3.2.1, 0, y14.1, 0, 0, 0, true, y14.2.2.1, y14.2.2.2.1, y14.2.2.2.2) else (if (!(validF y0.1 y1.1 y2.1 y3.1 y3.2.1 0 y14.1 0 0 0 ([] : LR))) then some (y0.1, y1.1, y2.1, y3.1, y3.2.1, 0, y14.1, 0, 0, 0, true, y14.2.2.1, y14.2.2.2.1, y14.2.2.2.2) else some (y0.1, y1.1, y2.1, y3.1, y3.2.1, 0, y14.1, 0, 0, 0, y14.2.1, y14.2.2.1, y14.2.2.2.1, y14.2.2.2.2)))))) else (if (hasF y0.1 (2 : Int)) then (match (veil (gen3_reader_form.f BIG y3.2.2.2.1 y3.2.2.2.2.1 y3.2.2.2.2.2 y3.2.2.1 (veil (281474976710655 : Int)))) with | none => none | some y19 => (match (veil (gen3_reader_form.f BIG y19.2.2.1 y19.2.2.2.1 y19.2.2.2.2 y19.2.1 (65535 : Int))) with | none => none | some y20 => (if (hasF y0.1 (3 : Int)) then (match (veil (gen3_reader_form.f BIG y20.2.2.1 y20.2.2.2.1 y20.2.2.2.2 y20.2.1 (65535 : Int))) with | none => none | some y21 => (if y21.2.2.2.2 then some (y0.1, y1.1, y2.1, y3.1, y3.2.1, 0, 0, y19.1, y20.1, y21.1, true, y21.2.2.1, y21.2.2.2.1, y21.2.2.2.2) else (if (!(validF y0.1 y1.1 y2.1 y3.1 y3.2.1 0 0 y19.1 y20.1 y21.1 ([] : LR))) then some (y0.1, y1.1, y2.1, y3.1, y3.2.1, 0, 0, y19.1, y20.1, y21.1, true, y21.2.2.1, y21.2.2.2.1, y21.2.2.2.2) else some (y0.1, y1.1, y2.1, y3.1, y3.2.1, 0, 0, y19.1, y20.1, y21.1, y21.2.1, y21.2.2.1, y21.2.2.2.1, y21.2.2.2.2)))) else (if y20.2.2.2.2 then some (y0.1, y1.1, y2.1, y3.1, y3.2.1, 0, 0, y19.1, y20.1, 0, true, y20.2.2.1, y20.2.2.2.1, y20.2.2.2.2) else (if (!(validF y0.1 y1.1 y2.1 y3.1 y3.2.1 0 0 y19.1 y20.1 0 ([] : LR))) then some (y0.1, y1.1, y2.1, y3.1, y3.2.1, 0, 0, y19.1, y20.1, 0, true, y20.2.2.1, y20.2.2.2.1, y20.2.2.2.2) else some (y0.1, y1.1, y2.1, y3.1, y3.2.1, 0, 0, y19.1, y20.1, 0, y20.2.1, y20.2.2.1, y20.2.2.2.1, y20.2.2.2.2)))))) else (if (hasF y0.1 (3 : Int)) then (match (veil (gen3_reader_form.f BIG y3.2.2.2.1 y3.2.2.2.2.1 y3.2.2.2.2.2 y3.2.2.1 (65535 : Int))) with | none => none | some y22 => (if y22.2.2.2.2 then some (y0.1, y1.1, y2.1, y3.1, y3.2.1, 0, 0, 0, 0, y22.1, true, y22.2.2.1, y22.2.2.2.1, y22.2.2.2.2) else (if (!(validF y0.1 y1.1 y2.1 y3.1 y3.2.1 0 0 0 0 y22.1 ([] : LR))) then some (y0.1, y1.1, y2.1, y3.1, y3.2.1, 0, 0, 0, 0, y22.1, true, y22.2.2.1, y22.2.2.2.1, y22.2.2.2.2) else some (y0.1, y1.1, y2.1, y3.1, y3.2.1, 0, 0, 0, 0, y22.1, y22.2.1, y22.2.2.1, y22.2.2.2.1, y22.2.2.2.2)))) else (if y3.2.2.2.2.2 then some (y0.1, y1.1, y2.1, y3.1, y3.2.1, 0, 0, 0, 0, 0, true, y3.2.2.2.1, y3.2.2.2.2.1, y3.2.2.2.2.2) else (if (!(validF y0.1 y1.1 y2.1 y3.1 y3.2.1 0 0 0 0 0 ([] : LR))) then some (y0.1, y1.1, y2.1, y3.1, y3.2.1, 0, 0, 0, 0, 0, true, y3.2.2.2.1, y3.2.2.2.2.1, y3.2.2.2.2.2) else some (y0.1, y1.1, y2.1, y3.1, y3.2.1, 0, 0, 0, 0, 0, y3.2.2.1, y3.2.2.2.1, y3.2.2.2.2.1, y3.2.2.2.2.2))))))))))) else none)
def gen3_reader_headR.f (fuel : Nat) (bs : List Int) (at0 : Int) (bad wrong : Bool) : Option (Int × Int × Int × Int × Int × Int × Int × Int × Int × Int × Bool × (List Int) × Int × Bool) := gen3_reader_headR.b bs at0 bad wrong
theorem gen3_reader_headR.eq (fuel : Nat) (bs : List Int) (at0 : Int) (bad wrong : Bool) : (denF gen3_reader_headR_E loopN fuel Tryz.f74 [.raw] [.ptr 0 0] [.box [.ptr 1 0, .d .bool wrong], .box [.d (.sl (.int .u8)) bs, .d tQi at0, .d .bool bad]] gen3_reader_headR.k) = gen3_reader_headR.f fuel bs at0 bad wrong := by
 kernel_rfl
def s_gen3_reader_headR : Den.Sum := ⟨[.pb [.frz none [0] 0 (.int .u8)]], fun args objs κ => match args, objs with
 | [.ptr 0 0], [.box [.ptr 1 0, .d .bool wrong], .box [.d (.sl (.int .u8)) bs, .d (.int .i64) at0, .d .bool bad]] => (match veil (gen3_reader_headR.f BIG bs at0 bad wrong) with | none => none | some y => κ [.agg [.d (.int .i64) y.1, .d (.int .i64) y.2.1, .d (.int .i64) y.2.2.1, .d (.int .i64) y.2.2.2.1, .d (.int .i64) y.2.2.2.2.1, .d (.int .i64) y.2.2.2.2.2.1, .d (.int .i64) y.2.2.2.2.2.2.1, .d (.int .i64) y.2.2.2.2.2.2.2.1, .d (.int .i64) y.2.2.2.2.2.2.2.2.1, .d (.int .i64) y.2.2.2.2.2.2.2.2.2.1, .nilsl]] [.box [.ptr 1 0, .d .bool y.2.2.2.2.2.2.2.2.2.2.1], .box [.d (.sl (.int .u8)) y.2.2.2.2.2.2.2.2.2.2.2.1, .d (.int .i64) y.2.2.2.2.2.2.2.2.2.2.2.2.1, .d .bool y.2.2.2.2.2.2.2.2.2.2.2.2.2]])
 | _, _ => none⟩
theorem s_gen3_reader_headR_det : SumDet s_gen3_reader_headR := sdet fun _ _ _ _ => by
 unfold s_gen3_reader_headR
 simp only [veil_eq]
 split
 ·split <;> rfl
 ·rfl
theorem s_gen3_reader_headR_ok : SumOk Tryz.prog 74 s_gen3_reader_headR := by
 have hE : EnvOk Tryz.prog gen3_reader_headR_E := env_ok (l := [(76, s_valid), (41, s_has), (98, s_gen3_reader_form), (52, s_rnumb), (107, s_gen3_reader_span), (84, s_bad)]) th_ok any_ok ⟨⟨s_valid_ok, s_valid_det⟩, ⟨s_has_ok, s_has_det⟩, ⟨s_gen3_reader_form_ok, s_gen3_reader_form_det⟩, ⟨s_rnumb_ok, s_rnumb_det⟩, ⟨s_gen3_reader_span_ok, s_gen3_reader_span_det⟩, ⟨s_bad_ok, s_bad_det⟩, trivial⟩ _
 refine sum_ok hE Tryz.func74 rfl (by kernel_rfl) s_gen3_reader_headR [.raw] gen3_reader_headR.k ?_
 intro R avs objs κ r h
 unfold s_gen3_reader_headR at h
 simp only [veil_eq] at h
 split at h
 ·rename_i wrong bs at0 bad
  split at h
  ·cases h
  ·rename_i y hy
   refine ⟨BIG, _, _, _, (gen3_reader_headR.eq BIG bs at0 bad wrong).trans hy, ?_, h⟩
   intro rs ros hk
   unfold gen3_reader_headR.k at hk
   split at hk
   ·first | (cases hk; exact ⟨rfl, rfl⟩) | (rw [← Option.some.inj hk]; exact ⟨rfl, rfl⟩)
   ·cases hk
 ·cases h
def gen3_reader_fields_E : Env := ⟨th, gam [(98, s_gen3_reader_form), (52, s_rnumb), (84, s_bad), (53, s_takeb)], fun i => if i = 4 then ⟨[0, 3, 4, 5], [(3, 86, (.pair tQi (.sl (.int .u8))))], []⟩ else ⟨[], [], []⟩⟩
def gen3_reader_fields.k (rs : List AV) (os : List Den.Obj) : Option (Bool × (List Int) × Int × Bool × LF) :=
 match rs, os with
 | [.row 2], [.box [.ptr 1 0, .d .bool r0], .box [.d (.sl (.int .u8)) r1, .d (.int .i64) r2, .d .bool r3], .row 86 (.pair (.int .i64) (.sl (.int .u8))) r4 false] => some (r0, r1, r2, r3, r4)
 | _, _ => none
def gen3_reader_fields.s4 (bs : List Int) (at0 : Int) (bad wrong : Bool) (x1 x2 : Int) (x3 : Bool) (x4 : (List Int)) (x5 : Int) (x6 : Bool) (x7 : LF) : St := ⟨[.ptr 0 0, .dead, .dead, .row 64, .d tQi x1, .d tQi x2, dD, dD, dD, dD, dD, dD, dD, dD, dD, dD, dD, dD, dD, dD, dD, dD, dD, dD, dD, dD, dD, dD, dD, dD, dD, dD, dD, dD, dD, dD, dD, dD, dD, dD, dD, dD, dD, dD, dD, dD, dD, .dead], ofL [(0, .box [.ptr 1 0, .d .bool x3]), (1, .box [.d (.sl (.int .u8)) x4, .d tQi x5, .d .bool x6]), (64, .row 86 (.pair tQi (.sl (.int .u8))) x7 false)], 2⟩
def gen3_reader_fields.p4 (fuel : Nat) (bs : List Int) (at0 : Int) (bad wrong : Bool) (k : Nat) := fun x1 x2 x3 x4 x5 x6 x7 => lp gen3_reader_fields_E fuel Tryz.f124 [.own 86 (.pair tQi (.sl (.int .u8)))] 2 gen3_reader_fields.k 4 [] k (gen3_reader_fields.s4 bs at0 bad wrong x1 x2 x3 x4 x5 x6 x7)
def gen3_reader_fields.b4 (bs : List Int) (at0 : Int) (bad wrong : Bool) (A4 : Int → Int → Bool → (List Int) → Int → Bool → LF → Option (Bool × (List Int) × Int × Bool × LF)) (x1 : Int) (x2 : Int) (x3 : Bool) (x4 : (List Int)) (x5 : Int) (x6 : Bool) (x7 : LF) : Option (Bool × (List Int) × Int × Bool × LF) :=
 (if (decide (x2 < x1)) then (if (!x3) then (if (atOk x4 x5) then (match (veil (Option.some (readF x4 (1 : Int) x5 x6))) with | none => none | some y8 => (match (veil (gen3_reader_form.f BIG x4 y8.2.1 y8.2.2 x3 (4096 : Int))) with | none => none | some y9 => (if (atOk y9.2.2.1 y9.2.2.2.1) then (match (veil (Option.some (stepF y9.2.2.1 y9.1 y9.2.2.2.1 y9.2.2.2.2))) with | none => none | some y10 => (if y10.2.2.2 then (if ((((List.length x7) + (List.length ((y8.1, y10.1) :: ([] : LF)))) * (32 : Nat)) ≤ lim) then A4 x1 (IntKind.wrap .i64 (x2 + (1 : Int))) true y9.2.2.1 y10.2.2.1 y10.2.2.2 (x7 ++ ((y8.1, y10.1) :: ([] : LF))) else none) else (if ((((List.length x7) + (List.length ((y8.1, y10.1) :: ([] : LF)))) * (32 : Nat)) ≤ lim) then A4 x1 (IntKind.wrap .i64 (x2 + (1 : Int))) y9.2.1 y9.2.2.1 y10.2.2.1 y10.2.2.2 (x7 ++ ((y8.1, y10.1) :: ([] : LF))) else none))) else none))) else none) else some (x3, x4, x5, x6, x7)) else some (x3, x4, x5, x6, x7))
def gen3_reader_fields.l4 (fuel : Nat) (bs : List Int) (at0 : Int) (bad wrong : Bool) : Nat → Int → Int → Bool → (List Int) → Int → Bool → LF → Option (Bool × (List Int) × Int × Bool × LF)
 | 0, _, _, _, _, _, _, _ => none
 | k + 1, x1, x2, x3, x4, x5, x6, x7 => gen3_reader_fields.b4 bs at0 bad wrong (gen3_reader_fields.l4 fuel bs at0 bad wrong k) x1 x2 x3 x4 x5 x6 x7
def gen3_reader_fields.b (bs : List Int) (at0 : Int) (bad wrong : Bool) (E4 : Int → Int → Bool → (List Int) → Int → Bool → LF → Option (Bool × (List Int) × Int × Bool × LF)) : Option (Bool × (List Int) × Int × Bool × LF) :=
 (match (veil (gen3_reader_form.f BIG bs at0 bad wrong (32 : Int))) with | none => none | some y0 => E4 y0.1 (0 : Int) y0.2.1 y0.2.2.1 y0.2.2.2.1 y0.2.2.2.2 ([] : LF))
def gen3_reader_fields.f (fuel : Nat) (bs : List Int) (at0 : Int) (bad wrong : Bool) : Option (Bool × (List Int) × Int × Bool × LF) := gen3_reader_fields.b bs at0 bad wrong (gen3_reader_fields.l4 fuel bs at0 bad wrong fuel)
theorem gen3_reader_fields.l4_eq (fuel : Nat) (bs : List Int) (at0 : Int) (bad wrong : Bool) : ∀ k : Nat, gen3_reader_fields.p4 fuel bs at0 bad wrong k = gen3_reader_fields.l4 fuel bs at0 bad wrong k
 | 0 => by kernel_rfl
 | k + 1 => by
  refine Eq.trans (b := gen3_reader_fields.b4 bs at0 bad wrong (gen3_reader_fields.p4 fuel bs at0 bad wrong k)) (by kernel_rfl) ?_
  rw [gen3_reader_fields.l4_eq fuel bs at0 bad wrong k]
  kernel_rfl
theorem gen3_reader_fields.eq (fuel : Nat) (bs : List Int) (at0 : Int) (bad wrong : Bool) : (denF gen3_reader_fields_E loopN fuel Tryz.f124 [.own 86 (.pair tQi (.sl (.int .u8)))] [.ptr 0 0] [.box [.ptr 1 0, .d .bool wrong], .box [.d (.sl (.int .u8)) bs, .d tQi at0, .d .bool bad]] gen3_reader_fields.k) = gen3_reader_fields.f fuel bs at0 bad wrong := by
 refine Eq.trans (b := gen3_reader_fields.b bs at0 bad wrong (gen3_reader_fields.p4 fuel bs at0 bad wrong fuel)) (by kernel_rfl) ?_
 rw [gen3_reader_fields.l4_eq fuel bs at0 bad wrong fuel]
 kernel_rfl
def s_gen3_reader_fields : Den.Sum := ⟨[.pb [.frz none [0] 0 (.int .u8)]], fun args objs κ => match args, objs with
 | [.ptr 0 0], [.box [.ptr 1 0, .d .bool wrong], .box [.d (.sl (.int .u8)) bs, .d (.int .i64) at0, .d .bool bad]] => (match veil (gen3_reader_fields.f BIG bs at0 bad wrong) with | none => none | some y => κ [.row 2] [.box [.ptr 1 0, .d .bool y.1], .box [.d (.sl (.int .u8)) y.2.1, .d (.int .i64) y.2.2.1, .d .bool y.2.2.2.1], .row 86 (.pair (.int .i64) (.sl (.int .u8))) y.2.2.2.2 false])
 | _, _ => none⟩
theorem s_gen3_reader_fields_det : SumDet s_gen3_reader_fields := sdet fun _ _ _ _ => by
 unfold s_gen3_reader_fields
 simp only [veil_eq]
 split
 ·split <;> rfl
 ·rfl
theorem s_gen3_reader_fields_ok : SumOk Tryz.prog 124 s_gen3_reader_fields := by
 have hE : EnvOk Tryz.prog gen3_reader_fields_E := env_ok (l := [(98, s_gen3_reader_form), (52, s_rnumb), (84, s_bad), (53, s_takeb)]) th_ok any_ok ⟨⟨s_gen3_reader_form_ok, s_gen3_reader_form_det⟩, ⟨s_rnumb_ok, s_rnumb_det⟩, ⟨s_bad_ok, s_bad_det⟩, ⟨s_takeb_ok, s_takeb_det⟩, trivial⟩ _
 refine sum_ok hE Tryz.func124 rfl (by kernel_rfl) s_gen3_reader_fields [.own 86 (.pair tQi (.sl (.int .u8)))] gen3_reader_fields.k ?_
 intro R avs objs κ r h
 unfold s_gen3_reader_fields at h
 simp only [veil_eq] at h
 split at h
 ·rename_i wrong bs at0 bad
  split at h
  ·cases h
  ·rename_i y hy
   refine ⟨BIG, _, _, _, (gen3_reader_fields.eq BIG bs at0 bad wrong).trans hy, ?_, h⟩
   intro rs ros hk
   unfold gen3_reader_fields.k at hk
   split at hk
   ·first | (cases hk; exact ⟨rfl, rfl⟩) | (rw [← Option.some.inj hk]; exact ⟨rfl, rfl⟩)
   ·cases hk
 ·cases h
def gen3_reader_one_E : Env := ⟨th, gam [(98, s_gen3_reader_form), (122, s_rec_Find), (75, s_bsame), (52, s_rnumb), (107, s_gen3_reader_span), (123, s_varint_Zag), (124, s_gen3_reader_fields)], fun i => if i = 8 then ⟨[0, 6, 7, 8, 9, 10], [], [777777]⟩ else if i = 12 then ⟨[0, 6, 7, 8, 9, 10], [], [777777]⟩ else ⟨[], [], []⟩⟩
def gen3_reader_one.k (rs : List AV) (os : List Den.Obj) : Option (Int × Int × Int × Int × Int × Bool × LF × Bool × (List Int) × Int × Bool) :=
 match rs, os with
 | [.agg [.d (.int .i64) r0, .d (.int .i64) r1, .d (.int .i64) r2, .d (.int .i64) r3, .d (.int .i64) r4, .d .bool r5, .d (.sl (.pair (.int .i64) (.sl (.int .u8)))) r6]], [.box [.ptr 1 0, .d .bool r7], .box [.d (.sl (.int .u8)) r8, .d (.int .i64) r9, .d .bool r10]] => some (r0, r1, r2, r3, r4, r5, r6, r7, r8, r9, r10)
 | _, _ => none
def gen3_reader_one.s12 (bs : List Int) (at0 : Int) (bad wrong : Bool) (last : Int) (base : LR) (x19 : Int) (x20 x21 : Bool) (x22 : (List Int)) (x23 : Int) (x24 : Bool) (x25 x26 x27 x28 : Int) (x29 : Bool) (x30 x31 x32 x33 x34 : Int) (x35 : Bool) (x36 : LF) : St := ⟨[.ptr 0 0, dD, dD, dD, dD, dD, .ptr 64 0, .ptr 65 0, .d tQi x19, .ptr 66 0, .d .bool x20, dD, dD, dD, dD, dD, dD, dD, dD, dD, dD, dD, dD, dD, dD, dD, dD, dD, dD, dD, dD, dD, dD, dD, dD, dD, dD, dD, dD, dD, dD, dD, dD, dD, dD, dD, dD, dD, dD, dD, dD, dD, dD, dD, dD, dD, dD, dD, dD, dD, dD, dD, dD, dD, dD, dD, dD, dD, dD, dD, dD, dD, dD, dD, dD, dD, dD, dD, dD, dD, dD, dD, dD, dD, dD, dD, dD, dD, dD, dD, dD, dD, dD, dD, dD, dD, dD, dD, dD, dD, dD, dD, dD, dD, dD, dD, dD, dD, dD, dD, dD, dD, dD, dD, dD, dD, dD, dD, dD, dD, dD, dD, .dead], ofL [(0, .box [.ptr 1 0, .d .bool x21]), (1, .box [.d (.sl (.int .u8)) x22, .d tQi x23, .d .bool x24]), (64, .box [.d tQi (0), .d tQi (0), .d tQi (0), .d tQi (0), .d tQi (0), .d .bool (false), .nilsl]), (65, .box [.d tQi x25, .d tQi (0), .d tQi x26, .d tQi x27, .d tQi x28, .d .bool x29, .nilsl]), (66, .box [.d tQi x30, .d tQi x31, .d tQi x32, .d tQi x33, .d tQi x34, .d .bool x35, .d (.sl (.pair tQi (.sl (.int .u8)))) x36])], 2⟩
def gen3_reader_one.p12 (fuel : Nat) (bs : List Int) (at0 : Int) (bad wrong : Bool) (last : Int) (base : LR) (k : Nat) := fun x19 x20 x21 x22 x23 x24 x25 x26 x27 x28 x29 x30 x31 x32 x33 x34 x35 x36 => lp gen3_reader_one_E fuel Tryz.f99 [.dat tQr true] 2 gen3_reader_one.k 12 [] k (gen3_reader_one.s12 bs at0 bad wrong last base x19 x20 x21 x22 x23 x24 x25 x26 x27 x28 x29 x30 x31 x32 x33 x34 x35 x36)
def gen3_reader_one.b12 (bs : List Int) (at0 : Int) (bad wrong : Bool) (last : Int) (base : LR) (A12 : Int → Bool → Bool → (List Int) → Int → Bool → Int → Int → Int → Int → Bool → Int → Int → Int → Int → Int → Bool → LF → Option (Int × Int × Int × Int × Int × Bool × LF × Bool × (List Int) × Int × Bool)) (x19 : Int) (x20 : Bool) (x21 : Bool) (x22 : (List Int)) (x23 : Int) (x24 : Bool) (x25 : Int) (x26 : Int) (x27 : Int) (x28 : Int) (x29 : Bool) (x30 : Int) (x31 : Int) (x32 : Int) (x33 : Int) (x34 : Int) (x35 : Bool) (x36 : LF) : Option (Int × Int × Int × Int × Int × Bool × LF × Bool × (List Int) × Int × Bool) :=
 (match (veil (gen3_reader_form.f BIG x22 x23 x24 x21 (veil (562949953421310 : Int)))) with | none => none | some y37 => (match (veil (varint_Zag.f BIG (IntKind.wrap .u64 y37.1))) with | none => none | some y38 => (if x29 then some (x25, (IntKind.wrap .i64 (x31 + y38)), x26, x27, x28, x29, ([] : LF), y37.2.1, y37.2.2.1, y37.2.2.2.1, y37.2.2.2.2) else (if ((bits BinOp.and .i64 x19 (16 : Int)) != (0 : Int)) then some (x25, (IntKind.wrap .i64 (x31 + y38)), x26, x27, x28, x29, x36, y37.2.1, y37.2.2.1, y37.2.2.2.1, y37.2.2.2.2) else (match (veil (gen3_reader_fields.f BIG y37.2.2.1 y37.2.2.2.1 y37.2.2.2.2 y37.2.1)) with | none => none | some y39 => (if y39.1 then some (x25, (IntKind.wrap .i64 (x31 + y38)), x26, x27, x28, x29, y39.2.2.2.2, true, y39.2.1, y39.2.2.1, y39.2.2.2.1) else (if x20 then (if ((smallBag y39.2.2.2.2) && (smallBag x36)) then some (x25, (IntKind.wrap .i64 (x31 + y38)), x26, x27, x28, x29, y39.2.2.2.2, ((cmpGo y39.2.2.2.2 x36) == (0 : Int)), y39.2.1, y39.2.2.1, y39.2.2.2.1) else none) else some (x25, (IntKind.wrap .i64 (x31 + y38)), x26, x27, x28, x29, y39.2.2.2.2, false, y39.2.1, y39.2.2.1, y39.2.2.2.1))))))))
def gen3_reader_one.l12 (fuel : Nat) (bs : List Int) (at0 : Int) (bad wrong : Bool) (last : Int) (base : LR) : Nat → Int → Bool → Bool → (List Int) → Int → Bool → Int → Int → Int → Int → Bool → Int → Int → Int → Int → Int → Bool → LF → Option (Int × Int × Int × Int × Int × Bool × LF × Bool × (List Int) × Int × Bool)
 | 0, _, _, _, _, _, _, _, _, _, _, _, _, _, _, _, _, _, _ => none
 | k + 1, x19, x20, x21, x22, x23, x24, x25, x26, x27, x28, x29, x30, x31, x32, x33, x34, x35, x36 => gen3_reader_one.b12 bs at0 bad wrong last base (gen3_reader_one.l12 fuel bs at0 bad wrong last base k) x19 x20 x21 x22 x23 x24 x25 x26 x27 x28 x29 x30 x31 x32 x33 x34 x35 x36
def gen3_reader_one.s8 (bs : List Int) (at0 : Int) (bad wrong : Bool) (last : Int) (base : LR) (x3 : Int) (x4 x5 : Bool) (x6 : (List Int)) (x7 : Int) (x8 : Bool) (x9 x10 : Int) (x11 : Bool) (x12 x13 x14 x15 x16 : Int) (x17 : Bool) (x18 : LF) : St := ⟨[.ptr 0 0, dD, dD, dD, dD, dD, .ptr 64 0, .ptr 65 0, .d tQi x3, .ptr 66 0, .d .bool x4, dD, dD, dD, dD, dD, dD, dD, dD, dD, dD, dD, dD, dD, dD, dD, dD, dD, dD, dD, dD, dD, dD, dD, dD, dD, dD, dD, dD, dD, dD, dD, dD, dD, dD, dD, dD, dD, dD, dD, dD, dD, dD, dD, dD, dD, dD, dD, dD, dD, dD, dD, dD, dD, dD, dD, dD, dD, dD, dD, dD, dD, dD, dD, dD, dD, dD, dD, dD, dD, dD, dD, dD, dD, dD, dD, dD, dD, dD, dD, dD, dD, dD, dD, dD, dD, dD, dD, dD, dD, dD, dD, dD, dD, dD, dD, dD, dD, dD, dD, dD, dD, dD, dD, dD, dD, dD, dD, dD, dD, dD, dD, .dead], ofL [(0, .box [.ptr 1 0, .d .bool x5]), (1, .box [.d (.sl (.int .u8)) x6, .d tQi x7, .d .bool x8]), (64, .box [.d tQi (0), .d tQi (0), .d tQi (0), .d tQi (0), .d tQi (0), .d .bool (false), .nilsl]), (65, .box [.d tQi x9, .d tQi (0), .d tQi x10, .d tQi (0), .d tQi (0), .d .bool x11, .nilsl]), (66, .box [.d tQi x12, .d tQi x13, .d tQi x14, .d tQi x15, .d tQi x16, .d .bool x17, .d (.sl (.pair tQi (.sl (.int .u8)))) x18])], 2⟩
def gen3_reader_one.p8 (fuel : Nat) (bs : List Int) (at0 : Int) (bad wrong : Bool) (last : Int) (base : LR) (k : Nat) := fun x3 x4 x5 x6 x7 x8 x9 x10 x11 x12 x13 x14 x15 x16 x17 x18 => lp gen3_reader_one_E fuel Tryz.f99 [.dat tQr true] 2 gen3_reader_one.k 8 [] k (gen3_reader_one.s8 bs at0 bad wrong last base x3 x4 x5 x6 x7 x8 x9 x10 x11 x12 x13 x14 x15 x16 x17 x18)
def gen3_reader_one.b8 (bs : List Int) (at0 : Int) (bad wrong : Bool) (last : Int) (base : LR) (A8 : Int → Bool → Bool → (List Int) → Int → Bool → Int → Int → Bool → Int → Int → Int → Int → Int → Bool → LF → Option (Int × Int × Int × Int × Int × Bool × LF × Bool × (List Int) × Int × Bool)) (E12 : Int → Bool → Bool → (List Int) → Int → Bool → Int → Int → Int → Int → Bool → Int → Int → Int → Int → Int → Bool → LF → Option (Int × Int × Int × Int × Int × Bool × LF × Bool × (List Int) × Int × Bool)) (x3 : Int) (x4 : Bool) (x5 : Bool) (x6 : (List Int)) (x7 : Int) (x8 : Bool) (x9 : Int) (x10 : Int) (x11 : Bool) (x12 : Int) (x13 : Int) (x14 : Int) (x15 : Int) (x16 : Int) (x17 : Bool) (x18 : LF) : Option (Int × Int × Int × Int × Int × Bool × LF × Bool × (List Int) × Int × Bool) :=
 (if ((bits BinOp.and .i64 x3 (8 : Int)) != (0 : Int)) then E12 x3 x4 x5 x6 x7 x8 x9 x10 x15 x16 x11 x12 x13 x14 x15 x16 x17 x18 else (match (veil (gen3_reader_span.f BIG x6 x7 x8 x5)) with | none => none | some y40 => (if y40.2.2.1 then E12 x3 x4 true y40.2.2.2.1 y40.2.2.2.2.1 y40.2.2.2.2.2 x9 x10 y40.1 y40.2.1 x11 x12 x13 x14 x15 x16 x17 x18 else (if x4 then E12 x3 x4 (if (y40.1 == x15) then (if (y40.2.1 == x16) then true else false) else false) y40.2.2.2.1 y40.2.2.2.2.1 y40.2.2.2.2.2 x9 x10 y40.1 y40.2.1 x11 x12 x13 x14 x15 x16 x17 x18 else E12 x3 x4 false y40.2.2.2.1 y40.2.2.2.2.1 y40.2.2.2.2.2 x9 x10 y40.1 y40.2.1 x11 x12 x13 x14 x15 x16 x17 x18))))
def gen3_reader_one.l8 (fuel : Nat) (bs : List Int) (at0 : Int) (bad wrong : Bool) (last : Int) (base : LR) : Nat → Int → Bool → Bool → (List Int) → Int → Bool → Int → Int → Bool → Int → Int → Int → Int → Int → Bool → LF → Option (Int × Int × Int × Int × Int × Bool × LF × Bool × (List Int) × Int × Bool)
 | 0, _, _, _, _, _, _, _, _, _, _, _, _, _, _, _, _ => none
 | k + 1, x3, x4, x5, x6, x7, x8, x9, x10, x11, x12, x13, x14, x15, x16, x17, x18 => gen3_reader_one.b8 bs at0 bad wrong last base (gen3_reader_one.l8 fuel bs at0 bad wrong last base k) (gen3_reader_one.l12 fuel bs at0 bad wrong last base fuel) x3 x4 x5 x6 x7 x8 x9 x10 x11 x12 x13 x14 x15 x16 x17 x18
def gen3_reader_one.b (bs : List Int) (at0 : Int) (bad wrong : Bool) (last : Int) (base : LR) (E8 : Int → Bool → Bool → (List Int) → Int → Bool → Int → Int → Bool → Int → Int → Int → Int → Int → Bool → LF → Option (Int × Int × Int × Int × Int × Bool × LF × Bool × (List Int) × Int × Bool)) : Option (Int × Int × Int × Int × Int × Bool × LF × Bool × (List Int) × Int × Bool) :=
 (match (veil (gen3_reader_form.f BIG bs at0 bad wrong (4095 : Int))) with | none => none | some y0 => (if (atOk y0.2.2.1 y0.2.2.2.1) then (match (veil (Option.some (readF y0.2.2.1 (1 : Int) y0.2.2.2.1 y0.2.2.2.2))) with | none => none | some y1 => (match (veil (rec_Find.f BIG base (IntKind.wrap .i64 ((IntKind.wrap .i64 (last + (1 : Int))) + y0.1)))) with | none => none | some y2 => (if (decide (y1.1 ≥ (32 : Int))) then some ((IntKind.wrap .i64 ((IntKind.wrap .i64 (last + (1 : Int))) + y0.1)), 0, (bits BinOp.and .i64 y1.1 (3 : Int)), 0, 0, ((bits BinOp.and .i64 y1.1 (4 : Int)) != (0 : Int)), ([] : LF), true, y0.2.2.1, y1.2.1, y1.2.2) else (if (!y2.2.2.2.2.2.2.2) then (if (decide (y1.1 ≥ (8 : Int))) then some ((IntKind.wrap .i64 ((IntKind.wrap .i64 (last + (1 : Int))) + y0.1)), 0, (bits BinOp.and .i64 y1.1 (3 : Int)), 0, 0, ((bits BinOp.and .i64 y1.1 (4 : Int)) != (0 : Int)), ([] : LF), true, y0.2.2.1, y1.2.1, y1.2.2) else (if ((bits BinOp.and .i64 y1.1 (4 : Int)) != (0 : Int)) then (if (decide (y1.1 ≥ (16 : Int))) then some ((IntKind.wrap .i64 ((IntKind.wrap .i64 (last + (1 : Int))) + y0.1)), 0, (bits BinOp.and .i64 y1.1 (3 : Int)), 0, 0, ((bits BinOp.and .i64 y1.1 (4 : Int)) != (0 : Int)), ([] : LF), true, y0.2.2.1, y1.2.1, y1.2.2) else E8 y1.1 y2.2.2.2.2.2.2.2 y0.2.1 y0.2.2.1 y1.2.1 y1.2.2 (IntKind.wrap .i64 ((IntKind.wrap .i64 (last + (1 : Int))) + y0.1)) (bits BinOp.and .i64 y1.1 (3 : Int)) ((bits BinOp.and .i64 y1.1 (4 : Int)) != (0 : Int)) y2.1 y2.2.1 y2.2.2.1 y2.2.2.2.1 y2.2.2.2.2.1 y2.2.2.2.2.2.1 y2.2.2.2.2.2.2.1) else E8 y1.1 y2.2.2.2.2.2.2.2 y0.2.1 y0.2.2.1 y1.2.1 y1.2.2 (IntKind.wrap .i64 ((IntKind.wrap .i64 (last + (1 : Int))) + y0.1)) (bits BinOp.and .i64 y1.1 (3 : Int)) ((bits BinOp.and .i64 y1.1 (4 : Int)) != (0 : Int)) y2.1 y2.2.1 y2.2.2.1 y2.2.2.2.1 y2.2.2.2.2.1 y2.2.2.2.2.2.1 y2.2.2.2.2.2.2.1)) else (if ((bits BinOp.and .i64 y1.1 (4 : Int)) != (0 : Int)) then (if (decide (y1.1 ≥ (16 : Int))) then some ((IntKind.wrap .i64 ((IntKind.wrap .i64 (last + (1 : Int))) + y0.1)), 0, (bits BinOp.and .i64 y1.1 (3 : Int)), 0, 0, ((bits BinOp.and .i64 y1.1 (4 : Int)) != (0 : Int)), ([] : LF), true, y0.2.2.1, y1.2.1, y1.2.2) else E8 y1.1 y2.2.2.2.2.2.2.2 y0.2.1 y0.2.2.1 y1.2.1 y1.2.2 (IntKind.wrap .i64 ((IntKind.wrap .i64 (last + (1 : Int))) + y0.1)) (bits BinOp.and .i64 y1.1 (3 : Int)) ((bits BinOp.and .i64 y1.1 (4 : Int)) != (0 : Int)) y2.1 y2.2.1 y2.2.2.1 y2.2.2.2.1 y2.2.2.2.2.1 y2.2.2.2.2.2.1 y2.2.2.2.2.2.2.1) else E8 y1.1 y2.2.2.2.2.2.2.2 y0.2.1 y0.2.2.1 y1.2.1 y1.2.2 (IntKind.wrap .i64 ((IntKind.wrap .i64 (last + (1 : Int))) + y0.1)) (bits BinOp.and .i64 y1.1 (3 : Int)) ((bits BinOp.and .i64 y1.1 (4 : Int)) != (0 : Int)) y2.1 y2.2.1 y2.2.2.1 y2.2.2.2.1 y2.2.2.2.2.1 y2.2.2.2.2.2.1 y2.2.2.2.2.2.2.1))))) else none))
def gen3_reader_one.f (fuel : Nat) (bs : List Int) (at0 : Int) (bad wrong : Bool) (last : Int) (base : LR) : Option (Int × Int × Int × Int × Int × Bool × LF × Bool × (List Int) × Int × Bool) := gen3_reader_one.b bs at0 bad wrong last base (gen3_reader_one.l8 fuel bs at0 bad wrong last base fuel)
theorem gen3_reader_one.l12_eq (fuel : Nat) (bs : List Int) (at0 : Int) (bad wrong : Bool) (last : Int) (base : LR) : ∀ k : Nat, gen3_reader_one.p12 fuel bs at0 bad wrong last base k = gen3_reader_one.l12 fuel bs at0 bad wrong last base k
 | 0 => by kernel_rfl
 | k + 1 => by
  refine Eq.trans (b := gen3_reader_one.b12 bs at0 bad wrong last base (gen3_reader_one.p12 fuel bs at0 bad wrong last base k)) (by kernel_rfl) ?_
  rw [gen3_reader_one.l12_eq fuel bs at0 bad wrong last base k]
  kernel_rfl
theorem gen3_reader_one.l8_eq (fuel : Nat) (bs : List Int) (at0 : Int) (bad wrong : Bool) (last : Int) (base : LR) : ∀ k : Nat, gen3_reader_one.p8 fuel bs at0 bad wrong last base k = gen3_reader_one.l8 fuel bs at0 bad wrong last base k
 | 0 => by kernel_rfl
 | k + 1 => by
  refine Eq.trans (b := gen3_reader_one.b8 bs at0 bad wrong last base (gen3_reader_one.p8 fuel bs at0 bad wrong last base k) (gen3_reader_one.p12 fuel bs at0 bad wrong last base fuel)) (by kernel_rfl) ?_
  rw [gen3_reader_one.l8_eq fuel bs at0 bad wrong last base k, gen3_reader_one.l12_eq fuel bs at0 bad wrong last base fuel]
  kernel_rfl
theorem gen3_reader_one.eq (fuel : Nat) (bs : List Int) (at0 : Int) (bad wrong : Bool) (last : Int) (base : LR) : (denF gen3_reader_one_E loopN fuel Tryz.f99 [.dat tQr true] [.ptr 0 0, .d tQi last, .d (.sl tQr) base] [.box [.ptr 1 0, .d .bool wrong], .box [.d (.sl (.int .u8)) bs, .d tQi at0, .d .bool bad]] gen3_reader_one.k) = gen3_reader_one.f fuel bs at0 bad wrong last base := by
 refine Eq.trans (b := gen3_reader_one.b bs at0 bad wrong last base (gen3_reader_one.p8 fuel bs at0 bad wrong last base fuel)) (by kernel_rfl) ?_
 rw [gen3_reader_one.l8_eq fuel bs at0 bad wrong last base fuel]
 kernel_rfl
theorem gen3_reader_one.l12_at (fuel nN kK : Nat) (hN : nN = kK + 1) (bs : List Int) (at0 : Int) (bad : Bool) (wrong : Bool) (last : Int) (base : LR) (x19 : Int) (x20 : Bool) (x21 : Bool) (x22 : (List Int)) (x23 : Int) (x24 : Bool) (x25 : Int) (x26 : Int) (x27 : Int) (x28 : Int) (x29 : Bool) (x30 : Int) (x31 : Int) (x32 : Int) (x33 : Int) (x34 : Int) (x35 : Bool) (x36 : LF) : gen3_reader_one.l12 fuel bs at0 bad wrong last base nN x19 x20 x21 x22 x23 x24 x25 x26 x27 x28 x29 x30 x31 x32 x33 x34 x35 x36 = gen3_reader_one.b12 bs at0 bad wrong last base (gen3_reader_one.l12 fuel bs at0 bad wrong last base kK) x19 x20 x21 x22 x23 x24 x25 x26 x27 x28 x29 x30 x31 x32 x33 x34 x35 x36 := by
 subst hN
 rfl
theorem gen3_reader_one.l8_at (fuel nN kK : Nat) (hN : nN = kK + 1) (bs : List Int) (at0 : Int) (bad : Bool) (wrong : Bool) (last : Int) (base : LR) (x3 : Int) (x4 : Bool) (x5 : Bool) (x6 : (List Int)) (x7 : Int) (x8 : Bool) (x9 : Int) (x10 : Int) (x11 : Bool) (x12 : Int) (x13 : Int) (x14 : Int) (x15 : Int) (x16 : Int) (x17 : Bool) (x18 : LF) : gen3_reader_one.l8 fuel bs at0 bad wrong last base nN x3 x4 x5 x6 x7 x8 x9 x10 x11 x12 x13 x14 x15 x16 x17 x18 = gen3_reader_one.b8 bs at0 bad wrong last base (gen3_reader_one.l8 fuel bs at0 bad wrong last base kK) (gen3_reader_one.l12 fuel bs at0 bad wrong last base fuel) x3 x4 x5 x6 x7 x8 x9 x10 x11 x12 x13 x14 x15 x16 x17 x18 := by
 subst hN
 rfl
def s_gen3_reader_one : Den.Sum := ⟨[.pb [.frz none [0] 0 (.int .u8)], .raw, .dat (.sl tQr) false], fun args objs κ => match args, objs with
 | [.ptr 0 0, .d (.int .i64) last, .d (.sl (.pair (.int .i64) (.pair (.int .i64) (.pair (.int .i64) (.pair (.pair (.int .i64) (.int .i64)) (.pair .bool (.sl (.pair (.int .i64) (.sl (.int .u8)))))))))) base], [.box [.ptr 1 0, .d .bool wrong], .box [.d (.sl (.int .u8)) bs, .d (.int .i64) at0, .d .bool bad]] => (match veil (gen3_reader_one.f BIG bs at0 bad wrong last base) with | none => none | some y => κ [.agg [.d (.int .i64) y.1, .d (.int .i64) y.2.1, .d (.int .i64) y.2.2.1, .d (.int .i64) y.2.2.2.1, .d (.int .i64) y.2.2.2.2.1, .d .bool y.2.2.2.2.2.1, .d (.sl (.pair (.int .i64) (.sl (.int .u8)))) y.2.2.2.2.2.2.1]] [.box [.ptr 1 0, .d .bool y.2.2.2.2.2.2.2.1], .box [.d (.sl (.int .u8)) y.2.2.2.2.2.2.2.2.1, .d (.int .i64) y.2.2.2.2.2.2.2.2.2.1, .d .bool y.2.2.2.2.2.2.2.2.2.2]])
 | _, _ => none⟩
theorem s_gen3_reader_one_det : SumDet s_gen3_reader_one := sdet fun _ _ _ _ => by
 unfold s_gen3_reader_one
 simp only [veil_eq]
 split
 ·split <;> rfl
 ·rfl
theorem s_gen3_reader_one_ok : SumOk Tryz.prog 99 s_gen3_reader_one := by
 have hE : EnvOk Tryz.prog gen3_reader_one_E := env_ok (l := [(98, s_gen3_reader_form), (122, s_rec_Find), (75, s_bsame), (52, s_rnumb), (107, s_gen3_reader_span), (123, s_varint_Zag), (124, s_gen3_reader_fields)]) th_ok any_ok ⟨⟨s_gen3_reader_form_ok, s_gen3_reader_form_det⟩, ⟨s_rec_Find_ok, s_rec_Find_det⟩, ⟨s_bsame_ok, s_bsame_det⟩, ⟨s_rnumb_ok, s_rnumb_det⟩, ⟨s_gen3_reader_span_ok, s_gen3_reader_span_det⟩, ⟨s_varint_Zag_ok, s_varint_Zag_det⟩, ⟨s_gen3_reader_fields_ok, s_gen3_reader_fields_det⟩, trivial⟩ _
 refine sum_ok hE Tryz.func99 rfl (by kernel_rfl) s_gen3_reader_one [.dat tQr true] gen3_reader_one.k ?_
 intro R avs objs κ r h
 unfold s_gen3_reader_one at h
 simp only [veil_eq] at h
 split at h
 ·rename_i last base wrong bs at0 bad
  split at h
  ·cases h
  ·rename_i y hy
   refine ⟨BIG, _, _, _, (gen3_reader_one.eq BIG bs at0 bad wrong last base).trans hy, ?_, h⟩
   intro rs ros hk
   unfold gen3_reader_one.k at hk
   split at hk
   ·first | (cases hk; exact ⟨rfl, rfl⟩) | (rw [← Option.some.inj hk]; exact ⟨rfl, rfl⟩)
   ·cases hk
 ·cases h
def gen3_Decode_E : Env := ⟨th, gam [(76, s_valid), (96, s_sorted), (41, s_has), (51, s_read), (74, s_gen3_reader_headR), (98, s_gen3_reader_form), (99, s_gen3_reader_one), (86, s_done)], fun i => if i = 11 then ⟨[0, 1, 4, 6, 7, 8, 9, 10], [(1458, 54, tQr), (1, 53, tQr)], [1]⟩ else ⟨[], [], []⟩⟩
def gen3_Decode.k (rs : List AV) (os : List Den.Obj) : Option (Int × Int × Int × Int × Int × Int × Int × Int × Int × Int × LR × Int) :=
 match rs, os with
 | [.agg [.d (.int .i64) r0, .d (.int .i64) r1, .d (.int .i64) r2, .d (.int .i64) r3, .d (.int .i64) r4, .d (.int .i64) r5, .d (.int .i64) r6, .d (.int .i64) r7, .d (.int .i64) r8, .d (.int .i64) r9, .d (.sl (.pair (.int .i64) (.pair (.int .i64) (.pair (.int .i64) (.pair (.pair (.int .i64) (.int .i64)) (.pair .bool (.sl (.pair (.int .i64) (.sl (.int .u8)))))))))) r10], .d (.int .i64) r11], [] => some (r0, r1, r2, r3, r4, r5, r6, r7, r8, r9, r10, r11)
 | _, _ => none
def gen3_Decode.s11 (b : List Int) (base x2 : LR) (x3 x4 x5 : Int) (x6 : Bool) (x7 : (List Int)) (x8 : Int) (x9 : Bool) (x10 x11 x12 x13 x14 x15 x16 x17 x18 x19 : Int) (x20 : LR) : St := ⟨[.d (.sl (.int .u8)) (b), .d (.sl tQr) x2, .dead, .dead, .ptr 64 0, .dead, .ptr 65 0, .ptr 67 0, .d tQi x3, .d tQi x4, .d tQi x5, dD, dD, dD, dD, dD, dD, dD, dD, dD, dD, dD, dD, dD, dD, dD, dD, dD, dD, dD, dD, dD, dD, dD, dD, dD, dD, dD, dD, dD, dD, dD, dD, dD, dD, dD, dD, dD, dD, dD, dD, dD, dD, dD, dD, dD, dD, dD, dD, dD, dD, dD, dD, dD, dD, dD, dD, dD, dD, dD, dD, dD, dD, dD, dD, dD, dD, .dead], ofL [(64, .box [.d tQi (0), .d tQi (0), .d tQi (0), .d tQi (0), .d tQi (0), .d tQi (0), .d tQi (0), .d tQi (0), .d tQi (0), .d tQi (0), .nilsl]), (65, .box [.ptr 66 0, .d .bool x6]), (66, .box [.d (.sl (.int .u8)) x7, .d tQi x8, .d .bool x9]), (67, .box [.d tQi x10, .d tQi x11, .d tQi x12, .d tQi x13, .d tQi x14, .d tQi x15, .d tQi x16, .d tQi x17, .d tQi x18, .d tQi x19, .row 68]), (68, .row 54 tQr x20 false)], 0⟩
def gen3_Decode.p11 (fuel : Nat) (b : List Int) (base : LR) (k : Nat) := fun x2 x3 x4 x5 x6 x7 x8 x9 x10 x11 x12 x13 x14 x15 x16 x17 x18 x19 x20 => lp gen3_Decode_E fuel Tryz.f65 [.dat (.pair tQi (.pair tQi (.pair tQi (.pair (.pair tQi tQi) (.pair tQi (.pair tQi (.pair tQi (.pair tQi (.pair tQi (.sl tQr)))))))))) true, .raw] 0 gen3_Decode.k 11 [] k (gen3_Decode.s11 b base x2 x3 x4 x5 x6 x7 x8 x9 x10 x11 x12 x13 x14 x15 x16 x17 x18 x19 x20)
def gen3_Decode.b11 (b : List Int) (base : LR) (A11 : LR → Int → Int → Int → Bool → (List Int) → Int → Bool → Int → Int → Int → Int → Int → Int → Int → Int → Int → Int → LR → Option (Int × Int × Int × Int × Int × Int × Int × Int × Int × Int × LR × Int)) (x2 : LR) (x3 : Int) (x4 : Int) (x5 : Int) (x6 : Bool) (x7 : (List Int)) (x8 : Int) (x9 : Bool) (x10 : Int) (x11 : Int) (x12 : Int) (x13 : Int) (x14 : Int) (x15 : Int) (x16 : Int) (x17 : Int) (x18 : Int) (x19 : Int) (x20 : LR) : Option (Int × Int × Int × Int × Int × Int × Int × Int × Int × Int × LR × Int) :=
 (if (decide (x5 < x3)) then (if (!x6) then (match (veil (gen3_reader_one.f BIG x7 x8 x9 x6 x4 x2)) with | none => none | some y21 => (if ((((List.length x20) + (List.length ((y21.1, (y21.2.1, (y21.2.2.1, ((y21.2.2.2.1, y21.2.2.2.2.1), (y21.2.2.2.2.2.1, y21.2.2.2.2.2.2.1))))) :: ([] : LR)))) * (72 : Nat)) ≤ lim) then A11 x2 x3 y21.1 (IntKind.wrap .i64 (x5 + (1 : Int))) y21.2.2.2.2.2.2.2.1 y21.2.2.2.2.2.2.2.2.1 y21.2.2.2.2.2.2.2.2.2.1 y21.2.2.2.2.2.2.2.2.2.2 x10 x11 x12 x13 x14 x15 x16 x17 x18 x19 (x20 ++ ((y21.1, (y21.2.1, (y21.2.2.1, ((y21.2.2.2.1, y21.2.2.2.2.1), (y21.2.2.2.2.2.1, y21.2.2.2.2.2.2.1))))) :: ([] : LR))) else none)) else (if x6 then some (0, 0, 0, 0, 0, 0, 0, 0, 0, 0, ([] : LR), (4 : Int)) else (if (atOk x7 x8) then (if (!((!x9) && ((leftF x7 x8 x9) == (0 : Int)))) then some (0, 0, 0, 0, 0, 0, 0, 0, 0, 0, ([] : LR), (4 : Int)) else (if (decide (((((List.length b)) : Nat) : Int) > (65499 : Int))) then some (0, 0, 0, 0, 0, 0, 0, 0, 0, 0, ([] : LR), (4 : Int)) else (if (smallRecs x20) then (if (!(validF x10 x11 x12 x13 x14 x15 x16 x17 x18 x19 x20)) then some (0, 0, 0, 0, 0, 0, 0, 0, 0, 0, ([] : LR), (4 : Int)) else some (x10, x11, x12, x13, x14, x15, x16, x17, x18, x19, x20, (0 : Int))) else none))) else none))) else (if x6 then some (0, 0, 0, 0, 0, 0, 0, 0, 0, 0, ([] : LR), (4 : Int)) else (if (atOk x7 x8) then (if (!((!x9) && ((leftF x7 x8 x9) == (0 : Int)))) then some (0, 0, 0, 0, 0, 0, 0, 0, 0, 0, ([] : LR), (4 : Int)) else (if (decide (((((List.length b)) : Nat) : Int) > (65499 : Int))) then some (0, 0, 0, 0, 0, 0, 0, 0, 0, 0, ([] : LR), (4 : Int)) else (if (smallRecs x20) then (if (!(validF x10 x11 x12 x13 x14 x15 x16 x17 x18 x19 x20)) then some (0, 0, 0, 0, 0, 0, 0, 0, 0, 0, ([] : LR), (4 : Int)) else some (x10, x11, x12, x13, x14, x15, x16, x17, x18, x19, x20, (0 : Int))) else none))) else none)))
def gen3_Decode.l11 (fuel : Nat) (b : List Int) (base : LR) : Nat → LR → Int → Int → Int → Bool → (List Int) → Int → Bool → Int → Int → Int → Int → Int → Int → Int → Int → Int → Int → LR → Option (Int × Int × Int × Int × Int × Int × Int × Int × Int × Int × LR × Int)
 | 0, _, _, _, _, _, _, _, _, _, _, _, _, _, _, _, _, _, _, _ => none
 | k + 1, x2, x3, x4, x5, x6, x7, x8, x9, x10, x11, x12, x13, x14, x15, x16, x17, x18, x19, x20 => gen3_Decode.b11 b base (gen3_Decode.l11 fuel b base k) x2 x3 x4 x5 x6 x7 x8 x9 x10 x11 x12 x13 x14 x15 x16 x17 x18 x19 x20
def gen3_Decode.b (b : List Int) (base : LR) (E11 : LR → Int → Int → Int → Bool → (List Int) → Int → Bool → Int → Int → Int → Int → Int → Int → Int → Int → Int → Int → LR → Option (Int × Int × Int × Int × Int × Int × Int × Int × Int × Int × LR × Int)) : Option (Int × Int × Int × Int × Int × Int × Int × Int × Int × Int × LR × Int) :=
 (if (smallRecs base) then (if (!(sortedF base)) then some (0, 0, 0, 0, 0, 0, 0, 0, 0, 0, ([] : LR), (1 : Int)) else (if (inB b) then (match (veil (gen3_reader_headR.f BIG b 0 false false)) with | none => none | some y0 => (if (y0.2.2.2.2.2.2.2.2.2.1 == (0 : Int)) then (if (hasF y0.1 (4 : Int)) then (match (veil (gen3_reader_form.f BIG y0.2.2.2.2.2.2.2.2.2.2.2.1 y0.2.2.2.2.2.2.2.2.2.2.2.2.1 y0.2.2.2.2.2.2.2.2.2.2.2.2.2 y0.2.2.2.2.2.2.2.2.2.2.1 (255 : Int))) with | none => none | some y1 => E11 ([] : LR) y1.1 (-(1 : Int)) (0 : Int) y1.2.1 y1.2.2.1 y1.2.2.2.1 y1.2.2.2.2 y0.1 y0.2.1 y0.2.2.1 y0.2.2.2.1 y0.2.2.2.2.1 y0.2.2.2.2.2.1 y0.2.2.2.2.2.2.1 y0.2.2.2.2.2.2.2.1 y0.2.2.2.2.2.2.2.2.1 y0.2.2.2.2.2.2.2.2.2.1 ([] : LR)) else (if y0.2.2.2.2.2.2.2.2.2.2.1 then some (0, 0, 0, 0, 0, 0, 0, 0, 0, 0, ([] : LR), (4 : Int)) else (if (atOk y0.2.2.2.2.2.2.2.2.2.2.2.1 y0.2.2.2.2.2.2.2.2.2.2.2.2.1) then (if (!((!y0.2.2.2.2.2.2.2.2.2.2.2.2.2) && ((leftF y0.2.2.2.2.2.2.2.2.2.2.2.1 y0.2.2.2.2.2.2.2.2.2.2.2.2.1 y0.2.2.2.2.2.2.2.2.2.2.2.2.2) == (0 : Int)))) then some (0, 0, 0, 0, 0, 0, 0, 0, 0, 0, ([] : LR), (4 : Int)) else (if (decide (((((List.length b)) : Nat) : Int) > (65499 : Int))) then some (0, 0, 0, 0, 0, 0, 0, 0, 0, 0, ([] : LR), (4 : Int)) else (if (!(validF y0.1 y0.2.1 y0.2.2.1 y0.2.2.2.1 y0.2.2.2.2.1 y0.2.2.2.2.2.1 y0.2.2.2.2.2.2.1 y0.2.2.2.2.2.2.2.1 y0.2.2.2.2.2.2.2.2.1 y0.2.2.2.2.2.2.2.2.2.1 ([] : LR))) then some (0, 0, 0, 0, 0, 0, 0, 0, 0, 0, ([] : LR), (4 : Int)) else some (y0.1, y0.2.1, y0.2.2.1, y0.2.2.2.1, y0.2.2.2.2.1, y0.2.2.2.2.2.1, y0.2.2.2.2.2.2.1, y0.2.2.2.2.2.2.2.1, y0.2.2.2.2.2.2.2.2.1, y0.2.2.2.2.2.2.2.2.2.1, ([] : LR), (0 : Int))))) else none))) else (if (hasF y0.1 (4 : Int)) then (match (veil (gen3_reader_form.f BIG y0.2.2.2.2.2.2.2.2.2.2.2.1 y0.2.2.2.2.2.2.2.2.2.2.2.2.1 y0.2.2.2.2.2.2.2.2.2.2.2.2.2 y0.2.2.2.2.2.2.2.2.2.2.1 (255 : Int))) with | none => none | some y22 => E11 base y22.1 (-(1 : Int)) (0 : Int) y22.2.1 y22.2.2.1 y22.2.2.2.1 y22.2.2.2.2 y0.1 y0.2.1 y0.2.2.1 y0.2.2.2.1 y0.2.2.2.2.1 y0.2.2.2.2.2.1 y0.2.2.2.2.2.2.1 y0.2.2.2.2.2.2.2.1 y0.2.2.2.2.2.2.2.2.1 y0.2.2.2.2.2.2.2.2.2.1 ([] : LR)) else (if y0.2.2.2.2.2.2.2.2.2.2.1 then some (0, 0, 0, 0, 0, 0, 0, 0, 0, 0, ([] : LR), (4 : Int)) else (if (atOk y0.2.2.2.2.2.2.2.2.2.2.2.1 y0.2.2.2.2.2.2.2.2.2.2.2.2.1) then (if (!((!y0.2.2.2.2.2.2.2.2.2.2.2.2.2) && ((leftF y0.2.2.2.2.2.2.2.2.2.2.2.1 y0.2.2.2.2.2.2.2.2.2.2.2.2.1 y0.2.2.2.2.2.2.2.2.2.2.2.2.2) == (0 : Int)))) then some (0, 0, 0, 0, 0, 0, 0, 0, 0, 0, ([] : LR), (4 : Int)) else (if (decide (((((List.length b)) : Nat) : Int) > (65499 : Int))) then some (0, 0, 0, 0, 0, 0, 0, 0, 0, 0, ([] : LR), (4 : Int)) else (if (!(validF y0.1 y0.2.1 y0.2.2.1 y0.2.2.2.1 y0.2.2.2.2.1 y0.2.2.2.2.2.1 y0.2.2.2.2.2.2.1 y0.2.2.2.2.2.2.2.1 y0.2.2.2.2.2.2.2.2.1 y0.2.2.2.2.2.2.2.2.2.1 ([] : LR))) then some (0, 0, 0, 0, 0, 0, 0, 0, 0, 0, ([] : LR), (4 : Int)) else some (y0.1, y0.2.1, y0.2.2.1, y0.2.2.2.1, y0.2.2.2.2.1, y0.2.2.2.2.2.1, y0.2.2.2.2.2.2.1, y0.2.2.2.2.2.2.2.1, y0.2.2.2.2.2.2.2.2.1, y0.2.2.2.2.2.2.2.2.2.1, ([] : LR), (0 : Int))))) else none))))) else none)) else none)
def gen3_Decode.f (fuel : Nat) (b : List Int) (base : LR) : Option (Int × Int × Int × Int × Int × Int × Int × Int × Int × Int × LR × Int) := gen3_Decode.b b base (gen3_Decode.l11 fuel b base fuel)
theorem gen3_Decode.l11_eq (fuel : Nat) (b : List Int) (base : LR) : ∀ k : Nat, gen3_Decode.p11 fuel b base k = gen3_Decode.l11 fuel b base k
 | 0 => by kernel_rfl
 | k + 1 => by
  refine Eq.trans (b := gen3_Decode.b11 b base (gen3_Decode.p11 fuel b base k)) (by kernel_rfl) ?_
  rw [gen3_Decode.l11_eq fuel b base k]
  kernel_rfl
theorem gen3_Decode.eq (fuel : Nat) (b : List Int) (base : LR) : (denF gen3_Decode_E loopN fuel Tryz.f65 [.dat (.pair tQi (.pair tQi (.pair tQi (.pair (.pair tQi tQi) (.pair tQi (.pair tQi (.pair tQi (.pair tQi (.pair tQi (.sl tQr)))))))))) true, .raw] [.d (.sl (.int .u8)) b, .d (.sl tQr) base] [] gen3_Decode.k) = gen3_Decode.f fuel b base := by
 refine Eq.trans (b := gen3_Decode.b b base (gen3_Decode.p11 fuel b base fuel)) (by kernel_rfl) ?_
 rw [gen3_Decode.l11_eq fuel b base fuel]
 kernel_rfl
def s_gen3_Decode : Den.Sum := ⟨[.dat (.sl (.int .u8)) false, .dat (.sl tQr) false], fun args objs κ => match args, objs with
 | [.d (.sl (.int .u8)) b, .d (.sl (.pair (.int .i64) (.pair (.int .i64) (.pair (.int .i64) (.pair (.pair (.int .i64) (.int .i64)) (.pair .bool (.sl (.pair (.int .i64) (.sl (.int .u8)))))))))) base], [] => (match veil (gen3_Decode.f BIG b base) with | none => none | some y => κ [.agg [.d (.int .i64) y.1, .d (.int .i64) y.2.1, .d (.int .i64) y.2.2.1, .d (.int .i64) y.2.2.2.1, .d (.int .i64) y.2.2.2.2.1, .d (.int .i64) y.2.2.2.2.2.1, .d (.int .i64) y.2.2.2.2.2.2.1, .d (.int .i64) y.2.2.2.2.2.2.2.1, .d (.int .i64) y.2.2.2.2.2.2.2.2.1, .d (.int .i64) y.2.2.2.2.2.2.2.2.2.1, .d (.sl (.pair (.int .i64) (.pair (.int .i64) (.pair (.int .i64) (.pair (.pair (.int .i64) (.int .i64)) (.pair .bool (.sl (.pair (.int .i64) (.sl (.int .u8)))))))))) y.2.2.2.2.2.2.2.2.2.2.1], .d (.int .i64) y.2.2.2.2.2.2.2.2.2.2.2] [])
 | _, _ => none⟩
theorem s_gen3_Decode_det : SumDet s_gen3_Decode := sdet fun _ _ _ _ => by
 unfold s_gen3_Decode
 simp only [veil_eq]
 split
 ·split <;> rfl
 ·rfl
theorem s_gen3_Decode_ok : SumOk Tryz.prog 65 s_gen3_Decode := by
 have hE : EnvOk Tryz.prog gen3_Decode_E := env_ok (l := [(76, s_valid), (96, s_sorted), (41, s_has), (51, s_read), (74, s_gen3_reader_headR), (98, s_gen3_reader_form), (99, s_gen3_reader_one), (86, s_done)]) th_ok any_ok ⟨⟨s_valid_ok, s_valid_det⟩, ⟨s_sorted_ok, s_sorted_det⟩, ⟨s_has_ok, s_has_det⟩, ⟨s_read_ok, s_read_det⟩, ⟨s_gen3_reader_headR_ok, s_gen3_reader_headR_det⟩, ⟨s_gen3_reader_form_ok, s_gen3_reader_form_det⟩, ⟨s_gen3_reader_one_ok, s_gen3_reader_one_det⟩, ⟨s_done_ok, s_done_det⟩, trivial⟩ _
 refine sum_ok hE Tryz.func65 rfl (by kernel_rfl) s_gen3_Decode [.dat (.pair tQi (.pair tQi (.pair tQi (.pair (.pair tQi tQi) (.pair tQi (.pair tQi (.pair tQi (.pair tQi (.pair tQi (.sl tQr)))))))))) true, .raw] gen3_Decode.k ?_
 intro R avs objs κ r h
 unfold s_gen3_Decode at h
 simp only [veil_eq] at h
 split at h
 ·rename_i b base
  split at h
  ·cases h
  ·rename_i y hy
   refine ⟨BIG, _, _, _, (gen3_Decode.eq BIG b base).trans hy, ?_, h⟩
   intro rs ros hk
   unfold gen3_Decode.k at hk
   split at hk
   ·first | (cases hk; exact ⟨rfl, rfl⟩) | (rw [← Option.some.inj hk]; exact ⟨rfl, rfl⟩)
   ·cases hk
 ·cases h
def xlate_of_E : Env := ⟨th, gam [(64, s_gen3_Encode), (65, s_gen3_Decode), (56, s_xlate_of_c1), (58, s_xlate_of_c2), (60, s_xlate_of_c3), (62, s_xlate_of_c4)], fun i => ⟨[], [], []⟩⟩
def s_xlate_of : Den.Sum := inl xlate_of_E BIG Tryz.f35 [.raw] [.raw, .raw]
theorem xlate_of_envOk : EnvOk Tryz.prog xlate_of_E := env_ok (l := [(64, s_gen3_Encode), (65, s_gen3_Decode), (56, s_xlate_of_c1), (58, s_xlate_of_c2), (60, s_xlate_of_c3), (62, s_xlate_of_c4)]) th_ok any_ok ⟨⟨s_gen3_Encode_ok, s_gen3_Encode_det⟩, ⟨s_gen3_Decode_ok, s_gen3_Decode_det⟩, ⟨s_xlate_of_c1_ok, s_xlate_of_c1_det⟩, ⟨s_xlate_of_c2_ok, s_xlate_of_c2_det⟩, ⟨s_xlate_of_c3_ok, s_xlate_of_c3_det⟩, ⟨s_xlate_of_c4_ok, s_xlate_of_c4_det⟩, trivial⟩ _
theorem s_xlate_of_det : SumDet s_xlate_of := inl_det xlate_of_envOk.D _ _ _ _
theorem s_xlate_of_ok : SumOk Tryz.prog 35 s_xlate_of := inl_ok xlate_of_envOk Tryz.func35 rfl (by kernel_rfl) _ _ _
def xlate_Encode_E : Env := ⟨th, gam [(64, s_gen3_Encode), (65, s_gen3_Decode), (35, s_xlate_of), (56, s_xlate_of_c1), (58, s_xlate_of_c2), (60, s_xlate_of_c3), (62, s_xlate_of_c4)], fun i => ⟨[], [], []⟩⟩
def xlate_Encode.k (rs : List AV) (os : List Den.Obj) : Option ((List Int) × Int) :=
 match rs, os with
 | [.d (.sl (.int .u8)) r0, .d (.int .i64) r1], [] => some (r0, r1)
 | _, _ => none
def xlate_Encode.b (gen mKind mFrom mInc mSpanLo mSpanHi mSeq mTarget mLife mEpoch mBase : Int) (mRecs base : LR) : Option ((List Int) × Int) :=
 (if (gen == (1 : Int)) then (match (veil (xlate_of_c1.f BIG mKind mFrom mInc mSpanLo mSpanHi mSeq mTarget mLife mEpoch mBase mRecs base)) with | none => none | some y0 => some (y0.1, y0.2)) else (if (gen == (2 : Int)) then (match (veil (xlate_of_c3.f BIG mKind mFrom mInc mSpanLo mSpanHi mSeq mTarget mLife mEpoch mBase mRecs base)) with | none => none | some y1 => some (y1.1, y1.2)) else (if (gen == (3 : Int)) then (match (veil (gen3_Encode.f BIG mKind mFrom mInc mSpanLo mSpanHi mSeq mTarget mLife mEpoch mBase mRecs base)) with | none => none | some y2 => some (y2.1, y2.2)) else some (([] : List Int), (5 : Int)))))
def xlate_Encode.f (fuel : Nat) (gen mKind mFrom mInc mSpanLo mSpanHi mSeq mTarget mLife mEpoch mBase : Int) (mRecs base : LR) : Option ((List Int) × Int) := xlate_Encode.b gen mKind mFrom mInc mSpanLo mSpanHi mSeq mTarget mLife mEpoch mBase mRecs base
theorem xlate_Encode.eq (fuel : Nat) (gen mKind mFrom mInc mSpanLo mSpanHi mSeq mTarget mLife mEpoch mBase : Int) (mRecs base : LR) : (denF xlate_Encode_E loopN fuel Tryz.f29 [.dat (.sl (.int .u8)) false, .raw] [.d tQi gen, .agg [.d tQi mKind, .d tQi mFrom, .d tQi mInc, .d tQi mSpanLo, .d tQi mSpanHi, .d tQi mSeq, .d tQi mTarget, .d tQi mLife, .d tQi mEpoch, .d tQi mBase, .d (.sl tQr) mRecs], .d (.sl tQr) base] [] xlate_Encode.k) = xlate_Encode.f fuel gen mKind mFrom mInc mSpanLo mSpanHi mSeq mTarget mLife mEpoch mBase mRecs base := by
 kernel_rfl
def s_xlate_Encode : Den.Sum := ⟨[.raw, .dat (.pair tQi (.pair tQi (.pair tQi (.pair (.pair tQi tQi) (.pair tQi (.pair tQi (.pair tQi (.pair tQi (.pair tQi (.sl tQr)))))))))) true, .dat (.sl tQr) false], fun args objs κ => match args, objs with
 | [.d (.int .i64) gen, .agg [.d (.int .i64) mKind, .d (.int .i64) mFrom, .d (.int .i64) mInc, .d (.int .i64) mSpanLo, .d (.int .i64) mSpanHi, .d (.int .i64) mSeq, .d (.int .i64) mTarget, .d (.int .i64) mLife, .d (.int .i64) mEpoch, .d (.int .i64) mBase, .d (.sl (.pair (.int .i64) (.pair (.int .i64) (.pair (.int .i64) (.pair (.pair (.int .i64) (.int .i64)) (.pair .bool (.sl (.pair (.int .i64) (.sl (.int .u8)))))))))) mRecs], .d (.sl (.pair (.int .i64) (.pair (.int .i64) (.pair (.int .i64) (.pair (.pair (.int .i64) (.int .i64)) (.pair .bool (.sl (.pair (.int .i64) (.sl (.int .u8)))))))))) base], [] => (match veil (xlate_Encode.f BIG gen mKind mFrom mInc mSpanLo mSpanHi mSeq mTarget mLife mEpoch mBase mRecs base) with | none => none | some y => κ [.d (.sl (.int .u8)) y.1, .d (.int .i64) y.2] [])
 | _, _ => none⟩
theorem s_xlate_Encode_det : SumDet s_xlate_Encode := sdet fun _ _ _ _ => by
 unfold s_xlate_Encode
 simp only [veil_eq]
 split
 ·split <;> rfl
 ·rfl
theorem s_xlate_Encode_ok : SumOk Tryz.prog 29 s_xlate_Encode := by
 have hE : EnvOk Tryz.prog xlate_Encode_E := env_ok (l := [(64, s_gen3_Encode), (65, s_gen3_Decode), (35, s_xlate_of), (56, s_xlate_of_c1), (58, s_xlate_of_c2), (60, s_xlate_of_c3), (62, s_xlate_of_c4)]) th_ok any_ok ⟨⟨s_gen3_Encode_ok, s_gen3_Encode_det⟩, ⟨s_gen3_Decode_ok, s_gen3_Decode_det⟩, ⟨s_xlate_of_ok, s_xlate_of_det⟩, ⟨s_xlate_of_c1_ok, s_xlate_of_c1_det⟩, ⟨s_xlate_of_c2_ok, s_xlate_of_c2_det⟩, ⟨s_xlate_of_c3_ok, s_xlate_of_c3_det⟩, ⟨s_xlate_of_c4_ok, s_xlate_of_c4_det⟩, trivial⟩ _
 refine sum_ok hE Tryz.func29 rfl (by kernel_rfl) s_xlate_Encode [.dat (.sl (.int .u8)) false, .raw] xlate_Encode.k ?_
 intro R avs objs κ r h
 unfold s_xlate_Encode at h
 simp only [veil_eq] at h
 split at h
 ·rename_i gen mKind mFrom mInc mSpanLo mSpanHi mSeq mTarget mLife mEpoch mBase mRecs base
  split at h
  ·cases h
  ·rename_i y hy
   refine ⟨BIG, _, _, _, (xlate_Encode.eq BIG gen mKind mFrom mInc mSpanLo mSpanHi mSeq mTarget mLife mEpoch mBase mRecs base).trans hy, ?_, h⟩
   intro rs ros hk
   unfold xlate_Encode.k at hk
   split at hk
   ·first | (cases hk; exact ⟨rfl, rfl⟩) | (rw [← Option.some.inj hk]; exact ⟨rfl, rfl⟩)
   ·cases hk
 ·cases h
def xlate_Decode_E : Env := ⟨th, gam [(64, s_gen3_Encode), (65, s_gen3_Decode), (35, s_xlate_of), (56, s_xlate_of_c1), (58, s_xlate_of_c2), (60, s_xlate_of_c3), (62, s_xlate_of_c4)], fun i => ⟨[], [], []⟩⟩
def xlate_Decode.k (rs : List AV) (os : List Den.Obj) : Option (Int × Int × Int × Int × Int × Int × Int × Int × Int × Int × LR × Int) :=
 match rs, os with
 | [.agg [.d (.int .i64) r0, .d (.int .i64) r1, .d (.int .i64) r2, .d (.int .i64) r3, .d (.int .i64) r4, .d (.int .i64) r5, .d (.int .i64) r6, .d (.int .i64) r7, .d (.int .i64) r8, .d (.int .i64) r9, .d (.sl (.pair (.int .i64) (.pair (.int .i64) (.pair (.int .i64) (.pair (.pair (.int .i64) (.int .i64)) (.pair .bool (.sl (.pair (.int .i64) (.sl (.int .u8)))))))))) r10], .d (.int .i64) r11], [] => some (r0, r1, r2, r3, r4, r5, r6, r7, r8, r9, r10, r11)
 | _, _ => none
def xlate_Decode.b (gen : Int) (b : List Int) (base : LR) : Option (Int × Int × Int × Int × Int × Int × Int × Int × Int × Int × LR × Int) :=
 (if (gen == (1 : Int)) then (match (veil (xlate_of_c2.f BIG b base)) with | none => none | some y0 => some (y0.1, y0.2.1, y0.2.2.1, y0.2.2.2.1, y0.2.2.2.2.1, y0.2.2.2.2.2.1, y0.2.2.2.2.2.2.1, y0.2.2.2.2.2.2.2.1, y0.2.2.2.2.2.2.2.2.1, y0.2.2.2.2.2.2.2.2.2.1, y0.2.2.2.2.2.2.2.2.2.2.1, y0.2.2.2.2.2.2.2.2.2.2.2)) else (if (gen == (2 : Int)) then (match (veil (xlate_of_c4.f BIG b base)) with | none => none | some y1 => some (y1.1, y1.2.1, y1.2.2.1, y1.2.2.2.1, y1.2.2.2.2.1, y1.2.2.2.2.2.1, y1.2.2.2.2.2.2.1, y1.2.2.2.2.2.2.2.1, y1.2.2.2.2.2.2.2.2.1, y1.2.2.2.2.2.2.2.2.2.1, y1.2.2.2.2.2.2.2.2.2.2.1, y1.2.2.2.2.2.2.2.2.2.2.2)) else (if (gen == (3 : Int)) then (match (veil (gen3_Decode.f BIG b base)) with | none => none | some y2 => some (y2.1, y2.2.1, y2.2.2.1, y2.2.2.2.1, y2.2.2.2.2.1, y2.2.2.2.2.2.1, y2.2.2.2.2.2.2.1, y2.2.2.2.2.2.2.2.1, y2.2.2.2.2.2.2.2.2.1, y2.2.2.2.2.2.2.2.2.2.1, y2.2.2.2.2.2.2.2.2.2.2.1, y2.2.2.2.2.2.2.2.2.2.2.2)) else some (0, 0, 0, 0, 0, 0, 0, 0, 0, 0, ([] : LR), (5 : Int)))))
def xlate_Decode.f (fuel : Nat) (gen : Int) (b : List Int) (base : LR) : Option (Int × Int × Int × Int × Int × Int × Int × Int × Int × Int × LR × Int) := xlate_Decode.b gen b base
theorem xlate_Decode.eq (fuel : Nat) (gen : Int) (b : List Int) (base : LR) : (denF xlate_Decode_E loopN fuel Tryz.f19 [.dat (.pair tQi (.pair tQi (.pair tQi (.pair (.pair tQi tQi) (.pair tQi (.pair tQi (.pair tQi (.pair tQi (.pair tQi (.sl tQr)))))))))) true, .raw] [.d tQi gen, .d (.sl (.int .u8)) b, .d (.sl tQr) base] [] xlate_Decode.k) = xlate_Decode.f fuel gen b base := by
 kernel_rfl
def s_xlate_Decode : Den.Sum := ⟨[.raw, .dat (.sl (.int .u8)) false, .dat (.sl tQr) false], fun args objs κ => match args, objs with
 | [.d (.int .i64) gen, .d (.sl (.int .u8)) b, .d (.sl (.pair (.int .i64) (.pair (.int .i64) (.pair (.int .i64) (.pair (.pair (.int .i64) (.int .i64)) (.pair .bool (.sl (.pair (.int .i64) (.sl (.int .u8)))))))))) base], [] => (match veil (xlate_Decode.f BIG gen b base) with | none => none | some y => κ [.agg [.d (.int .i64) y.1, .d (.int .i64) y.2.1, .d (.int .i64) y.2.2.1, .d (.int .i64) y.2.2.2.1, .d (.int .i64) y.2.2.2.2.1, .d (.int .i64) y.2.2.2.2.2.1, .d (.int .i64) y.2.2.2.2.2.2.1, .d (.int .i64) y.2.2.2.2.2.2.2.1, .d (.int .i64) y.2.2.2.2.2.2.2.2.1, .d (.int .i64) y.2.2.2.2.2.2.2.2.2.1, .d (.sl (.pair (.int .i64) (.pair (.int .i64) (.pair (.int .i64) (.pair (.pair (.int .i64) (.int .i64)) (.pair .bool (.sl (.pair (.int .i64) (.sl (.int .u8)))))))))) y.2.2.2.2.2.2.2.2.2.2.1], .d (.int .i64) y.2.2.2.2.2.2.2.2.2.2.2] [])
 | _, _ => none⟩
theorem s_xlate_Decode_det : SumDet s_xlate_Decode := sdet fun _ _ _ _ => by
 unfold s_xlate_Decode
 simp only [veil_eq]
 split
 ·split <;> rfl
 ·rfl
theorem s_xlate_Decode_ok : SumOk Tryz.prog 19 s_xlate_Decode := by
 have hE : EnvOk Tryz.prog xlate_Decode_E := env_ok (l := [(64, s_gen3_Encode), (65, s_gen3_Decode), (35, s_xlate_of), (56, s_xlate_of_c1), (58, s_xlate_of_c2), (60, s_xlate_of_c3), (62, s_xlate_of_c4)]) th_ok any_ok ⟨⟨s_gen3_Encode_ok, s_gen3_Encode_det⟩, ⟨s_gen3_Decode_ok, s_gen3_Decode_det⟩, ⟨s_xlate_of_ok, s_xlate_of_det⟩, ⟨s_xlate_of_c1_ok, s_xlate_of_c1_det⟩, ⟨s_xlate_of_c2_ok, s_xlate_of_c2_det⟩, ⟨s_xlate_of_c3_ok, s_xlate_of_c3_det⟩, ⟨s_xlate_of_c4_ok, s_xlate_of_c4_det⟩, trivial⟩ _
 refine sum_ok hE Tryz.func19 rfl (by kernel_rfl) s_xlate_Decode [.dat (.pair tQi (.pair tQi (.pair tQi (.pair (.pair tQi tQi) (.pair tQi (.pair tQi (.pair tQi (.pair tQi (.pair tQi (.sl tQr)))))))))) true, .raw] xlate_Decode.k ?_
 intro R avs objs κ r h
 unfold s_xlate_Decode at h
 simp only [veil_eq] at h
 split at h
 ·rename_i gen b base
  split at h
  ·cases h
  ·rename_i y hy
   refine ⟨BIG, _, _, _, (xlate_Decode.eq BIG gen b base).trans hy, ?_, h⟩
   intro rs ros hk
   unfold xlate_Decode.k at hk
   split at hk
   ·first | (cases hk; exact ⟨rfl, rfl⟩) | (rw [← Option.some.inj hk]; exact ⟨rfl, rfl⟩)
   ·cases hk
 ·cases h
def span_Has_E : Env := ⟨th, gam [(33, s_sv)], fun i => ⟨[], [], []⟩⟩
def span_Has.k (rs : List AV) (os : List Den.Obj) : Option Bool :=
 match rs, os with
 | [.d .bool r0], [] => some r0
 | _, _ => none
def span_Has.b (sLo sHi gen : Int) : Option Bool :=
 (if (okS sLo sHi) then (if (decide (sLo ≤ gen)) then some ((decide (gen ≤ sHi))) else some (false)) else some (false))
def span_Has.f (fuel : Nat) (sLo sHi gen : Int) : Option Bool := span_Has.b sLo sHi gen
theorem span_Has.eq (fuel : Nat) (sLo sHi gen : Int) : (denF span_Has_E loopN fuel Tryz.f12 [.raw] [.agg [.d tQi sLo, .d tQi sHi], .d tQi gen] [] span_Has.k) = span_Has.f fuel sLo sHi gen := by
 kernel_rfl
def s_span_Has : Den.Sum := ⟨[.dat (.pair tQi tQi) true, .raw], fun args objs κ => match args, objs with
 | [.agg [.d (.int .i64) sLo, .d (.int .i64) sHi], .d (.int .i64) gen], [] => (match veil (span_Has.f BIG sLo sHi gen) with | none => none | some y => κ [.d .bool y] [])
 | _, _ => none⟩
theorem s_span_Has_det : SumDet s_span_Has := sdet fun _ _ _ _ => by
 unfold s_span_Has
 simp only [veil_eq]
 split
 ·split <;> rfl
 ·rfl
end
end Go.Proofs.YtneiiplppcjjlaaGreatDoor
