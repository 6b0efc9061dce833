/- ParcelBack: whatever generation, message, base, span, place and byte are given, the law returns true, and the input reads as it did; the table crc.halves is tied to the text of the program. -/
import Derived.Test.YtneiiplppcjjlaaGreatDoorZParcelBack3
set_option linter.unusedVariables false
set_option linter.unusedSimpArgs false
set_option maxRecDepth 100000
namespace Go.Proofs.YtneiiplppcjjlaaGreatDoor
open Go.Den
noncomputable section
theorem s_span_Has_ok : SumOk Tryz.prog 12 s_span_Has := by
 have hE : EnvOk Tryz.prog span_Has_E := env_ok (l := [(33, s_sv)]) th_ok any_ok ⟨⟨s_sv_ok, s_sv_det⟩, trivial⟩ _
 refine sum_ok hE Tryz.func12 rfl (by kernel_rfl) s_span_Has [.raw] span_Has.k ?_
 intro R avs objs κ r h
 unfold s_span_Has at h
 simp only [veil_eq] at h
 split at h
 ·rename_i sLo sHi gen
  split at h
  ·cases h
  ·rename_i y hy
   refine ⟨BIG, _, _, _, (span_Has.eq BIG sLo sHi gen).trans hy, ?_, h⟩
   intro rs ros hk
   unfold span_Has.k at hk
   split at hk
   ·first | (cases hk; exact ⟨rfl, rfl⟩) | (rw [← Option.some.inj hk]; exact ⟨rfl, rfl⟩)
   ·cases hk
 ·cases h
def msg_Greets_E : Env := ⟨th, gam [], fun i => ⟨[], [], []⟩⟩
def msg_Greets.k (rs : List AV) (os : List Den.Obj) : Option Bool :=
 match rs, os with
 | [.d .bool r0], [] => some r0
 | _, _ => none
def msg_Greets.b (kind : Int) : Option Bool :=
 (if (decide (kind ≥ (1 : Int))) then some ((decide (kind ≤ (3 : Int)))) else some (false))
def msg_Greets.f (fuel : Nat) (kind : Int) : Option Bool := msg_Greets.b kind
theorem msg_Greets.eq (fuel : Nat) (kind : Int) : (denF msg_Greets_E loopN fuel Tryz.f13 [.raw] [.d tQi kind] [] msg_Greets.k) = msg_Greets.f fuel kind := by
 kernel_rfl
def s_msg_Greets : Den.Sum := ⟨[.raw], fun args objs κ => match args, objs with
 | [.d (.int .i64) kind], [] => (match veil (msg_Greets.f BIG kind) with | none => none | some y => κ [.d .bool y] [])
 | _, _ => none⟩
theorem s_msg_Greets_det : SumDet s_msg_Greets := sdet fun _ _ _ _ => by
 unfold s_msg_Greets
 simp only [veil_eq]
 split
 ·split <;> rfl
 ·rfl
theorem s_msg_Greets_ok : SumOk Tryz.prog 13 s_msg_Greets := by
 have hE : EnvOk Tryz.prog msg_Greets_E := env_ok (l := []) th_ok any_ok trivial _
 refine sum_ok hE Tryz.func13 rfl (by kernel_rfl) s_msg_Greets [.raw] msg_Greets.k ?_
 intro R avs objs κ r h
 unfold s_msg_Greets at h
 simp only [veil_eq] at h
 split at h
 ·rename_i kind
  split at h
  ·cases h
  ·rename_i y hy
   refine ⟨BIG, _, _, _, (msg_Greets.eq BIG kind).trans hy, ?_, h⟩
   intro rs ros hk
   unfold msg_Greets.k at hk
   split at hk
   ·first | (cases hk; exact ⟨rfl, rfl⟩) | (rw [← Option.some.inj hk]; exact ⟨rfl, rfl⟩)
   ·cases hk
 ·cases h
def parcel_Parcel_Read_E : Env := ⟨th, gam [(19, s_xlate_Decode)], fun i => ⟨[], [], []⟩⟩
def parcel_Parcel_Read.k (rs : List AV) (os : List Den.Obj) : Option (Int × Int × Int × Int × Int × Int × Int × Int × Int × Int × LR × Int) :=
 match rs, os with
 | [.agg [.d (.int .i64) r0, .d (.int .i64) r1, .d (.int .i64) r2, .d (.int .i64) r3, .d (.int .i64) r4, .d (.int .i64) r5, .d (.int .i64) r6, .d (.int .i64) r7, .d (.int .i64) r8, .d (.int .i64) r9, .d (.sl (.pair (.int .i64) (.pair (.int .i64) (.pair (.int .i64) (.pair (.pair (.int .i64) (.int .i64)) (.pair .bool (.sl (.pair (.int .i64) (.sl (.int .u8)))))))))) r10], .d (.int .i64) r11], [] => some (r0, r1, r2, r3, r4, r5, r6, r7, r8, r9, r10, r11)
 | _, _ => none
def parcel_Parcel_Read.b (pMsgKind pMsgFrom pMsgInc pMsgSpanLo pMsgSpanHi pMsgSeq pMsgTarget pMsgLife pMsgEpoch pMsgBase : Int) (pMsgRecs : LR) (pGen : Int) (pBody : List Int) (base : LR) : Option (Int × Int × Int × Int × Int × Int × Int × Int × Int × Int × LR × Int) :=
 (match (veil (xlate_Decode.f BIG pGen pBody base)) with | none => none | some y0 => some (y0.1, y0.2.1, y0.2.2.1, y0.2.2.2.1, y0.2.2.2.2.1, y0.2.2.2.2.2.1, y0.2.2.2.2.2.2.1, y0.2.2.2.2.2.2.2.1, y0.2.2.2.2.2.2.2.2.1, y0.2.2.2.2.2.2.2.2.2.1, y0.2.2.2.2.2.2.2.2.2.2.1, y0.2.2.2.2.2.2.2.2.2.2.2))
def parcel_Parcel_Read.f (fuel : Nat) (pMsgKind pMsgFrom pMsgInc pMsgSpanLo pMsgSpanHi pMsgSeq pMsgTarget pMsgLife pMsgEpoch pMsgBase : Int) (pMsgRecs : LR) (pGen : Int) (pBody : List Int) (base : LR) : Option (Int × Int × Int × Int × Int × Int × Int × Int × Int × Int × LR × Int) := parcel_Parcel_Read.b pMsgKind pMsgFrom pMsgInc pMsgSpanLo pMsgSpanHi pMsgSeq pMsgTarget pMsgLife pMsgEpoch pMsgBase pMsgRecs pGen pBody base
theorem parcel_Parcel_Read.eq (fuel : Nat) (pMsgKind pMsgFrom pMsgInc pMsgSpanLo pMsgSpanHi pMsgSeq pMsgTarget pMsgLife pMsgEpoch pMsgBase : Int) (pMsgRecs : LR) (pGen : Int) (pBody : List Int) (base : LR) : (denF parcel_Parcel_Read_E loopN fuel Tryz.f14 [.dat (.pair tQi (.pair tQi (.pair tQi (.pair (.pair tQi tQi) (.pair tQi (.pair tQi (.pair tQi (.pair tQi (.pair tQi (.sl tQr)))))))))) true, .raw] [.agg [.d tQi pMsgKind, .d tQi pMsgFrom, .d tQi pMsgInc, .d tQi pMsgSpanLo, .d tQi pMsgSpanHi, .d tQi pMsgSeq, .d tQi pMsgTarget, .d tQi pMsgLife, .d tQi pMsgEpoch, .d tQi pMsgBase, .d (.sl tQr) pMsgRecs, .d tQi pGen, .d (.sl (.int .u8)) pBody], .d (.sl tQr) base] [] parcel_Parcel_Read.k) = parcel_Parcel_Read.f fuel pMsgKind pMsgFrom pMsgInc pMsgSpanLo pMsgSpanHi pMsgSeq pMsgTarget pMsgLife pMsgEpoch pMsgBase pMsgRecs pGen pBody base := by
 kernel_rfl
def s_parcel_Parcel_Read : Den.Sum := ⟨[.dat (.pair (.pair tQi (.pair tQi (.pair tQi (.pair (.pair tQi tQi) (.pair tQi (.pair tQi (.pair tQi (.pair tQi (.pair tQi (.sl tQr)))))))))) (.pair tQi (.sl (.int .u8)))) true, .dat (.sl tQr) false], fun args objs κ => match args, objs with
 | [.agg [.d (.int .i64) pMsgKind, .d (.int .i64) pMsgFrom, .d (.int .i64) pMsgInc, .d (.int .i64) pMsgSpanLo, .d (.int .i64) pMsgSpanHi, .d (.int .i64) pMsgSeq, .d (.int .i64) pMsgTarget, .d (.int .i64) pMsgLife, .d (.int .i64) pMsgEpoch, .d (.int .i64) pMsgBase, .d (.sl (.pair (.int .i64) (.pair (.int .i64) (.pair (.int .i64) (.pair (.pair (.int .i64) (.int .i64)) (.pair .bool (.sl (.pair (.int .i64) (.sl (.int .u8)))))))))) pMsgRecs, .d (.int .i64) pGen, .d (.sl (.int .u8)) pBody], .d (.sl (.pair (.int .i64) (.pair (.int .i64) (.pair (.int .i64) (.pair (.pair (.int .i64) (.int .i64)) (.pair .bool (.sl (.pair (.int .i64) (.sl (.int .u8)))))))))) base], [] => (match veil (parcel_Parcel_Read.f BIG pMsgKind pMsgFrom pMsgInc pMsgSpanLo pMsgSpanHi pMsgSeq pMsgTarget pMsgLife pMsgEpoch pMsgBase pMsgRecs pGen pBody base) with | none => none | some y => κ [.agg [.d (.int .i64) y.1, .d (.int .i64) y.2.1, .d (.int .i64) y.2.2.1, .d (.int .i64) y.2.2.2.1, .d (.int .i64) y.2.2.2.2.1, .d (.int .i64) y.2.2.2.2.2.1, .d (.int .i64) y.2.2.2.2.2.2.1, .d (.int .i64) y.2.2.2.2.2.2.2.1, .d (.int .i64) y.2.2.2.2.2.2.2.2.1, .d (.int .i64) y.2.2.2.2.2.2.2.2.2.1, .d (.sl (.pair (.int .i64) (.pair (.int .i64) (.pair (.int .i64) (.pair (.pair (.int .i64) (.int .i64)) (.pair .bool (.sl (.pair (.int .i64) (.sl (.int .u8)))))))))) y.2.2.2.2.2.2.2.2.2.2.1], .d (.int .i64) y.2.2.2.2.2.2.2.2.2.2.2] [])
 | _, _ => none⟩
theorem s_parcel_Parcel_Read_det : SumDet s_parcel_Parcel_Read := sdet fun _ _ _ _ => by
 unfold s_parcel_Parcel_Read
 simp only [veil_eq]
 split
 ·split <;> rfl
 ·rfl
theorem s_parcel_Parcel_Read_ok : SumOk Tryz.prog 14 s_parcel_Parcel_Read := by
 have hE : EnvOk Tryz.prog parcel_Parcel_Read_E := env_ok (l := [(19, s_xlate_Decode)]) th_ok any_ok ⟨⟨s_xlate_Decode_ok, s_xlate_Decode_det⟩, trivial⟩ _
 refine sum_ok hE Tryz.func14 rfl (by kernel_rfl) s_parcel_Parcel_Read [.dat (.pair tQi (.pair tQi (.pair tQi (.pair (.pair tQi tQi) (.pair tQi (.pair tQi (.pair tQi (.pair tQi (.pair tQi (.sl tQr)))))))))) true, .raw] parcel_Parcel_Read.k ?_
 intro R avs objs κ r h
 unfold s_parcel_Parcel_Read at h
 simp only [veil_eq] at h
 split at h
 ·rename_i pMsgKind pMsgFrom pMsgInc pMsgSpanLo pMsgSpanHi pMsgSeq pMsgTarget pMsgLife pMsgEpoch pMsgBase pMsgRecs pGen pBody base
  split at h
  ·cases h
  ·rename_i y hy
   refine ⟨BIG, _, _, _, (parcel_Parcel_Read.eq BIG pMsgKind pMsgFrom pMsgInc pMsgSpanLo pMsgSpanHi pMsgSeq pMsgTarget pMsgLife pMsgEpoch pMsgBase pMsgRecs pGen pBody base).trans hy, ?_, h⟩
   intro rs ros hk
   unfold parcel_Parcel_Read.k at hk
   split at hk
   ·first | (cases hk; exact ⟨rfl, rfl⟩) | (rw [← Option.some.inj hk]; exact ⟨rfl, rfl⟩)
   ·cases hk
 ·cases h
def crc_take_E : Env := ⟨th, gam [], fun i => if i = 2 then ⟨[0, 7, 8, 9], [], []⟩ else ⟨[], [], []⟩⟩
def crc_take.k (rs : List AV) (os : List Den.Obj) : Option Int :=
 match rs, os with
 | [.d (.int .u32) r0], [] => some r0
 | _, _ => none
def crc_take.s2 (reg : Int) (b : List Int) (x0 x1 x2 : Int) : St := ⟨[.d (.int .u32) x0, dD, dD, dD, dD, dD, dD, .d (.sl (.int .u8)) (b), .d tQi x1, .d tQi x2, dD, dD, dD, dD, dD, dD, dD, dD, dD, dD, dD, dD, dD, dD, dD, dD, dD, dD, dD, dD, dD, dD, dD, dD, dD, dD, .dead], ofL [], 0⟩
def crc_take.p2 (fuel : Nat) (reg : Int) (b : List Int) (k : Nat) := fun x0 x1 x2 => lp crc_take_E fuel Tryz.f72 [.raw] 0 crc_take.k 2 [] k (crc_take.s2 reg b x0 x1 x2)
def crc_take.b2 (reg : Int) (b : List Int) (A2 : Int → Int → Int → Option Int) (x0 x1 x2 : Int) : Option Int :=
 (if (decide (x2 < x1)) then (match (idx b x2) with | none => none | some y3 => (match (idx halves (bits BinOp.xor .u32 (Int.fdiv x0 ((2 : Int) ^ (Min.min (Int.toNat (28 : Int)) (IntKind.bits .u32)))) (IntKind.wrap .u32 (Int.fdiv y3 ((2 : Int) ^ (Min.min (Int.toNat (4 : Int)) (IntKind.bits .u8))))))) with | none => none | some y4 => (match (idx halves (bits BinOp.xor .u32 (Int.fdiv (bits BinOp.xor .u32 (IntKind.wrap .u32 (x0 * ((2 : Int) ^ (Min.min (Int.toNat (4 : Int)) (IntKind.bits .u32))))) y4) ((2 : Int) ^ (Min.min (Int.toNat (28 : Int)) (IntKind.bits .u32)))) (IntKind.wrap .u32 (bits BinOp.and .u8 y3 (15 : Int))))) with | none => none | some y5 => A2 (bits BinOp.xor .u32 (IntKind.wrap .u32 ((bits BinOp.xor .u32 (IntKind.wrap .u32 (x0 * ((2 : Int) ^ (Min.min (Int.toNat (4 : Int)) (IntKind.bits .u32))))) y4) * ((2 : Int) ^ (Min.min (Int.toNat (4 : Int)) (IntKind.bits .u32))))) y5) x1 (IntKind.wrap .i64 (x2 + (1 : Int)))))) else some (x0))
def crc_take.l2 (fuel : Nat) (reg : Int) (b : List Int) : Nat → Int → Int → Int → Option Int
 | 0, _, _, _ => none
 | k + 1, x0, x1, x2 => crc_take.b2 reg b (crc_take.l2 fuel reg b k) x0 x1 x2
def crc_take.b (reg : Int) (b : List Int) (E2 : Int → Int → Int → Option Int) : Option Int :=
 E2 reg ((((List.length b)) : Nat) : Int) (0 : Int)
def crc_take.f (fuel : Nat) (reg : Int) (b : List Int) : Option Int := crc_take.b reg b (crc_take.l2 fuel reg b fuel)
theorem crc_take.l2_eq (fuel : Nat) (reg : Int) (b : List Int) : ∀ k : Nat, crc_take.p2 fuel reg b k = crc_take.l2 fuel reg b k
 | 0 => by kernel_rfl
 | k + 1 => by
  refine Eq.trans (b := crc_take.b2 reg b (crc_take.p2 fuel reg b k)) (by kernel_rfl) ?_
  rw [crc_take.l2_eq fuel reg b k]
  kernel_rfl
theorem crc_take.eq (fuel : Nat) (reg : Int) (b : List Int) : (denF crc_take_E loopN fuel Tryz.f72 [.raw] [.d (.int .u32) reg, .d (.sl (.int .u8)) b] [] crc_take.k) = crc_take.f fuel reg b := by
 refine Eq.trans (b := crc_take.b reg b (crc_take.p2 fuel reg b fuel)) (by kernel_rfl) ?_
 rw [crc_take.l2_eq fuel reg b fuel]
 kernel_rfl
theorem crc_take.l2_at (fuel nN kK : Nat) (hN : nN = kK + 1) (reg : Int) (b : List Int) (x0 : Int) (x1 : Int) (x2 : Int) : crc_take.l2 fuel reg b nN x0 x1 x2 = crc_take.b2 reg b (crc_take.l2 fuel reg b kK) x0 x1 x2 := by
 subst hN
 rfl
def s_crc_take : Den.Sum := ⟨[.raw, .dat (.sl (.int .u8)) false], fun args objs κ => match args, objs with
 | [.d (.int .u32) reg, .d (.sl (.int .u8)) b], [] => (match veil (crc_take.f BIG reg b) with | none => none | some y => κ [.d (.int .u32) y] [])
 | _, _ => none⟩
theorem s_crc_take_det : SumDet s_crc_take := sdet fun _ _ _ _ => by
 unfold s_crc_take
 simp only [veil_eq]
 split
 ·split <;> rfl
 ·rfl
theorem s_crc_take_ok : SumOk Tryz.prog 72 s_crc_take := by
 have hE : EnvOk Tryz.prog crc_take_E := env_ok (l := []) th_ok any_ok trivial _
 refine sum_ok hE Tryz.func72 rfl (by kernel_rfl) s_crc_take [.raw] crc_take.k ?_
 intro R avs objs κ r h
 unfold s_crc_take at h
 simp only [veil_eq] at h
 split at h
 ·rename_i reg b
  split at h
  ·cases h
  ·rename_i y hy
   refine ⟨BIG, _, _, _, (crc_take.eq BIG reg b).trans hy, ?_, h⟩
   intro rs ros hk
   unfold crc_take.k at hk
   split at hk
   ·first | (cases hk; exact ⟨rfl, rfl⟩) | (rw [← Option.some.inj hk]; exact ⟨rfl, rfl⟩)
   ·cases hk
 ·cases h
def crc_Of_E : Env := ⟨th, gam [(72, s_crc_take)], fun i => if i = 3 then ⟨[3, 6, 7, 8], [], []⟩ else ⟨[], [], []⟩⟩
def crc_Of.k (rs : List AV) (os : List Den.Obj) : Option Int :=
 match rs, os with
 | [.d (.int .u32) r0], [] => some r0
 | _, _ => none
def crc_Of.s3 (parts : List (List Int)) (x0 : Int) (x1 : Int) (x2 : Int) : St := ⟨[dD, dD, dD, .d (.int .u32) x0, .dead, .dead, .d (.sl (.sl (.int .u8))) (parts), .d tQi x1, .d tQi x2, dD, dD, dD, dD, dD, dD, dD, dD, .dead], ofL [], 0⟩
def crc_Of.p3 (fuel : Nat) (parts : List (List Int)) (k : Nat) := fun x0 x1 x2 => lp crc_Of_E fuel Tryz.f50 [.raw] 0 crc_Of.k 3 [] k (crc_Of.s3 parts x0 x1 x2)
def crc_Of.b3 (parts : List (List Int)) (A3 : Int → Int → Int → Option Int) (x0 : Int) (x1 : Int) (x2 : Int) : Option Int :=
 (if (decide (x2 < x1)) then (match (idx parts x2) with | none => none | some y3 => (match (veil (crc_take.f BIG x0 y3)) with | none => none | some y4 => A3 y4 x1 (IntKind.wrap .i64 (x2 + (1 : Int))))) else some ((bits BinOp.xor .u32 (if (IntKind.signed .u32) then (-(1 : Int)) else (IntKind.max .u32)) x0)))
def crc_Of.l3 (fuel : Nat) (parts : List (List Int)) : Nat → Int → Int → Int → Option Int
 | 0, _, _, _ => none
 | k + 1, x0, x1, x2 => crc_Of.b3 parts (crc_Of.l3 fuel parts k) x0 x1 x2
def crc_Of.b (parts : List (List Int)) (E3 : Int → Int → Int → Option Int) : Option Int :=
 E3 (veil (4294967295 : Int)) ((((List.length parts)) : Nat) : Int) (0 : Int)
def crc_Of.f (fuel : Nat) (parts : List (List Int)) : Option Int := crc_Of.b parts (crc_Of.l3 fuel parts fuel)
theorem crc_Of.l3_eq (fuel : Nat) (parts : List (List Int)) : ∀ k : Nat, crc_Of.p3 fuel parts k = crc_Of.l3 fuel parts k
 | 0 => by kernel_rfl
 | k + 1 => by
  refine Eq.trans (b := crc_Of.b3 parts (crc_Of.p3 fuel parts k)) (by kernel_rfl) ?_
  rw [crc_Of.l3_eq fuel parts k]
  kernel_rfl
theorem crc_Of.eq (fuel : Nat) (parts : List (List Int)) : (denF crc_Of_E loopN fuel Tryz.f50 [.raw] [.d (.sl (.sl (.int .u8))) parts] [] crc_Of.k) = crc_Of.f fuel parts := by
 refine Eq.trans (b := crc_Of.b parts (crc_Of.p3 fuel parts fuel)) (by kernel_rfl) ?_
 rw [crc_Of.l3_eq fuel parts fuel]
 kernel_rfl
theorem crc_Of.l3_at (fuel nN kK : Nat) (hN : nN = kK + 1) (parts : List (List Int)) (x0 : Int) (x1 : Int) (x2 : Int) : crc_Of.l3 fuel parts nN x0 x1 x2 = crc_Of.b3 parts (crc_Of.l3 fuel parts kK) x0 x1 x2 := by
 subst hN
 rfl
def s_crc_Of : Den.Sum := ⟨[.dat (.sl (.sl (.int .u8))) false], fun args objs κ => match args, objs with
 | [.d (.sl (.sl (.int .u8))) parts], [] => (match veil (crc_Of.f BIG parts) with | none => none | some y => κ [.d (.int .u32) y] [])
 | _, _ => none⟩
theorem s_crc_Of_det : SumDet s_crc_Of := sdet fun _ _ _ _ => by
 unfold s_crc_Of
 simp only [veil_eq]
 split
 ·split <;> rfl
 ·rfl
theorem s_crc_Of_ok : SumOk Tryz.prog 50 s_crc_Of := by
 have hE : EnvOk Tryz.prog crc_Of_E := env_ok (l := [(72, s_crc_take)]) th_ok any_ok ⟨⟨s_crc_take_ok, s_crc_take_det⟩, trivial⟩ _
 refine sum_ok hE Tryz.func50 rfl (by kernel_rfl) s_crc_Of [.raw] crc_Of.k ?_
 intro R avs objs κ r h
 unfold s_crc_Of at h
 simp only [veil_eq] at h
 split at h
 ·rename_i parts
  split at h
  ·cases h
  ·rename_i y hy
   refine ⟨BIG, _, _, _, (crc_Of.eq BIG parts).trans hy, ?_, h⟩
   intro rs ros hk
   unfold crc_Of.k at hk
   split at hk
   ·first | (cases hk; exact ⟨rfl, rfl⟩) | (rw [← Option.some.inj hk]; exact ⟨rfl, rfl⟩)
   ·cases hk
 ·cases h
theorem wrap_u32 (n : Int) : IntKind.wrap .u32 n = n % 4294967296 := by simp [IntKind.wrap, IntKind.bits, IntKind.signed]
theorem wrap_u8 (n : Int) : IntKind.wrap .u8 n = n % 256 := by simp [IntKind.wrap, IntKind.bits, IntKind.signed]
theorem bits_xor32 (a b : Nat) (ha : a < 4294967296) (hb : b < 4294967296) : bits BinOp.xor .u32 (a : Int) (b : Int) = ((a ^^^ b : Nat) : Int) := by
 show IntKind.wrap .u32 (((BitVec.ofInt 32 (a : Int) ^^^ BitVec.ofInt 32 (b : Int)).toNat : Nat) : Int) = _
 rw [BitVec.toNat_xor, BitVec.toNat_ofInt, BitVec.toNat_ofInt, wrap_u32]
 have e1 : ((a : Int) % ((2 ^ 32 : Nat) : Int)).toNat = a := by
  rw [show ((2 ^ 32 : Nat) : Int) = 4294967296 from rfl]; omega
 have e2 : ((b : Int) % ((2 ^ 32 : Nat) : Int)).toNat = b := by
  rw [show ((2 ^ 32 : Nat) : Int) = 4294967296 from rfl]; omega
 rw [e1, e2]
 have := xor_lt a b 32 ha hb
 rw [show (2 : Nat) ^ 32 = 4294967296 from rfl] at this
 omega
theorem bits_and15 (c : Nat) (hc : c < 256) : bits BinOp.and .u8 (c : Int) 15 = ((c % 16 : Nat) : Int) := by
 have : ∀ c, c < 256 → bits BinOp.and .u8 ((c : Nat) : Int) 15 = ((c % 16 : Nat) : Int) := by decide +kernel
 exact this c hc
theorem idx_halves (k : Nat) (hk : k < 16) : idx halves (k : Int) = some ((hN k : Nat) : Int) := by
 have : ∀ k, k < 16 → idx halves ((k : Nat) : Int) = some ((hN k : Nat) : Int) := by decide +kernel
 exact this k hk
theorem fdiv28 (r : Nat) : Int.fdiv (r : Int) (2 ^ (Min.min (Int.toNat 28) (IntKind.bits .u32))) = ((r / 268435456 : Nat) : Int) := by
 have e : (2 : Int) ^ (Min.min (Int.toNat 28) (IntKind.bits .u32)) = 268435456 := rfl
 rw [e, Int.fdiv_eq_ediv_of_nonneg _ (by omega)]
 omega
theorem fdiv4 (r : Nat) : Int.fdiv (r : Int) (2 ^ (Min.min (Int.toNat 4) (IntKind.bits .u8))) = ((r / 16 : Nat) : Int) := by
 have e : (2 : Int) ^ (Min.min (Int.toNat 4) (IntKind.bits .u8)) = 16 := rfl
 rw [e, Int.fdiv_eq_ediv_of_nonneg _ (by omega)]
 omega
theorem shl4 (r : Nat) : IntKind.wrap .u32 ((r : Int) * (2 ^ (Min.min (Int.toNat 4) (IntKind.bits .u32)))) = ((r * 16 % 4294967296 : Nat) : Int) := by
 have e : (2 : Int) ^ (Min.min (Int.toNat 4) (IntKind.bits .u32)) = 16 := rfl
 rw [e, wrap_u32]
 omega
theorem w32_nat (k : Nat) (h : k < 4294967296) : IntKind.wrap .u32 (k : Int) = (k : Int) := by rw [wrap_u32]; omega
theorem crc_step (l : List Int) (reg0 : Int) (A : Int → Int → Int → Option Int) (r : Nat) (hr : r < 4294967296) (c : Nat) (hc : c < 256) (x1 x2 : Int) (hx : x2 < x1) (hi : idx l x2 = some (c : Int)) :
  crc_take.b2 reg0 l A (r : Int) x1 x2 = A ((stepN r c : Nat) : Int) x1 (IntKind.wrap .i64 (x2 + 1)) := by
 unfold crc_take.b2
 have h1 : (c : Nat) / 16 < 16 := by omega
 rw [if_pos (by simpa using hx), hi]
 dsimp only
 rw [fdiv28, fdiv4, w32_nat _ (by omega), bits_xor32 _ _ (by omega) (by omega), idx_halves _ (top_lt r _ hr h1)]
 dsimp only
 rw [shl4, bits_xor32 _ _ (by omega) (hN_lt _)]
 have e1 : (r * 16 % 4294967296) ^^^ hN ((r / 268435456) ^^^ (c / 16)) = nib r (c / 16) := rfl
 rw [e1, fdiv28, bits_and15 c hc, w32_nat _ (by omega), bits_xor32 _ _ (by have := nib_lt r (c / 16); omega) (by omega), idx_halves _ (top_lt _ _ (nib_lt _ _) (by omega))]
 dsimp only
 rw [shl4, bits_xor32 _ _ (by omega) (hN_lt _)]
 rfl
theorem crc_take.loop (l : List Int) (reg0 : Int) (hl : l.length ≤ 1000000) : ∀ (suf pre : List Int) (r n : Nat), pre ++ suf = l → isB suf → r < 4294967296 → suf.length < n →
  crc_take.l2 BIG reg0 l n (r : Int) ((l.length : Nat) : Int) ((pre.length : Nat) : Int) = some ((crcN r (suf.map Int.toNat) : Nat) : Int)
 | suf, pre, r, 0, _, _, _, h => absurd h (by omega)
 | [], pre, r, n + 1, he, hb, hr, h => by
  rw [crc_take.l2_at BIG (n + 1) n rfl]
  unfold crc_take.b2
  rw [if_neg (by rw [← he]; simp)]
  rfl
 | c :: suf, pre, r, n + 1, he, hb, hr, h => by
  simp at h
  have hpl : pre.length + (suf.length + 1) = l.length := by rw [← he]; simp
  obtain ⟨hc0, hc1⟩ := hb c (by simp)
  have ec : ((c.toNat : Nat) : Int) = c := by omega
  have hi : idx l ((pre.length : Nat) : Int) = some ((c.toNat : Nat) : Int) := by
   rw [ec, ← he, idx_at]; simp
  rw [crc_take.l2_at BIG (n + 1) n rfl, crc_step l reg0 _ r hr c.toNat (by omega) _ _ (by omega) hi, wrap_small _ (by omega) (by omega)]
  have ih := crc_take.loop l reg0 hl suf (pre ++ [c]) (stepN r c.toNat) n (by rw [← he]; simp) (fun x hx => hb x (by simp [hx])) (stepN_lt _ _) (by omega)
  have e2 : (((pre ++ [c]).length : Nat) : Int) = ((pre.length : Nat) : Int) + 1 := by simp
  rw [e2] at ih
  exact ih
theorem crc_take.pure (l : List Int) (r : Nat) (hr : r < 4294967296) (hb : isB l) (hl : l.length ≤ 1000000) : crc_take.f BIG (r : Int) l = some ((crcN r (l.map Int.toNat) : Nat) : Int) := by
 unfold crc_take.f crc_take.b
 exact crc_take.loop l r hl l [] r BIG rfl hb hr (by rw [BIG_eq]; omega)
def crcF (l : List Int) : Nat := 4294967295 ^^^ crcN 4294967295 (l.map Int.toNat)
theorem crcF_lt (l : List Int) : crcF l < 4294967296 := xor_lt _ _ 32 (by decide) (crcN_lt _ _ (by decide))
theorem crc_Of.pure (l : List Int) (hb : isB l) (hl : l.length ≤ 1000000) : crc_Of.f BIG [l] = some ((crcF l : Nat) : Int) := by
 obtain ⟨k, hk⟩ : ∃ k, BIG = k + 1 + 1 := ⟨BIG - 2, by rw [BIG_eq]⟩
 unfold crc_Of.f crc_Of.b
 rw [veil_eq, crc_Of.l3_at BIG BIG (k + 1) hk]
 unfold crc_Of.b3
 rw [if_pos (by simp)]
 have e0 : idx [l] 0 = some l := rfl
 rw [e0]
 dsimp only
 have e1 := crc_take.pure l 4294967295 (by decide) hb hl
 rw [show ((4294967295 : Nat) : Int) = 4294967295 from rfl] at e1
 rw [e1]
 simp only [veil_eq]
 rw [crc_Of.l3_at BIG (k + 1) k rfl]
 unfold crc_Of.b3
 rw [if_neg (by rw [wrap_small _ (by omega) (by omega)]; simp)]
 have e2 : (if (IntKind.signed .u32) = true then (-1 : Int) else (IntKind.max .u32)) = ((4294967295 : Nat) : Int) := by decide +kernel
 rw [e2, bits_xor32 _ _ (by decide) (crcN_lt _ _ (by decide))]
 rfl
def frame_Seal_E : Env := ⟨th, gam [(50, s_crc_Of)], fun i => if i = 888888 then ⟨[1], [], []⟩ else ⟨[], [], []⟩⟩
def frame_Seal.k (rs : List AV) (os : List Den.Obj) : Option ((List Int) × Int) :=
 match rs, os with
 | [.d (.sl (.int .u8)) r0, .d (.int .i64) r1], [] => some (r0, r1)
 | _, _ => none
def frame_Seal.b (gen : Int) (body : List Int) : Option ((List Int) × Int) :=
 (if (decide (gen < (1 : Int))) then some (([] : List Int), (5 : Int)) else (if (decide (gen > (3 : Int))) then some (([] : List Int), (5 : Int)) else (if (decide (((((List.length body)) : Nat) : Int) > (65499 : Int))) then some (([] : List Int), (3 : Int)) else (if (((0 : Int) ≤ (IntKind.wrap .i64 ((4 : Int) + ((((List.length body)) : Nat) : Int)))) ∧ (((IntKind.wrap .i64 ((4 : Int) + ((((List.length body)) : Nat) : Int))) ≤ (IntKind.wrap .i64 ((8 : Int) + ((((List.length body)) : Nat) : Int)))) ∧ ((((IntKind.wrap .i64 ((8 : Int) + ((((List.length body)) : Nat) : Int))) * ((((1 : Nat)) : Nat) : Int)) ≤ (1099511627776 : Int)) ∧ ((IntKind.wrap .i64 ((8 : Int) + ((((List.length body)) : Nat) : Int))) ≤ (1099511627776 : Int))))) then (match (idx (List.replicate (Int.toNat (IntKind.wrap .i64 ((4 : Int) + ((((List.length body)) : Nat) : Int)))) (zeroI (Go.Den.Ty.int .u8))) (0 : Int)) with | none => none | some y0 => (match (idx (List.replicate (Int.toNat (IntKind.wrap .i64 ((4 : Int) + ((((List.length body)) : Nat) : Int)))) (zeroI (Go.Den.Ty.int .u8))) (0 : Int)) with | none => none | some y1 => (match (idx (List.set (List.replicate (Int.toNat (IntKind.wrap .i64 ((4 : Int) + ((((List.length body)) : Nat) : Int)))) (zeroI (Go.Den.Ty.int .u8))) (Int.toNat (0 : Int)) (156 : Int)) (1 : Int)) with | none => none | some y2 => (match (idx (List.set (List.replicate (Int.toNat (IntKind.wrap .i64 ((4 : Int) + ((((List.length body)) : Nat) : Int)))) (zeroI (Go.Den.Ty.int .u8))) (Int.toNat (0 : Int)) (156 : Int)) (1 : Int)) with | none => none | some y3 => (match (idx (List.set (List.set (List.replicate (Int.toNat (IntKind.wrap .i64 ((4 : Int) + ((((List.length body)) : Nat) : Int)))) (zeroI (Go.Den.Ty.int .u8))) (Int.toNat (0 : Int)) (156 : Int)) (Int.toNat (1 : Int)) (IntKind.wrap .u8 gen)) (2 : Int)) with | none => none | some y4 => (match (idx (List.set (List.set (List.replicate (Int.toNat (IntKind.wrap .i64 ((4 : Int) + ((((List.length body)) : Nat) : Int)))) (zeroI (Go.Den.Ty.int .u8))) (Int.toNat (0 : Int)) (156 : Int)) (Int.toNat (1 : Int)) (IntKind.wrap .u8 gen)) (2 : Int)) with | none => none | some y5 => (match (idx (List.set (List.set (List.set (List.replicate (Int.toNat (IntKind.wrap .i64 ((4 : Int) + ((((List.length body)) : Nat) : Int)))) (zeroI (Go.Den.Ty.int .u8))) (Int.toNat (0 : Int)) (156 : Int)) (Int.toNat (1 : Int)) (IntKind.wrap .u8 gen)) (Int.toNat (2 : Int)) (IntKind.wrap .u8 (Int.fdiv ((((List.length body)) : Nat) : Int) ((2 : Int) ^ (Min.min (Int.toNat (8 : Int)) (IntKind.bits .i64)))))) (3 : Int)) with | none => none | some y6 => (match (idx (List.set (List.set (List.set (List.replicate (Int.toNat (IntKind.wrap .i64 ((4 : Int) + ((((List.length body)) : Nat) : Int)))) (zeroI (Go.Den.Ty.int .u8))) (Int.toNat (0 : Int)) (156 : Int)) (Int.toNat (1 : Int)) (IntKind.wrap .u8 gen)) (Int.toNat (2 : Int)) (IntKind.wrap .u8 (Int.fdiv ((((List.length body)) : Nat) : Int) ((2 : Int) ^ (Min.min (Int.toNat (8 : Int)) (IntKind.bits .i64)))))) (3 : Int)) with | none => none | some y7 => (if (((0 : Int) ≤ (4 : Int)) ∧ ((4 : Int) ≤ ((((List.length (List.set (List.set (List.set (List.set (List.replicate (Int.toNat (IntKind.wrap .i64 ((4 : Int) + ((((List.length body)) : Nat) : Int)))) (zeroI (Go.Den.Ty.int .u8))) (Int.toNat (0 : Int)) (156 : Int)) (Int.toNat (1 : Int)) (IntKind.wrap .u8 gen)) (Int.toNat (2 : Int)) (IntKind.wrap .u8 (Int.fdiv ((((List.length body)) : Nat) : Int) ((2 : Int) ^ (Min.min (Int.toNat (8 : Int)) (IntKind.bits .i64)))))) (Int.toNat (3 : Int)) (IntKind.wrap .u8 ((((List.length body)) : Nat) : Int))))) : Nat) : Int))) then (if ((((Int.toNat (4 : Int)) + (List.length body)) ≤ (List.length (List.set (List.set (List.set (List.set (List.replicate (Int.toNat (IntKind.wrap .i64 ((4 : Int) + ((((List.length body)) : Nat) : Int)))) (zeroI (Go.Den.Ty.int .u8))) (Int.toNat (0 : Int)) (156 : Int)) (Int.toNat (1 : Int)) (IntKind.wrap .u8 gen)) (Int.toNat (2 : Int)) (IntKind.wrap .u8 (Int.fdiv ((((List.length body)) : Nat) : Int) ((2 : Int) ^ (Min.min (Int.toNat (8 : Int)) (IntKind.bits .i64)))))) (Int.toNat (3 : Int)) (IntKind.wrap .u8 ((((List.length body)) : Nat) : Int))))) ∧ ((List.length (List.set (List.set (List.set (List.set (List.replicate (Int.toNat (IntKind.wrap .i64 ((4 : Int) + ((((List.length body)) : Nat) : Int)))) (zeroI (Go.Den.Ty.int .u8))) (Int.toNat (0 : Int)) (156 : Int)) (Int.toNat (1 : Int)) (IntKind.wrap .u8 gen)) (Int.toNat (2 : Int)) (IntKind.wrap .u8 (Int.fdiv ((((List.length body)) : Nat) : Int) ((2 : Int) ^ (Min.min (Int.toNat (8 : Int)) (IntKind.bits .i64)))))) (Int.toNat (3 : Int)) (IntKind.wrap .u8 ((((List.length body)) : Nat) : Int)))) ≤ (List.length (List.set (List.set (List.set (List.set (List.replicate (Int.toNat (IntKind.wrap .i64 ((4 : Int) + ((((List.length body)) : Nat) : Int)))) (zeroI (Go.Den.Ty.int .u8))) (Int.toNat (0 : Int)) (156 : Int)) (Int.toNat (1 : Int)) (IntKind.wrap .u8 gen)) (Int.toNat (2 : Int)) (IntKind.wrap .u8 (Int.fdiv ((((List.length body)) : Nat) : Int) ((2 : Int) ^ (Min.min (Int.toNat (8 : Int)) (IntKind.bits .i64)))))) (Int.toNat (3 : Int)) (IntKind.wrap .u8 ((((List.length body)) : Nat) : Int)))))) then (match (veil (crc_Of.f BIG ((((List.take (Int.toNat (4 : Int)) (List.set (List.set (List.set (List.set (List.replicate (Int.toNat (IntKind.wrap .i64 ((4 : Int) + ((((List.length body)) : Nat) : Int)))) (zeroI (Go.Den.Ty.int .u8))) (Int.toNat (0 : Int)) (156 : Int)) (Int.toNat (1 : Int)) (IntKind.wrap .u8 gen)) (Int.toNat (2 : Int)) (IntKind.wrap .u8 (Int.fdiv ((((List.length body)) : Nat) : Int) ((2 : Int) ^ (Min.min (Int.toNat (8 : Int)) (IntKind.bits .i64)))))) (Int.toNat (3 : Int)) (IntKind.wrap .u8 ((((List.length body)) : Nat) : Int)))) ++ body) ++ (List.drop ((Int.toNat (4 : Int)) + (List.length body)) (List.set (List.set (List.set (List.set (List.replicate (Int.toNat (IntKind.wrap .i64 ((4 : Int) + ((((List.length body)) : Nat) : Int)))) (zeroI (Go.Den.Ty.int .u8))) (Int.toNat (0 : Int)) (156 : Int)) (Int.toNat (1 : Int)) (IntKind.wrap .u8 gen)) (Int.toNat (2 : Int)) (IntKind.wrap .u8 (Int.fdiv ((((List.length body)) : Nat) : Int) ((2 : Int) ^ (Min.min (Int.toNat (8 : Int)) (IntKind.bits .i64)))))) (Int.toNat (3 : Int)) (IntKind.wrap .u8 ((((List.length body)) : Nat) : Int))))) :: ([] : List (List Int))))) with | none => none | some y8 => (if ((((List.length (((List.take (Int.toNat (4 : Int)) (List.set (List.set (List.set (List.set (List.replicate (Int.toNat (IntKind.wrap .i64 ((4 : Int) + ((((List.length body)) : Nat) : Int)))) (zeroI (Go.Den.Ty.int .u8))) (Int.toNat (0 : Int)) (156 : Int)) (Int.toNat (1 : Int)) (IntKind.wrap .u8 gen)) (Int.toNat (2 : Int)) (IntKind.wrap .u8 (Int.fdiv ((((List.length body)) : Nat) : Int) ((2 : Int) ^ (Min.min (Int.toNat (8 : Int)) (IntKind.bits .i64)))))) (Int.toNat (3 : Int)) (IntKind.wrap .u8 ((((List.length body)) : Nat) : Int)))) ++ body) ++ (List.drop ((Int.toNat (4 : Int)) + (List.length body)) (List.set (List.set (List.set (List.set (List.replicate (Int.toNat (IntKind.wrap .i64 ((4 : Int) + ((((List.length body)) : Nat) : Int)))) (zeroI (Go.Den.Ty.int .u8))) (Int.toNat (0 : Int)) (156 : Int)) (Int.toNat (1 : Int)) (IntKind.wrap .u8 gen)) (Int.toNat (2 : Int)) (IntKind.wrap .u8 (Int.fdiv ((((List.length body)) : Nat) : Int) ((2 : Int) ^ (Min.min (Int.toNat (8 : Int)) (IntKind.bits .i64)))))) (Int.toNat (3 : Int)) (IntKind.wrap .u8 ((((List.length body)) : Nat) : Int)))))) + (List.length ((IntKind.wrap .u8 (Int.fdiv y8 ((2 : Int) ^ (Min.min (Int.toNat (24 : Int)) (IntKind.bits .u32))))) :: ((IntKind.wrap .u8 (Int.fdiv y8 ((2 : Int) ^ (Min.min (Int.toNat (16 : Int)) (IntKind.bits .u32))))) :: ((IntKind.wrap .u8 (Int.fdiv y8 ((2 : Int) ^ (Min.min (Int.toNat (8 : Int)) (IntKind.bits .u32))))) :: ((IntKind.wrap .u8 y8) :: ([] : List Int))))))) * (1 : Nat)) ≤ lim) then some (((((List.take (Int.toNat (4 : Int)) (List.set (List.set (List.set (List.set (List.replicate (Int.toNat (IntKind.wrap .i64 ((4 : Int) + ((((List.length body)) : Nat) : Int)))) (zeroI (Go.Den.Ty.int .u8))) (Int.toNat (0 : Int)) (156 : Int)) (Int.toNat (1 : Int)) (IntKind.wrap .u8 gen)) (Int.toNat (2 : Int)) (IntKind.wrap .u8 (Int.fdiv ((((List.length body)) : Nat) : Int) ((2 : Int) ^ (Min.min (Int.toNat (8 : Int)) (IntKind.bits .i64)))))) (Int.toNat (3 : Int)) (IntKind.wrap .u8 ((((List.length body)) : Nat) : Int)))) ++ body) ++ (List.drop ((Int.toNat (4 : Int)) + (List.length body)) (List.set (List.set (List.set (List.set (List.replicate (Int.toNat (IntKind.wrap .i64 ((4 : Int) + ((((List.length body)) : Nat) : Int)))) (zeroI (Go.Den.Ty.int .u8))) (Int.toNat (0 : Int)) (156 : Int)) (Int.toNat (1 : Int)) (IntKind.wrap .u8 gen)) (Int.toNat (2 : Int)) (IntKind.wrap .u8 (Int.fdiv ((((List.length body)) : Nat) : Int) ((2 : Int) ^ (Min.min (Int.toNat (8 : Int)) (IntKind.bits .i64)))))) (Int.toNat (3 : Int)) (IntKind.wrap .u8 ((((List.length body)) : Nat) : Int))))) ++ ((IntKind.wrap .u8 (Int.fdiv y8 ((2 : Int) ^ (Min.min (Int.toNat (24 : Int)) (IntKind.bits .u32))))) :: ((IntKind.wrap .u8 (Int.fdiv y8 ((2 : Int) ^ (Min.min (Int.toNat (16 : Int)) (IntKind.bits .u32))))) :: ((IntKind.wrap .u8 (Int.fdiv y8 ((2 : Int) ^ (Min.min (Int.toNat (8 : Int)) (IntKind.bits .u32))))) :: ((IntKind.wrap .u8 y8) :: ([] : List Int)))))), (0 : Int)) else none)) else none) else none))))))))) else none))))
def frame_Seal.f (fuel : Nat) (gen : Int) (body : List Int) : Option ((List Int) × Int) := frame_Seal.b gen body
theorem frame_Seal.eq (fuel : Nat) (gen : Int) (body : List Int) : (denF frame_Seal_E loopN fuel Tryz.f30 [.dat (.sl (.int .u8)) false, .raw] [.d tQi gen, .d (.sl (.int .u8)) body] [] frame_Seal.k) = frame_Seal.f fuel gen body := by
 kernel_rfl
def s_frame_Seal : Den.Sum := ⟨[.raw, .dat (.sl (.int .u8)) false], fun args objs κ => match args, objs with
 | [.d (.int .i64) gen, .d (.sl (.int .u8)) body], [] => (match veil (frame_Seal.f BIG gen body) with | none => none | some y => κ [.d (.sl (.int .u8)) y.1, .d (.int .i64) y.2] [])
 | _, _ => none⟩
theorem s_frame_Seal_det : SumDet s_frame_Seal := sdet fun _ _ _ _ => by
 unfold s_frame_Seal
 simp only [veil_eq]
 split
 ·split <;> rfl
 ·rfl
theorem s_frame_Seal_ok : SumOk Tryz.prog 30 s_frame_Seal := by
 have hE : EnvOk Tryz.prog frame_Seal_E := env_ok (l := [(50, s_crc_Of)]) th_ok any_ok ⟨⟨s_crc_Of_ok, s_crc_Of_det⟩, trivial⟩ _
 refine sum_ok hE Tryz.func30 rfl (by kernel_rfl) s_frame_Seal [.dat (.sl (.int .u8)) false, .raw] frame_Seal.k ?_
 intro R avs objs κ r h
 unfold s_frame_Seal at h
 simp only [veil_eq] at h
 split at h
 ·rename_i gen body
  split at h
  ·cases h
  ·rename_i y hy
   refine ⟨BIG, _, _, _, (frame_Seal.eq BIG gen body).trans hy, ?_, h⟩
   intro rs ros hk
   unfold frame_Seal.k at hk
   split at hk
   ·first | (cases hk; exact ⟨rfl, rfl⟩) | (rw [← Option.some.inj hk]; exact ⟨rfl, rfl⟩)
   ·cases hk
 ·cases h
def frame_Open_E : Env := ⟨th, gam [(50, s_crc_Of), (51, s_read), (52, s_rnumb), (53, s_takeb)], fun i => ⟨[], [], []⟩⟩
def frame_Open.k (rs : List AV) (os : List Den.Obj) : Option (Int × (List Int) × Int) :=
 match rs, os with
 | [.d (.int .i64) r0, .d (.sl (.int .u8)) r1, .d (.int .i64) r2], [] => some (r0, r1, r2)
 | _, _ => none
def frame_Open.b (b : List Int) : Option (Int × (List Int) × Int) :=
 (if (decide (((((List.length b)) : Nat) : Int) > (65507 : Int))) then some ((0 : Int), ([] : List Int), (3 : Int)) else (if (decide (((((List.length b)) : Nat) : Int) < (8 : Int))) then some ((0 : Int), ([] : List Int), (2 : Int)) else (if (inB b) then (if (atOk b 0) then (match (veil (Option.some (readF b (1 : Int) 0 false))) with | none => none | some y0 => (if (atOk b y0.2.1) then (match (veil (Option.some (readF b (1 : Int) y0.2.1 y0.2.2))) with | none => none | some y1 => (if (atOk b y1.2.1) then (match (veil (Option.some (readF b (2 : Int) y1.2.1 y1.2.2))) with | none => none | some y2 => (if (y0.1 != (156 : Int)) then some ((0 : Int), ([] : List Int), (4 : Int)) else (if (decide (y1.1 < (1 : Int))) then some ((0 : Int), ([] : List Int), (4 : Int)) else (if (decide (y1.1 > (3 : Int))) then some ((0 : Int), ([] : List Int), (4 : Int)) else (if (y2.1 != (IntKind.wrap .i64 (((((List.length b)) : Nat) : Int) - (8 : Int)))) then some ((0 : Int), ([] : List Int), (4 : Int)) else (if (atOk b y2.2.1) then (match (veil (Option.some (stepF b y2.1 y2.2.1 y2.2.2))) with | none => none | some y3 => (if (atOk b y3.2.2.1) then (match (veil (Option.some (readF b (4 : Int) y3.2.2.1 y3.2.2.2))) with | none => none | some y4 => (if (((0 : Int) ≤ (IntKind.wrap .i64 (((((List.length b)) : Nat) : Int) - (4 : Int)))) ∧ ((IntKind.wrap .i64 (((((List.length b)) : Nat) : Int) - (4 : Int))) ≤ ((((List.length b)) : Nat) : Int))) then (match (veil (crc_Of.f BIG ((List.drop (0 : Nat) (List.take (Int.toNat (IntKind.wrap .i64 (((((List.length b)) : Nat) : Int) - (4 : Int)))) b)) :: ([] : List (List Int))))) with | none => none | some y5 => (if ((IntKind.wrap .u32 y4.1) != y5) then some ((0 : Int), ([] : List Int), (8 : Int)) else some (y1.1, y3.1, (0 : Int)))) else none)) else none)) else none)))))) else none)) else none)) else none) else none)))
def frame_Open.f (fuel : Nat) (b : List Int) : Option (Int × (List Int) × Int) := frame_Open.b b
theorem frame_Open.eq (fuel : Nat) (b : List Int) : (denF frame_Open_E loopN fuel Tryz.f31 [.raw, .dat (.sl (.int .u8)) false, .raw] [.d (.sl (.int .u8)) b] [] frame_Open.k) = frame_Open.f fuel b := by
 kernel_rfl
def s_frame_Open : Den.Sum := ⟨[.dat (.sl (.int .u8)) false], fun args objs κ => match args, objs with
 | [.d (.sl (.int .u8)) b], [] => (match veil (frame_Open.f BIG b) with | none => none | some y => κ [.d (.int .i64) y.1, .d (.sl (.int .u8)) y.2.1, .d (.int .i64) y.2.2] [])
 | _, _ => none⟩
theorem s_frame_Open_det : SumDet s_frame_Open := sdet fun _ _ _ _ => by
 unfold s_frame_Open
 simp only [veil_eq]
 split
 ·split <;> rfl
 ·rfl
theorem s_frame_Open_ok : SumOk Tryz.prog 31 s_frame_Open := by
 have hE : EnvOk Tryz.prog frame_Open_E := env_ok (l := [(50, s_crc_Of), (51, s_read), (52, s_rnumb), (53, s_takeb)]) th_ok any_ok ⟨⟨s_crc_Of_ok, s_crc_Of_det⟩, ⟨s_read_ok, s_read_det⟩, ⟨s_rnumb_ok, s_rnumb_det⟩, ⟨s_takeb_ok, s_takeb_det⟩, trivial⟩ _
 refine sum_ok hE Tryz.func31 rfl (by kernel_rfl) s_frame_Open [.raw, .dat (.sl (.int .u8)) false, .raw] frame_Open.k ?_
 intro R avs objs κ r h
 unfold s_frame_Open at h
 simp only [veil_eq] at h
 split at h
 ·rename_i b
  split at h
  ·cases h
  ·rename_i y hy
   refine ⟨BIG, _, _, _, (frame_Open.eq BIG b).trans hy, ?_, h⟩
   intro rs ros hk
   unfold frame_Open.k at hk
   split at hk
   ·first | (cases hk; exact ⟨rfl, rfl⟩) | (rw [← Option.some.inj hk]; exact ⟨rfl, rfl⟩)
   ·cases hk
 ·cases h
def frontF (gen : Int) (body : List Int) : List Int := 156 :: gen :: ((body.length / 256 : Nat) : Int) :: ((body.length % 256 : Nat) : Int) :: body
def sumT (s : Nat) : List Int := [((s / 16777216 : Nat) : Int), ((s / 65536 % 256 : Nat) : Int), ((s / 256 % 256 : Nat) : Int), ((s % 256 : Nat) : Int)]
def sealF (gen : Int) (body : List Int) : List Int := frontF gen body ++ sumT (crcF (frontF gen body))
def sealX (gen : Int) (body : List Int) : List Int × Int := if gen < 1 ∨ gen > 3 then ([], 5) else if body.length > 65499 then ([], 3) else (sealF gen body, 0)
theorem front_bytes {gen : Int} {body : List Int} (h1 : 1 ≤ gen) (h3 : gen ≤ 3) (hb : isB body) (hl : body.length ≤ 65499) : isB (frontF gen body) := by
 unfold frontF
 exact isB_cons (by omega) (by omega) (isB_cons (by omega) (by omega) (isB_cons (by omega) (by omega) (isB_cons (by omega) (by omega) hb)))
theorem tail_bytes (s : Nat) (h : s < 4294967296) : isB (sumT s) := by
 unfold sumT
 exact isB_cons (by omega) (by omega) (isB_cons (by omega) (by omega) (isB_cons (by omega) (by omega) (isB_cons (by omega) (by omega) isB_nil)))
theorem seal_bytes {gen : Int} {body : List Int} (h1 : 1 ≤ gen) (h3 : gen ≤ 3) (hb : isB body) (hl : body.length ≤ 65499) : isB (sealF gen body) :=
 isB_app (front_bytes h1 h3 hb hl) (tail_bytes _ (crcF_lt _))
theorem fd (s k : Nat) (p : Int) (hp : p = (k : Int)) (hk : 0 < k) : IntKind.wrap .u8 (Int.fdiv (s : Int) p) = ((s / k % 256 : Nat) : Int) := by
 subst hp
 rw [Int.fdiv_eq_ediv_of_nonneg _ (by omega), wrap_u8]
 omega
theorem rep4 (n : Nat) (hn : n ≤ 65499) : List.replicate (Int.toNat (IntKind.wrap .i64 (4 + ((n : Nat) : Int)))) (zeroI (Go.Den.Ty.int .u8)) = (0 : Int) :: (0 : Int) :: (0 : Int) :: (0 : Int) :: List.replicate n (0 : Int) := by
 rw [wrap_small _ (by omega) (by omega)]
 have : Int.toNat (4 + ((n : Nat) : Int)) = n + 1 + 1 + 1 + 1 := by omega
 rw [this]
 rfl
theorem frame_Seal.pure (gen : Int) (body : List Int) (hb : isB body) : frame_Seal.f BIG gen body = some (sealX gen body) := by
 unfold frame_Seal.f frame_Seal.b sealX
 by_cases h1 : gen < 1
 ·rw [if_pos (by simp [h1]), if_pos (.inl h1)]
 rw [if_neg (by simp [h1])]
 by_cases h3 : gen > 3
 ·rw [if_pos (by simp [h3]), if_pos (.inr h3)]
 have hg : ¬ (gen < 1 ∨ gen > 3) := by omega
 rw [if_neg (by simp [h3]), if_neg hg]
 by_cases hl : body.length > 65499
 ·rw [if_pos hl, if_pos (by simp; omega)]
 rw [if_neg hl, if_neg (by simp; omega)]
 have hn : body.length ≤ 65499 := by omega
 rw [if_pos (by rw [wrap_small _ (by omega) (by omega), wrap_small _ (by omega) (by omega)]; omega), rep4 _ hn]
 generalize hR : List.replicate body.length (0 : Int) = R
 have hRl : R.length = body.length := by rw [← hR]; simp
 have i0 : ∀ a b c d : Int, idx (a :: b :: c :: d :: R) 0 = some a := fun _ _ _ _ => rfl
 have i1 : ∀ a b c d : Int, idx (a :: b :: c :: d :: R) 1 = some b := fun _ _ _ _ => rfl
 have i2 : ∀ a b c d : Int, idx (a :: b :: c :: d :: R) 2 = some c := fun _ _ _ _ => rfl
 have i3 : ∀ a b c d : Int, idx (a :: b :: c :: d :: R) 3 = some d := fun _ _ _ _ => rfl
 have s0 : ∀ a b c d x : Int, List.set (a :: b :: c :: d :: R) (Int.toNat 0) x = x :: b :: c :: d :: R := fun _ _ _ _ _ => rfl
 have s1 : ∀ a b c d x : Int, List.set (a :: b :: c :: d :: R) (Int.toNat 1) x = a :: x :: c :: d :: R := fun _ _ _ _ _ => rfl
 have s2 : ∀ a b c d x : Int, List.set (a :: b :: c :: d :: R) (Int.toNat 2) x = a :: b :: x :: d :: R := fun _ _ _ _ _ => rfl
 have s3 : ∀ a b c d x : Int, List.set (a :: b :: c :: d :: R) (Int.toNat 3) x = a :: b :: c :: x :: R := fun _ _ _ _ _ => rfl
 have t4 : ∀ a b c d : Int, List.take (Int.toNat 4) (a :: b :: c :: d :: R) = [a, b, c, d] := fun _ _ _ _ => rfl
 have d4 : ∀ a b c d : Int, List.drop (Int.toNat 4 + body.length) (a :: b :: c :: d :: R) = [] := by
  intro a b c d
  rw [List.drop_eq_nil_iff]
  have : Int.toNat 4 = 4 := rfl
  simp [hRl, this]; omega
 simp only [i0, i1, i2, i3, s0, s1, s2, s3, t4, d4]
 rw [if_pos (by simp <;> omega), if_pos (by have : Int.toNat 4 = 4 := rfl; simp [hRl, this] <;> omega)]
 have g1 : IntKind.wrap .u8 gen = gen := by rw [wrap_u8]; omega
 have g2 : IntKind.wrap .u8 (Int.fdiv ((body.length : Nat) : Int) (2 ^ (Min.min (Int.toNat 8) (IntKind.bits .i64)))) = ((body.length / 256 : Nat) : Int) := by
  have e8 : (2 : Int) ^ (Min.min (Int.toNat 8) (IntKind.bits .i64)) = ((256 : Nat) : Int) := rfl
  rw [e8, fd body.length 256 _ rfl (by omega)]; omega
 have g3 : IntKind.wrap .u8 ((body.length : Nat) : Int) = ((body.length % 256 : Nat) : Int) := by rw [wrap_u8]; omega
 rw [g1, g2, g3]
 have ef : [156, gen, ((body.length / 256 : Nat) : Int), ((body.length % 256 : Nat) : Int)] ++ body ++ [] = frontF gen body := by simp [frontF]
 rw [ef, crc_Of.pure _ (front_bytes (by omega) (by omega) hb hn) (by simp [frontF]; omega)]
 simp only [veil_eq]
 have e24 : (2 : Int) ^ (Min.min (Int.toNat 24) (IntKind.bits .u32)) = ((16777216 : Nat) : Int) := rfl
 have e16 : (2 : Int) ^ (Min.min (Int.toNat 16) (IntKind.bits .u32)) = ((65536 : Nat) : Int) := rfl
 have e8 : (2 : Int) ^ (Min.min (Int.toNat 8) (IntKind.bits .u32)) = ((256 : Nat) : Int) := rfl
 rw [e24, e16, e8, fd _ 16777216 _ rfl (by omega), fd _ 65536 _ rfl (by omega), fd _ 256 _ rfl (by omega)]
 have g4 : IntKind.wrap .u8 ((crcF (frontF gen body) : Nat) : Int) = ((crcF (frontF gen body) % 256 : Nat) : Int) := by rw [wrap_u8]; omega
 have g5 : crcF (frontF gen body) / 16777216 % 256 = crcF (frontF gen body) / 16777216 := by have := crcF_lt (frontF gen body); omega
 rw [g4, g5, if_pos (by unfold lim; simp [frontF]; omega)]
 rfl
theorem inB_of {l : List Int} (h : isB l) (hl : l.length ≤ 1000000) : inB l = true := by
 unfold inB
 rw [Bool.and_eq_true, List.all_eq_true]
 refine ⟨by unfold roomy; simp; omega, fun c hc => ?_⟩
 have := h c hc
 simp
 omega
theorem step_at (l : List Int) (n a : Nat) (h : a + n ≤ l.length) : stepF l (n : Int) (a : Int) false = ((l.take (a + n)).drop a, true, ((a + n : Nat) : Int), false) := by
 unfold stepF
 rw [if_neg (by simp), if_neg (by simp; omega)]
 unfold seg
 have e1 : ((a : Int) + (n : Int)).toNat = a + n := by omega
 rw [e1, Int.toNat_natCast]
 simp
theorem read_at (l : List Int) (n a : Nat) (h1 : 1 ≤ n) (h7 : n ≤ 7) (h : a + n ≤ l.length) : readF l (n : Int) (a : Int) false = (numB ((l.take (a + n)).drop a), ((a + n : Nat) : Int), false) := by
 unfold readF
 have e : (if (decide ((n : Int) < 1) || decide ((n : Int) > 7)) = true then (-1 : Int) else (n : Int)) = (n : Int) := if_neg (by simp; omega)
 dsimp only
 rw [e, step_at l n a h]
 rfl
theorem numB_sum (s : Nat) (h : s < 4294967296) : numB (sumT s) = (s : Int) := by
 show (((0 * 256 + ((s / 16777216 : Nat) : Int)) * 256 + ((s / 65536 % 256 : Nat) : Int)) * 256 + ((s / 256 % 256 : Nat) : Int)) * 256 + ((s % 256 : Nat) : Int) = (s : Int)
 omega
theorem open_seal (gen : Int) (body : List Int) (h1 : 1 ≤ gen) (h3 : gen ≤ 3) (hb : isB body) (hl : body.length ≤ 65499) : frame_Open.f BIG (sealF gen body) = some (gen, body, 0) := by
 generalize hs : crcF (frontF gen body) = s
 have hsl : s < 4294967296 := by rw [← hs]; exact crcF_lt _
 have hin := inB_of (seal_bytes h1 h3 hb hl) (by unfold sealF frontF sumT; simp; omega)
 have hS : sealF gen body = 156 :: gen :: ((body.length / 256 : Nat) : Int) :: ((body.length % 256 : Nat) : Int) :: (body ++ sumT s) := by unfold sealF; rw [hs]; rfl
 have hlen : (sealF gen body).length = body.length + 8 := by rw [hS]; simp [sumT]
 have hfr : (sealF gen body).take (body.length + 4) = frontF gen body := by rw [hS]; unfold frontF; simp
 generalize hL : sealF gen body = L at *
 have hat : ∀ a : Nat, a ≤ body.length + 8 → atOk L (a : Int) = true := by
  intro a h1
  unfold atOk
  rw [hin, hlen]
  simp
  omega
 have r0 := read_at L 1 0 (by omega) (by omega) (by omega)
 have r1 := read_at L 1 1 (by omega) (by omega) (by omega)
 have r2 := read_at L 2 2 (by omega) (by omega) (by omega)
 have r3 := step_at L body.length 4 (by omega)
 have r4 := read_at L 4 (4 + body.length) (by omega) (by omega) (by omega)
 have p0 : numB ((L.take (0 + 1)).drop 0) = 156 := by rw [hS]; rfl
 have p1 : numB ((L.take (1 + 1)).drop 1) = gen := by
  rw [hS]
  show 0 * 256 + gen = gen
  omega
 have p2 : numB ((L.take (2 + 2)).drop 2) = (body.length : Int) := by
  rw [hS]
  show (0 * 256 + ((body.length / 256 : Nat) : Int)) * 256 + ((body.length % 256 : Nat) : Int) = (body.length : Int)
  omega
 have p3 : (L.take (4 + body.length)).drop 4 = body := by
  rw [hS, Nat.add_comm 4]
  simp
 have p4 : numB ((L.take (4 + body.length + 4)).drop (4 + body.length)) = (s : Int) := by
  have e : (L.take (4 + body.length + 4)).drop (4 + body.length) = sumT s := by
   rw [List.take_of_length_le (by omega), hS, Nat.add_comm 4]
   simp
  rw [e, numB_sum s hsl]
 rw [p0] at r0
 rw [p1] at r1
 rw [p2] at r2
 rw [p3] at r3
 rw [p4] at r4
 simp only [show ((0 : Nat) : Int) = 0 from rfl, show ((1 : Nat) : Int) = 1 from rfl, show ((2 : Nat) : Int) = 2 from rfl, show ((4 : Nat) : Int) = 4 from rfl, show ((0 + 1 : Nat) : Int) = 1 from rfl, show ((1 + 1 : Nat) : Int) = 2 from rfl, show ((2 + 2 : Nat) : Int) = 4 from rfl] at r0 r1 r2 r3 r4
 have a0 := hat 0 (by omega)
 have a1 := hat 1 (by omega)
 have a2 := hat 2 (by omega)
 have a4 := hat 4 (by omega)
 have a5 := hat (4 + body.length) (by omega)
 simp only [show ((0 : Nat) : Int) = 0 from rfl, show ((1 : Nat) : Int) = 1 from rfl, show ((2 : Nat) : Int) = 2 from rfl, show ((4 : Nat) : Int) = 4 from rfl] at a0 a1 a2 a4 a5
 unfold frame_Open.f frame_Open.b
 rw [if_neg (by rw [hlen]; simp; omega), if_neg (by rw [hlen]; simp; omega), if_pos hin, if_pos a0]
 simp only [veil_eq, r0]
 rw [if_pos a1]
 simp only [veil_eq, r1]
 rw [if_pos a2]
 simp only [veil_eq, r2]
 have w8 : IntKind.wrap .i64 (((L.length : Nat) : Int) - 8) = (body.length : Int) := by rw [hlen, wrap_small _ (by omega) (by omega)]; omega
 have w4 : IntKind.wrap .i64 (((L.length : Nat) : Int) - 4) = ((body.length + 4 : Nat) : Int) := by rw [hlen, wrap_small _ (by omega) (by omega)]; omega
 rw [if_neg (by simp), if_neg (by simp; omega), if_neg (by simp; omega), w8, if_neg (by simp), if_pos a4]
 simp only [veil_eq, r3]
 rw [if_pos a5]
 simp only [veil_eq, r4]
 rw [w4, if_pos (by rw [hlen]; omega), Int.toNat_natCast, hfr, List.drop_zero, crc_Of.pure _ (front_bytes h1 h3 hb hl) (by unfold frontF; simp; omega)]
 simp only [veil_eq]
 rw [hs, w32_nat s hsl, if_neg (by simp)]
theorem fields_end (fuel : Nat) (bs : List Int) (a0 : Int) (bad0 wr0 : Bool) (k : Nat) (n i : Int) (wr : Bool) (a : Int) (bad : Bool) (out : LF) (h : wr = true ∨ n ≤ i) :
  gen3_reader_fields.l4 fuel bs a0 bad0 wr0 (k + 1) n i wr bs a bad out = some (wr, bs, a, bad, out) := by
 rw [gen3_reader_fields.l4]
 unfold gen3_reader_fields.b4
 by_cases hi : i < n
 ·rw [if_pos (by simpa using hi)]
  rcases h with rfl | h
  ·rfl
  ·omega
 ·rw [if_neg (by simpa using hi)]
theorem stepF_bad (l : List Int) (n a : Int) : stepF l n a true = ([], false, a, true) := rfl
theorem stepF_zero (l : List Int) (a : Nat) (h : a ≤ l.length) : stepF l 0 (a : Int) false = ([], true, (a : Int), false) := by
 unfold stepF
 rw [if_neg (by simp), if_neg (by simp; omega)]
 unfold seg
 simp
theorem stepF_in (l : List Int) (n : Int) (a : Nat) (h0 : 0 ≤ n) (h : a + n.toNat ≤ l.length) : stepF l n (a : Int) false = ((l.drop a).take n.toNat, true, ((a + n.toNat : Nat) : Int), false) := by
 unfold stepF
 rw [if_neg (by simp), if_neg (by simp; omega)]
 unfold seg
 rw [show ((a : Int) + n).toNat = a + n.toNat from by omega, Int.toNat_natCast, show ((a : Int) + n) = ((a + n.toNat : Nat) : Int) from by omega]
 congr 1
 rw [List.drop_take]
 congr 1
 omega
theorem stepF_out (l : List Int) (n : Int) (a : Nat) (h0 : 0 ≤ n) (h : l.length < a + n.toNat) : stepF l n (a : Int) false = ([], false, (a : Int), true) := by
 unfold stepF
 rw [if_neg (by simp), if_pos (by simp; omega)]
theorem fields_loop (fuel : Nat) (bs : List Int) (hb : inB bs = true) (a0 : Int) (bad0 wr0 : Bool) (n : Nat) (hn : n ≤ 32) : ∀ (m k : Nat) (i a : Nat) (out : LF), i + m = n → m < k → a ≤ bs.length → out.length ≤ i →
  match fldsS bs m a with
  | some (l, a2) => gen3_reader_fields.l4 fuel bs a0 bad0 wr0 k (n : Int) (i : Int) false bs (a : Int) false out = some (false, bs, (a2 : Int), false, out ++ l)
  | none => ∃ (a' : Nat) (bad' : Bool) (l : LF), gen3_reader_fields.l4 fuel bs a0 bad0 wr0 k (n : Int) (i : Int) false bs (a : Int) false out = some (true, bs, (a' : Int), bad', l) ∧ a' ≤ bs.length := by
 obtain ⟨hl, hc⟩ := (inB_iff bs).1 hb
 intro m
 induction m with
 | zero =>
  intro k i a out hi hk ha ho
  obtain ⟨k, rfl⟩ : ∃ k', k = k' + 1 := ⟨k - 1, by omega⟩
  rw [fldsS]
  dsimp only
  rw [fields_end fuel bs a0 bad0 wr0 k (n : Int) (i : Int) false (a : Int) false out (Or.inr (by omega)), List.append_nil]
 | succ m ih =>
  intro k i a out hi hk ha ho
  obtain ⟨k, rfl⟩ : ∃ k', k = k' + 2 := ⟨k - 2, by omega⟩
  have hend : ∀ (a' : Nat) (bad' : Bool) (l : LF), a' ≤ bs.length → ∃ (a'' : Nat) (bad'' : Bool) (l' : LF), gen3_reader_fields.l4 fuel bs a0 bad0 wr0 (k + 1) (n : Int) (IntKind.wrap .i64 ((i : Int) + 1)) true bs (a' : Int) bad' l = some (true, bs, (a'' : Int), bad'', l') ∧ a'' ≤ bs.length :=
   fun a' bad' l h => ⟨a', bad', l, fields_end fuel bs a0 bad0 wr0 k _ _ true _ _ _ (Or.inl rfl), h⟩
  have hw : IntKind.wrap .i64 ((i : Int) + 1) = ((i + 1 : Nat) : Int) := by rw [wrap_small _ (by omega) (by omega)]; omega
  rw [show k + 2 = (k + 1) + 1 from rfl, gen3_reader_fields.l4, fldsS]
  unfold gen3_reader_fields.b4
  simp only [veil_eq]
  rw [if_pos (c := decide ((i : Int) < (n : Int)) = true) (by simp; omega), if_pos (c := (!false) = true) rfl, if_pos (c := atOk bs (a : Int) = true) ((atOk_iff _ _).2 ⟨hb, by omega, by omega⟩)]
  have hlim : ∀ x : Int × List Int, (out.length + ([x] : LF).length) * 32 ≤ lim := fun x => by simp [lim]; omega
  by_cases hlt : a < bs.length
  ·rw [readF_one bs a hlt]
   have hf : fldS bs a = match tk bs (a + 1) 4096 with
     | none => none
     | some (n, a2) => if a2 + n.toNat ≤ bs.length then some ((bs[a], (bs.drop a2).take n.toNat), a2 + n.toNat) else none := by
    unfold fldS
    rw [List.getElem?_eq_getElem hlt]
    all_goals rfl
   rw [hf]
   dsimp only
   generalize bs[a] = t at hf ⊢
   have hg := form_good bs (a + 1) 4096 hb (by decide) (by decide) hlt
   cases ht : tk bs (a + 1) 4096 with
   | none =>
    rw [ht] at hg
    obtain ⟨a', bad, hg, h2⟩ := hg
    rw [hg]
    dsimp only
    rw [if_pos (c := atOk bs (a' : Int) = true) ((atOk_iff _ _).2 ⟨hb, by omega, by omega⟩)]
    cases bad with
    | true =>
     rw [stepF_bad]
     dsimp only
     rw [if_pos rfl, if_pos (hlim _)]
     exact hend a' true _ h2
    | false =>
     rw [stepF_zero bs a' h2]
     dsimp only
     rw [if_neg (c := false = true) (by simp), if_pos (hlim _)]
     exact hend a' false _ h2
   | some p =>
    obtain ⟨w, a2⟩ := p
    rw [ht] at hg
    dsimp only at hg ⊢
    obtain ⟨e1, w0, w1, _, _, l1⟩ := tk_facts hc ht
    rw [hg]
    dsimp only
    rw [if_pos (c := atOk bs (a2 : Int) = true) ((atOk_iff _ _).2 ⟨hb, by omega, by omega⟩)]
    by_cases hin : a2 + w.toNat ≤ bs.length
    ·rw [stepF_in bs w a2 w0 hin, if_pos hin]
     dsimp only
     rw [if_neg (c := false = true) (by simp), if_pos (hlim _), hw]
     have := ih (k + 1) (i + 1) (a2 + w.toNat) (out ++ [(t, (bs.drop a2).take w.toNat)]) (by omega) (by omega) hin (by simp; omega)
     cases hr : fldsS bs m (a2 + w.toNat) with
     | none =>
      rw [hr] at this
      exact this
     | some q =>
      obtain ⟨l, a3⟩ := q
      rw [hr] at this
      dsimp only at this ⊢
      rw [this]
      simp
    ·rw [stepF_out bs w a2 w0 (by omega), if_neg hin]
     dsimp only
     rw [if_pos rfl, if_pos (hlim _)]
     exact hend a2 true _ l1
  ·have hf : fldS bs a = none := by
    unfold fldS
    rw [List.getElem?_eq_none (by omega)]
   rw [hf, readF_end bs a (by omega)]
   dsimp only
   rw [form_bad bs a 4096 hb ha]
   dsimp only
   rw [if_pos (c := atOk bs (a : Int) = true) ((atOk_iff _ _).2 ⟨hb, by omega, by omega⟩), stepF_bad]
   dsimp only
   rw [if_pos rfl, if_pos (hlim _)]
   exact hend a true _ ha
theorem fields_wrong (bs : List Int) (a : Int) (bad : Bool) : gen3_reader_fields.f BIG bs a bad true = some (true, bs, a, bad, []) := by
 unfold gen3_reader_fields.f gen3_reader_fields.b
 simp only [veil_eq]
 rw [form_wrong]
 dsimp only
 rw [big_eq]
 exact fields_end _ bs a bad true _ _ _ true a bad [] (Or.inl rfl)
theorem fields_good (bs : List Int) (a : Nat) (hb : inB bs = true) (ha : a ≤ bs.length) :
  match bagS bs a with
  | some (l, a2) => gen3_reader_fields.f BIG bs (a : Int) false false = some (false, bs, (a2 : Int), false, l)
  | none => ∃ (a' : Nat) (bad' : Bool) (l : LF), gen3_reader_fields.f BIG bs (a : Int) false false = some (true, bs, (a' : Int), bad', l) ∧ a' ≤ bs.length := by
 obtain ⟨hl, hc⟩ := (inB_iff bs).1 hb
 have hg := form_good bs a 32 hb (by decide) (by decide) ha
 unfold gen3_reader_fields.f gen3_reader_fields.b bagS
 simp only [veil_eq]
 cases ht : tk bs a 32 with
 | none =>
  rw [ht] at hg
  obtain ⟨a', bad, hg, h2⟩ := hg
  rw [hg]
  dsimp only
  refine ⟨a', bad, [], ?_, h2⟩
  rw [big_eq]
  exact fields_end _ bs a false false _ _ _ true a' bad [] (Or.inl rfl)
 | some p =>
  obtain ⟨w, a2⟩ := p
  rw [ht] at hg
  dsimp only at hg ⊢
  obtain ⟨e1, w0, w1, _, _, l1⟩ := tk_facts hc ht
  rw [hg]
  dsimp only
  have := fields_loop BIG bs hb a false false w.toNat (by omega) w.toNat BIG 0 a2 [] (by omega) (by rw [BIG_eq]; omega) l1 (by simp)
  rw [show ((w.toNat : Nat) : Int) = w from by omega] at this
  simpa using this
theorem flags_tab : (List.range 256).all (fun n => (bits BinOp.and .i64 (n : Int) 3 == (n : Int) % 4) && (((bits BinOp.and .i64 (n : Int) 4 != 0) == ((n : Int) / 4 % 2 == 1)) && (((bits BinOp.and .i64 (n : Int) 8 != 0) == ((n : Int) / 8 % 2 == 1)) && ((bits BinOp.and .i64 (n : Int) 16 != 0) == ((n : Int) / 16 % 2 == 1))))) = true := by kernel_rfl
theorem flags_at (v : Int) (h0 : 0 ≤ v) (h1 : v ≤ 255) : bits BinOp.and .i64 v 3 = v % 4 ∧ (bits BinOp.and .i64 v 4 != 0) = (v / 4 % 2 == 1) ∧ (bits BinOp.and .i64 v 8 != 0) = (v / 8 % 2 == 1) ∧ (bits BinOp.and .i64 v 16 != 0) = (v / 16 % 2 == 1) := by
 have := List.all_eq_true.1 flags_tab v.toNat (by simp; omega)
 rw [show ((v.toNat : Nat) : Int) = v from by omega] at this
 simp only [Bool.and_eq_true] at this
 obtain ⟨a, b, c, d⟩ := this
 exact ⟨by simpa using a, eq_of_beq b, eq_of_beq c, eq_of_beq d⟩
theorem xor64_zero (a : Int) (h0 : 0 ≤ a) (h1 : a < 9223372036854775808) : bits BinOp.xor .i64 a 0 = a := by
 have e : bits BinOp.xor .i64 a 0 = IntKind.wrap .i64 ((BitVec.ofInt 64 a ^^^ 0#64).toNat : Int) := rfl
 rw [e, BitVec.xor_zero, BitVec.toNat_ofInt, wrap_small]
 ·omega
 ·omega
 ·omega
theorem xor64_ones (a : Int) (h0 : 0 ≤ a) (h1 : a < 9223372036854775808) : bits BinOp.xor .i64 a (-1) = -a - 1 := by
 have e : bits BinOp.xor .i64 a (-1) = IntKind.wrap .i64 ((BitVec.ofInt 64 a ^^^ BitVec.ofInt 64 (-1)).toNat : Int) := rfl
 rw [e, show BitVec.ofInt 64 (-1) = BitVec.allOnes 64 from by decide +kernel, BitVec.xor_allOnes, BitVec.toNat_not, BitVec.toNat_ofInt, IntKind.wrap_i64]
 omega
theorem and64_one (z : Int) (h0 : 0 ≤ z) (h1 : z < 18446744073709551616) : bits BinOp.and .u64 z 1 = z % 2 := by
 obtain ⟨a, rfl⟩ := Int.eq_ofNat_of_zero_le h0
 have e : bits BinOp.and .u64 (a : Int) 1 = IntKind.wrap .u64 ((BitVec.ofInt 64 (a : Int) &&& 1#64).toNat : Int) := rfl
 rw [e, BitVec.toNat_and, BitVec.ofInt_natCast, BitVec.toNat_ofNat, Nat.mod_eq_of_lt (by omega), show (1#64 : BitVec 64).toNat = 1 from rfl, Nat.and_one_is_mod, wrapU64 _ (by omega) (by omega)]
 omega
theorem Zag.pure (z : Int) (h0 : 0 ≤ z) (h1 : z < 4611686018427387904) : varint_Zag.f BIG z = some (zagF z) := by
 unfold varint_Zag.f varint_Zag.b zagF
 rw [show ((2 : Int) ^ (Min.min (Int.toNat (1 : Int)) (IntKind.bits .u64))) = 2 from rfl, Int.fdiv_eq_ediv_of_nonneg _ (by omega), and64_one z h0 (by omega), wrap_small (z / 2) (by omega) (by omega), wrap_small (z % 2) (by omega) (by omega)]
 by_cases h : z % 2 = 0
 ·rw [if_pos h, h, show IntKind.wrap .i64 (0 - 0) = 0 from by decide, xor64_zero _ (by omega) (by omega)]
 ·rw [if_neg h, show z % 2 = 1 from by omega, show IntKind.wrap .i64 (0 - 1) = -1 from by decide, xor64_ones _ (by omega) (by omega)]
  congr 1
  omega
theorem one12_wrong (bs : List Int) (a0 : Int) (bad0 wr0 : Bool) (last : Int) (base : LR) (v : Int) (ok : Bool) (a : Int) (bad : Bool) (id st lo hi : Int) (cut : Bool) (oid oinc ost olo ohi : Int) (ocut : Bool) (obag : LF) :
  ∃ inc bag, gen3_reader_one.l12 BIG bs a0 bad0 wr0 last base BIG v ok true bs a bad id st lo hi cut oid oinc ost olo ohi ocut obag = some (id, inc, st, lo, hi, cut, bag, true, bs, a, bad) := by
 rw [gen3_reader_one.l12_at BIG BIG (BIG - 1) big_eq]
 unfold gen3_reader_one.b12
 simp only [veil_eq]
 rw [form_wrong]
 dsimp only
 obtain ⟨y, hy⟩ : ∃ y, varint_Zag.f BIG (IntKind.wrap .u64 0) = some y := ⟨_, rfl⟩
 rw [hy]
 dsimp only
 cases cut with
 | true => exact ⟨_, _, rfl⟩
 | false =>
  rw [if_neg (c := false = true) (by simp)]
  split
  ·exact ⟨_, _, rfl⟩
  ·rw [fields_wrong]
   exact ⟨_, _, rfl⟩
def OneBad (bs : List Int) (o : Option (Int × Int × Int × Int × Int × Bool × LF × Bool × List Int × Int × Bool)) : Prop :=
 ∃ id inc st lo hi cut bag, ∃ (a' : Nat) (bad' : Bool), o = some (id, inc, st, lo, hi, cut, bag, true, bs, (a' : Int), bad') ∧ a' ≤ bs.length
theorem one12_bad (bs : List Int) (a0 : Int) (bad0 wr0 : Bool) (last : Int) (base : LR) (v : Int) (ok : Bool) (a : Nat) (bad : Bool) (id st lo hi : Int) (cut : Bool) (oid oinc ost olo ohi : Int) (ocut : Bool) (obag : LF) (ha : a ≤ bs.length) :
  OneBad bs (gen3_reader_one.l12 BIG bs a0 bad0 wr0 last base BIG v ok true bs (a : Int) bad id st lo hi cut oid oinc ost olo ohi ocut obag) := by
 obtain ⟨inc, bag, h⟩ := one12_wrong bs a0 bad0 wr0 last base v ok a bad id st lo hi cut oid oinc ost olo ohi ocut obag
 exact ⟨id, inc, st, lo, hi, cut, bag, a, bad, h, ha⟩
theorem bag_small {b : LF} (h1 : b.length ≤ 32) (h2 : ∀ x ∈ b, x.2.length ≤ 4096) : smallBag b = true := (smallBag_iff _).2 ⟨by omega, fun x hx => by have := h2 x hx; omega⟩
theorem old_small {base : LR} (hbase : ∀ x ∈ base, recOkT x = true) (id : Int) : smallBag (oldR base id).1.2.2.2.2.2 = true := by
 rcases oldR_mem (base := base) (id := id) with ⟨_, h⟩ | ⟨_, h, _⟩
 ·rw [h]; all_goals rfl
 ·have := recOk_facts (hbase _ h)
  have hb2 := bagOk_len this.2.2.2.2.2.2.2.1
  exact bag_small hb2.1 (fun x hx => (bag_tags this.2.2.2.2.2.2.2.1 x hx).2.2)
theorem one12_good (bs : List Int) (hb : inB bs = true) (a0 : Int) (bad0 wr0 : Bool) (last : Int) (base : LR) (hbase : ∀ x ∈ base, recOkT x = true) (id0 : Int) (v : Int) (v0 : 0 ≤ v) (hv : flagBad (oldR base id0) v = false) (a : Nat) (ha : a ≤ bs.length) (id st lo hi oid ost olo ohi : Int) (ocut : Bool) :
  match (match tk bs a 562949953421310 with
   | none => none
   | some (z, a3) => match bagsS bs (oldR base id0) v a3 with
    | none => none
    | some (b, a4) => some ((oldR base id0).1.2.1 + zagF z, b, a4)) with
  | some (inc, b, a4) => gen3_reader_one.l12 BIG bs a0 bad0 wr0 last base BIG v (oldR base id0).2 false bs (a : Int) false id st lo hi (v / 4 % 2 == 1) oid (oldR base id0).1.2.1 ost olo ohi ocut (oldR base id0).1.2.2.2.2.2 = some (id, inc, st, lo, hi, (v / 4 % 2 == 1), b, false, bs, (a4 : Int), false)
  | none => OneBad bs (gen3_reader_one.l12 BIG bs a0 bad0 wr0 last base BIG v (oldR base id0).2 false bs (a : Int) false id st lo hi (v / 4 % 2 == 1) oid (oldR base id0).1.2.1 ost olo ohi ocut (oldR base id0).1.2.2.2.2.2) := by
 obtain ⟨hl, hc⟩ := (inB_iff bs).1 hb
 obtain ⟨f1, f2, f3⟩ := flagBad_no hv
 obtain ⟨o0, o1⟩ := old_inc hbase id0
 have hos := old_small hbase id0
 obtain ⟨_, _, _, b16⟩ := flags_at v v0 (by omega)
 have hg := form_good bs a 562949953421310 hb (by decide) (by decide) ha
 rw [gen3_reader_one.l12_at BIG BIG (BIG - 1) big_eq]
 unfold gen3_reader_one.b12
 simp only [veil_eq]
 generalize oldR base id0 = o at *
 cases ht : tk bs a 562949953421310 with
 | none =>
  rw [ht] at hg
  obtain ⟨a', bad, hg, h2⟩ := hg
  rw [hg]
  dsimp only
  obtain ⟨y, hy⟩ : ∃ y, varint_Zag.f BIG (IntKind.wrap .u64 0) = some y := ⟨_, rfl⟩
  rw [hy]
  dsimp only
  cases (v / 4 % 2 == 1) with
  | true => exact ⟨_, _, _, _, _, _, _, a', bad, rfl, h2⟩
  | false =>
   rw [if_neg (c := false = true) (by simp)]
   split
   ·exact ⟨_, _, _, _, _, _, _, a', bad, rfl, h2⟩
   ·rw [fields_wrong]
    exact ⟨_, _, _, _, _, _, _, a', bad, rfl, h2⟩
 | some p =>
  obtain ⟨z, a3⟩ := p
  rw [ht] at hg
  dsimp only at hg ⊢
  obtain ⟨e1, z0, z1, _, _, l3⟩ := tk_facts hc ht
  have hz : -300000000000000 ≤ zagF z ∧ zagF z ≤ 300000000000000 := by unfold zagF; split <;> omega
  rw [hg]
  dsimp only
  rw [wrapU64 z z0 (by omega), Zag.pure z z0 (by omega)]
  dsimp only
  rw [wrap_small _ (by omega) (by omega), b16]
  unfold bagsS
  by_cases h4 : v / 4 % 2 = 1
  ·rw [if_pos h4]
   have e4 : (v / 4 % 2 == 1) = true := by simpa using h4
   rw [e4]
   all_goals rfl
  ·rw [if_neg h4]
   have e4 : (v / 4 % 2 == 1) = false := by simpa using h4
   rw [e4, if_neg (c := false = true) (by simp)]
   by_cases h16 : 16 ≤ v
   ·rw [if_pos h16, if_pos (c := (v / 16 % 2 == 1) = true) (by simp; omega)]
   ·rw [if_neg h16, if_neg (c := (v / 16 % 2 == 1) = true) (by simp; omega)]
    have hf := fields_good bs a3 hb l3
    cases hbg : bagS bs a3 with
    | none =>
     rw [hbg] at hf
     obtain ⟨a', bad', l, hf, h2⟩ := hf
     rw [hf]
     exact ⟨_, _, _, _, _, _, _, a', bad', rfl, h2⟩
    | some q =>
     obtain ⟨b, a4⟩ := q
     rw [hbg] at hf
     dsimp only at hf ⊢
     rw [hf]
     dsimp only
     obtain ⟨_, l4, n4, s4⟩ := bagS_sound hc hbg
     rw [if_neg (c := false = true) (by simp)]
     cases ho : o.2 with
     | false =>
      rw [if_neg (c := false = true) (by simp)]
      simp
     | true =>
      cases hcm : cmpGo b o.1.2.2.2.2.2 == 0 with
      | true =>
       simp only [bag_small n4 s4, hos, Bool.and_self, if_true]
       exact ⟨_, _, _, _, _, _, _, a4, false, rfl, l4⟩
      | false =>
       simp only [bag_small n4 s4, hos, Bool.and_self, Bool.and_false, if_true, Bool.false_eq_true, if_false]
theorem one8_bad (bs : List Int) (a0 : Int) (bad0 wr0 : Bool) (last : Int) (base : LR) (v : Int) (ok : Bool) (a : Nat) (bad : Bool) (id st : Int) (cut : Bool) (oid oinc ost olo ohi : Int) (ocut : Bool) (obag : LF) (hb : inB bs = true) (ha : a ≤ bs.length) (wr : Bool) (hw : wr = true ∨ (bad = true ∧ v = 0)) :
  OneBad bs (gen3_reader_one.l8 BIG bs a0 bad0 wr0 last base BIG v ok wr bs (a : Int) bad id st cut oid oinc ost olo ohi ocut obag) := by
 rw [gen3_reader_one.l8_at BIG BIG (BIG - 1) big_eq]
 unfold gen3_reader_one.b8
 simp only [veil_eq]
 by_cases h8 : (bits BinOp.and .i64 v 8 != 0) = true
 ·rw [if_pos h8]
  rcases hw with rfl | ⟨_, rfl⟩
  ·exact one12_bad bs a0 bad0 wr0 last base v ok a bad id st _ _ cut oid oinc ost olo ohi ocut obag ha
  ·exact absurd h8 (by decide)
 ·rw [if_neg h8]
  have hr : Rel bs none wr (a : Int) bad := ⟨⟨a, rfl, ha⟩, by
   rcases hw with h | h
   ·exact Or.inl h
   ·exact Or.inr h.1⟩
  obtain ⟨lo, hi, wr', a', bad', e1, r1, _⟩ := span_rel hb hr
  rw [e1]
  dsimp only
  obtain ⟨⟨n, rfl, hn⟩, hor⟩ := r1
  have hwr : wr' = true := by
   -- a span that is not read is wrong
   have := e1
   unfold gen3_reader_span.f gen3_reader_span.b at this
   simp only [veil_eq] at this
   rw [if_pos ((atOk_iff _ _).2 ⟨hb, by omega, by omega⟩)] at this
   rcases hw with rfl | ⟨rfl, _⟩
   ·have := (Option.some.inj this)
    simp only [Prod.mk.injEq] at this
    rw [← this.2.2.1]
   ·rw [readF_bad] at this
    cases wr with
    | true =>
     have := (Option.some.inj this)
     simp only [Prod.mk.injEq] at this
     rw [← this.2.2.1]
    | false =>
     rw [if_neg (by simp)] at this
     have := (Option.some.inj this)
     simp only [Prod.mk.injEq] at this
     rw [← this.2.2.1, ofGo_ok3 0 (by omega) (by omega)]
     all_goals rfl
  subst hwr
  rw [if_pos rfl]
  exact one12_bad bs a0 bad0 wr0 last base v ok n bad' id st _ _ cut oid oinc ost olo ohi ocut obag hn
theorem span_good (bs : List Int) (a : Nat) (hb : inB bs = true) (ha : a ≤ bs.length) :
  match bs[a]? with
  | none => ∃ lo hi bad, gen3_reader_span.f BIG bs (a : Int) false false = some (lo, hi, true, bs, (a : Int), bad)
  | some c => if okS (c / 16) (c % 16) = true then gen3_reader_span.f BIG bs (a : Int) false false = some (c / 16, c % 16, false, bs, ((a + 1 : Nat) : Int), false)
   else ∃ lo hi, gen3_reader_span.f BIG bs (a : Int) false false = some (lo, hi, true, bs, ((a + 1 : Nat) : Int), false) := by
 obtain ⟨hl, hc⟩ := (inB_iff bs).1 hb
 unfold gen3_reader_span.f gen3_reader_span.b
 simp only [veil_eq]
 rw [if_pos ((atOk_iff _ _).2 ⟨hb, by omega, by omega⟩)]
 by_cases hlt : a < bs.length
 ·rw [readF_one bs a hlt, List.getElem?_eq_getElem hlt]
  dsimp only
  obtain ⟨c0, c1⟩ := hc _ (List.getElem_mem hlt)
  have ht := ofGo_ok3 _ c0 c1
  have hd := ofGo_div _ c0 c1
  generalize bs[a] = c at c0 c1 ht hd ⊢
  rw [if_neg (c := false = true) (by simp), ht]
  cases ho : okS (c / 16) (c % 16) with
  | true => rw [if_pos rfl, hd.1 ho]; all_goals rfl
  | false => rw [if_neg (c := false = true) (by simp)]; exact ⟨_, _, rfl⟩
 ·rw [readF_end bs a (by omega), List.getElem?_eq_none (by omega)]
  dsimp only
  rw [if_neg (c := false = true) (by simp), ofGo_ok3 0 (by omega) (by omega)]
  exact ⟨_, _, _, rfl⟩
theorem one8_good (bs : List Int) (hb : inB bs = true) (a0 : Int) (bad0 wr0 : Bool) (last : Int) (base : LR) (o : REC × Bool) (v : Int) (v0 : 0 ≤ v) (v1 : v ≤ 255) (a : Nat) (ha : a ≤ bs.length) (id st : Int) (cut : Bool) :
  match spanS bs o v a with
  | some (sp, a2) => gen3_reader_one.l8 BIG bs a0 bad0 wr0 last base BIG v o.2 false bs (a : Int) false id st cut o.1.1 o.1.2.1 o.1.2.2.1 o.1.2.2.2.1.1 o.1.2.2.2.1.2 o.1.2.2.2.2.1 o.1.2.2.2.2.2 =
    gen3_reader_one.l12 BIG bs a0 bad0 wr0 last base BIG v o.2 false bs (a2 : Int) false id st sp.1 sp.2 cut o.1.1 o.1.2.1 o.1.2.2.1 o.1.2.2.2.1.1 o.1.2.2.2.1.2 o.1.2.2.2.2.1 o.1.2.2.2.2.2 ∧ a2 ≤ bs.length
  | none => OneBad bs (gen3_reader_one.l8 BIG bs a0 bad0 wr0 last base BIG v o.2 false bs (a : Int) false id st cut o.1.1 o.1.2.1 o.1.2.2.1 o.1.2.2.2.1.1 o.1.2.2.2.1.2 o.1.2.2.2.2.1 o.1.2.2.2.2.2) := by
 obtain ⟨_, _, b8, _⟩ := flags_at v v0 v1
 have hs := span_good bs a hb ha
 rw [gen3_reader_one.l8_at BIG BIG (BIG - 1) big_eq]
 unfold gen3_reader_one.b8 spanS
 simp only [veil_eq]
 rw [b8]
 by_cases h8 : v / 8 % 2 = 1
 ·rw [if_pos h8, if_pos (c := (v / 8 % 2 == 1) = true) (by simpa using h8)]
  exact ⟨rfl, ha⟩
 ·rw [if_neg h8, if_neg (c := (v / 8 % 2 == 1) = true) (by simpa using h8)]
  cases hc : bs[a]? with
  | none =>
   rw [hc] at hs
   obtain ⟨lo, hi, bad, hs⟩ := hs
   rw [hs]
   dsimp only
   rw [if_pos rfl]
   exact one12_bad bs a0 bad0 wr0 last base v _ a bad id st _ _ cut _ _ _ _ _ _ _ ha
  | some c =>
   rw [hc] at hs
   dsimp only at hs ⊢
   have hlt := (get_drop hc).2
   cases ho : okS (c / 16) (c % 16) with
   | false =>
    rw [ho, if_neg (by simp)] at hs
    obtain ⟨lo, hi, hs⟩ := hs
    rw [hs]
    dsimp only
    rw [if_pos (c := true = true) rfl, if_neg (by simp)]
    exact one12_bad bs a0 bad0 wr0 last base v _ (a + 1) false id st _ _ cut _ _ _ _ _ _ _ hlt
   | true =>
    rw [ho, if_pos rfl] at hs
    rw [hs]
    dsimp only
    rw [if_neg (c := false = true) (by simp)]
    cases h2 : o.2 with
    | false =>
     simp only [Bool.false_and, and_self, if_true, Bool.false_eq_true, if_false]
     first | exact hlt | exact ⟨rfl, hlt⟩ | exact ⟨trivial, hlt⟩
    | true =>
     rw [if_pos (c := true = true) rfl]
     cases h3 : (c / 16 == o.1.2.2.2.1.1) <;> cases h4 : (c % 16 == o.1.2.2.2.1.2) <;> simp only [Bool.true_and, Bool.and_self, Bool.and_true, Bool.and_false, Bool.false_eq_true, and_self, and_false, true_and, Bool.true_eq_false, if_true, if_false]
     ·first | exact hlt | exact ⟨rfl, hlt⟩ | exact ⟨trivial, hlt⟩
     ·first | exact hlt | exact ⟨rfl, hlt⟩ | exact ⟨trivial, hlt⟩
     ·first | exact hlt | exact ⟨rfl, hlt⟩ | exact ⟨trivial, hlt⟩
     ·exact one12_bad bs a0 bad0 wr0 last base v _ (a + 1) false id st _ _ cut _ _ _ _ _ _ _ hlt
theorem flag_ite {α : Type} (o : REC × Bool) (v : Int) (B E : α) : (if decide (v ≥ 32) = true then B else if (!o.2) = true then (if decide (v ≥ 8) = true then B else if (v / 4 % 2 == 1) = true then (if decide (v ≥ 16) = true then B else E) else E) else (if (v / 4 % 2 == 1) = true then (if decide (v ≥ 16) = true then B else E) else E)) = if flagBad o v = true then B else E := by
 unfold flagBad
 have e1 : (v / 4 % 2 == 1) = decide (v / 4 % 2 = 1) := rfl
 rw [e1]
 have g32 : decide (v ≥ 32) = decide (32 ≤ v) := rfl
 have g8 : decide (v ≥ 8) = decide (8 ≤ v) := rfl
 have g16 : decide (v ≥ 16) = decide (16 ≤ v) := rfl
 rw [g32, g8, g16]
 generalize decide (32 ≤ v) = p
 generalize decide (8 ≤ v) = q
 generalize decide (16 ≤ v) = s
 generalize decide (v / 4 % 2 = 1) = t
 generalize o.2 = u
 cases p <;> cases q <;> cases s <;> cases t <;> cases u <;> rfl
theorem one_good (bs : List Int) (hb : inB bs = true) (last : Int) (h1 : -1 ≤ last) (h2 : last ≤ 100000000) (base : LR) (hbase : ∀ x ∈ base, recOkT x = true) (hbn : base.length < 1000000000) (a : Nat) (ha : a ≤ bs.length) :
  match recS bs base last a with
  | some (r, a2) => gen3_reader_one.f BIG bs (a : Int) false false last base = some (r.1, r.2.1, r.2.2.1, r.2.2.2.1.1, r.2.2.2.1.2, r.2.2.2.2.1, r.2.2.2.2.2, false, bs, (a2 : Int), false)
  | none => OneBad bs (gen3_reader_one.f BIG bs (a : Int) false false last base) := by
 obtain ⟨hl, hc⟩ := (inB_iff bs).1 hb
 have hg := form_good bs a 4095 hb (by decide) (by decide) ha
 have hfine := fine_of hbase hbn
 unfold gen3_reader_one.f gen3_reader_one.b recS
 simp only [veil_eq]
 cases ht : tk bs a 4095 with
 | none =>
  rw [ht] at hg
  obtain ⟨a', bad, hg, l1⟩ := hg
  rw [hg]
  dsimp only
  have hat : atOk bs (a' : Int) = true := (atOk_iff _ _).2 ⟨hb, by omega, by omega⟩
  have hr := (atOk_iff _ _).1 (readF_at bs 1 (a' : Int) bad hat)
  obtain ⟨m, hm1, hm2⟩ : ∃ m : Nat, (readF bs 1 (a' : Int) bad).2.1 = (m : Int) ∧ m ≤ bs.length := ⟨(readF bs 1 (a' : Int) bad).2.1.toNat, by omega, by omega⟩
  rw [if_pos (c := atOk bs (a' : Int) = true) hat, Find.pure base _ hfine, hm1]
  dsimp only
  repeat' split
  all_goals first
   | exact ⟨_, _, _, _, _, _, _, m, _, rfl, hm2⟩
   | exact one8_bad bs a false false last base _ _ m _ _ _ _ _ _ _ _ _ _ _ hb hm2 true (Or.inl rfl)
 | some p =>
  obtain ⟨d, a1⟩ := p
  rw [ht] at hg
  dsimp only at hg ⊢
  obtain ⟨_, d0, d1, _, _, l1⟩ := tk_facts hc ht
  rw [hg]
  dsimp only
  have hid : IntKind.wrap .i64 (IntKind.wrap .i64 (last + 1) + d) = last + 1 + d := by rw [wrap_small (last + 1) (by omega) (by omega), wrap_small _ (by omega) (by omega)]
  rw [if_pos (c := atOk bs (a1 : Int) = true) ((atOk_iff _ _).2 ⟨hb, by omega, by omega⟩), hid, Find.pure base _ hfine]
  dsimp only
  by_cases hlt : a1 < bs.length
  ·rw [readF_one bs a1 hlt, List.getElem?_eq_getElem hlt]
   dsimp only
   obtain ⟨c0, c1⟩ := hc _ (List.getElem_mem hlt)
   generalize bs[a1] = v at c0 c1 ⊢
   obtain ⟨b3, b4, _, _⟩ := flags_at v c0 c1
   rw [b3, b4, flag_ite]
   cases hf : flagBad (oldR base (last + 1 + d)) v with
   | true =>
    rw [if_pos rfl, if_pos rfl]
    exact ⟨_, _, _, _, _, _, _, a1 + 1, _, rfl, hlt⟩
   | false =>
    rw [if_neg (c := false = true) (by simp), if_neg (c := false = true) (by simp)]
    have h8 := one8_good bs hb a false false last base (oldR base (last + 1 + d)) v c0 c1 (a1 + 1) hlt (last + 1 + d) (v % 4) (v / 4 % 2 == 1)
    cases hs : spanS bs (oldR base (last + 1 + d)) v (a1 + 1) with
    | none =>
     rw [hs] at h8
     exact h8
    | some q =>
     obtain ⟨sp, a2⟩ := q
     rw [hs] at h8
     dsimp only at h8 ⊢
     rw [h8.1]
     have h12 := one12_good bs hb a false false last base hbase (last + 1 + d) v c0 hf a2 h8.2 (last + 1 + d) (v % 4) sp.1 sp.2 (oldR base (last + 1 + d)).1.1 (oldR base (last + 1 + d)).1.2.2.1 (oldR base (last + 1 + d)).1.2.2.2.1.1 (oldR base (last + 1 + d)).1.2.2.2.1.2 (oldR base (last + 1 + d)).1.2.2.2.2.1
     revert h12
     cases tk bs a2 562949953421310 with
     | none => intro h12; exact h12
     | some w =>
      obtain ⟨z, a3⟩ := w
      dsimp only
      cases bagsS bs (oldR base (last + 1 + d)) v a3 with
      | none => intro h12; exact h12
      | some u =>
       obtain ⟨b, a4⟩ := u
       intro h12
       exact h12
  ·rw [readF_end bs a1 (by omega), List.getElem?_eq_none (by omega)]
   dsimp only
   rw [show (bits BinOp.and .i64 0 4 != 0) = ((0 : Int) / 4 % 2 == 1) from by decide, flag_ite]
   split
   ·exact ⟨_, _, _, _, _, _, _, a1, _, rfl, l1⟩
   ·exact one8_bad bs a false false last base 0 _ a1 true _ _ _ _ _ _ _ _ _ _ hb l1 false (Or.inr ⟨rfl, rfl⟩)
theorem recS_small {bs : List Int} (hb : ∀ c ∈ bs, 0 ≤ c ∧ c ≤ 255) {base : LR} (hbase : ∀ x ∈ base, recOkT x = true) {last : Int} {a : Nat} {r : REC} {a2 : Nat} (h : recS bs base last a = some (r, a2)) : smallBag r.2.2.2.2.2 = true := by
 unfold recS at h
 cases ht : tk bs a 4095 with
 | none => rw [ht] at h; cases h
 | some p =>
  obtain ⟨d, a1⟩ := p
  rw [ht] at h
  dsimp only at h
  cases hc : bs[a1]? with
  | none => rw [hc] at h; cases h
  | some v =>
   rw [hc] at h
   dsimp only at h
   cases hf : flagBad (oldR base (last + 1 + d)) v with
   | true => rw [hf] at h; cases h
   | false =>
    rw [hf, if_neg (by simp)] at h
    cases hs : spanS bs (oldR base (last + 1 + d)) v (a1 + 1) with
    | none => rw [hs] at h; cases h
    | some q =>
     rw [hs] at h
     dsimp only at h
     cases hz : tk bs q.2 562949953421310 with
     | none => rw [hz] at h; cases h
     | some w =>
      rw [hz] at h
      dsimp only at h
      cases hg : bagsS bs (oldR base (last + 1 + d)) v w.2 with
      | none => rw [hg] at h; cases h
      | some u =>
       rw [hg] at h
       cases h
       unfold bagsS at hg
       dsimp only
       split at hg
       ·cases hg; rfl
       ·split at hg
        ·cases hg; exact old_small hbase _
        ·cases hk : bagS bs w.2 with
         | none => rw [hk] at hg; cases hg
         | some y =>
          rw [hk] at hg
          dsimp only at hg
          split at hg
          ·cases hg
          ·cases hg
           obtain ⟨_, _, n4, s4⟩ := bagS_sound hb (l := y.1) (a2 := y.2) hk
           exact bag_small n4 s4
abbrev HDR := Int × Int × Int × Int × Int × Int × Int × Int × Int × Int × Bool × List Int × Int × Bool
def finCR (k f i lo hi s t l e b : Int) (wr : Bool) (bs : List Int) (a : Int) (bad : Bool) : Option HDR :=
 if bad then some (k, f, i, lo, hi, s, t, l, e, b, true, bs, a, bad)
 else if (!(validF k f i lo hi s t l e b [])) then some (k, f, i, lo, hi, s, t, l, e, b, true, bs, a, bad)
 else some (k, f, i, lo, hi, s, t, l, e, b, wr, bs, a, bad)
def headCR (bs : List Int) (at0 : Int) (bad wrong : Bool) : Option HDR :=
 if atOk bs at0 then
  optC true 4095 wrong bs (readF bs 1 at0 bad).2.1 (readF bs 1 at0 bad).2.2 fun f w b1 a1 d1 =>
  optC true 281474976710655 w b1 a1 d1 fun i w b2 a2 d2 =>
  match gen3_reader_span.f BIG b2 a2 d2 w with
  | none => none
  | some y =>
   optC (hasF (readF bs 1 at0 bad).1 0) 65535 y.2.2.1 y.2.2.2.1 y.2.2.2.2.1 y.2.2.2.2.2 fun s w b3 a3 d3 =>
   optC (hasF (readF bs 1 at0 bad).1 1) 4095 w b3 a3 d3 fun t w b4 a4 d4 =>
   optC (hasF (readF bs 1 at0 bad).1 2) 281474976710655 w b4 a4 d4 fun l w b5 a5 d5 =>
   optC (hasF (readF bs 1 at0 bad).1 2) 65535 w b5 a5 d5 fun e w b6 a6 d6 =>
   optC (hasF (readF bs 1 at0 bad).1 3) 65535 w b6 a6 d6 fun b w b7 a7 d7 =>
   finCR (readF bs 1 at0 bad).1 f i y.1 y.2.1 s t l e b w b7 a7 d7
 else none
theorem headR_eq (bs : List Int) (at0 : Int) (bad wrong : Bool) : gen3_reader_headR.f BIG bs at0 bad wrong = headCR bs at0 bad wrong := by
 unfold gen3_reader_headR.f gen3_reader_headR.b headCR optC finCR
 simp only [veil_eq]
 generalize hasF (readF bs 1 at0 bad).1 0 = h0
 generalize hasF (readF bs 1 at0 bad).1 1 = h1
 generalize hasF (readF bs 1 at0 bad).1 2 = h2
 generalize hasF (readF bs 1 at0 bad).1 3 = h3
 cases h0 <;> cases h1 <;> cases h2 <;> cases h3 <;> rfl
theorem headR.pure (bs : List Int) (hb : inB bs = true) :
  match hdS bs with
  | some (k, f, i, lo, hi, s, t, l, e, b, a) => gen3_reader_headR.f BIG bs 0 false false = some (k, f, i, lo, hi, s, t, l, e, b, false, bs, (a : Int), false) ∧ a ≤ bs.length ∧ validF k f i lo hi s t l e b [] = true
  | none => ∃ k f i lo hi s t l e b a bad, gen3_reader_headR.f BIG bs 0 false false = some (k, f, i, lo, hi, s, t, l, e, b, true, bs, a, bad) := by
 rw [headR_eq]
 unfold headCR
 rw [if_pos ((atOk_iff _ _).2 ⟨hb, by omega, by omega⟩)]
 have h0 : (readF bs 1 0 false).1 = hdK bs ∧ Rel bs (hdSt bs) false (readF bs 1 0 false).2.1 (readF bs 1 0 false).2.2 := by
  unfold hdK hdSt
  by_cases h : 0 < bs.length
  ·rw [if_pos h, show (0 : Int) = ((0 : Nat) : Int) from rfl, readF_one bs 0 h]
   refine ⟨?_, ⟨1, rfl, h⟩, rfl, rfl, rfl⟩
   simp [List.getD, List.getElem?_eq_getElem h]
  ·rw [if_neg h, show (0 : Int) = ((0 : Nat) : Int) from rfl, readF_end bs 0 (by omega)]
   refine ⟨?_, ⟨0, rfl, by omega⟩, Or.inr rfl⟩
   simp [List.getD, List.getElem?_eq_none (show bs.length ≤ 0 by omega)]
 obtain ⟨e0, r0⟩ := h0
 rw [e0]
 obtain ⟨w1, a1, d1, e1, r1⟩ := optC_rel hb r0 true 4095 (by decide) (by decide) _
 rw [e1]
 obtain ⟨w2, a2, d2, e2, r2⟩ := optC_rel hb r1 true 281474976710655 (by decide) (by decide) _
 rw [e2]
 obtain ⟨lo, hi, w3, a3, d3, e3, r3, q3⟩ := span_rel hb r2
 rw [e3]
 dsimp only
 obtain ⟨w4, a4, d4, e4, r4⟩ := optC_rel hb r3 (hasF (hdK bs) 0) 65535 (by decide) (by decide) _
 rw [e4]
 obtain ⟨w5, a5, d5, e5, r5⟩ := optC_rel hb r4 (hasF (hdK bs) 1) 4095 (by decide) (by decide) _
 rw [e5]
 obtain ⟨w6, a6, d6, e6, r6⟩ := optC_rel hb r5 (hasF (hdK bs) 2) 281474976710655 (by decide) (by decide) _
 rw [e6]
 obtain ⟨w7, a7, d7, e7, r7⟩ := optC_rel hb r6 (hasF (hdK bs) 2) 65535 (by decide) (by decide) _
 rw [e7]
 obtain ⟨w8, a8, d8, e8, r8⟩ := optC_rel hb r7 (hasF (hdK bs) 3) 65535 (by decide) (by decide) _
 rw [e8]
 have hs : (optS bs (hasF (hdK bs) 3) (optS bs (hasF (hdK bs) 2) (optS bs (hasF (hdK bs) 2) (optS bs (hasF (hdK bs) 1) (optS bs (hasF (hdK bs) 0) (spS bs (optS bs true (optS bs true (hdSt bs) 4095).2 281474976710655).2).2.2 65535).2 4095).2 281474976710655).2 65535).2 65535).2 ≠ none → lo = (spS bs (optS bs true (optS bs true (hdSt bs) 4095).2 281474976710655).2).1 ∧ hi = (spS bs (optS bs true (optS bs true (hdSt bs) 4095).2 281474976710655).2).2.1 :=
  fun h => q3 (optS_none (optS_none (optS_none (optS_none (optS_none h)))))
 unfold hdS finCR
 dsimp only
 generalize optS bs (hasF (hdK bs) 3) _ 65535 = B at r8 hs ⊢
 obtain ⟨b, st⟩ := B
 dsimp only at r8 hs ⊢
 obtain ⟨⟨n, rfl, hn⟩, r8⟩ := r8
 cases st with
 | none =>
  dsimp only at r8 ⊢
  cases d8 with
  | true => exact ⟨_, _, _, _, _, _, _, _, _, _, _, _, rfl⟩
  | false =>
   obtain rfl : w8 = true := by rcases r8 with h | h; exact h; cases h
   rw [if_neg (by simp)]
   split <;> exact ⟨_, _, _, _, _, _, _, _, _, _, _, _, rfl⟩
 | some m =>
  obtain ⟨rfl, rfl, e⟩ := r8
  obtain ⟨rfl, rfl⟩ := hs (by simp)
  obtain rfl : n = m := by omega
  dsimp only
  rw [if_neg (c := false = true) (by simp)]
  by_cases hv : validF (hdK bs) (optS bs true (hdSt bs) 4095).1 (optS bs true (optS bs true (hdSt bs) 4095).2 281474976710655).1 (spS bs (optS bs true (optS bs true (hdSt bs) 4095).2 281474976710655).2).1 (spS bs (optS bs true (optS bs true (hdSt bs) 4095).2 281474976710655).2).2.1 (optS bs (hasF (hdK bs) 0) (spS bs (optS bs true (optS bs true (hdSt bs) 4095).2 281474976710655).2).2.2 65535).1 (optS bs (hasF (hdK bs) 1) (optS bs (hasF (hdK bs) 0) (spS bs (optS bs true (optS bs true (hdSt bs) 4095).2 281474976710655).2).2.2 65535).2 4095).1 (optS bs (hasF (hdK bs) 2) (optS bs (hasF (hdK bs) 1) (optS bs (hasF (hdK bs) 0) (spS bs (optS bs true (optS bs true (hdSt bs) 4095).2 281474976710655).2).2.2 65535).2 4095).2 281474976710655).1 (optS bs (hasF (hdK bs) 2) (optS bs (hasF (hdK bs) 2) (optS bs (hasF (hdK bs) 1) (optS bs (hasF (hdK bs) 0) (spS bs (optS bs true (optS bs true (hdSt bs) 4095).2 281474976710655).2).2.2 65535).2 4095).2 281474976710655).2 65535).1 b [] = true
  ·rw [if_pos hv, if_neg (by rw [Bool.not_eq_true, Bool.not_eq_false']; exact hv)]
   exact ⟨rfl, hn, hv⟩
  ·rw [if_neg hv, if_pos (by simpa using hv)]
   exact ⟨_, _, _, _, _, _, _, _, _, _, _, _, rfl⟩
def endM (b : List Int) (k f i lo hi s t l e bb : Int) (recs : LR) (a : Nat) : M12 :=
 if a = b.length ∧ b.length ≤ 65499 ∧ validF k f i lo hi s t l e bb recs = true then (k, f, i, lo, hi, s, t, l, e, bb, recs, 0) else z12 4
theorem dec_end (fuel : Nat) (b : List Int) (base : LR) (hb : inB b = true) (k : Nat) (bs2 : LR) (n last i : Int) (a : Nat) (ha : a ≤ b.length) (hi : ¬ i < n) (kk f ii lo hi' s t l e bb : Int) (recs : LR) (hr : smallRecs recs = true) :
  gen3_Decode.l11 fuel b base (k + 1) bs2 n last i false b (a : Int) false kk f ii lo hi' s t l e bb recs = some (endM b kk f ii lo hi' s t l e bb recs a) := by
 rw [gen3_Decode.l11]
 unfold gen3_Decode.b11 endM
 rw [if_neg (c := decide (i < n) = true) (by simpa using hi), if_neg (c := false = true) (by simp), if_pos (c := atOk b (a : Int) = true) ((atOk_iff _ _).2 ⟨hb, by omega, by omega⟩)]
 unfold leftF
 rw [if_neg (c := false = true) (by simp), hr, if_pos (c := true = true) rfl]
 by_cases h1 : a = b.length
 ·rw [if_neg (c := (!(!false && ((b.length : Int) - (a : Int) == 0))) = true) (by simp; omega)]
  by_cases h2 : b.length ≤ 65499
  ·rw [if_neg (c := decide ((b.length : Int) > 65499) = true) (by simp; omega)]
   cases hv : validF kk f ii lo hi' s t l e bb recs with
   | true => rw [if_neg (c := (!true) = true) (by simp), if_pos ⟨h1, h2, rfl⟩]
   | false => rw [if_pos (c := (!false) = true) rfl, if_neg (by simp)]; all_goals rfl
  ·rw [if_pos (c := decide ((b.length : Int) > 65499) = true) (by simp; omega), if_neg (by omega)]; all_goals rfl
 ·rw [if_pos (c := (!(!false && ((b.length : Int) - (a : Int) == 0))) = true) (by simp; omega), if_neg (fun h => h1 h.1)]; all_goals rfl
theorem dec_wrong (fuel : Nat) (b : List Int) (base : LR) (k : Nat) (bs2 : LR) (n last i : Int) (bs : List Int) (a : Int) (bad : Bool) (kk f ii lo hi' s t l e bb : Int) (recs : LR) :
  gen3_Decode.l11 fuel b base (k + 1) bs2 n last i true bs a bad kk f ii lo hi' s t l e bb recs = some (z12 4) := by
 rw [gen3_Decode.l11]
 unfold gen3_Decode.b11
 by_cases h : i < n
 ·rw [if_pos (c := decide (i < n) = true) (by simpa using h)]; all_goals rfl
 ·rw [if_neg (c := decide (i < n) = true) (by simpa using h)]; all_goals rfl
theorem dec_loop (fuel : Nat) (b : List Int) (base : LR) (hb : inB b = true) (bs2 : LR) (hbase : ∀ x ∈ bs2, recOkT x = true) (hbn : bs2.length < 1000000000) (n : Nat) (hn : n ≤ 255) (kk f ii lo hi s t l e bb : Int) : ∀ (m k i : Nat) (last : Int) (a : Nat) (out : LR), i + m = n → m < k → -1 ≤ last → last ≤ 4096 * (i : Int) → a ≤ b.length → out.length ≤ i → (∀ r ∈ out, smallBag r.2.2.2.2.2 = true) →
  gen3_Decode.l11 fuel b base k bs2 (n : Int) last (i : Int) false b (a : Int) false kk f ii lo hi s t l e bb out = some (match recsS b bs2 m last a with
   | none => z12 4
   | some (rs, a2) => endM b kk f ii lo hi s t l e bb (out ++ rs) a2) := by
 obtain ⟨hl, hc⟩ := (inB_iff b).1 hb
 intro m
 induction m with
 | zero =>
  intro k i last a out hi' hk h1 h2 ha ho hs
  obtain ⟨k, rfl⟩ : ∃ k', k = k' + 1 := ⟨k - 1, by omega⟩
  rw [dec_end fuel b base hb k bs2 _ _ _ a ha (by omega) _ _ _ _ _ _ _ _ _ _ out ((smallRecs_iff _).2 ⟨by omega, hs⟩), recsS]
  dsimp only
  rw [List.append_nil]
 | succ m ih =>
  intro k i last a out hi' hk h1 h2 ha ho hs
  obtain ⟨k, rfl⟩ : ∃ k', k = k' + 2 := ⟨k - 2, by omega⟩
  have h3 := one_good b hb last h1 (by omega) bs2 hbase hbn a ha
  rw [show k + 2 = (k + 1) + 1 from rfl, gen3_Decode.l11, recsS]
  unfold gen3_Decode.b11
  simp only [veil_eq]
  rw [if_pos (c := decide ((i : Int) < (n : Int)) = true) (by simp; omega), if_pos (c := (!false) = true) rfl]
  have hw : IntKind.wrap .i64 ((i : Int) + 1) = ((i + 1 : Nat) : Int) := by rw [wrap_small _ (by omega) (by omega)]; omega
  have hlim : ∀ x : REC, (out.length + ([x] : LR).length) * 72 ≤ lim := fun x => by simp [lim]; omega
  cases hr : recS b bs2 last a with
  | none =>
   rw [hr] at h3
   obtain ⟨id, inc, st, l1, l2, cut, bag, a', bad', h3, h4⟩ := h3
   rw [h3]
   dsimp only
   rw [if_pos (hlim _)]
   exact dec_wrong fuel b base k bs2 _ _ _ _ _ _ _ _ _ _ _ _ _ _ _ _ _
  | some p =>
   obtain ⟨r, a2⟩ := p
   rw [hr] at h3
   dsimp only at h3 ⊢
   obtain ⟨_, l2, g1, g2⟩ := recS_sound hc hr
   have hsm := recS_small hc hbase hr
   rw [h3]
   dsimp only
   rw [if_pos (hlim _), hw, ih (k + 1) (i + 1) r.1 a2 (out ++ [r]) (by omega) (by omega) (by omega) (by omega) l2 (by simp; omega) (fun x hx => by
    rcases List.mem_append.1 hx with h | h
    ·exact hs x h
    ·rw [List.mem_singleton.1 h]; exact hsm)]
   cases recsS b bs2 m r.1 a2 with
   | none => rfl
   | some q =>
    obtain ⟨rs, a3⟩ := q
    dsimp only
    rw [List.append_assoc]
    all_goals rfl
theorem risen_len : ∀ (l : LR) (last : Int), (∀ r ∈ l, r.1 ≤ 4095) → risen last l → -1 ≤ last → last ≤ 4095 → (l.length : Int) ≤ 4095 - last
 | [], last, _, _, _, h => by simp; omega
 | r :: l, last, h, h1, h2, h3 => by
  have := risen_len l r.1 (fun x hx => h x (List.mem_cons_of_mem _ hx)) h1.2 (by have := h1.1; omega) (h r (List.mem_cons_self ..))
  have := h1.1
  simp
  omega
theorem sorted_len {l : LR} (h : sortedF l = true) : l.length < 1000000000 := by
 obtain ⟨h1, h2⟩ := sorted_facts h
 have := risen_len l (-1) (fun r hr => (recOk_facts (h1 r hr)).2.1) h2 (by omega) (by omega)
 omega
theorem Dec3.pure (b : List Int) (base : LR) (hb : inB b = true) (hs : smallRecs base = true) : gen3_Decode.f BIG b base = some (dec3 b base) := by
 obtain ⟨hl, hc⟩ := (inB_iff b).1 hb
 unfold gen3_Decode.f gen3_Decode.b dec3
 simp only [veil_eq]
 rw [hs, hb]
 cases hso : sortedF base with
 | false => rfl
 | true =>
  obtain ⟨hbase, hris⟩ := sorted_facts hso
  have hbn := sorted_len hso
  have hh := headR.pure b hb
  rw [if_pos (c := true = true) rfl, if_neg (c := (!true) = true) (by simp), if_pos (c := true = true) rfl]
  unfold decS
  cases hd : hdS b with
  | none =>
   rw [hd] at hh
   obtain ⟨k, f, i, lo, hi, s, t, l, e, bb, a, bad, hh⟩ := hh
   rw [hh]
   dsimp only
   have hfw : ∀ m, gen3_reader_form.f BIG b a bad true m = some (0, true, b, a, bad) := fun m => form_wrong b a bad m
   have hdw : ∀ (bs2 : LR) (n last i1 : Int) (bs : List Int) (a1 : Int) (bad1 : Bool) (kk f1 i2 lo1 hi1 s1 t1 l1 e1 b1 : Int) (recs : LR), gen3_Decode.l11 BIG b base BIG bs2 n last i1 true bs a1 bad1 kk f1 i2 lo1 hi1 s1 t1 l1 e1 b1 recs = some (z12 4) := by
    intro bs2 n last i1 bs a1 bad1 kk f1 i2 lo1 hi1 s1 t1 l1 e1 b1 recs
    have := dec_wrong BIG b base (BIG - 1) bs2 n last i1 bs a1 bad1 kk f1 i2 lo1 hi1 s1 t1 l1 e1 b1 recs
    rw [← big_eq] at this
    exact this
   simp only [hfw, hdw]
   cases (bb == 0) <;> cases hasF k 4 <;> rfl
  | some p =>
   obtain ⟨k, f, i, lo, hi, s, t, l, e, bb, a⟩ := p
   rw [hd] at hh
   dsimp only at hh ⊢
   obtain ⟨hh, l1, hv⟩ := hh
   rw [hh]
   dsimp only
   have key : (if hasF k 4 = true then (match gen3_reader_form.f BIG b (a : Int) false false 255 with
      | none => none
      | some y1 => gen3_Decode.l11 BIG b base BIG (baseF bb base) y1.1 (-1) 0 y1.2.1 y1.2.2.1 y1.2.2.2.1 y1.2.2.2.2 k f i lo hi s t l e bb []) else some (endM b k f i lo hi s t l e bb [] a)) =
     some (match (match restS b (baseF bb base) k a with
      | none => none
      | some (rs, a2) => if a2 = b.length ∧ b.length ≤ 65499 ∧ validF k f i lo hi s t l e bb rs = true then some (k, f, i, lo, hi, s, t, l, e, bb, rs) else none) with
      | none => z12 4
      | some m => okM m) := by
    unfold restS
    cases h4 : hasF k 4 with
    | false =>
     rw [if_neg (by simp), if_neg (by simp)]
     dsimp only
     unfold endM
     split <;> rfl
    | true =>
     rw [if_pos rfl, if_pos rfl]
     have hg := form_good b a 255 hb (by decide) (by decide) l1
     cases ht : tk b a 255 with
     | none =>
      rw [ht] at hg
      obtain ⟨a', bad, hg, h2⟩ := hg
      rw [hg]
      dsimp only
      rw [big_eq]
      exact dec_wrong _ b base _ _ _ _ _ _ _ _ _ _ _ _ _ _ _ _ _ _ _
     | some w =>
      obtain ⟨n, a1⟩ := w
      rw [ht] at hg
      dsimp only at hg ⊢
      obtain ⟨_, n0, n1, _, _, l2⟩ := tk_facts hc ht
      rw [hg]
      dsimp only
      have hbl : (baseF bb base).length < 1000000000 := by
       unfold baseF
       split
       ·simp
       ·exact hbn
      have := dec_loop BIG b base hb (baseF bb base) (baseF_all hbase bb) hbl n.toNat (by omega) k f i lo hi s t l e bb n.toNat BIG 0 (-1) a1 [] (by omega) (by rw [BIG_eq]; omega) (by omega) (by omega) l2 (by simp) (by simp)
      rw [show ((n.toNat : Nat) : Int) = n from by omega] at this
      rw [show ((0 : Nat) : Int) = 0 from rfl] at this
      rw [this]
      cases recsS b (baseF bb base) n.toNat (-1) a1 with
      | none => rfl
      | some q =>
       obtain ⟨rs, a3⟩ := q
       dsimp only
       rw [List.nil_append]
       unfold endM
       split <;> rfl
   have hend : (if atOk b (a : Int) = true then (if (!(!false && (leftF b (a : Int) false == 0))) = true then some (z12 4) else if decide (((b.length : Nat) : Int) > 65499) = true then some (z12 4) else if (!validF k f i lo hi s t l e bb []) = true then some (z12 4) else some (k, f, i, lo, hi, s, t, l, e, bb, [], 0)) else none) = some (endM b k f i lo hi s t l e bb [] a) := by
    have := dec_end 0 b base hb 0 [] 0 0 0 a l1 (by omega) k f i lo hi s t l e bb [] rfl
    rw [← this, gen3_Decode.l11]
    unfold gen3_Decode.b11
    rfl
   refine Eq.trans ?_ key
   unfold baseF
   cases (bb == 0) <;> cases hasF k 4 <;> first | exact hend | rfl
theorem HeadX.pure {bs : List Int} (hb : inB bs = true) : gen3_Head.f BIG bs = some (head3X bs) := Head3.pure hb
theorem MHead.pure (k f i lo hi s t l e b : Int) (recs : LR) : msg_Head.f BIG k f i lo hi s t l e b recs = some (k, f, i, lo, hi, s, t, l, e, b, []) := rfl
theorem small_nil : smallRecs [] = true := rfl
def xlate_Peek_E : Env := ⟨th, gam [(54, s_gen3_Head), (16, s_msg_Head), (19, s_xlate_Decode)], fun i => ⟨[], [], []⟩⟩
def xlate_Peek.k (rs : List AV) (os : List Den.Obj) : Option (Int × Int × Int × Int × Int × Int × Int × Int × Int × Int × LR × Int) :=
 match rs, os with
 | [.agg [.d (.int .i64) r0, .d (.int .i64) r1, .d (.int .i64) r2, .d (.int .i64) r3, .d (.int .i64) r4, .d (.int .i64) r5, .d (.int .i64) r6, .d (.int .i64) r7, .d (.int .i64) r8, .d (.int .i64) r9, .d (.sl (.pair (.int .i64) (.pair (.int .i64) (.pair (.int .i64) (.pair (.pair (.int .i64) (.int .i64)) (.pair .bool (.sl (.pair (.int .i64) (.sl (.int .u8)))))))))) r10], .d (.int .i64) r11], [] => some (r0, r1, r2, r3, r4, r5, r6, r7, r8, r9, r10, r11)
 | _, _ => none
def xlate_Peek.b (gen : Int) (b : List Int) : Option (Int × Int × Int × Int × Int × Int × Int × Int × Int × Int × LR × Int) :=
 (if (gen == (3 : Int)) then (match (veil (gen3_Head.f BIG b)) with | none => none | some y0 => some (y0.1, y0.2.1, y0.2.2.1, y0.2.2.2.1, y0.2.2.2.2.1, y0.2.2.2.2.2.1, y0.2.2.2.2.2.2.1, y0.2.2.2.2.2.2.2.1, y0.2.2.2.2.2.2.2.2.1, y0.2.2.2.2.2.2.2.2.2.1, y0.2.2.2.2.2.2.2.2.2.2.1, y0.2.2.2.2.2.2.2.2.2.2.2)) else (match (veil (xlate_Decode.f BIG gen b ([] : LR))) with | none => none | some y1 => (match (veil (msg_Head.f BIG y1.1 y1.2.1 y1.2.2.1 y1.2.2.2.1 y1.2.2.2.2.1 y1.2.2.2.2.2.1 y1.2.2.2.2.2.2.1 y1.2.2.2.2.2.2.2.1 y1.2.2.2.2.2.2.2.2.1 y1.2.2.2.2.2.2.2.2.2.1 y1.2.2.2.2.2.2.2.2.2.2.1)) with | none => none | some y2 => some (y2.1, y2.2.1, y2.2.2.1, y2.2.2.2.1, y2.2.2.2.2.1, y2.2.2.2.2.2.1, y2.2.2.2.2.2.2.1, y2.2.2.2.2.2.2.2.1, y2.2.2.2.2.2.2.2.2.1, y2.2.2.2.2.2.2.2.2.2.1, y2.2.2.2.2.2.2.2.2.2.2, y1.2.2.2.2.2.2.2.2.2.2.2))))
def xlate_Peek.f (fuel : Nat) (gen : Int) (b : List Int) : Option (Int × Int × Int × Int × Int × Int × Int × Int × Int × Int × LR × Int) := xlate_Peek.b gen b
theorem xlate_Peek.eq (fuel : Nat) (gen : Int) (b : List Int) : (denF xlate_Peek_E loopN fuel Tryz.f32 [.dat (.pair tQi (.pair tQi (.pair tQi (.pair (.pair tQi tQi) (.pair tQi (.pair tQi (.pair tQi (.pair tQi (.pair tQi (.sl tQr)))))))))) true, .raw] [.d tQi gen, .d (.sl (.int .u8)) b] [] xlate_Peek.k) = xlate_Peek.f fuel gen b := by
 kernel_rfl
def s_xlate_Peek : Den.Sum := ⟨[.raw, .dat (.sl (.int .u8)) false], fun args objs κ => match args, objs with
 | [.d (.int .i64) gen, .d (.sl (.int .u8)) b], [] => (match veil (xlate_Peek.f BIG gen b) with | none => none | some y => κ [.agg [.d (.int .i64) y.1, .d (.int .i64) y.2.1, .d (.int .i64) y.2.2.1, .d (.int .i64) y.2.2.2.1, .d (.int .i64) y.2.2.2.2.1, .d (.int .i64) y.2.2.2.2.2.1, .d (.int .i64) y.2.2.2.2.2.2.1, .d (.int .i64) y.2.2.2.2.2.2.2.1, .d (.int .i64) y.2.2.2.2.2.2.2.2.1, .d (.int .i64) y.2.2.2.2.2.2.2.2.2.1, .d (.sl (.pair (.int .i64) (.pair (.int .i64) (.pair (.int .i64) (.pair (.pair (.int .i64) (.int .i64)) (.pair .bool (.sl (.pair (.int .i64) (.sl (.int .u8)))))))))) y.2.2.2.2.2.2.2.2.2.2.1], .d (.int .i64) y.2.2.2.2.2.2.2.2.2.2.2] [])
 | _, _ => none⟩
theorem s_xlate_Peek_det : SumDet s_xlate_Peek := sdet fun _ _ _ _ => by
 unfold s_xlate_Peek
 simp only [veil_eq]
 split
 ·split <;> rfl
 ·rfl
theorem s_xlate_Peek_ok : SumOk Tryz.prog 32 s_xlate_Peek := by
 have hE : EnvOk Tryz.prog xlate_Peek_E := env_ok (l := [(54, s_gen3_Head), (16, s_msg_Head), (19, s_xlate_Decode)]) th_ok any_ok ⟨⟨s_gen3_Head_ok, s_gen3_Head_det⟩, ⟨s_msg_Head_ok, s_msg_Head_det⟩, ⟨s_xlate_Decode_ok, s_xlate_Decode_det⟩, trivial⟩ _
 refine sum_ok hE Tryz.func32 rfl (by kernel_rfl) s_xlate_Peek [.dat (.pair tQi (.pair tQi (.pair tQi (.pair (.pair tQi tQi) (.pair tQi (.pair tQi (.pair tQi (.pair tQi (.pair tQi (.sl tQr)))))))))) true, .raw] xlate_Peek.k ?_
 intro R avs objs κ r h
 unfold s_xlate_Peek at h
 simp only [veil_eq] at h
 split at h
 ·rename_i gen b
  split at h
  ·cases h
  ·rename_i y hy
   refine ⟨BIG, _, _, _, (xlate_Peek.eq BIG gen b).trans hy, ?_, h⟩
   intro rs ros hk
   unfold xlate_Peek.k at hk
   split at hk
   ·first | (cases hk; exact ⟨rfl, rfl⟩) | (rw [← Option.some.inj hk]; exact ⟨rfl, rfl⟩)
   ·cases hk
 ·cases h
theorem XEnc.pure (gen k f i lo hi s t l e b : Int) (recs base : LR) (hr : smallRecs recs = true) (hl : smallRecs base = true) (hln : base.length < 1000000000) :
  xlate_Encode.f BIG gen k f i lo hi s t l e b recs base = some (writeX gen k f i lo hi s t l e b recs base) := by
 refine gen_cases (gen := gen) (fun gen => xlate_Encode.f BIG gen k f i lo hi s t l e b recs base = some (writeX gen k f i lo hi s t l e b recs base)) ?_ ?_ ?_ ?_
 ·rw [writeX1]
  unfold xlate_Encode.f xlate_Encode.b
  simp only [veil_eq]
  rw [if_pos (c := ((1 : Int) == 1) = true) rfl]
  unfold xlate_of_c1.f xlate_of_c1.b
  rw [hr]
  all_goals rfl
 ·rw [writeX2]
  unfold xlate_Encode.f xlate_Encode.b
  simp only [veil_eq]
  rw [if_neg (c := ((2 : Int) == 1) = true) (by decide), if_pos (c := ((2 : Int) == 2) = true) rfl]
  unfold xlate_of_c3.f xlate_of_c3.b
  rw [hr]
  all_goals rfl
 ·rw [writeX3]
  unfold xlate_Encode.f xlate_Encode.b
  simp only [veil_eq]
  rw [if_neg (c := ((3 : Int) == 1) = true) (by decide), if_neg (c := ((3 : Int) == 2) = true) (by decide), if_pos (c := ((3 : Int) == 3) = true) rfl, Enc3.pure k f i lo hi s t l e b recs base hr hl hln]
 ·intro h1 h2 h3
  rw [writeX0 h1 h2 h3]
  unfold xlate_Encode.f xlate_Encode.b
  simp only [veil_eq]
  rw [if_neg (c := (gen == 1) = true) (by simpa using h1), if_neg (c := (gen == 2) = true) (by simpa using h2), if_neg (c := (gen == 3) = true) (by simpa using h3)]
theorem XDec.pure (gen : Int) (b : List Int) (base : LR) (hb : isB b) (hl : b.length < 1000000000) (hs : smallRecs base = true) :
  xlate_Decode.f BIG gen b base = some (readX gen b base) := by
 have hin : inB b = true := (inB_iff b).2 ⟨by omega, hb⟩
 have his : inS b = true := inS_of hb hl
 refine gen_cases (gen := gen) (fun gen => xlate_Decode.f BIG gen b base = some (readX gen b base)) ?_ ?_ ?_ ?_
 ·rw [readX1]
  unfold xlate_Decode.f xlate_Decode.b
  simp only [veil_eq]
  rw [if_pos (c := ((1 : Int) == 1) = true) rfl]
  unfold xlate_of_c2.f xlate_of_c2.b
  simp only [veil_eq]
  rw [hin]
  all_goals rfl
 ·rw [readX2]
  unfold xlate_Decode.f xlate_Decode.b
  simp only [veil_eq]
  rw [if_neg (c := ((2 : Int) == 1) = true) (by decide), if_pos (c := ((2 : Int) == 2) = true) rfl]
  unfold xlate_of_c4.f xlate_of_c4.b
  simp only [veil_eq]
  rw [his]
  all_goals rfl
 ·rw [readX3]
  unfold xlate_Decode.f xlate_Decode.b
  simp only [veil_eq]
  rw [if_neg (c := ((3 : Int) == 1) = true) (by decide), if_neg (c := ((3 : Int) == 2) = true) (by decide), if_pos (c := ((3 : Int) == 3) = true) rfl, Dec3.pure b base hin hs]
 ·intro h1 h2 h3
  unfold xlate_Decode.f xlate_Decode.b
  simp only [veil_eq]
  unfold readX
  simp only [show (gen == 1) = false from by simpa using h1, show (gen == 2) = false from by simpa using h2, show (gen == 3) = false from by simpa using h3, Bool.false_eq_true, if_false]
  all_goals rfl
theorem XPeek.pure (gen : Int) (b : List Int) (hb : isB b) (hl : b.length < 1000000000) : xlate_Peek.f BIG gen b = some (peekX gen b) := by
 have hin : inB b = true := (inB_iff b).2 ⟨by omega, hb⟩
 unfold xlate_Peek.f xlate_Peek.b peekX
 simp only [veil_eq]
 cases h3 : gen == 3
 ·simp only [Bool.false_eq_true, if_false]
  rw [XDec.pure gen b [] hb hl rfl]
  all_goals rfl
 ·simp only [if_true]
  rw [HeadX.pure hin]
def parcel_Seal_E : Env := ⟨th, gam [(13, s_msg_Greets), (29, s_xlate_Encode), (30, s_frame_Seal)], fun i => ⟨[], [], []⟩⟩
def parcel_Seal.k (rs : List AV) (os : List Den.Obj) : Option ((List Int) × Int) :=
 match rs, os with
 | [.d (.sl (.int .u8)) r0, .d (.int .i64) r1], [] => some (r0, r1)
 | _, _ => none
def parcel_Seal.b (gen mKind mFrom mInc mSpanLo mSpanHi mSeq mTarget mLife mEpoch mBase : Int) (mRecs base : LR) : Option ((List Int) × Int) :=
 (match (veil (msg_Greets.f BIG mKind)) with | none => none | some y0 => (if y0 then (if (gen != (1 : Int)) then some (([] : List Int), (10 : Int)) else (match (veil (xlate_Encode.f BIG gen mKind mFrom mInc mSpanLo mSpanHi mSeq mTarget mLife mEpoch mBase mRecs base)) with | none => none | some y1 => (if (y1.2 != (0 : Int)) then some (([] : List Int), y1.2) else (match (veil (frame_Seal.f BIG gen y1.1)) with | none => none | some y2 => some (y2.1, y2.2))))) else (match (veil (xlate_Encode.f BIG gen mKind mFrom mInc mSpanLo mSpanHi mSeq mTarget mLife mEpoch mBase mRecs base)) with | none => none | some y3 => (if (y3.2 != (0 : Int)) then some (([] : List Int), y3.2) else (match (veil (frame_Seal.f BIG gen y3.1)) with | none => none | some y4 => some (y4.1, y4.2))))))
def parcel_Seal.f (fuel : Nat) (gen mKind mFrom mInc mSpanLo mSpanHi mSeq mTarget mLife mEpoch mBase : Int) (mRecs base : LR) : Option ((List Int) × Int) := parcel_Seal.b gen mKind mFrom mInc mSpanLo mSpanHi mSeq mTarget mLife mEpoch mBase mRecs base
theorem parcel_Seal.eq (fuel : Nat) (gen mKind mFrom mInc mSpanLo mSpanHi mSeq mTarget mLife mEpoch mBase : Int) (mRecs base : LR) : (denF parcel_Seal_E loopN fuel Tryz.f10 [.dat (.sl (.int .u8)) false, .raw] [.d tQi gen, .agg [.d tQi mKind, .d tQi mFrom, .d tQi mInc, .d tQi mSpanLo, .d tQi mSpanHi, .d tQi mSeq, .d tQi mTarget, .d tQi mLife, .d tQi mEpoch, .d tQi mBase, .d (.sl tQr) mRecs], .d (.sl tQr) base] [] parcel_Seal.k) = parcel_Seal.f fuel gen mKind mFrom mInc mSpanLo mSpanHi mSeq mTarget mLife mEpoch mBase mRecs base := by
 kernel_rfl
def s_parcel_Seal : Den.Sum := ⟨[.raw, .dat (.pair tQi (.pair tQi (.pair tQi (.pair (.pair tQi tQi) (.pair tQi (.pair tQi (.pair tQi (.pair tQi (.pair tQi (.sl tQr)))))))))) true, .dat (.sl tQr) false], fun args objs κ => match args, objs with
 | [.d (.int .i64) gen, .agg [.d (.int .i64) mKind, .d (.int .i64) mFrom, .d (.int .i64) mInc, .d (.int .i64) mSpanLo, .d (.int .i64) mSpanHi, .d (.int .i64) mSeq, .d (.int .i64) mTarget, .d (.int .i64) mLife, .d (.int .i64) mEpoch, .d (.int .i64) mBase, .d (.sl (.pair (.int .i64) (.pair (.int .i64) (.pair (.int .i64) (.pair (.pair (.int .i64) (.int .i64)) (.pair .bool (.sl (.pair (.int .i64) (.sl (.int .u8)))))))))) mRecs], .d (.sl (.pair (.int .i64) (.pair (.int .i64) (.pair (.int .i64) (.pair (.pair (.int .i64) (.int .i64)) (.pair .bool (.sl (.pair (.int .i64) (.sl (.int .u8)))))))))) base], [] => (match veil (parcel_Seal.f BIG gen mKind mFrom mInc mSpanLo mSpanHi mSeq mTarget mLife mEpoch mBase mRecs base) with | none => none | some y => κ [.d (.sl (.int .u8)) y.1, .d (.int .i64) y.2] [])
 | _, _ => none⟩
theorem s_parcel_Seal_det : SumDet s_parcel_Seal := sdet fun _ _ _ _ => by
 unfold s_parcel_Seal
 simp only [veil_eq]
 split
 ·split <;> rfl
 ·rfl
theorem s_parcel_Seal_ok : SumOk Tryz.prog 10 s_parcel_Seal := by
 have hE : EnvOk Tryz.prog parcel_Seal_E := env_ok (l := [(13, s_msg_Greets), (29, s_xlate_Encode), (30, s_frame_Seal)]) th_ok any_ok ⟨⟨s_msg_Greets_ok, s_msg_Greets_det⟩, ⟨s_xlate_Encode_ok, s_xlate_Encode_det⟩, ⟨s_frame_Seal_ok, s_frame_Seal_det⟩, trivial⟩ _
 refine sum_ok hE Tryz.func10 rfl (by kernel_rfl) s_parcel_Seal [.dat (.sl (.int .u8)) false, .raw] parcel_Seal.k ?_
 intro R avs objs κ r h
 unfold s_parcel_Seal at h
 simp only [veil_eq] at h
 split at h
 ·rename_i gen mKind mFrom mInc mSpanLo mSpanHi mSeq mTarget mLife mEpoch mBase mRecs base
  split at h
  ·cases h
  ·rename_i y hy
   refine ⟨BIG, _, _, _, (parcel_Seal.eq BIG gen mKind mFrom mInc mSpanLo mSpanHi mSeq mTarget mLife mEpoch mBase mRecs base).trans hy, ?_, h⟩
   intro rs ros hk
   unfold parcel_Seal.k at hk
   split at hk
   ·first | (cases hk; exact ⟨rfl, rfl⟩) | (rw [← Option.some.inj hk]; exact ⟨rfl, rfl⟩)
   ·cases hk
 ·cases h
def parcel_Open_E : Env := ⟨th, gam [(12, s_span_Has), (13, s_msg_Greets), (31, s_frame_Open), (32, s_xlate_Peek)], fun i => ⟨[], [], []⟩⟩
def parcel_Open.k (rs : List AV) (os : List Den.Obj) : Option (Int × Int × Int × Int × Int × Int × Int × Int × Int × Int × LR × Int × (List Int) × Int) :=
 match rs, os with
 | [.agg [.d (.int .i64) r0, .d (.int .i64) r1, .d (.int .i64) r2, .d (.int .i64) r3, .d (.int .i64) r4, .d (.int .i64) r5, .d (.int .i64) r6, .d (.int .i64) r7, .d (.int .i64) r8, .d (.int .i64) r9, .d (.sl (.pair (.int .i64) (.pair (.int .i64) (.pair (.int .i64) (.pair (.pair (.int .i64) (.int .i64)) (.pair .bool (.sl (.pair (.int .i64) (.sl (.int .u8)))))))))) r10, .d (.int .i64) r11, .d (.sl (.int .u8)) r12], .d (.int .i64) r13], [] => some (r0, r1, r2, r3, r4, r5, r6, r7, r8, r9, r10, r11, r12, r13)
 | _, _ => none
def parcel_Open.b (b : List Int) (ownLo ownHi : Int) : Option (Int × Int × Int × Int × Int × Int × Int × Int × Int × Int × LR × Int × (List Int) × Int) :=
 (match (veil (frame_Open.f BIG b)) with | none => none | some y0 => (if (y0.2.2 != (0 : Int)) then some (0, 0, 0, 0, 0, 0, 0, 0, 0, 0, ([] : LR), 0, ([] : List Int), y0.2.2) else (match (veil (xlate_Peek.f BIG y0.1 y0.2.1)) with | none => none | some y1 => (if (y1.2.2.2.2.2.2.2.2.2.2.2 == (0 : Int)) then (match (veil (msg_Greets.f BIG y1.1)) with | none => none | some y2 => (match (veil (span_Has.f BIG ownLo ownHi y0.1)) with | none => none | some y3 => (if (!y3) then (if (y0.1 != (1 : Int)) then some (0, 0, 0, 0, 0, 0, 0, 0, 0, 0, ([] : LR), y0.1, ([] : List Int), (9 : Int)) else (if (!y2) then some (0, 0, 0, 0, 0, 0, 0, 0, 0, 0, ([] : LR), y0.1, ([] : List Int), (9 : Int)) else (if (y1.2.2.2.2.2.2.2.2.2.2.2 != (0 : Int)) then some (0, 0, 0, 0, 0, 0, 0, 0, 0, 0, ([] : LR), 0, ([] : List Int), y1.2.2.2.2.2.2.2.2.2.2.2) else (if y2 then (if (y0.1 != (1 : Int)) then some (0, 0, 0, 0, 0, 0, 0, 0, 0, 0, ([] : LR), 0, ([] : List Int), (10 : Int)) else some (y1.1, y1.2.1, y1.2.2.1, y1.2.2.2.1, y1.2.2.2.2.1, y1.2.2.2.2.2.1, y1.2.2.2.2.2.2.1, y1.2.2.2.2.2.2.2.1, y1.2.2.2.2.2.2.2.2.1, y1.2.2.2.2.2.2.2.2.2.1, y1.2.2.2.2.2.2.2.2.2.2.1, y0.1, y0.2.1, (0 : Int))) else some (y1.1, y1.2.1, y1.2.2.1, y1.2.2.2.1, y1.2.2.2.2.1, y1.2.2.2.2.2.1, y1.2.2.2.2.2.2.1, y1.2.2.2.2.2.2.2.1, y1.2.2.2.2.2.2.2.2.1, y1.2.2.2.2.2.2.2.2.2.1, y1.2.2.2.2.2.2.2.2.2.2.1, y0.1, y0.2.1, (0 : Int)))))) else (if (y1.2.2.2.2.2.2.2.2.2.2.2 != (0 : Int)) then some (0, 0, 0, 0, 0, 0, 0, 0, 0, 0, ([] : LR), 0, ([] : List Int), y1.2.2.2.2.2.2.2.2.2.2.2) else (if y2 then (if (y0.1 != (1 : Int)) then some (0, 0, 0, 0, 0, 0, 0, 0, 0, 0, ([] : LR), 0, ([] : List Int), (10 : Int)) else some (y1.1, y1.2.1, y1.2.2.1, y1.2.2.2.1, y1.2.2.2.2.1, y1.2.2.2.2.2.1, y1.2.2.2.2.2.2.1, y1.2.2.2.2.2.2.2.1, y1.2.2.2.2.2.2.2.2.1, y1.2.2.2.2.2.2.2.2.2.1, y1.2.2.2.2.2.2.2.2.2.2.1, y0.1, y0.2.1, (0 : Int))) else some (y1.1, y1.2.1, y1.2.2.1, y1.2.2.2.1, y1.2.2.2.2.1, y1.2.2.2.2.2.1, y1.2.2.2.2.2.2.1, y1.2.2.2.2.2.2.2.1, y1.2.2.2.2.2.2.2.2.1, y1.2.2.2.2.2.2.2.2.2.1, y1.2.2.2.2.2.2.2.2.2.2.1, y0.1, y0.2.1, (0 : Int))))))) else (match (veil (span_Has.f BIG ownLo ownHi y0.1)) with | none => none | some y4 => (if (!y4) then (if (y0.1 != (1 : Int)) then some (0, 0, 0, 0, 0, 0, 0, 0, 0, 0, ([] : LR), y0.1, ([] : List Int), (9 : Int)) else some (0, 0, 0, 0, 0, 0, 0, 0, 0, 0, ([] : LR), y0.1, ([] : List Int), (9 : Int))) else (if (y1.2.2.2.2.2.2.2.2.2.2.2 != (0 : Int)) then some (0, 0, 0, 0, 0, 0, 0, 0, 0, 0, ([] : LR), 0, ([] : List Int), y1.2.2.2.2.2.2.2.2.2.2.2) else some (y1.1, y1.2.1, y1.2.2.1, y1.2.2.2.1, y1.2.2.2.2.1, y1.2.2.2.2.2.1, y1.2.2.2.2.2.2.1, y1.2.2.2.2.2.2.2.1, y1.2.2.2.2.2.2.2.2.1, y1.2.2.2.2.2.2.2.2.2.1, y1.2.2.2.2.2.2.2.2.2.2.1, y0.1, y0.2.1, (0 : Int)))))))))
def parcel_Open.f (fuel : Nat) (b : List Int) (ownLo ownHi : Int) : Option (Int × Int × Int × Int × Int × Int × Int × Int × Int × Int × LR × Int × (List Int) × Int) := parcel_Open.b b ownLo ownHi
theorem parcel_Open.eq (fuel : Nat) (b : List Int) (ownLo ownHi : Int) : (denF parcel_Open_E loopN fuel Tryz.f11 [.dat (.pair (.pair tQi (.pair tQi (.pair tQi (.pair (.pair tQi tQi) (.pair tQi (.pair tQi (.pair tQi (.pair tQi (.pair tQi (.sl tQr)))))))))) (.pair tQi (.sl (.int .u8)))) true, .raw] [.d (.sl (.int .u8)) b, .agg [.d tQi ownLo, .d tQi ownHi]] [] parcel_Open.k) = parcel_Open.f fuel b ownLo ownHi := by
 kernel_rfl
def s_parcel_Open : Den.Sum := ⟨[.dat (.sl (.int .u8)) false, .dat (.pair tQi tQi) true], fun args objs κ => match args, objs with
 | [.d (.sl (.int .u8)) b, .agg [.d (.int .i64) ownLo, .d (.int .i64) ownHi]], [] => (match veil (parcel_Open.f BIG b ownLo ownHi) with | none => none | some y => κ [.agg [.d (.int .i64) y.1, .d (.int .i64) y.2.1, .d (.int .i64) y.2.2.1, .d (.int .i64) y.2.2.2.1, .d (.int .i64) y.2.2.2.2.1, .d (.int .i64) y.2.2.2.2.2.1, .d (.int .i64) y.2.2.2.2.2.2.1, .d (.int .i64) y.2.2.2.2.2.2.2.1, .d (.int .i64) y.2.2.2.2.2.2.2.2.1, .d (.int .i64) y.2.2.2.2.2.2.2.2.2.1, .d (.sl (.pair (.int .i64) (.pair (.int .i64) (.pair (.int .i64) (.pair (.pair (.int .i64) (.int .i64)) (.pair .bool (.sl (.pair (.int .i64) (.sl (.int .u8)))))))))) y.2.2.2.2.2.2.2.2.2.2.1, .d (.int .i64) y.2.2.2.2.2.2.2.2.2.2.2.1, .d (.sl (.int .u8)) y.2.2.2.2.2.2.2.2.2.2.2.2.1], .d (.int .i64) y.2.2.2.2.2.2.2.2.2.2.2.2.2] [])
 | _, _ => none⟩
theorem s_parcel_Open_det : SumDet s_parcel_Open := sdet fun _ _ _ _ => by
 unfold s_parcel_Open
 simp only [veil_eq]
 split
 ·split <;> rfl
 ·rfl
theorem s_parcel_Open_ok : SumOk Tryz.prog 11 s_parcel_Open := by
 have hE : EnvOk Tryz.prog parcel_Open_E := env_ok (l := [(12, s_span_Has), (13, s_msg_Greets), (31, s_frame_Open), (32, s_xlate_Peek)]) th_ok any_ok ⟨⟨s_span_Has_ok, s_span_Has_det⟩, ⟨s_msg_Greets_ok, s_msg_Greets_det⟩, ⟨s_frame_Open_ok, s_frame_Open_det⟩, ⟨s_xlate_Peek_ok, s_xlate_Peek_det⟩, trivial⟩ _
 refine sum_ok hE Tryz.func11 rfl (by kernel_rfl) s_parcel_Open [.dat (.pair (.pair tQi (.pair tQi (.pair tQi (.pair (.pair tQi tQi) (.pair tQi (.pair tQi (.pair tQi (.pair tQi (.pair tQi (.sl tQr)))))))))) (.pair tQi (.sl (.int .u8)))) true, .raw] parcel_Open.k ?_
 intro R avs objs κ r h
 unfold s_parcel_Open at h
 simp only [veil_eq] at h
 split at h
 ·rename_i b ownLo ownHi
  split at h
  ·cases h
  ·rename_i y hy
   refine ⟨BIG, _, _, _, (parcel_Open.eq BIG b ownLo ownHi).trans hy, ?_, h⟩
   intro rs ros hk
   unfold parcel_Open.k at hk
   split at hk
   ·first | (cases hk; exact ⟨rfl, rfl⟩) | (rw [← Option.some.inj hk]; exact ⟨rfl, rfl⟩)
   ·cases hk
 ·cases h
def law30_awake_E : Env := ⟨th, gam [(10, s_parcel_Seal), (11, s_parcel_Open)], fun i => ⟨[], [], []⟩⟩
def law30_awake.k (rs : List AV) (os : List Den.Obj) : Option Bool :=
 match rs, os with
 | [.d .bool r0], [] => some r0
 | _, _ => none
def law30_awake.b (u : Unit) : Option Bool :=
 (match (veil (parcel_Seal.f BIG (2 : Int) (1 : Int) 0 0 (2 : Int) (3 : Int) 0 0 0 0 0 ([] : LR) ([] : LR))) with | none => none | some y0 => (match (veil (parcel_Seal.f BIG (1 : Int) (4 : Int) 0 0 (2 : Int) (3 : Int) 0 0 0 0 0 ([] : LR) ([] : LR))) with | none => none | some y1 => (match (veil (parcel_Open.f BIG y1.1 (2 : Int) (3 : Int))) with | none => none | some y2 => (match (veil (parcel_Seal.f BIG (1 : Int) (1 : Int) 0 0 (2 : Int) (3 : Int) (7 : Int) 0 0 0 0 ([] : LR) ([] : LR))) with | none => none | some y3 => (match (veil (parcel_Open.f BIG y3.1 (2 : Int) (3 : Int))) with | none => none | some y4 => (if (y0.2 == (10 : Int)) then (if (y1.2 == (0 : Int)) then (if (y2.2.2.2.2.2.2.2.2.2.2.2.2.2 == (9 : Int)) then (if (y2.2.2.2.2.2.2.2.2.2.2.2.1 == (1 : Int)) then (if (y3.2 == (0 : Int)) then (if (y4.2.2.2.2.2.2.2.2.2.2.2.2.2 == (0 : Int)) then some ((y4.2.2.2.2.2.1 == (7 : Int))) else some (false)) else some (false)) else some (false)) else some (false)) else some (false)) else some (false)))))))
def law30_awake.f (fuel : Nat) (u : Unit) : Option Bool := law30_awake.b u
theorem law30_awake.eq (fuel : Nat) (u : Unit) : (denF law30_awake_E loopN fuel Tryz.f9 [.raw] [] [] law30_awake.k) = law30_awake.f fuel u := by
 kernel_rfl
def s_law30_awake : Den.Sum := ⟨[], fun args objs κ => match args, objs with
 | [], [] => (match veil (law30_awake.f BIG ()) with | none => none | some y => κ [.d .bool y] [])
 | _, _ => none⟩
theorem s_law30_awake_det : SumDet s_law30_awake := sdet fun _ _ _ _ => by
 unfold s_law30_awake
 simp only [veil_eq]
 split
 ·split <;> rfl
 ·rfl
theorem s_law30_awake_ok : SumOk Tryz.prog 9 s_law30_awake := by
 have hE : EnvOk Tryz.prog law30_awake_E := env_ok (l := [(10, s_parcel_Seal), (11, s_parcel_Open)]) th_ok any_ok ⟨⟨s_parcel_Seal_ok, s_parcel_Seal_det⟩, ⟨s_parcel_Open_ok, s_parcel_Open_det⟩, trivial⟩ _
 refine sum_ok hE Tryz.func9 rfl (by kernel_rfl) s_law30_awake [.raw] law30_awake.k ?_
 intro R avs objs κ r h
 unfold s_law30_awake at h
 simp only [veil_eq] at h
 split at h
 ·skip
  split at h
  ·cases h
  ·rename_i y hy
   refine ⟨BIG, _, _, _, (law30_awake.eq BIG ()).trans hy, ?_, h⟩
   intro rs ros hk
   unfold law30_awake.k at hk
   split at hk
   ·first | (cases hk; exact ⟨rfl, rfl⟩) | (rw [← Option.some.inj hk]; exact ⟨rfl, rfl⟩)
   ·cases hk
 ·cases h
def sealP (gen k f i lo hi s t l e b : Int) (recs base : LR) : List Int × Int :=
 if (1 ≤ k ∧ k ≤ 3) ∧ gen ≠ 1 then ([], 10) else if (writeX gen k f i lo hi s t l e b recs base).2 ≠ 0 then ([], (writeX gen k f i lo hi s t l e b recs base).2) else sealX gen (writeX gen k f i lo hi s t l e b recs base).1
theorem write_isB {gen k f i lo hi s t l e b : Int} {recs base : LR} (hb : byteBags recs) (h0 : (writeX gen k f i lo hi s t l e b recs base).2 = 0) : isB (writeX gen k f i lo hi s t l e b recs base).1 := by
 by_cases h3 : gen = 3 ∧ sortedF base = false
 ·obtain ⟨rfl, hs⟩ := h3
  rw [writeX3] at h0
  unfold enc3 at h0
  rw [hs] at h0
  simp at h0
 ·refine (write_bytes (fun h => ?_) hb).1
  cases hs : sortedF base with
  | true => rfl
  | false => exact absurd ⟨h, hs⟩ h3
theorem msg_Greets.pure (k : Int) : msg_Greets.f BIG k = some (decide (1 ≤ k ∧ k ≤ 3)) := by
 unfold msg_Greets.f msg_Greets.b
 by_cases h : k ≥ 1
 ·rw [if_pos (by simpa using h)]
  by_cases h2 : k ≤ 3
  ·simp [h2]; omega
  ·simp [h2]
 ·rw [if_neg (by simpa using h)]
  simp; omega
theorem parcel_Seal.pure (gen k f i lo hi s t l e b : Int) (recs base : LR) (hr : smallRecs recs = true) (hl : smallRecs base = true) (hln : base.length < 1000000000) (hb : byteBags recs) :
  parcel_Seal.f BIG gen k f i lo hi s t l e b recs base = some (sealP gen k f i lo hi s t l e b recs base) := by
 unfold parcel_Seal.f parcel_Seal.b sealP
 rw [msg_Greets.pure, XEnc.pure gen k f i lo hi s t l e b recs base hr hl hln]
 simp only [veil_eq]
 by_cases h0 : (writeX gen k f i lo hi s t l e b recs base).2 = 0
 ·rw [frame_Seal.pure gen _ (write_isB hb h0)]
  simp only [veil_eq]
  by_cases hg : 1 ≤ k ∧ k ≤ 3
  ·rw [if_pos (by simpa using hg)]
   by_cases g1 : gen = 1
   ·rw [if_neg (by simp [g1]), if_neg (by simp [h0]), if_neg (by simp [g1]), if_neg (by simp [h0])]
   ·rw [if_pos (by simp [g1]), if_pos ⟨hg, g1⟩]
  ·rw [if_neg (by simpa using hg), if_neg (by simp [h0]), if_neg (by intro h; exact hg h.1), if_neg (by simp [h0])]
 ·by_cases hg : 1 ≤ k ∧ k ≤ 3
  ·rw [if_pos (by simpa using hg)]
   by_cases g1 : gen = 1
   ·rw [if_neg (by simp [g1]), if_pos (by simpa using h0), if_neg (by simp [g1]), if_pos h0]
   ·rw [if_pos (by simp [g1]), if_pos ⟨hg, g1⟩]
  ·rw [if_neg (by simpa using hg), if_pos (by simpa using h0), if_neg (by intro h; exact hg h.1), if_pos h0]
theorem has_no (gen : Int) (h : gen < 2) : span_Has.f BIG 2 3 gen = some false := by
 unfold span_Has.f span_Has.b
 have e : okS 2 3 = true := by kernel_rfl
 rw [e, if_pos rfl, if_neg (by simp; omega)]
def w4 : List Int := (writeX 1 4 0 0 2 3 0 0 0 0 0 [] []).1
def w1 : List Int := (writeX 1 1 0 0 2 3 7 0 0 0 0 [] []).1
theorem bagsE : byteBags [] := by
 intro r hr
 simp at hr
theorem sealP_1 (k s : Int) (w : List Int) (h : writeX 1 k 0 0 2 3 s 0 0 0 0 [] [] = (w, 0)) (hl : w.length ≤ 65499) : sealP 1 k 0 0 2 3 s 0 0 0 0 [] [] = (sealF 1 w, 0) := by
 unfold sealP
 rw [h, if_neg (by simp), if_neg (by simp)]
 unfold sealX
 rw [if_neg (by decide), if_neg (by show ¬ w.length > 65499; omega)]
theorem Awake30.pure : law30_awake.f BIG () = some true := by
 have n0 : smallRecs ([] : LR) = true := rfl
 have p := fun gen k s => parcel_Seal.pure gen k 0 0 2 3 s 0 0 0 0 [] [] n0 n0 (by simp) bagsE
 have h4 : writeX 1 4 0 0 2 3 0 0 0 0 0 [] [] = (w4, 0) := Prod.ext rfl (by kernel_rfl)
 have h1 : writeX 1 1 0 0 2 3 7 0 0 0 0 [] [] = (w1, 0) := Prod.ext rfl (by kernel_rfl)
 have b4 : isB w4 ∧ w4.length ≤ 65499 := write_bytes (gen := 1) (base := []) (fun h => by cases h) bagsE
 have b1 : isB w1 ∧ w1.length ≤ 65499 := write_bytes (gen := 1) (base := []) (fun h => by cases h) bagsE
 have k4 : (peekX 1 w4).1 = 4 := by kernel_rfl
 have z4 : (peekX 1 w4).2.2.2.2.2.2.2.2.2.2.2 = 0 := by kernel_rfl
 have k1 : (peekX 1 w1).1 = 1 := by kernel_rfl
 have s1 : (peekX 1 w1).2.2.2.2.2.1 = 7 := by kernel_rfl
 have z1 : (peekX 1 w1).2.2.2.2.2.2.2.2.2.2.2 = 0 := by kernel_rfl
 have e2 : sealP 2 1 0 0 2 3 0 0 0 0 0 [] [] = ([], 10) := by unfold sealP; rw [if_pos ⟨⟨by decide, by decide⟩, by decide⟩]
 have o4 : ∃ m : List Int, parcel_Open.f BIG (sealF 1 w4) 2 3 = some (0, 0, 0, 0, 0, 0, 0, 0, 0, 0, [], 1, m, 9) := by
  refine ⟨[], ?_⟩
  unfold parcel_Open.f parcel_Open.b
  rw [open_seal 1 w4 (by decide) (by decide) b4.1 b4.2]
  simp only [veil_eq]
  rw [if_neg (by simp), XPeek.pure 1 w4 b4.1 (by have := b4.2; omega)]
  simp only [veil_eq]
  rw [z4, k4, msg_Greets.pure, has_no 1 (by decide)]
  simp only [veil_eq]
  rw [if_pos (by rfl), if_pos (by rfl), if_neg (by simp), if_pos (by simp)]
 have o1 : ∃ a c d ee g t l e b r m gg, parcel_Open.f BIG (sealF 1 w1) 2 3 = some (a, c, d, ee, g, 7, t, l, e, b, r, gg, m, 0) := by
  unfold parcel_Open.f parcel_Open.b
  rw [open_seal 1 w1 (by decide) (by decide) b1.1 b1.2]
  simp only [veil_eq]
  rw [if_neg (by simp), XPeek.pure 1 w1 b1.1 (by have := b1.2; omega)]
  simp only [veil_eq]
  rw [z1, k1, s1, msg_Greets.pure, has_no 1 (by decide)]
  simp only [veil_eq]
  rw [if_pos (by rfl), if_pos (by rfl), if_neg (by simp), if_neg (by simp), if_neg (by simp), if_pos (by simp), if_neg (by simp)]
  exact ⟨_, _, _, _, _, _, _, _, _, _, _, _, rfl⟩
 obtain ⟨m4, o4⟩ := o4
 obtain ⟨a, c, d, ee, g, t, l, e, b, r, m, gg, o1⟩ := o1
 unfold law30_awake.f law30_awake.b
 rw [p 2 1 0, p 1 4 0, p 1 1 7, e2, sealP_1 4 0 w4 h4 b4.2, sealP_1 1 7 w1 h1 b1.2]
 simp only [veil_eq]
 rw [o4, o1]
 simp only [veil_eq]
 rfl
def openX (b : List Int) : Int × List Int × Int :=
 if b.length > 65507 then (0, [], 3)
 else if b.length < 8 then (0, [], 2)
 else if numB ((b.take 1).drop 0) ≠ 156 ∨ numB ((b.take 2).drop 1) < 1 ∨ numB ((b.take 2).drop 1) > 3 ∨ numB ((b.take 4).drop 2) ≠ ((b.length - 8 : Nat) : Int) then (0, [], 4)
 else if IntKind.wrap .u32 (numB (b.drop (b.length - 4))) ≠ (crcF (b.take (b.length - 4)) : Int) then (0, [], 8)
 else (numB ((b.take 2).drop 1), (b.take (b.length - 4)).drop 4, 0)
theorem isB_take {l : List Int} (h : isB l) (n : Nat) : isB (l.take n) := fun c hc => h c (List.mem_of_mem_take hc)
theorem isB_drop {l : List Int} (h : isB l) (n : Nat) : isB (l.drop n) := fun c hc => h c (List.mem_of_mem_drop hc)
theorem frame_Open.pure (L : List Int) (hb : isB L) (hl : L.length ≤ 1000000) : frame_Open.f BIG L = some (openX L) := by
 have hin := inB_of hb hl
 unfold frame_Open.f frame_Open.b openX
 by_cases h1 : L.length > 65507
 ·rw [if_pos (by simp; omega), if_pos h1]
 rw [if_neg (by simp; omega), if_neg h1]
 by_cases h2 : L.length < 8
 ·rw [if_pos (by simp; omega), if_pos h2]
 rw [if_neg (by simp; omega), if_neg h2]
 have hat : ∀ a : Nat, a ≤ L.length → atOk L (a : Int) = true := by
  intro a h1
  unfold atOk
  rw [hin]
  simp
  omega
 have r0 := read_at L 1 0 (by omega) (by omega) (by omega)
 have r1 := read_at L 1 1 (by omega) (by omega) (by omega)
 have r2 := read_at L 2 2 (by omega) (by omega) (by omega)
 simp only [show ((0 : Nat) : Int) = 0 from rfl, show ((1 : Nat) : Int) = 1 from rfl, show ((2 : Nat) : Int) = 2 from rfl, show ((0 + 1 : Nat) : Int) = 1 from rfl, show ((1 + 1 : Nat) : Int) = 2 from rfl, show ((2 + 2 : Nat) : Int) = 4 from rfl, show 0 + 1 = 1 from rfl, show 1 + 1 = 2 from rfl, show 2 + 2 = 4 from rfl] at r0 r1 r2
 have a0 := hat 0 (by omega)
 have a1 := hat 1 (by omega)
 have a2 := hat 2 (by omega)
 have a4 := hat 4 (by omega)
 simp only [show ((0 : Nat) : Int) = 0 from rfl, show ((1 : Nat) : Int) = 1 from rfl, show ((2 : Nat) : Int) = 2 from rfl, show ((4 : Nat) : Int) = 4 from rfl] at a0 a1 a2 a4
 rw [if_pos hin, if_pos a0]
 simp only [veil_eq, r0]
 rw [if_pos a1]
 simp only [veil_eq, r1]
 rw [if_pos a2]
 simp only [veil_eq, r2]
 have w8 : IntKind.wrap .i64 (((L.length : Nat) : Int) - 8) = ((L.length - 8 : Nat) : Int) := by rw [wrap_small _ (by omega) (by omega)]; omega
 have w4 : IntKind.wrap .i64 (((L.length : Nat) : Int) - 4) = ((L.length - 4 : Nat) : Int) := by rw [wrap_small _ (by omega) (by omega)]; omega
 rw [w8]
 by_cases c0' : numB ((L.take 1).drop 0) ≠ 156
 ·rw [if_pos (bne_iff_ne.2 c0'), if_pos (.inl c0')]
 have c0 : numB ((L.take 1).drop 0) = 156 := Decidable.not_not.1 c0'
 rw [if_neg (by rw [bne_iff_ne]; exact c0')]
 by_cases c1 : numB ((L.take 2).drop 1) < 1
 ·rw [if_pos (decide_eq_true c1), if_pos (.inr (.inl c1))]
 rw [if_neg (by rw [decide_eq_true_eq]; exact c1)]
 by_cases c3 : numB ((L.take 2).drop 1) > 3
 ·rw [if_pos (decide_eq_true c3), if_pos (.inr (.inr (.inl c3)))]
 rw [if_neg (by rw [decide_eq_true_eq]; exact c3)]
 by_cases cn' : numB ((L.take 4).drop 2) ≠ ((L.length - 8 : Nat) : Int)
 ·rw [if_pos (bne_iff_ne.2 cn'), if_pos (.inr (.inr (.inr cn')))]
 have cn : numB ((L.take 4).drop 2) = ((L.length - 8 : Nat) : Int) := Decidable.not_not.1 cn'
 have hno : ¬ (numB ((L.take 1).drop 0) ≠ 156 ∨ numB ((L.take 2).drop 1) < 1 ∨ numB ((L.take 2).drop 1) > 3 ∨ numB ((L.take 4).drop 2) ≠ ((L.length - 8 : Nat) : Int)) := by
  rintro (h | h | h | h)
  ·exact h c0
  ·exact c1 h
  ·exact c3 h
  ·exact h cn
 rw [if_neg (by rw [bne_iff_ne]; exact cn'), if_neg hno, if_pos a4, cn]
 have r3 := step_at L (L.length - 8) 4 (by omega)
 have r4 := read_at L 4 (4 + (L.length - 8)) (by omega) (by omega) (by omega)
 have a5 := hat (4 + (L.length - 8)) (by omega)
 have e4 : 4 + (L.length - 8) = L.length - 4 := by omega
 rw [e4] at r3 r4 a5
 rw [List.take_of_length_le (show L.length ≤ L.length - 4 + 4 by omega)] at r4
 simp only [show ((4 : Nat) : Int) = 4 from rfl] at r3 r4
 simp only [veil_eq, r3]
 rw [if_pos a5]
 simp only [veil_eq, r4]
 rw [w4, if_pos (by omega), Int.toNat_natCast, List.drop_zero, crc_Of.pure _ (isB_take hb _) (by simp; omega)]
 simp only [veil_eq]
 by_cases cs : IntKind.wrap .u32 (numB (L.drop (L.length - 4))) = (crcF (L.take (L.length - 4)) : Int)
 ·rw [if_neg (by rw [bne_iff_ne]; exact fun h => h cs), if_neg (fun h => h cs)]
 ·rw [if_pos (bne_iff_ne.2 cs), if_pos cs]
theorem open_bytes {b : List Int} (hb : isB b) : isB (openX b).2.1 ∧ (openX b).2.1.length ≤ b.length := by
 unfold openX
 split
 ·exact ⟨isB_nil, by simp⟩
 ·split
  ·exact ⟨isB_nil, by simp⟩
  ·split
   ·exact ⟨isB_nil, by simp⟩
   ·split
    ·exact ⟨isB_nil, by simp⟩
    ·exact ⟨isB_drop (isB_take hb _) _, by simp; omega⟩
def hasB (lo hi gen : Int) : Bool := okS lo hi && (decide (lo ≤ gen) && decide (gen ≤ hi))
theorem span_Has.pure (lo hi gen : Int) : span_Has.f BIG lo hi gen = some (hasB lo hi gen) := by
 unfold span_Has.f span_Has.b hasB
 cases okS lo hi with
 | false => rw [if_neg (by simp)]; rfl
 | true =>
  rw [if_pos rfl]
  by_cases h : lo ≤ gen
  ·rw [if_pos (decide_eq_true h), decide_eq_true h]; rfl
  ·rw [if_neg (by rw [decide_eq_true_eq]; exact h), decide_eq_false h]; rfl
abbrev P14 := Int × Int × Int × Int × Int × Int × Int × Int × Int × Int × LR × Int × List Int × Int
def zP (g e : Int) : P14 := (0, 0, 0, 0, 0, 0, 0, 0, 0, 0, [], g, [], e)
def fullP (g : Int) (body : List Int) (h : M12) : P14 := (h.1, h.2.1, h.2.2.1, h.2.2.2.1, h.2.2.2.2.1, h.2.2.2.2.2.1, h.2.2.2.2.2.2.1, h.2.2.2.2.2.2.2.1, h.2.2.2.2.2.2.2.2.1, h.2.2.2.2.2.2.2.2.2.1, h.2.2.2.2.2.2.2.2.2.2.1, g, body, 0)
def greetB (k : Int) : Bool := decide (1 ≤ k ∧ k ≤ 3)
def openP (b : List Int) (lo hi : Int) : P14 :=
 if (openX b).2.2 ≠ 0 then zP 0 (openX b).2.2
 else if hasB lo hi (openX b).1 = false ∧ ((openX b).1 ≠ 1 ∨ ¬ (errX (peekX (openX b).1 (openX b).2.1) = 0 ∧ greetB (peekX (openX b).1 (openX b).2.1).1 = true)) then zP (openX b).1 9
 else if errX (peekX (openX b).1 (openX b).2.1) ≠ 0 then zP 0 (errX (peekX (openX b).1 (openX b).2.1))
 else if greetB (peekX (openX b).1 (openX b).2.1).1 = true ∧ (openX b).1 ≠ 1 then zP 0 10
 else fullP (openX b).1 (openX b).2.1 (peekX (openX b).1 (openX b).2.1)
theorem parcel_Open.pure (b : List Int) (lo hi : Int) (hb : isB b) (hl : b.length ≤ 1000000) : parcel_Open.f BIG b lo hi = some (openP b lo hi) := by
 obtain ⟨h1, h2⟩ := open_bytes hb
 unfold parcel_Open.f parcel_Open.b openP
 rw [frame_Open.pure b hb hl]
 simp only [veil_eq]
 rw [XPeek.pure _ _ h1 (by omega), span_Has.pure]
 simp only [veil_eq]
 rw [msg_Greets.pure]
 simp only [veil_eq]
 rw [show (decide (1 ≤ (peekX (openX b).1 (openX b).2.1).1 ∧ (peekX (openX b).1 (openX b).2.1).1 ≤ 3)) = greetB (peekX (openX b).1 (openX b).2.1).1 from rfl]
 rw [show (peekX (openX b).1 (openX b).2.1).2.2.2.2.2.2.2.2.2.2.2 = errX (peekX (openX b).1 (openX b).2.1) from rfl]
 generalize openX b = O
 generalize hH : peekX O.1 O.2.1 = H
 generalize hasB lo hi O.1 = has
 generalize greetB H.1 = gr
 by_cases e0 : O.2.2 = 0
 ·by_cases eh : errX H = 0
  ·by_cases g1 : O.1 = 1
   ·cases has <;> cases gr <;> simp [e0, eh, g1, zP, fullP]
   ·cases has <;> cases gr <;> simp [e0, eh, g1, zP, fullP]
  ·by_cases g1 : O.1 = 1
   ·cases has <;> cases gr <;> simp [e0, eh, g1, zP, fullP]
   ·cases has <;> cases gr <;> simp [e0, eh, g1, zP, fullP]
 ·simp [e0, zP]
theorem front_len (gen : Int) (body : List Int) : (frontF gen body).length = body.length + 4 := by simp [frontF]
theorem seal_len (gen : Int) (body : List Int) : (sealF gen body).length = body.length + 8 := by simp [sealF, front_len, sumT]
theorem openX_seal (gen : Int) (body : List Int) (h1 : 1 ≤ gen) (h3 : gen ≤ 3) (hb : isB body) (hl : body.length ≤ 65499) : openX (sealF gen body) = (gen, body, 0) := by
 have h := frame_Open.pure (sealF gen body) (seal_bytes h1 h3 hb hl) (by rw [seal_len]; omega)
 rw [open_seal gen body h1 h3 hb hl] at h
 exact (Option.some.inj h).symm
theorem openX_err (b : List Int) : (openX b).2.2 ≠ 9 := by
 unfold openX
 split
 ·decide
 ·split
  ·decide
  ·split
   ·decide
   ·split
    ·decide
    ·exact show (0 : Int) ≠ 9 by decide
theorem openX_bad (b : List Int) (h : IntKind.wrap .u32 (numB (b.drop (b.length - 4))) ≠ (crcF (b.take (b.length - 4)) : Int)) : (openX b).2.2 ≠ 0 := by
 unfold openX
 split
 ·decide
 ·split
  ·decide
  ·split
   ·decide
   ·exact show (8 : Int) ≠ 0 by decide
theorem numB4 (a b c d : Int) : numB [a, b, c, d] = ((a * 256 + b) * 256 + c) * 256 + d := by
 show (((0 * 256 + a) * 256 + b) * 256 + c) * 256 + d = _
 omega
theorem four {l : List Int} (h : l.length = 4) : ∃ a b c d, l = [a, b, c, d] := by
 match l, h with
 | [a, b, c, d], _ => exact ⟨a, b, c, d, rfl⟩
theorem numB4_inj {l m : List Int} (hl : l.length = 4) (hm : m.length = 4) (bl : isB l) (bm : isB m) (h : numB l = numB m) : l = m := by
 obtain ⟨a, b, c, d, rfl⟩ := four hl
 obtain ⟨a', b', c', d', rfl⟩ := four hm
 rw [numB4, numB4] at h
 have k1 := bl a (by simp); have k2 := bl b (by simp); have k3 := bl c (by simp); have k4 := bl d (by simp)
 have m1 := bm a' (by simp); have m2 := bm b' (by simp); have m3 := bm c' (by simp); have m4 := bm d' (by simp)
 have e1 : a = a' := by omega
 have e2 : b = b' := by omega
 have e3 : c = c' := by omega
 have e4 : d = d' := by omega
 rw [e1, e2, e3, e4]
theorem numB4_wrap {l : List Int} (hl : l.length = 4) (bl : isB l) : IntKind.wrap .u32 (numB l) = numB l := by
 obtain ⟨a, b, c, d, rfl⟩ := four hl
 have k1 := bl a (by simp); have k2 := bl b (by simp); have k3 := bl c (by simp); have k4 := bl d (by simp)
 rw [wrap_u32, numB4]
 omega
theorem isB_set {l : List Int} (h : isB l) (i : Nat) {c : Int} (hc : 0 ≤ c ∧ c ≤ 255) : isB (l.set i c) := fun x hx => by
 rcases List.mem_or_eq_of_mem_set hx with h2 | h2
 ·exact h x h2
 ·rw [h2]; exact hc
theorem crcF_turned {F : List Int} (hF : isB F) {i : Nat} (hi : i < F.length) {c : Int} (hc : 0 ≤ c ∧ c ≤ 255) (h : crcF (F.set i c) = crcF F) : c = F[i] := by
 have hx : crcN 4294967295 ((F.set i c).map Int.toNat) = crcN 4294967295 (F.map Int.toNat) := by
  unfold crcF at h
  rw [Nat.xor_comm _ (crcN _ _), Nat.xor_comm _ (crcN _ (List.map Int.toNat F))] at h
  exact xor_cancel _ _ _ h
 have e1 : (F.set i c) = F.take i ++ c :: F.drop (i + 1) := by rw [List.set_eq_take_append_cons_drop, if_pos hi]
 have e2 : F = F.take i ++ F[i] :: F.drop (i + 1) := by
  rw [List.getElem_cons_drop, List.take_append_drop]
 have hfi := hF F[i] (List.getElem_mem hi)
 rw [e1] at hx
 conv at hx => rhs; rw [e2]
 rw [List.map_append, List.map_append, List.map_cons, List.map_cons] at hx
 have := crcN_turned _ _ _ _ _ (by decide) (by omega) (by omega) (fun x hx => by
  rw [List.mem_map] at hx
  obtain ⟨y, hy, rfl⟩ := hx
  have := hF y (List.mem_of_mem_drop hy)
  omega) hx
 omega
theorem turned (gen : Int) (body : List Int) (h1 : 1 ≤ gen) (h3 : gen ≤ 3) (hb : isB body) (hl : body.length ≤ 65499) (i : Nat) (hi : i < (sealF gen body).length) (c : Int) (hc : 0 ≤ c ∧ c ≤ 255) (hn : c ≠ (sealF gen body)[i]) :
  (openX ((sealF gen body).set i c)).2.2 ≠ 0 := by
 have hF := front_bytes h1 h3 hb hl
 have hlen := front_len gen body
 have hcl := crcF_lt (frontF gen body)
 have hT := tail_bytes (crcF (frontF gen body)) hcl
 have hTl : (sumT (crcF (frontF gen body))).length = 4 := rfl
 have hTn := numB_sum (crcF (frontF gen body)) hcl
 have hb4 : ((sealF gen body).set i c).length - 4 = (frontF gen body).length := by rw [List.length_set, seal_len, hlen]; omega
 apply openX_bad
 rw [hb4]
 unfold sealF at hn hi ⊢
 by_cases hlt : i < (frontF gen body).length
 ·rw [List.set_append_left _ _ hlt, List.take_left' (by simp), List.drop_left' (by simp), numB4_wrap hTl hT, hTn]
  intro e
  have e2 : crcF ((frontF gen body).set i c) = crcF (frontF gen body) := by omega
  have := crcF_turned hF hlt hc e2
  rw [List.getElem_append_left hlt] at hn
  exact hn this
 ·have hge : (frontF gen body).length ≤ i := by omega
  rw [List.set_append_right _ _ hge, List.take_left' rfl, List.drop_left' rfl, numB4_wrap (by rw [List.length_set]; exact hTl) (isB_set hT _ hc)]
  intro e
  rw [← hTn] at e
  have hs := numB4_inj (by rw [List.length_set]; exact hTl) hTl (isB_set hT _ hc) hT e
  rw [List.getElem_append_right hge] at hn
  have hk : i - (frontF gen body).length < (sumT (crcF (frontF gen body))).length := by
   rw [List.length_append] at hi; omega
  apply hn
  have := congrArg (fun l => l[i - (frontF gen body).length]?) hs
  simp only [List.getElem?_set_self hk, List.getElem?_eq_getElem hk] at this
  exact Option.some.inj this
theorem chopped (gen : Int) (body : List Int) (h1 : 1 ≤ gen) (h3 : gen ≤ 3) (hb : isB body) (hl : body.length ≤ 65499) (i : Nat) (hi : i < (sealF gen body).length) : (openX ((sealF gen body).take i)).2.2 ≠ 0 := by
 have hlen : ((sealF gen body).take i).length = i := by rw [List.length_take]; omega
 unfold openX
 split
 ·decide
 ·split
  ·decide
  ·rename_i h5 h8
   rw [hlen] at h8
   split
   ·decide
   ·rename_i hno
    exfalso
    apply hno
    refine .inr (.inr (.inr ?_))
    rw [hlen, List.take_take, Nat.min_eq_left (by omega)]
    rw [seal_len] at hi
    have e : ((sealF gen body).take 4).drop 2 = [((body.length / 256 : Nat) : Int), ((body.length % 256 : Nat) : Int)] := rfl
    rw [e]
    show (0 * 256 + ((body.length / 256 : Nat) : Int)) * 256 + ((body.length % 256 : Nat) : Int) ≠ _
    omega
theorem openP_err {b : List Int} (lo hi : Int) (h : (openX b).2.2 ≠ 0) : openP b lo hi = zP 0 (openX b).2.2 := by
 unfold openP
 rw [if_pos h]
def frame_SealV_E : Env := ⟨th, gam [(50, s_crc_Of)], fun i => if i = 888888 then ⟨[1], [], []⟩ else if i = 10 then ⟨[6, 7], [], [777777, 666666]⟩ else ⟨[], [], []⟩⟩
def frame_SealV.k (rs : List AV) (os : List Den.Obj) : Option (Int × (List Int)) :=
 match rs, os with
 | [.row 0, .d (.int .i64) r0], [.row 5 (.int .u8) r1 false] => some (r0, r1)
 | _, _ => none
def frame_SealV.s10 (gen : Int) (body : List Int) (x9 : Int) : St := ⟨[dD, dD, dD, dD, dD, dD, .row 64, .d (.int .u32) x9, dD, dD, dD, dD, dD, dD, dD, dD, dD, dD, dD, dD, dD, dD, dD, dD, dD, dD, dD, dD, dD, dD, dD, dD, dD, dD, dD, dD, dD, dD, dD, dD, dD, dD, dD, dD, dD, dD, dD, dD, dD, dD, dD, dD, dD, dD, dD, dD, dD, dD, dD, dD, dD, .dead], ofL [(64, .row 5 (.int .u8) ((((List.take (Int.toNat (4 : Int)) (List.set (List.set (List.set (List.set (List.replicate (Int.toNat (IntKind.wrap .i64 ((4 : Int) + ((((List.length body)) : Nat) : Int)))) (zeroI (Go.Den.Ty.int .u8))) (Int.toNat (0 : Int)) (156 : Int)) (Int.toNat (1 : Int)) (IntKind.wrap .u8 gen)) (Int.toNat (2 : Int)) (IntKind.wrap .u8 (Int.fdiv ((((List.length body)) : Nat) : Int) ((2 : Int) ^ (Min.min (Int.toNat (8 : Int)) (IntKind.bits .i64)))))) (Int.toNat (3 : Int)) (IntKind.wrap .u8 ((((List.length body)) : Nat) : Int)))) ++ body) ++ (List.drop ((Int.toNat (4 : Int)) + (List.length body)) (List.set (List.set (List.set (List.set (List.replicate (Int.toNat (IntKind.wrap .i64 ((4 : Int) + ((((List.length body)) : Nat) : Int)))) (zeroI (Go.Den.Ty.int .u8))) (Int.toNat (0 : Int)) (156 : Int)) (Int.toNat (1 : Int)) (IntKind.wrap .u8 gen)) (Int.toNat (2 : Int)) (IntKind.wrap .u8 (Int.fdiv ((((List.length body)) : Nat) : Int) ((2 : Int) ^ (Min.min (Int.toNat (8 : Int)) (IntKind.bits .i64)))))) (Int.toNat (3 : Int)) (IntKind.wrap .u8 ((((List.length body)) : Nat) : Int)))))) false)], 0⟩
def frame_SealV.p10 (fuel : Nat) (gen : Int) (body : List Int) (k : Nat) := fun x9 => lp frame_SealV_E fuel Tryz.f30 [.mv 5 (.int .u8), .raw] 0 frame_SealV.k 10 [] k (frame_SealV.s10 gen body x9)
def frame_SealV.b10 (gen : Int) (body : List Int) (A10 : Int → Option (Int × (List Int))) (x9 : Int) : Option (Int × (List Int)) :=
 (if ((((List.length (((List.take (Int.toNat (4 : Int)) (List.set (List.set (List.set (List.set (List.replicate (Int.toNat (IntKind.wrap .i64 ((4 : Int) + ((((List.length body)) : Nat) : Int)))) (zeroI (Go.Den.Ty.int .u8))) (Int.toNat (0 : Int)) (156 : Int)) (Int.toNat (1 : Int)) (IntKind.wrap .u8 gen)) (Int.toNat (2 : Int)) (IntKind.wrap .u8 (Int.fdiv ((((List.length body)) : Nat) : Int) ((2 : Int) ^ (Min.min (Int.toNat (8 : Int)) (IntKind.bits .i64)))))) (Int.toNat (3 : Int)) (IntKind.wrap .u8 ((((List.length body)) : Nat) : Int)))) ++ body) ++ (List.drop ((Int.toNat (4 : Int)) + (List.length body)) (List.set (List.set (List.set (List.set (List.replicate (Int.toNat (IntKind.wrap .i64 ((4 : Int) + ((((List.length body)) : Nat) : Int)))) (zeroI (Go.Den.Ty.int .u8))) (Int.toNat (0 : Int)) (156 : Int)) (Int.toNat (1 : Int)) (IntKind.wrap .u8 gen)) (Int.toNat (2 : Int)) (IntKind.wrap .u8 (Int.fdiv ((((List.length body)) : Nat) : Int) ((2 : Int) ^ (Min.min (Int.toNat (8 : Int)) (IntKind.bits .i64)))))) (Int.toNat (3 : Int)) (IntKind.wrap .u8 ((((List.length body)) : Nat) : Int)))))) + (List.length ((IntKind.wrap .u8 (Int.fdiv x9 ((2 : Int) ^ (Min.min (Int.toNat (24 : Int)) (IntKind.bits .u32))))) :: ((IntKind.wrap .u8 (Int.fdiv x9 ((2 : Int) ^ (Min.min (Int.toNat (16 : Int)) (IntKind.bits .u32))))) :: ((IntKind.wrap .u8 (Int.fdiv x9 ((2 : Int) ^ (Min.min (Int.toNat (8 : Int)) (IntKind.bits .u32))))) :: ((IntKind.wrap .u8 x9) :: ([] : List Int))))))) * (1 : Nat)) ≤ lim) then some ((0 : Int), ((((List.take (Int.toNat (4 : Int)) (List.set (List.set (List.set (List.set (List.replicate (Int.toNat (IntKind.wrap .i64 ((4 : Int) + ((((List.length body)) : Nat) : Int)))) (zeroI (Go.Den.Ty.int .u8))) (Int.toNat (0 : Int)) (156 : Int)) (Int.toNat (1 : Int)) (IntKind.wrap .u8 gen)) (Int.toNat (2 : Int)) (IntKind.wrap .u8 (Int.fdiv ((((List.length body)) : Nat) : Int) ((2 : Int) ^ (Min.min (Int.toNat (8 : Int)) (IntKind.bits .i64)))))) (Int.toNat (3 : Int)) (IntKind.wrap .u8 ((((List.length body)) : Nat) : Int)))) ++ body) ++ (List.drop ((Int.toNat (4 : Int)) + (List.length body)) (List.set (List.set (List.set (List.set (List.replicate (Int.toNat (IntKind.wrap .i64 ((4 : Int) + ((((List.length body)) : Nat) : Int)))) (zeroI (Go.Den.Ty.int .u8))) (Int.toNat (0 : Int)) (156 : Int)) (Int.toNat (1 : Int)) (IntKind.wrap .u8 gen)) (Int.toNat (2 : Int)) (IntKind.wrap .u8 (Int.fdiv ((((List.length body)) : Nat) : Int) ((2 : Int) ^ (Min.min (Int.toNat (8 : Int)) (IntKind.bits .i64)))))) (Int.toNat (3 : Int)) (IntKind.wrap .u8 ((((List.length body)) : Nat) : Int))))) ++ ((IntKind.wrap .u8 (Int.fdiv x9 ((2 : Int) ^ (Min.min (Int.toNat (24 : Int)) (IntKind.bits .u32))))) :: ((IntKind.wrap .u8 (Int.fdiv x9 ((2 : Int) ^ (Min.min (Int.toNat (16 : Int)) (IntKind.bits .u32))))) :: ((IntKind.wrap .u8 (Int.fdiv x9 ((2 : Int) ^ (Min.min (Int.toNat (8 : Int)) (IntKind.bits .u32))))) :: ((IntKind.wrap .u8 x9) :: ([] : List Int))))))) else none)
def frame_SealV.l10 (fuel : Nat) (gen : Int) (body : List Int) : Nat → Int → Option (Int × (List Int))
 | 0, _ => none
 | k + 1, x9 => frame_SealV.b10 gen body (frame_SealV.l10 fuel gen body k) x9
def frame_SealV.b (gen : Int) (body : List Int) (E10 : Int → Option (Int × (List Int))) : Option (Int × (List Int)) :=
 (if (decide (gen < (1 : Int))) then some ((5 : Int), ([] : List Int)) else (if (decide (gen > (3 : Int))) then some ((5 : Int), ([] : List Int)) else (if (decide (((((List.length body)) : Nat) : Int) > (65499 : Int))) then some ((3 : Int), ([] : List Int)) else (if (((0 : Int) ≤ (IntKind.wrap .i64 ((4 : Int) + ((((List.length body)) : Nat) : Int)))) ∧ (((IntKind.wrap .i64 ((4 : Int) + ((((List.length body)) : Nat) : Int))) ≤ (IntKind.wrap .i64 ((8 : Int) + ((((List.length body)) : Nat) : Int)))) ∧ ((((IntKind.wrap .i64 ((8 : Int) + ((((List.length body)) : Nat) : Int))) * ((((1 : Nat)) : Nat) : Int)) ≤ (1099511627776 : Int)) ∧ ((IntKind.wrap .i64 ((8 : Int) + ((((List.length body)) : Nat) : Int))) ≤ (1099511627776 : Int))))) then (match (idx (List.replicate (Int.toNat (IntKind.wrap .i64 ((4 : Int) + ((((List.length body)) : Nat) : Int)))) (zeroI (Go.Den.Ty.int .u8))) (0 : Int)) with | none => none | some y0 => (match (idx (List.replicate (Int.toNat (IntKind.wrap .i64 ((4 : Int) + ((((List.length body)) : Nat) : Int)))) (zeroI (Go.Den.Ty.int .u8))) (0 : Int)) with | none => none | some y1 => (match (idx (List.set (List.replicate (Int.toNat (IntKind.wrap .i64 ((4 : Int) + ((((List.length body)) : Nat) : Int)))) (zeroI (Go.Den.Ty.int .u8))) (Int.toNat (0 : Int)) (156 : Int)) (1 : Int)) with | none => none | some y2 => (match (idx (List.set (List.replicate (Int.toNat (IntKind.wrap .i64 ((4 : Int) + ((((List.length body)) : Nat) : Int)))) (zeroI (Go.Den.Ty.int .u8))) (Int.toNat (0 : Int)) (156 : Int)) (1 : Int)) with | none => none | some y3 => (match (idx (List.set (List.set (List.replicate (Int.toNat (IntKind.wrap .i64 ((4 : Int) + ((((List.length body)) : Nat) : Int)))) (zeroI (Go.Den.Ty.int .u8))) (Int.toNat (0 : Int)) (156 : Int)) (Int.toNat (1 : Int)) (IntKind.wrap .u8 gen)) (2 : Int)) with | none => none | some y4 => (match (idx (List.set (List.set (List.replicate (Int.toNat (IntKind.wrap .i64 ((4 : Int) + ((((List.length body)) : Nat) : Int)))) (zeroI (Go.Den.Ty.int .u8))) (Int.toNat (0 : Int)) (156 : Int)) (Int.toNat (1 : Int)) (IntKind.wrap .u8 gen)) (2 : Int)) with | none => none | some y5 => (match (idx (List.set (List.set (List.set (List.replicate (Int.toNat (IntKind.wrap .i64 ((4 : Int) + ((((List.length body)) : Nat) : Int)))) (zeroI (Go.Den.Ty.int .u8))) (Int.toNat (0 : Int)) (156 : Int)) (Int.toNat (1 : Int)) (IntKind.wrap .u8 gen)) (Int.toNat (2 : Int)) (IntKind.wrap .u8 (Int.fdiv ((((List.length body)) : Nat) : Int) ((2 : Int) ^ (Min.min (Int.toNat (8 : Int)) (IntKind.bits .i64)))))) (3 : Int)) with | none => none | some y6 => (match (idx (List.set (List.set (List.set (List.replicate (Int.toNat (IntKind.wrap .i64 ((4 : Int) + ((((List.length body)) : Nat) : Int)))) (zeroI (Go.Den.Ty.int .u8))) (Int.toNat (0 : Int)) (156 : Int)) (Int.toNat (1 : Int)) (IntKind.wrap .u8 gen)) (Int.toNat (2 : Int)) (IntKind.wrap .u8 (Int.fdiv ((((List.length body)) : Nat) : Int) ((2 : Int) ^ (Min.min (Int.toNat (8 : Int)) (IntKind.bits .i64)))))) (3 : Int)) with | none => none | some y7 => (if (((0 : Int) ≤ (4 : Int)) ∧ ((4 : Int) ≤ ((((List.length (List.set (List.set (List.set (List.set (List.replicate (Int.toNat (IntKind.wrap .i64 ((4 : Int) + ((((List.length body)) : Nat) : Int)))) (zeroI (Go.Den.Ty.int .u8))) (Int.toNat (0 : Int)) (156 : Int)) (Int.toNat (1 : Int)) (IntKind.wrap .u8 gen)) (Int.toNat (2 : Int)) (IntKind.wrap .u8 (Int.fdiv ((((List.length body)) : Nat) : Int) ((2 : Int) ^ (Min.min (Int.toNat (8 : Int)) (IntKind.bits .i64)))))) (Int.toNat (3 : Int)) (IntKind.wrap .u8 ((((List.length body)) : Nat) : Int))))) : Nat) : Int))) then (if ((((Int.toNat (4 : Int)) + (List.length body)) ≤ (List.length (List.set (List.set (List.set (List.set (List.replicate (Int.toNat (IntKind.wrap .i64 ((4 : Int) + ((((List.length body)) : Nat) : Int)))) (zeroI (Go.Den.Ty.int .u8))) (Int.toNat (0 : Int)) (156 : Int)) (Int.toNat (1 : Int)) (IntKind.wrap .u8 gen)) (Int.toNat (2 : Int)) (IntKind.wrap .u8 (Int.fdiv ((((List.length body)) : Nat) : Int) ((2 : Int) ^ (Min.min (Int.toNat (8 : Int)) (IntKind.bits .i64)))))) (Int.toNat (3 : Int)) (IntKind.wrap .u8 ((((List.length body)) : Nat) : Int))))) ∧ ((List.length (List.set (List.set (List.set (List.set (List.replicate (Int.toNat (IntKind.wrap .i64 ((4 : Int) + ((((List.length body)) : Nat) : Int)))) (zeroI (Go.Den.Ty.int .u8))) (Int.toNat (0 : Int)) (156 : Int)) (Int.toNat (1 : Int)) (IntKind.wrap .u8 gen)) (Int.toNat (2 : Int)) (IntKind.wrap .u8 (Int.fdiv ((((List.length body)) : Nat) : Int) ((2 : Int) ^ (Min.min (Int.toNat (8 : Int)) (IntKind.bits .i64)))))) (Int.toNat (3 : Int)) (IntKind.wrap .u8 ((((List.length body)) : Nat) : Int)))) ≤ (List.length (List.set (List.set (List.set (List.set (List.replicate (Int.toNat (IntKind.wrap .i64 ((4 : Int) + ((((List.length body)) : Nat) : Int)))) (zeroI (Go.Den.Ty.int .u8))) (Int.toNat (0 : Int)) (156 : Int)) (Int.toNat (1 : Int)) (IntKind.wrap .u8 gen)) (Int.toNat (2 : Int)) (IntKind.wrap .u8 (Int.fdiv ((((List.length body)) : Nat) : Int) ((2 : Int) ^ (Min.min (Int.toNat (8 : Int)) (IntKind.bits .i64)))))) (Int.toNat (3 : Int)) (IntKind.wrap .u8 ((((List.length body)) : Nat) : Int)))))) then (match (veil (crc_Of.f BIG ((((List.take (Int.toNat (4 : Int)) (List.set (List.set (List.set (List.set (List.replicate (Int.toNat (IntKind.wrap .i64 ((4 : Int) + ((((List.length body)) : Nat) : Int)))) (zeroI (Go.Den.Ty.int .u8))) (Int.toNat (0 : Int)) (156 : Int)) (Int.toNat (1 : Int)) (IntKind.wrap .u8 gen)) (Int.toNat (2 : Int)) (IntKind.wrap .u8 (Int.fdiv ((((List.length body)) : Nat) : Int) ((2 : Int) ^ (Min.min (Int.toNat (8 : Int)) (IntKind.bits .i64)))))) (Int.toNat (3 : Int)) (IntKind.wrap .u8 ((((List.length body)) : Nat) : Int)))) ++ body) ++ (List.drop ((Int.toNat (4 : Int)) + (List.length body)) (List.set (List.set (List.set (List.set (List.replicate (Int.toNat (IntKind.wrap .i64 ((4 : Int) + ((((List.length body)) : Nat) : Int)))) (zeroI (Go.Den.Ty.int .u8))) (Int.toNat (0 : Int)) (156 : Int)) (Int.toNat (1 : Int)) (IntKind.wrap .u8 gen)) (Int.toNat (2 : Int)) (IntKind.wrap .u8 (Int.fdiv ((((List.length body)) : Nat) : Int) ((2 : Int) ^ (Min.min (Int.toNat (8 : Int)) (IntKind.bits .i64)))))) (Int.toNat (3 : Int)) (IntKind.wrap .u8 ((((List.length body)) : Nat) : Int))))) :: ([] : List (List Int))))) with | none => none | some y8 => E10 y8) else none) else none))))))))) else none))))
def frame_SealV.f (fuel : Nat) (gen : Int) (body : List Int) : Option (Int × (List Int)) := frame_SealV.b gen body (frame_SealV.l10 fuel gen body fuel)
theorem frame_SealV.l10_eq (fuel : Nat) (gen : Int) (body : List Int) : ∀ k : Nat, frame_SealV.p10 fuel gen body k = frame_SealV.l10 fuel gen body k
 | 0 => by kernel_rfl
 | k + 1 => by
  refine Eq.trans (b := frame_SealV.b10 gen body (frame_SealV.p10 fuel gen body k)) (by kernel_rfl) ?_
  rw [frame_SealV.l10_eq fuel gen body k]
  kernel_rfl
theorem frame_SealV.eq (fuel : Nat) (gen : Int) (body : List Int) : (denF frame_SealV_E loopN fuel Tryz.f30 [.mv 5 (.int .u8), .raw] [.d tQi gen, .d (.sl (.int .u8)) body] [] frame_SealV.k) = frame_SealV.f fuel gen body := by
 refine Eq.trans (b := frame_SealV.b gen body (frame_SealV.p10 fuel gen body fuel)) (by kernel_rfl) ?_
 rw [frame_SealV.l10_eq fuel gen body fuel]
 kernel_rfl
theorem frame_SealV.l10_at (fuel nN kK : Nat) (hN : nN = kK + 1) (gen : Int) (body : List Int) (x9 : Int) : frame_SealV.l10 fuel gen body nN x9 = frame_SealV.b10 gen body (frame_SealV.l10 fuel gen body kK) x9 := by
 subst hN
 rfl
def s_frame_SealV : Den.Sum := ⟨[.raw, .dat (.sl (.int .u8)) false], fun args objs κ => match args, objs with
 | [.d (.int .i64) gen, .d (.sl (.int .u8)) body], [] => (match veil (frame_SealV.f BIG gen body) with | none => none | some y => κ [.row 0, .d (.int .i64) y.1] [.row 5 (.int .u8) y.2 false])
 | _, _ => none⟩
theorem s_frame_SealV_det : SumDet s_frame_SealV := sdet fun _ _ _ _ => by
 unfold s_frame_SealV
 simp only [veil_eq]
 split
 ·split <;> rfl
 ·rfl
theorem s_frame_SealV_ok : SumOk Tryz.prog 30 s_frame_SealV := by
 have hE : EnvOk Tryz.prog frame_SealV_E := env_ok (l := [(50, s_crc_Of)]) th_ok any_ok ⟨⟨s_crc_Of_ok, s_crc_Of_det⟩, trivial⟩ _
 refine sum_ok hE Tryz.func30 rfl (by kernel_rfl) s_frame_SealV [.mv 5 (.int .u8), .raw] frame_SealV.k ?_
 intro R avs objs κ r h
 unfold s_frame_SealV at h
 simp only [veil_eq] at h
 split at h
 ·rename_i gen body
  split at h
  ·cases h
  ·rename_i y hy
   refine ⟨BIG, _, _, _, (frame_SealV.eq BIG gen body).trans hy, ?_, h⟩
   intro rs ros hk
   unfold frame_SealV.k at hk
   split at hk
   ·first | (cases hk; exact ⟨rfl, rfl⟩) | (rw [← Option.some.inj hk]; exact ⟨rfl, rfl⟩)
   ·cases hk
 ·cases h
def parcel_SealV_E : Env := ⟨th, gam [(13, s_msg_Greets), (29, s_xlate_Encode), (30, s_frame_SealV)], fun i => ⟨[], [], []⟩⟩
def parcel_SealV.k (rs : List AV) (os : List Den.Obj) : Option (Int × (List Int)) :=
 match rs, os with
 | [.row 0, .d (.int .i64) r0], [.row 5 (.int .u8) r1 false] => some (r0, r1)
 | _, _ => none
def parcel_SealV.b (gen mKind mFrom mInc mSpanLo mSpanHi mSeq mTarget mLife mEpoch mBase : Int) (mRecs base : LR) : Option (Int × (List Int)) :=
 (match (veil (msg_Greets.f BIG mKind)) with | none => none | some y0 => (if y0 then (if (gen != (1 : Int)) then some ((10 : Int), ([] : List Int)) else (match (veil (xlate_Encode.f BIG gen mKind mFrom mInc mSpanLo mSpanHi mSeq mTarget mLife mEpoch mBase mRecs base)) with | none => none | some y1 => (if (y1.2 != (0 : Int)) then some (y1.2, ([] : List Int)) else (match (veil (frame_SealV.f BIG gen y1.1)) with | none => none | some y2 => some (y2.1, y2.2))))) else (match (veil (xlate_Encode.f BIG gen mKind mFrom mInc mSpanLo mSpanHi mSeq mTarget mLife mEpoch mBase mRecs base)) with | none => none | some y3 => (if (y3.2 != (0 : Int)) then some (y3.2, ([] : List Int)) else (match (veil (frame_SealV.f BIG gen y3.1)) with | none => none | some y4 => some (y4.1, y4.2))))))
def parcel_SealV.f (fuel : Nat) (gen mKind mFrom mInc mSpanLo mSpanHi mSeq mTarget mLife mEpoch mBase : Int) (mRecs base : LR) : Option (Int × (List Int)) := parcel_SealV.b gen mKind mFrom mInc mSpanLo mSpanHi mSeq mTarget mLife mEpoch mBase mRecs base
theorem parcel_SealV.eq (fuel : Nat) (gen mKind mFrom mInc mSpanLo mSpanHi mSeq mTarget mLife mEpoch mBase : Int) (mRecs base : LR) : (denF parcel_SealV_E loopN fuel Tryz.f10 [.mv 5 (.int .u8), .raw] [.d tQi gen, .agg [.d tQi mKind, .d tQi mFrom, .d tQi mInc, .d tQi mSpanLo, .d tQi mSpanHi, .d tQi mSeq, .d tQi mTarget, .d tQi mLife, .d tQi mEpoch, .d tQi mBase, .d (.sl tQr) mRecs], .d (.sl tQr) base] [] parcel_SealV.k) = parcel_SealV.f fuel gen mKind mFrom mInc mSpanLo mSpanHi mSeq mTarget mLife mEpoch mBase mRecs base := by
 kernel_rfl
def s_parcel_SealV : Den.Sum := ⟨[.raw, .dat (.pair tQi (.pair tQi (.pair tQi (.pair (.pair tQi tQi) (.pair tQi (.pair tQi (.pair tQi (.pair tQi (.pair tQi (.sl tQr)))))))))) true, .dat (.sl tQr) false], fun args objs κ => match args, objs with
 | [.d (.int .i64) gen, .agg [.d (.int .i64) mKind, .d (.int .i64) mFrom, .d (.int .i64) mInc, .d (.int .i64) mSpanLo, .d (.int .i64) mSpanHi, .d (.int .i64) mSeq, .d (.int .i64) mTarget, .d (.int .i64) mLife, .d (.int .i64) mEpoch, .d (.int .i64) mBase, .d (.sl (.pair (.int .i64) (.pair (.int .i64) (.pair (.int .i64) (.pair (.pair (.int .i64) (.int .i64)) (.pair .bool (.sl (.pair (.int .i64) (.sl (.int .u8)))))))))) mRecs], .d (.sl (.pair (.int .i64) (.pair (.int .i64) (.pair (.int .i64) (.pair (.pair (.int .i64) (.int .i64)) (.pair .bool (.sl (.pair (.int .i64) (.sl (.int .u8)))))))))) base], [] => (match veil (parcel_SealV.f BIG gen mKind mFrom mInc mSpanLo mSpanHi mSeq mTarget mLife mEpoch mBase mRecs base) with | none => none | some y => κ [.row 0, .d (.int .i64) y.1] [.row 5 (.int .u8) y.2 false])
 | _, _ => none⟩
theorem s_parcel_SealV_det : SumDet s_parcel_SealV := sdet fun _ _ _ _ => by
 unfold s_parcel_SealV
 simp only [veil_eq]
 split
 ·split <;> rfl
 ·rfl
theorem s_parcel_SealV_ok : SumOk Tryz.prog 10 s_parcel_SealV := by
 have hE : EnvOk Tryz.prog parcel_SealV_E := env_ok (l := [(13, s_msg_Greets), (29, s_xlate_Encode), (30, s_frame_SealV)]) th_ok any_ok ⟨⟨s_msg_Greets_ok, s_msg_Greets_det⟩, ⟨s_xlate_Encode_ok, s_xlate_Encode_det⟩, ⟨s_frame_SealV_ok, s_frame_SealV_det⟩, trivial⟩ _
 refine sum_ok hE Tryz.func10 rfl (by kernel_rfl) s_parcel_SealV [.mv 5 (.int .u8), .raw] parcel_SealV.k ?_
 intro R avs objs κ r h
 unfold s_parcel_SealV at h
 simp only [veil_eq] at h
 split at h
 ·rename_i gen mKind mFrom mInc mSpanLo mSpanHi mSeq mTarget mLife mEpoch mBase mRecs base
  split at h
  ·cases h
  ·rename_i y hy
   refine ⟨BIG, _, _, _, (parcel_SealV.eq BIG gen mKind mFrom mInc mSpanLo mSpanHi mSeq mTarget mLife mEpoch mBase mRecs base).trans hy, ?_, h⟩
   intro rs ros hk
   unfold parcel_SealV.k at hk
   split at hk
   ·first | (cases hk; exact ⟨rfl, rfl⟩) | (rw [← Option.some.inj hk]; exact ⟨rfl, rfl⟩)
   ·cases hk
 ·cases h
def law30_ParcelBack_E : Env := ⟨th, gam [(7, s_few10), (8, s_few8), (9, s_law30_awake), (10, s_parcel_SealV), (11, s_parcel_Open), (12, s_span_Has), (13, s_msg_Greets), (14, s_parcel_Parcel_Read), (15, s_alike10), (16, s_msg_Head)], fun i => if i = 20 then ⟨[4, 5, 9, 13], [], [777777, 666666]⟩ else ⟨[], [], []⟩⟩
def law30_ParcelBack.k (rs : List AV) (os : List Den.Obj) : Option Bool :=
 match rs, os with
 | [.d .bool r0], [] => some r0
 | _, _ => none
def law30_ParcelBack.s20 (gen mKind mFrom mInc mSpanLo mSpanHi mSeq mTarget mLife mEpoch mBase : Int) (mRecs base : LR) (ownLo ownHi at0 by0 : Int) (x12 : (List Int)) : St := ⟨[dD, dD, dD, dD, .d tQi (at0), .d (.int .u8) (by0), dD, dD, dD, .ptr 64 0, dD, dD, dD, .row 65, dD, dD, dD, dD, dD, dD, dD, dD, dD, dD, dD, dD, dD, dD, dD, dD, dD, dD, dD, dD, dD, dD, dD, dD, dD, dD, dD, dD, dD, dD, dD, dD, dD, dD, dD, dD, dD, dD, dD, dD, dD, dD, dD, dD, dD, dD, dD, dD, dD, dD, dD, dD, dD, dD, dD, dD, dD, dD, dD, dD, dD, dD, dD, dD, dD, dD, dD, dD, dD, dD, dD, dD, dD, dD, dD, dD, dD, dD, dD, dD, dD, dD, dD, dD, dD, dD, dD, dD, dD, dD, dD, dD, dD, dD, dD, dD, dD, dD, dD, dD, dD, dD, dD, dD, dD, dD, dD, dD, dD, dD, dD, dD, dD, dD, dD, dD, dD, dD, dD, dD, dD, dD, dD, dD, dD, dD, dD, .dead], ofL [(64, .box [.d tQi (ownLo), .d tQi (ownHi)]), (65, .row 5 (.int .u8) x12 false)], 0⟩
def law30_ParcelBack.p20 (fuel : Nat) (gen mKind mFrom mInc mSpanLo mSpanHi mSeq mTarget mLife mEpoch mBase : Int) (mRecs base : LR) (ownLo ownHi at0 by0 : Int) (k : Nat) := fun x12 => lp law30_ParcelBack_E fuel Tryz.f3 [.raw] 0 law30_ParcelBack.k 20 [] k (law30_ParcelBack.s20 gen mKind mFrom mInc mSpanLo mSpanHi mSeq mTarget mLife mEpoch mBase mRecs base ownLo ownHi at0 by0 x12)
def law30_ParcelBack.b20 (gen mKind mFrom mInc mSpanLo mSpanHi mSeq mTarget mLife mEpoch mBase : Int) (mRecs base : LR) (ownLo ownHi at0 by0 : Int) (A20 : (List Int) → Option Bool) (x12 : (List Int)) : Option Bool :=
 (match (idx x12 at0) with | none => none | some y13 => (match (idx x12 at0) with | none => none | some y14 => (match (idx x12 at0) with | none => none | some y15 => (match (idx x12 at0) with | none => none | some y16 => (match (veil (parcel_Open.f BIG (List.set x12 (Int.toNat at0) (bits BinOp.xor .u8 y14 by0)) ownLo ownHi)) with | none => none | some y17 => (if (y17.2.2.2.2.2.2.2.2.2.2.2.2.2 != (0 : Int)) then (if (y17.2.2.2.2.2.2.2.2.2.2.2.2.2 != (9 : Int)) then (match (veil (law30_awake.f BIG ())) with | none => none | some y18 => some (y18)) else some (false)) else some (false)))))))
def law30_ParcelBack.l20 (fuel : Nat) (gen mKind mFrom mInc mSpanLo mSpanHi mSeq mTarget mLife mEpoch mBase : Int) (mRecs base : LR) (ownLo ownHi at0 by0 : Int) : Nat → (List Int) → Option Bool
 | 0, _ => none
 | k + 1, x12 => law30_ParcelBack.b20 gen mKind mFrom mInc mSpanLo mSpanHi mSeq mTarget mLife mEpoch mBase mRecs base ownLo ownHi at0 by0 (law30_ParcelBack.l20 fuel gen mKind mFrom mInc mSpanLo mSpanHi mSeq mTarget mLife mEpoch mBase mRecs base ownLo ownHi at0 by0 k) x12
def law30_ParcelBack.b (gen mKind mFrom mInc mSpanLo mSpanHi mSeq mTarget mLife mEpoch mBase : Int) (mRecs base : LR) (ownLo ownHi at0 by0 : Int) (E20 : (List Int) → Option Bool) : Option Bool :=
 (if (smallRecs mRecs) then (if (!(few8 mRecs)) then (match (veil (law30_awake.f BIG ())) with | none => none | some y0 => some (y0)) else (if (smallRecs base) then (if (!(few8 base)) then (match (veil (law30_awake.f BIG ())) with | none => none | some y1 => some (y1)) else (match (veil (parcel_SealV.f BIG gen mKind mFrom mInc mSpanLo mSpanHi mSeq mTarget mLife mEpoch mBase mRecs base)) with | none => none | some y2 => (if (y2.1 != (0 : Int)) then (match (veil (law30_awake.f BIG ())) with | none => none | some y3 => some (y3)) else (match (veil (parcel_Open.f BIG y2.2 ownLo ownHi)) with | none => none | some y4 => (match (veil (span_Has.f BIG ownLo ownHi gen)) with | none => none | some y5 => (if y5 then (match (veil (parcel_Parcel_Read.f BIG y4.1 y4.2.1 y4.2.2.1 y4.2.2.2.1 y4.2.2.2.2.1 y4.2.2.2.2.2.1 y4.2.2.2.2.2.2.1 y4.2.2.2.2.2.2.2.1 y4.2.2.2.2.2.2.2.2.1 y4.2.2.2.2.2.2.2.2.2.1 y4.2.2.2.2.2.2.2.2.2.2.1 y4.2.2.2.2.2.2.2.2.2.2.2.1 y4.2.2.2.2.2.2.2.2.2.2.2.2.1 base)) with | none => none | some y6 => (if (y4.2.2.2.2.2.2.2.2.2.2.2.2.2 != (0 : Int)) then some (false) else (if (y4.2.2.2.2.2.2.2.2.2.2.2.1 != gen) then some (false) else (match (veil (msg_Head.f BIG mKind mFrom mInc mSpanLo mSpanHi mSeq mTarget mLife mEpoch mBase mRecs)) with | none => none | some y7 => (if ((smallRecs y4.2.2.2.2.2.2.2.2.2.2.1) && (smallRecs y7.2.2.2.2.2.2.2.2.2.2)) then (if (!((y4.1 == y7.1) && ((y4.2.1 == y7.2.1) && ((y4.2.2.1 == y7.2.2.1) && ((y4.2.2.2.1 == y7.2.2.2.1) && ((y4.2.2.2.2.1 == y7.2.2.2.2.1) && ((y4.2.2.2.2.2.1 == y7.2.2.2.2.2.1) && ((y4.2.2.2.2.2.2.1 == y7.2.2.2.2.2.2.1) && ((y4.2.2.2.2.2.2.2.1 == y7.2.2.2.2.2.2.2.1) && ((y4.2.2.2.2.2.2.2.2.1 == y7.2.2.2.2.2.2.2.2.1) && ((y4.2.2.2.2.2.2.2.2.2.1 == y7.2.2.2.2.2.2.2.2.2.1) && (allGo y4.2.2.2.2.2.2.2.2.2.2.1 y7.2.2.2.2.2.2.2.2.2.2)))))))))))) then some (false) else (if (y6.2.2.2.2.2.2.2.2.2.2.2 != (0 : Int)) then some (false) else (if ((smallRecs y6.2.2.2.2.2.2.2.2.2.2.1) && (smallRecs mRecs)) then (if (!((y6.1 == mKind) && ((y6.2.1 == mFrom) && ((y6.2.2.1 == mInc) && ((y6.2.2.2.1 == mSpanLo) && ((y6.2.2.2.2.1 == mSpanHi) && ((y6.2.2.2.2.2.1 == mSeq) && ((y6.2.2.2.2.2.2.1 == mTarget) && ((y6.2.2.2.2.2.2.2.1 == mLife) && ((y6.2.2.2.2.2.2.2.2.1 == mEpoch) && ((y6.2.2.2.2.2.2.2.2.2.1 == mBase) && (allGo y6.2.2.2.2.2.2.2.2.2.2.1 mRecs)))))))))))) then some (false) else (if (decide (at0 < (0 : Int))) then (match (veil (law30_awake.f BIG ())) with | none => none | some y8 => some (y8)) else (if (decide (at0 ≥ ((((List.length y2.2)) : Nat) : Int))) then (match (veil (law30_awake.f BIG ())) with | none => none | some y9 => some (y9)) else (if (((0 : Int) ≤ at0) ∧ (at0 ≤ ((((List.length y2.2)) : Nat) : Int))) then (match (veil (parcel_Open.f BIG (List.drop (0 : Nat) (List.take (Int.toNat at0) y2.2)) ownLo ownHi)) with | none => none | some y10 => (if (y10.2.2.2.2.2.2.2.2.2.2.2.2.2 == (0 : Int)) then some (false) else (if (y10.2.2.2.2.2.2.2.2.2.2.2.2.2 == (9 : Int)) then some (false) else (if (by0 == (0 : Int)) then (match (veil (law30_awake.f BIG ())) with | none => none | some y11 => some (y11)) else E20 y2.2)))) else none)))) else none))) else none))))) else (match (veil (msg_Greets.f BIG mKind)) with | none => none | some y19 => (if y19 then (match (veil (parcel_Parcel_Read.f BIG y4.1 y4.2.1 y4.2.2.1 y4.2.2.2.1 y4.2.2.2.2.1 y4.2.2.2.2.2.1 y4.2.2.2.2.2.2.1 y4.2.2.2.2.2.2.2.1 y4.2.2.2.2.2.2.2.2.1 y4.2.2.2.2.2.2.2.2.2.1 y4.2.2.2.2.2.2.2.2.2.2.1 y4.2.2.2.2.2.2.2.2.2.2.2.1 y4.2.2.2.2.2.2.2.2.2.2.2.2.1 base)) with | none => none | some y20 => (if (y4.2.2.2.2.2.2.2.2.2.2.2.2.2 != (0 : Int)) then some (false) else (if (y4.2.2.2.2.2.2.2.2.2.2.2.1 != gen) then some (false) else (match (veil (msg_Head.f BIG mKind mFrom mInc mSpanLo mSpanHi mSeq mTarget mLife mEpoch mBase mRecs)) with | none => none | some y21 => (if ((smallRecs y4.2.2.2.2.2.2.2.2.2.2.1) && (smallRecs y21.2.2.2.2.2.2.2.2.2.2)) then (if (!((y4.1 == y21.1) && ((y4.2.1 == y21.2.1) && ((y4.2.2.1 == y21.2.2.1) && ((y4.2.2.2.1 == y21.2.2.2.1) && ((y4.2.2.2.2.1 == y21.2.2.2.2.1) && ((y4.2.2.2.2.2.1 == y21.2.2.2.2.2.1) && ((y4.2.2.2.2.2.2.1 == y21.2.2.2.2.2.2.1) && ((y4.2.2.2.2.2.2.2.1 == y21.2.2.2.2.2.2.2.1) && ((y4.2.2.2.2.2.2.2.2.1 == y21.2.2.2.2.2.2.2.2.1) && ((y4.2.2.2.2.2.2.2.2.2.1 == y21.2.2.2.2.2.2.2.2.2.1) && (allGo y4.2.2.2.2.2.2.2.2.2.2.1 y21.2.2.2.2.2.2.2.2.2.2)))))))))))) then some (false) else (if (y20.2.2.2.2.2.2.2.2.2.2.2 != (0 : Int)) then some (false) else (if ((smallRecs y20.2.2.2.2.2.2.2.2.2.2.1) && (smallRecs mRecs)) then (if (!((y20.1 == mKind) && ((y20.2.1 == mFrom) && ((y20.2.2.1 == mInc) && ((y20.2.2.2.1 == mSpanLo) && ((y20.2.2.2.2.1 == mSpanHi) && ((y20.2.2.2.2.2.1 == mSeq) && ((y20.2.2.2.2.2.2.1 == mTarget) && ((y20.2.2.2.2.2.2.2.1 == mLife) && ((y20.2.2.2.2.2.2.2.2.1 == mEpoch) && ((y20.2.2.2.2.2.2.2.2.2.1 == mBase) && (allGo y20.2.2.2.2.2.2.2.2.2.2.1 mRecs)))))))))))) then some (false) else (if (decide (at0 < (0 : Int))) then (match (veil (law30_awake.f BIG ())) with | none => none | some y22 => some (y22)) else (if (decide (at0 ≥ ((((List.length y2.2)) : Nat) : Int))) then (match (veil (law30_awake.f BIG ())) with | none => none | some y23 => some (y23)) else (if (((0 : Int) ≤ at0) ∧ (at0 ≤ ((((List.length y2.2)) : Nat) : Int))) then (match (veil (parcel_Open.f BIG (List.drop (0 : Nat) (List.take (Int.toNat at0) y2.2)) ownLo ownHi)) with | none => none | some y24 => (if (y24.2.2.2.2.2.2.2.2.2.2.2.2.2 == (0 : Int)) then some (false) else (if (y24.2.2.2.2.2.2.2.2.2.2.2.2.2 == (9 : Int)) then some (false) else (if (by0 == (0 : Int)) then (match (veil (law30_awake.f BIG ())) with | none => none | some y25 => some (y25)) else E20 y2.2)))) else none)))) else none))) else none))))) else (if (y4.2.2.2.2.2.2.2.2.2.2.2.2.2 != (9 : Int)) then some (false) else (if (y4.2.2.2.2.2.2.2.2.2.2.2.1 != gen) then some (false) else (if (decide (at0 < (0 : Int))) then (match (veil (law30_awake.f BIG ())) with | none => none | some y26 => some (y26)) else (if (decide (at0 ≥ ((((List.length y2.2)) : Nat) : Int))) then (match (veil (law30_awake.f BIG ())) with | none => none | some y27 => some (y27)) else (if (((0 : Int) ≤ at0) ∧ (at0 ≤ ((((List.length y2.2)) : Nat) : Int))) then (match (veil (parcel_Open.f BIG (List.drop (0 : Nat) (List.take (Int.toNat at0) y2.2)) ownLo ownHi)) with | none => none | some y28 => (if (y28.2.2.2.2.2.2.2.2.2.2.2.2.2 == (0 : Int)) then some (false) else (if (y28.2.2.2.2.2.2.2.2.2.2.2.2.2 == (9 : Int)) then some (false) else (if (by0 == (0 : Int)) then (match (veil (law30_awake.f BIG ())) with | none => none | some y29 => some (y29)) else E20 y2.2)))) else none))))))))))))) else none)) else none)
def law30_ParcelBack.f (fuel : Nat) (gen mKind mFrom mInc mSpanLo mSpanHi mSeq mTarget mLife mEpoch mBase : Int) (mRecs base : LR) (ownLo ownHi at0 by0 : Int) : Option Bool := law30_ParcelBack.b gen mKind mFrom mInc mSpanLo mSpanHi mSeq mTarget mLife mEpoch mBase mRecs base ownLo ownHi at0 by0 (law30_ParcelBack.l20 fuel gen mKind mFrom mInc mSpanLo mSpanHi mSeq mTarget mLife mEpoch mBase mRecs base ownLo ownHi at0 by0 fuel)
theorem law30_ParcelBack.l20_eq (fuel : Nat) (gen mKind mFrom mInc mSpanLo mSpanHi mSeq mTarget mLife mEpoch mBase : Int) (mRecs base : LR) (ownLo ownHi at0 by0 : Int) : ∀ k : Nat, law30_ParcelBack.p20 fuel gen mKind mFrom mInc mSpanLo mSpanHi mSeq mTarget mLife mEpoch mBase mRecs base ownLo ownHi at0 by0 k = law30_ParcelBack.l20 fuel gen mKind mFrom mInc mSpanLo mSpanHi mSeq mTarget mLife mEpoch mBase mRecs base ownLo ownHi at0 by0 k
 | 0 => by kernel_rfl
 | k + 1 => by
  refine Eq.trans (b := law30_ParcelBack.b20 gen mKind mFrom mInc mSpanLo mSpanHi mSeq mTarget mLife mEpoch mBase mRecs base ownLo ownHi at0 by0 (law30_ParcelBack.p20 fuel gen mKind mFrom mInc mSpanLo mSpanHi mSeq mTarget mLife mEpoch mBase mRecs base ownLo ownHi at0 by0 k)) (by kernel_rfl) ?_
  rw [law30_ParcelBack.l20_eq fuel gen mKind mFrom mInc mSpanLo mSpanHi mSeq mTarget mLife mEpoch mBase mRecs base ownLo ownHi at0 by0 k]
  kernel_rfl
theorem law30_ParcelBack.eq (fuel : Nat) (gen mKind mFrom mInc mSpanLo mSpanHi mSeq mTarget mLife mEpoch mBase : Int) (mRecs base : LR) (ownLo ownHi at0 by0 : Int) : (denF law30_ParcelBack_E loopN fuel Tryz.f3 [.raw] [.d tQi gen, .agg [.d tQi mKind, .d tQi mFrom, .d tQi mInc, .d tQi mSpanLo, .d tQi mSpanHi, .d tQi mSeq, .d tQi mTarget, .d tQi mLife, .d tQi mEpoch, .d tQi mBase, .d (.sl tQr) mRecs], .d (.sl tQr) base, .agg [.d tQi ownLo, .d tQi ownHi], .d tQi at0, .d (.int .u8) by0] [] law30_ParcelBack.k) = law30_ParcelBack.f fuel gen mKind mFrom mInc mSpanLo mSpanHi mSeq mTarget mLife mEpoch mBase mRecs base ownLo ownHi at0 by0 := by
 refine Eq.trans (b := law30_ParcelBack.b gen mKind mFrom mInc mSpanLo mSpanHi mSeq mTarget mLife mEpoch mBase mRecs base ownLo ownHi at0 by0 (law30_ParcelBack.p20 fuel gen mKind mFrom mInc mSpanLo mSpanHi mSeq mTarget mLife mEpoch mBase mRecs base ownLo ownHi at0 by0 fuel)) (by kernel_rfl) ?_
 rw [law30_ParcelBack.l20_eq fuel gen mKind mFrom mInc mSpanLo mSpanHi mSeq mTarget mLife mEpoch mBase mRecs base ownLo ownHi at0 by0 fuel]
 kernel_rfl
theorem law30_ParcelBack.l20_at (fuel nN kK : Nat) (hN : nN = kK + 1) (gen : Int) (mKind : Int) (mFrom : Int) (mInc : Int) (mSpanLo : Int) (mSpanHi : Int) (mSeq : Int) (mTarget : Int) (mLife : Int) (mEpoch : Int) (mBase : Int) (mRecs : LR) (base : LR) (ownLo : Int) (ownHi : Int) (at0 : Int) (by0 : Int) (x12 : (List Int)) : law30_ParcelBack.l20 fuel gen mKind mFrom mInc mSpanLo mSpanHi mSeq mTarget mLife mEpoch mBase mRecs base ownLo ownHi at0 by0 nN x12 = law30_ParcelBack.b20 gen mKind mFrom mInc mSpanLo mSpanHi mSeq mTarget mLife mEpoch mBase mRecs base ownLo ownHi at0 by0 (law30_ParcelBack.l20 fuel gen mKind mFrom mInc mSpanLo mSpanHi mSeq mTarget mLife mEpoch mBase mRecs base ownLo ownHi at0 by0 kK) x12 := by
 subst hN
 rfl
theorem frame_SealV.pure (gen : Int) (body : List Int) (hb : isB body) : frame_SealV.f BIG gen body = some ((sealX gen body).2, (sealX gen body).1) := by
 unfold frame_SealV.f frame_SealV.b sealX
 by_cases h1 : gen < 1
 ·rw [if_pos (by simp [h1]), if_pos (.inl h1)]
 rw [if_neg (by simp [h1])]
 by_cases h3 : gen > 3
 ·rw [if_pos (by simp [h3]), if_pos (.inr h3)]
 have hg : ¬ (gen < 1 ∨ gen > 3) := by omega
 rw [if_neg (by simp [h3]), if_neg hg]
 by_cases hl : body.length > 65499
 ·rw [if_pos hl, if_pos (by simp; omega)]
 rw [if_neg hl, if_neg (by simp; omega)]
 have hn : body.length ≤ 65499 := by omega
 rw [if_pos (by rw [wrap_small _ (by omega) (by omega), wrap_small _ (by omega) (by omega)]; omega), rep4 _ hn]
 generalize hR : List.replicate body.length (0 : Int) = R
 have hRl : R.length = body.length := by rw [← hR]; simp
 have i0 : ∀ a b c d : Int, idx (a :: b :: c :: d :: R) 0 = some a := fun _ _ _ _ => rfl
 have i1 : ∀ a b c d : Int, idx (a :: b :: c :: d :: R) 1 = some b := fun _ _ _ _ => rfl
 have i2 : ∀ a b c d : Int, idx (a :: b :: c :: d :: R) 2 = some c := fun _ _ _ _ => rfl
 have i3 : ∀ a b c d : Int, idx (a :: b :: c :: d :: R) 3 = some d := fun _ _ _ _ => rfl
 have s0 : ∀ a b c d x : Int, List.set (a :: b :: c :: d :: R) (Int.toNat 0) x = x :: b :: c :: d :: R := fun _ _ _ _ _ => rfl
 have s1 : ∀ a b c d x : Int, List.set (a :: b :: c :: d :: R) (Int.toNat 1) x = a :: x :: c :: d :: R := fun _ _ _ _ _ => rfl
 have s2 : ∀ a b c d x : Int, List.set (a :: b :: c :: d :: R) (Int.toNat 2) x = a :: b :: x :: d :: R := fun _ _ _ _ _ => rfl
 have s3 : ∀ a b c d x : Int, List.set (a :: b :: c :: d :: R) (Int.toNat 3) x = a :: b :: c :: x :: R := fun _ _ _ _ _ => rfl
 have t4 : ∀ a b c d : Int, List.take (Int.toNat 4) (a :: b :: c :: d :: R) = [a, b, c, d] := fun _ _ _ _ => rfl
 have d4 : ∀ a b c d : Int, List.drop (Int.toNat 4 + body.length) (a :: b :: c :: d :: R) = [] := by
  intro a b c d
  rw [List.drop_eq_nil_iff]
  have : Int.toNat 4 = 4 := rfl
  simp [hRl, this]; omega
 simp only [i0, i1, i2, i3, s0, s1, s2, s3, t4, d4]
 rw [if_pos (by simp <;> omega), if_pos (by have : Int.toNat 4 = 4 := rfl; simp [hRl, this] <;> omega)]
 have g1 : IntKind.wrap .u8 gen = gen := by rw [wrap_u8]; omega
 have g2 : IntKind.wrap .u8 (Int.fdiv ((body.length : Nat) : Int) (2 ^ (Min.min (Int.toNat 8) (IntKind.bits .i64)))) = ((body.length / 256 : Nat) : Int) := by
  have e8 : (2 : Int) ^ (Min.min (Int.toNat 8) (IntKind.bits .i64)) = ((256 : Nat) : Int) := rfl
  rw [e8, fd body.length 256 _ rfl (by omega)]; omega
 have g3 : IntKind.wrap .u8 ((body.length : Nat) : Int) = ((body.length % 256 : Nat) : Int) := by rw [wrap_u8]; omega
 rw [g1, g2, g3]
 have ef : [156, gen, ((body.length / 256 : Nat) : Int), ((body.length % 256 : Nat) : Int)] ++ body ++ [] = frontF gen body := by simp [frontF]
 rw [ef, crc_Of.pure _ (front_bytes (by omega) (by omega) hb hn) (by simp [frontF]; omega)]
 simp only [veil_eq]
 rw [frame_SealV.l10_at BIG BIG (BIG - 1) big_eq]
 unfold frame_SealV.b10
 rw [rep4 _ hn, hR]
 simp only [s0, s1, s2, s3, t4, d4]
 rw [g1, g2, g3, ef]
 have e24 : (2 : Int) ^ (Min.min (Int.toNat 24) (IntKind.bits .u32)) = ((16777216 : Nat) : Int) := rfl
 have e16 : (2 : Int) ^ (Min.min (Int.toNat 16) (IntKind.bits .u32)) = ((65536 : Nat) : Int) := rfl
 have e8 : (2 : Int) ^ (Min.min (Int.toNat 8) (IntKind.bits .u32)) = ((256 : Nat) : Int) := rfl
 rw [e24, e16, e8, fd _ 16777216 _ rfl (by omega), fd _ 65536 _ rfl (by omega), fd _ 256 _ rfl (by omega)]
 have g4 : IntKind.wrap .u8 ((crcF (frontF gen body) : Nat) : Int) = ((crcF (frontF gen body) % 256 : Nat) : Int) := by rw [wrap_u8]; omega
 have g5 : crcF (frontF gen body) / 16777216 % 256 = crcF (frontF gen body) / 16777216 := by have := crcF_lt (frontF gen body); omega
 rw [g4, g5, if_pos (by unfold lim; simp [frontF]; omega)]
 rfl
theorem parcel_SealV.pure (gen k f i lo hi s t l e b : Int) (recs base : LR) (hr : smallRecs recs = true) (hl : smallRecs base = true) (hln : base.length < 1000000000) (hb : byteBags recs) :
  parcel_SealV.f BIG gen k f i lo hi s t l e b recs base = some ((sealP gen k f i lo hi s t l e b recs base).2, (sealP gen k f i lo hi s t l e b recs base).1) := by
 unfold parcel_SealV.f parcel_SealV.b sealP
 rw [msg_Greets.pure, XEnc.pure gen k f i lo hi s t l e b recs base hr hl hln]
 simp only [veil_eq]
 by_cases h0 : (writeX gen k f i lo hi s t l e b recs base).2 = 0
 ·rw [frame_SealV.pure gen _ (write_isB hb h0)]
  simp only [veil_eq]
  by_cases hg : 1 ≤ k ∧ k ≤ 3
  ·rw [if_pos (by simpa using hg)]
   by_cases g1 : gen = 1
   ·rw [if_neg (by simp [g1]), if_neg (by simp [h0]), if_neg (by simp [g1]), if_neg (by simp [h0])]
   ·rw [if_pos (by simp [g1]), if_pos ⟨hg, g1⟩]
  ·rw [if_neg (by simpa using hg), if_neg (by simp [h0]), if_neg (by intro h; exact hg h.1), if_neg (by simp [h0])]
 ·by_cases hg : 1 ≤ k ∧ k ≤ 3
  ·rw [if_pos (by simpa using hg)]
   by_cases g1 : gen = 1
   ·rw [if_neg (by simp [g1]), if_pos (by simpa using h0), if_neg (by simp [g1]), if_pos h0]
   ·rw [if_pos (by simp [g1]), if_pos ⟨hg, g1⟩]
  ·rw [if_neg (by simpa using hg), if_pos (by simpa using h0), if_neg (by intro h; exact hg h.1), if_pos h0]
theorem bits_xor8 (a b : Nat) (ha : a < 256) (hb : b < 256) : bits BinOp.xor .u8 (a : Int) (b : Int) = ((a ^^^ b : Nat) : Int) := by
 show IntKind.wrap .u8 (((BitVec.ofInt 8 (a : Int) ^^^ BitVec.ofInt 8 (b : Int)).toNat : Nat) : Int) = _
 rw [BitVec.toNat_xor, BitVec.toNat_ofInt, BitVec.toNat_ofInt, wrap_u8]
 have e1 : ((a : Int) % ((2 ^ 8 : Nat) : Int)).toNat = a := by
  rw [show ((2 ^ 8 : Nat) : Int) = 256 from rfl]; omega
 have e2 : ((b : Int) % ((2 ^ 8 : Nat) : Int)).toNat = b := by
  rw [show ((2 ^ 8 : Nat) : Int) = 256 from rfl]; omega
 rw [e1, e2]
 have := xor_lt a b 8 ha hb
 rw [show (2 : Nat) ^ 8 = 256 from rfl] at this
 omega
theorem xor8_facts {y d : Int} (hy : 0 ≤ y ∧ y ≤ 255) (hd : 0 ≤ d ∧ d ≤ 255) (h : d ≠ 0) : (0 ≤ bits BinOp.xor .u8 y d ∧ bits BinOp.xor .u8 y d ≤ 255) ∧ bits BinOp.xor .u8 y d ≠ y := by
 obtain ⟨a, rfl⟩ : ∃ a : Nat, y = (a : Int) := ⟨y.toNat, by omega⟩
 obtain ⟨b, rfl⟩ : ∃ b : Nat, d = (b : Int) := ⟨d.toNat, by omega⟩
 rw [bits_xor8 a b (by omega) (by omega)]
 have hl := xor_lt a b 8 (by omega) (by omega)
 rw [show (2 : Nat) ^ 8 = 256 from rfl] at hl
 refine ⟨by omega, fun e => h ?_⟩
 have e2 : b ^^^ a = 0 ^^^ a := by rw [Nat.xor_comm, Nat.zero_xor]; omega
 have := xor_cancel b 0 a e2
 omega
theorem peek_write {gen : Int} {k f i lo hi s t l e b : Int} {recs base : LR} (hb : byteBags recs) (hbase : gen = 3 → sortedF base = true) (h : (writeX gen k f i lo hi s t l e b recs base).2 = 0) :
  peekX gen (writeX gen k f i lo hi s t l e b recs base).1 = (k, f, i, lo, hi, s, t, l, e, b, [], 0) := by
 have hw := write_isB hb h
 obtain ⟨hr, _, _, g1, g3⟩ := write_back hbase h
 generalize (writeX gen k f i lo hi s t l e b recs base).1 = w at *
 unfold peekX
 by_cases h3 : gen = 3
 ·subst h3
  rw [readX3] at hr
  have h0 : errX (dec3 w base) = 0 := by rw [hr]; rfl
  rw [if_pos (by simp), (dec3_ok hw h0).2.2, hr]
  rfl
 ·rw [if_neg (by simp [h3])]
  have e : readX gen w [] = readX gen w base := by
   rcases (show gen = 1 ∨ gen = 2 by omega) with rfl | rfl
   ·rw [readX1, readX1]
   ·rw [readX2, readX2]
  rw [e, hr]
  rfl
theorem base_of {gen : Int} {k f i lo hi s t l e b : Int} {recs base : LR} (h : (writeX gen k f i lo hi s t l e b recs base).2 = 0) : gen = 3 → sortedF base = true := by
 rintro rfl
 cases hs : sortedF base with
 | true => rfl
 | false =>
  rw [writeX3] at h
  unfold enc3 at h
  rw [hs] at h
  simp at h
theorem sealP_ok {gen k f i lo hi s t l e b : Int} {recs base : LR} (hb : byteBags recs) (h : (sealP gen k f i lo hi s t l e b recs base).2 = 0) :
  ∃ w, sealP gen k f i lo hi s t l e b recs base = (sealF gen w, 0) ∧ 1 ≤ gen ∧ gen ≤ 3 ∧ isB w ∧ w.length ≤ 65499 ∧ (greetB k = true → gen = 1) ∧ readX gen w base = (k, f, i, lo, hi, s, t, l, e, b, recs, 0) ∧ peekX gen w = (k, f, i, lo, hi, s, t, l, e, b, [], 0) ∧ validF k f i lo hi s t l e b recs = true := by
 unfold sealP at h ⊢
 by_cases hg : (1 ≤ k ∧ k ≤ 3) ∧ gen ≠ 1
 ·rw [if_pos hg] at h; exact absurd h (show (10 : Int) ≠ 0 by decide)
 rw [if_neg hg] at h ⊢
 by_cases h0 : (writeX gen k f i lo hi s t l e b recs base).2 = 0
 ·rw [if_neg (fun k => k h0)] at h ⊢
  have hw := write_isB hb h0
  have hp := peek_write hb (base_of h0) h0
  obtain ⟨hr, hv, hl, g1, g3⟩ := write_back (base_of h0) h0
  generalize (writeX gen k f i lo hi s t l e b recs base).1 = w at *
  refine ⟨w, ?_, g1, g3, hw, hl, ?_, hr, hp, hv⟩
  ·unfold sealX
   rw [if_neg (by omega), if_neg (by omega)]
  ·intro hk
   unfold greetB at hk
   have := of_decide_eq_true hk
   apply Decidable.byContradiction
   intro hn
   exact hg ⟨this, hn⟩
 ·rw [if_pos h0] at h
  exact absurd h h0
theorem openP_seal {gen k f i lo hi s t l e b : Int} {w : List Int} (olo ohi : Int) (h1 : 1 ≤ gen) (h3 : gen ≤ 3) (hb : isB w) (hl : w.length ≤ 65499) (hg : greetB k = true → gen = 1) (hp : peekX gen w = (k, f, i, lo, hi, s, t, l, e, b, [], 0)) :
  openP (sealF gen w) olo ohi = if hasB olo ohi gen = true ∨ greetB k = true then (k, f, i, lo, hi, s, t, l, e, b, [], gen, w, 0) else zP gen 9 := by
 unfold openP
 rw [openX_seal gen w h1 h3 hb hl]
 dsimp only
 rw [hp]
 rw [if_neg (by simp)]
 have he : errX (k, f, i, lo, hi, s, t, l, e, b, ([] : LR), (0 : Int)) = 0 := rfl
 rw [he]
 cases hh : hasB olo ohi gen with
 | true =>
  rw [if_neg (by simp), if_neg (by simp), if_neg (by rintro ⟨a, c⟩; exact c (hg a)), if_pos (.inl rfl)]
  rfl
 | false =>
  cases hk : greetB k with
  | true =>
   have := hg hk
   subst this
   rw [if_neg (by simp [hk]), if_neg (by simp), if_neg (by simp), if_pos (.inr rfl)]
   rfl
  | false =>
   rw [if_pos ⟨rfl, .inr (by simp [hk])⟩, if_neg (by simp)]
theorem back_tail (gen k f i lo hi s t l e b : Int) (recs base : LR) (olo ohi at0 by0 : Int) (w : List Int) (h1 : 1 ≤ gen) (h3 : gen ≤ 3) (hb : isB w) (hl : w.length ≤ 65499) (a0 : 0 ≤ at0) (a1 : at0 < ((sealF gen w).length : Int)) (hby : 0 ≤ by0 ∧ by0 ≤ 255) (hn : by0 ≠ 0) :
  law30_ParcelBack.l20 BIG gen k f i lo hi s t l e b recs base olo ohi at0 by0 BIG (sealF gen w) = some true := by
 rw [law30_ParcelBack.l20_at BIG BIG (BIG - 1) big_eq]
 unfold law30_ParcelBack.b20
 simp only [veil_eq]
 have hsb := seal_bytes h1 h3 hb hl
 have hsl := seal_len gen w
 obtain ⟨n, rfl⟩ : ∃ n : Nat, at0 = (n : Int) := ⟨at0.toNat, by omega⟩
 have hlt : n < (sealF gen w).length := by omega
 rw [idx_at, List.getElem?_eq_getElem hlt]
 dsimp only
 rw [Int.toNat_natCast]
 obtain ⟨hc, hne⟩ := xor8_facts (hsb _ (List.getElem_mem hlt)) hby hn
 have ht := turned gen w h1 h3 hb hl n hlt _ hc hne
 rw [parcel_Open.pure _ olo ohi (isB_set hsb n hc) (by rw [List.length_set]; omega), openP_err olo ohi ht]
 have h9 := openX_err ((sealF gen w).set n (bits BinOp.xor .u8 (sealF gen w)[n] by0))
 dsimp only [zP]
 rw [if_pos (bne_iff_ne.2 ht), if_pos (bne_iff_ne.2 h9), Awake30.pure]
theorem back_mid (gen k f i lo hi s t l e b : Int) (recs base : LR) (olo ohi at0 by0 : Int) (w : List Int) (h1 : 1 ≤ gen) (h3 : gen ≤ 3) (hb : isB w) (hl : w.length ≤ 65499) (hby : 0 ≤ by0 ∧ by0 ≤ 255) :
  (if decide (at0 < (0 : Int)) = true then (match law30_awake.f BIG () with | none => none | some y => some y) else if decide (at0 ≥ (((sealF gen w).length : Nat) : Int)) = true then (match law30_awake.f BIG () with | none => none | some y => some y) else if 0 ≤ at0 ∧ at0 ≤ (((sealF gen w).length : Nat) : Int) then (match parcel_Open.f BIG (List.drop 0 (List.take at0.toNat (sealF gen w))) olo ohi with | none => none | some y => if (y.2.2.2.2.2.2.2.2.2.2.2.2.2 == (0 : Int)) = true then some false else if (y.2.2.2.2.2.2.2.2.2.2.2.2.2 == (9 : Int)) = true then some false else if (by0 == (0 : Int)) = true then (match law30_awake.f BIG () with | none => none | some y => some y) else law30_ParcelBack.l20 BIG gen k f i lo hi s t l e b recs base olo ohi at0 by0 BIG (sealF gen w)) else none) = some true := by
 have hsb := seal_bytes h1 h3 hb hl
 have hsl := seal_len gen w
 rw [Awake30.pure]
 by_cases a0 : at0 < 0
 ·rw [if_pos (decide_eq_true a0)]
 rw [if_neg (by rw [decide_eq_true_eq]; exact a0)]
 by_cases a1 : at0 ≥ (((sealF gen w).length : Nat) : Int)
 ·rw [if_pos (decide_eq_true a1)]
 rw [if_neg (by rw [decide_eq_true_eq]; exact a1), if_pos (by omega), List.drop_zero]
 have hc := chopped gen w h1 h3 hb hl at0.toNat (by omega)
 rw [parcel_Open.pure _ olo ohi (isB_take hsb _) (by rw [List.length_take]; omega), openP_err olo ohi hc]
 have h9 := openX_err ((sealF gen w).take at0.toNat)
 dsimp only [zP]
 rw [if_neg (by rw [beq_iff_eq]; exact hc), if_neg (by rw [beq_iff_eq]; exact h9)]
 by_cases hz : by0 = 0
 ·rw [if_pos (beq_iff_eq.2 hz)]
 ·rw [if_neg (by rw [beq_iff_eq]; exact hz)]
  exact back_tail gen k f i lo hi s t l e b recs base olo ohi at0 by0 w h1 h3 hb hl (by omega) (by omega) hby hz
theorem ParcelBack.pure (gen k f i lo hi s t l e b : Int) (recs base : LR) (olo ohi at0 by0 : Int) (hh : smallRecs recs = true ∧ byteBags recs ∧ smallRecs base = true ∧ (0 ≤ by0 ∧ by0 ≤ 255)) :
  law30_ParcelBack.f BIG gen k f i lo hi s t l e b recs base olo ohi at0 by0 = some true := by
 obtain ⟨hr, hbg, hs, hby⟩ := hh
 unfold law30_ParcelBack.f law30_ParcelBack.b
 simp only [veil_eq]
 rw [hr, hs]
 cases h8 : few8 recs
 ·rw [Awake30.pure]; rfl
 cases h9 : few8 base
 ·rw [Awake30.pure]; rfl
 have hln : base.length < 1000000000 := by have := few8_len h9; omega
 rw [if_pos rfl, if_neg (by simp), if_pos rfl, if_neg (by simp), parcel_SealV.pure gen k f i lo hi s t l e b recs base hr hs hln hbg]
 dsimp only
 by_cases h0 : (sealP gen k f i lo hi s t l e b recs base).2 = 0
 ·obtain ⟨w, hw, h1, h3, hb, hl, hg, hrd, hpk, hv⟩ := sealP_ok hbg h0
  rw [hw]
  dsimp only
  have hsb := seal_bytes h1 h3 hb hl
  have hsl := seal_len gen w
  have hmid := back_mid gen k f i lo hi s t l e b recs base olo ohi at0 by0 w h1 h3 hb hl hby
  rw [if_neg (by simp), parcel_Open.pure _ olo ohi hsb (by omega), openP_seal olo ohi h1 h3 hb hl hg hpk, span_Has.pure]
  dsimp only
  have hdec := XDec.pure gen w base hb (by omega) hs
  have hgr : msg_Greets.f BIG k = some (greetB k) := msg_Greets.pure k
  rw [hgr]
  generalize hH : hasB olo ohi gen = H
  generalize hG : greetB k = G at *
  unfold parcel_Parcel_Read.f parcel_Parcel_Read.b
  by_cases hor : H = true ∨ G = true
  ·rw [if_pos hor]
   dsimp only
   rw [hdec, hrd]
   simp only [veil_eq]
   rw [MHead.pure]
   simp only [small_nil, hr, allGo_self, beq_self_eq_true, Bool.and_self, Bool.not_true, bne_self_eq_false, Bool.false_eq_true, if_false, if_true]
   cases H with
   | true => exact hmid
   | false =>
    cases G with
    | true => exact hmid
    | false => simp at hor
  ·rw [if_neg hor]
   cases H with
   | true => simp at hor
   | false =>
    cases G with
    | true => simp at hor
    | false =>
     simp only [zP, beq_self_eq_true, bne_self_eq_false, Bool.false_eq_true, if_false]
     exact hmid
 ·rw [if_pos (bne_iff_ne.2 h0), Awake30.pure]
theorem parcelBack_envOk : EnvOk Tryz.prog law30_ParcelBack_E := env_ok (l := [(7, s_few10), (8, s_few8), (9, s_law30_awake), (10, s_parcel_SealV), (11, s_parcel_Open), (12, s_span_Has), (13, s_msg_Greets), (14, s_parcel_Parcel_Read), (15, s_alike10), (16, s_msg_Head)]) th_ok any_ok ⟨⟨s_few10_ok, s_few10_det⟩, ⟨s_few8_ok, s_few8_det⟩, ⟨s_law30_awake_ok, s_law30_awake_det⟩, ⟨s_parcel_SealV_ok, s_parcel_SealV_det⟩, ⟨s_parcel_Open_ok, s_parcel_Open_det⟩, ⟨s_span_Has_ok, s_span_Has_det⟩, ⟨s_msg_Greets_ok, s_msg_Greets_det⟩, ⟨s_parcel_Parcel_Read_ok, s_parcel_Parcel_Read_det⟩, ⟨s_alike10_ok, s_alike10_det⟩, ⟨s_msg_Head_ok, s_msg_Head_det⟩, trivial⟩ _
theorem parcelBack_tells (gen mKind mFrom mInc mSpanLo mSpanHi mSeq mTarget mLife mEpoch mBase : Int) (mRecs base : LR) (ownLo ownHi at0 by0 : Int) (hl : smallRecs mRecs = true ∧ byteBags mRecs ∧ smallRecs base = true ∧ (0 ≤ by0 ∧ by0 ≤ 255)) : denF law30_ParcelBack_E loopN BIG Tryz.f3 [.raw] [.d tQi gen, .agg [.d tQi mKind, .d tQi mFrom, .d tQi mInc, .d tQi mSpanLo, .d tQi mSpanHi, .d tQi mSeq, .d tQi mTarget, .d tQi mLife, .d tQi mEpoch, .d tQi mBase, .d (.sl tQr) mRecs], .d (.sl tQr) base, .agg [.d tQi ownLo, .d tQi ownHi], .d tQi at0, .d (.int .u8) by0] [] isTrue = some () := by
 rw [denF_any parcelBack_envOk.D ((law30_ParcelBack.eq BIG gen mKind mFrom mInc mSpanLo mSpanHi mSeq mTarget mLife mEpoch mBase mRecs base ownLo ownHi at0 by0).trans (ParcelBack.pure gen mKind mFrom mInc mSpanLo mSpanHi mSeq mTarget mLife mEpoch mBase mRecs base ownLo ownHi at0 by0 hl)) (out := [.d .bool true]) (os := []) (fun rs ros hk => by
  unfold law30_ParcelBack.k at hk
  split at hk
  ·first | (cases hk; exact ⟨rfl, rfl⟩) | (have e := Option.some.inj hk; rw [← e]; exact ⟨rfl, rfl⟩)
  ·cases hk)]
 rfl
set_option maxRecDepth 100000 in
theorem parcelBack_lifted (os : Os) (started : os.Started) (H : Type) (enc : TypeId × Value → H) :
  ReturnsInHanded {} Tryz.checked os 3 .any (fun w args => (Rows.parcelBackSpec.pre enc Tryz.prog Tryz.f3 [] false w args ∧ laidMetH Tryz.prog laidL w) ∧ sizedMet enc Tryz.prog Tryz.f3 (OpenSpec.ofChange Rows.parcelBackSpec) false w args)
   (Rows.parcelBackSpec.post enc Tryz.prog Tryz.f3 false true false false) := by
 refine returnsInHanded_of_change_and (C := Tryz.checked) (X := fun w _ => laidMetH Tryz.prog laidL w) (fun _ _ _ hh h => h.of_heap hh) Tryz.own started (by kernel_rfl) Tryz.func3
  (ChangeSpec.witness_shaped (enc := enc) (C := Tryz.checked) (os := os) (X := fun w _ => laidMetH Tryz.prog laidL w) false (World.doorLaid Tryz.prog 400 os) #[.int .i64 0, .agg #[.int .i64 0, .int .i64 0, .int .i64 0, .int .i64 0, .int .i64 0, .int .i64 0, .int .i64 0, .int .i64 0, .int .i64 0, .int .i64 0, .slice none 0 0], .slice none 0 0, .agg #[.int .i64 0, .int .i64 0], .int .i64 0, .int .u8 0] 8 rfl (World.shaped_of_RefB (by kernel_rfl) (by kernel_rfl)) (by kernel_rfl) (by kernel_rfl) (by kernel_rfl) (door_met os _)) ?_
 intro W base args ds gs before hval hW _ hwt hL _
 exact law_contract parcelBack_envOk Tryz.func3 rfl [(.int .i64, false), ((.pair tQi (.pair tQi (.pair tQi (.pair (.pair tQi tQi) (.pair tQi (.pair tQi (.pair tQi (.pair tQi (.pair tQi (.sl tQr)))))))))), true), ((.sl tQr), false), ((.pair tQi tQi), true), (.int .i64, false), (.int .u8, false)] (tb := 4) (by kernel_rfl) (by kernel_rfl) (by kernel_rfl) rfl
  (fun ds h => by match ds, h with | [_, _, _, _, _, _], _ => rfl) Tryz.laidOut Tryz.mapsRow Tryz.slicesSize (fun y hg => ⟨BIG, parcelBack_tells y.1 y.2.1.1 y.2.1.2.1 y.2.1.2.2.1 y.2.1.2.2.2.1.1 y.2.1.2.2.2.1.2 y.2.1.2.2.2.2.1 y.2.1.2.2.2.2.2.1 y.2.1.2.2.2.2.2.2.1 y.2.1.2.2.2.2.2.2.2.1 y.2.1.2.2.2.2.2.2.2.2.1 y.2.1.2.2.2.2.2.2.2.2.2 y.2.2.1 y.2.2.2.1.1 y.2.2.2.1.2 y.2.2.2.2.1 y.2.2.2.2.2.1 ⟨good_recs (hg.2.1.2.2.2.2.2.2.2.2.2), good_bags (hg.2.1.2.2.2.2.2.2.2.2.2), good_recs hg.2.2.1, good_byte hg.2.2.2.2.2.1⟩⟩) W base args ds gs before hval hW hwt (laid_glob hL)
theorem parcelBack_row : Rows.ParcelBackSaid :=
 OpenClaim.holds_of_wide 3 Tryz.f3 rfl rfl rfl rfl rfl rfl rfl ⟨rfl, rfl, rfl, rfl, rfl⟩ rfl rfl rfl rfl rfl (by kernel_rfl) Tryz.func3 (by kernel_rfl)
  (of_decide_eq_true (by kernel_rfl)) (by unfold Func.isWrapper; first | (rw [if_pos (by decide +kernel)]; kernel_rfl) | (rw [if_neg (by decide +kernel)]; exact ⟨rfl, rfl⟩))
  (fun os started H enc _ => parcelBack_lifted os started H enc)
theorem parcelBack_holds : Rows.ParcelBackCardSaid :=
 Claim7.holds_tied_plain_at .later [] [.data] true (true, "7f56fd0b3a73f309c59e77fbd84be1dadc43cc16a837bd7876cbbb970f836cba") false
  parcelBack_row (fun _ h => by cases h) (by kernel_rfl) (fun _ h => by cases h) parcelBack_row_tie rfl ⟨rfl, rfl⟩ (by kernel_rfl) rfl
  (fun f fn hf hfn => by
   obtain rfl : f = 3 := Option.some.inj ((show Tryz.prog.funcNamed "polyglot/polyglotlaw30.ParcelBack" = some 3 by kernel_rfl).symm.trans hf) |>.symm
   obtain rfl : fn = Tryz.f3 := (Option.some.inj (Tryz.func3.symm.trans hfn)).symm
   exact ⟨by kernel_rfl, fun j t ht => by
    have hm : t ∈ Tryz.f3.params.toList := by simpa using Array.mem_of_getElem? ht
    have hall : (Tryz.f3.params.toList.all fun u => !Tryz.prog.wantsStandIn u) = true := by kernel_rfl
    exact (show Tryz.prog.wantsStandIn t = false by simpa using List.all_eq_true.1 hall t hm)⟩)
  (by kernel_rfl)
end
end Go.Proofs.YtneiiplppcjjlaaGreatDoor
