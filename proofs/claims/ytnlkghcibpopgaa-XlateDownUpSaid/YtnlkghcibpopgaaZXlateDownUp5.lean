/- XlateDownUp: whatever two generations and message are given, the law returns true, and the input reads as it did. There is no condition. -/
import Derived.Test.YtnlkghcibpopgaaZXlateDownUp4
set_option linter.unusedVariables false
set_option linter.unusedSimpArgs false
set_option maxRecDepth 100000
namespace Go.Proofs.Ytnlkghcibpopgaa
open Go.Den
theorem s_xlate_Decode_det : SumDet s_xlate_Decode := fun avs objs R κ => by
 show s_xlate_Decode.run avs objs (two κ) = (s_xlate_Decode.run avs objs (two some)).bind κ
 unfold s_xlate_Decode
 simp only [veil_eq]
 split
 ·split <;> rfl
 ·rfl
theorem s_xlate_Decode_ok : SumOk Try.prog 35 s_xlate_Decode := by
 have hE : EnvOk Try.prog xlate_Decode_E := env_ok (l := [(19, s_gen3_Encode), (29, s_gen3_Decode), (78, s_xlate_of), (109, s_xlate_of_c1), (110, s_xlate_of_c2), (111, s_xlate_of_c3), (112, s_xlate_of_c4)]) th_ok any_ok ⟨⟨s_gen3_Encode_ok, s_gen3_Encode_det⟩, ⟨s_gen3_Decode_ok, s_gen3_Decode_det⟩, ⟨s_xlate_of_ok, s_xlate_of_det⟩, ⟨s_xlate_of_c1_ok, s_xlate_of_c1_det⟩, ⟨s_xlate_of_c2_ok, s_xlate_of_c2_det⟩, ⟨s_xlate_of_c3_ok, s_xlate_of_c3_det⟩, ⟨s_xlate_of_c4_ok, s_xlate_of_c4_det⟩, trivial⟩ _
 refine sum_ok hE Try.func35 rfl (by kernel_rfl) s_xlate_Decode [.dat (.pair (.int .i64) (.pair (.int .i64) (.pair (.int .i64) (.pair (.pair (.int .i64) (.int .i64)) (.pair (.int .i64) (.pair (.int .i64) (.pair (.int .i64) (.pair (.int .i64) (.pair (.int .i64) (.sl (.pair (.int .i64) (.pair (.int .i64) (.pair (.int .i64) (.pair (.pair (.int .i64) (.int .i64)) (.pair .bool (.sl (.pair (.int .i64) (.sl (.int .u8))))))))))))))))))) true, .raw] xlate_Decode.k ?_
 intro R avs objs κ r h
 unfold s_xlate_Decode at h
 simp only [veil_eq] at h
 split at h
 ·rename_i gen b base
  split at h
  ·cases h
  ·rename_i y hy
   refine ⟨BIG, _, _, _, (xlate_Decode.eq BIG gen b base).trans hy, ?_, h⟩
   intro rs ros hk
   unfold xlate_Decode.k at hk
   split at hk
   ·first | (cases hk; exact ⟨rfl, rfl⟩) | (have e := Option.some.inj hk; rw [← e]; exact ⟨rfl, rfl⟩)
   ·cases hk
 ·cases h
noncomputable def xlate_Peek_E : Env := ⟨th, gam [(26, s_gen3_Head), (30, s_msg_Head), (35, s_xlate_Decode)], fun i => ⟨[], [], []⟩⟩
noncomputable def xlate_Peek.k (rs : List AV) (os : List Den.Obj) : Option (Int × Int × Int × Int × Int × Int × Int × Int × Int × Int × LR × Int) :=
 match rs, os with
 | [.agg [.d (.int .i64) r0, .d (.int .i64) r1, .d (.int .i64) r2, .d (.int .i64) r3, .d (.int .i64) r4, .d (.int .i64) r5, .d (.int .i64) r6, .d (.int .i64) r7, .d (.int .i64) r8, .d (.int .i64) r9, .d (.sl (.pair (.int .i64) (.pair (.int .i64) (.pair (.int .i64) (.pair (.pair (.int .i64) (.int .i64)) (.pair .bool (.sl (.pair (.int .i64) (.sl (.int .u8)))))))))) r10], .d (.int .i64) r11], [] => some (r0, r1, r2, r3, r4, r5, r6, r7, r8, r9, r10, r11)
 | _, _ => none
noncomputable def xlate_Peek.b (gen : Int) (b : List Int) : Option (Int × Int × Int × Int × Int × Int × Int × Int × Int × Int × LR × Int) :=
 (if (gen == (3 : Int)) then (match (veil (gen3_Head.f BIG b)) with | none => none | some y0 => some (y0.1, y0.2.1, y0.2.2.1, y0.2.2.2.1, y0.2.2.2.2.1, y0.2.2.2.2.2.1, y0.2.2.2.2.2.2.1, y0.2.2.2.2.2.2.2.1, y0.2.2.2.2.2.2.2.2.1, y0.2.2.2.2.2.2.2.2.2.1, y0.2.2.2.2.2.2.2.2.2.2.1, y0.2.2.2.2.2.2.2.2.2.2.2)) else (match (veil (xlate_Decode.f BIG gen b ([] : LR))) with | none => none | some y1 => (match (veil (msg_Head.f BIG y1.1 y1.2.1 y1.2.2.1 y1.2.2.2.1 y1.2.2.2.2.1 y1.2.2.2.2.2.1 y1.2.2.2.2.2.2.1 y1.2.2.2.2.2.2.2.1 y1.2.2.2.2.2.2.2.2.1 y1.2.2.2.2.2.2.2.2.2.1 y1.2.2.2.2.2.2.2.2.2.2.1)) with | none => none | some y2 => some (y2.1, y2.2.1, y2.2.2.1, y2.2.2.2.1, y2.2.2.2.2.1, y2.2.2.2.2.2.1, y2.2.2.2.2.2.2.1, y2.2.2.2.2.2.2.2.1, y2.2.2.2.2.2.2.2.2.1, y2.2.2.2.2.2.2.2.2.2.1, y2.2.2.2.2.2.2.2.2.2.2, y1.2.2.2.2.2.2.2.2.2.2.2))))
noncomputable def xlate_Peek.f (fuel : Nat) (gen : Int) (b : List Int) : Option (Int × Int × Int × Int × Int × Int × Int × Int × Int × Int × LR × Int) := xlate_Peek.b gen b
theorem xlate_Peek.eq (fuel : Nat) (gen : Int) (b : List Int) : (denF xlate_Peek_E loopN fuel Try.f37 [.dat (.pair (.int .i64) (.pair (.int .i64) (.pair (.int .i64) (.pair (.pair (.int .i64) (.int .i64)) (.pair (.int .i64) (.pair (.int .i64) (.pair (.int .i64) (.pair (.int .i64) (.pair (.int .i64) (.sl (.pair (.int .i64) (.pair (.int .i64) (.pair (.int .i64) (.pair (.pair (.int .i64) (.int .i64)) (.pair .bool (.sl (.pair (.int .i64) (.sl (.int .u8))))))))))))))))))) true, .raw] [.d (.int .i64) gen, .d (.sl (.int .u8)) b] [] xlate_Peek.k) = xlate_Peek.f fuel gen b := by
 kernel_rfl
noncomputable def s_xlate_Peek : Den.Sum := ⟨[.raw, .dat (.sl (.int .u8)) false], fun args objs κ => match args, objs with
 | [.d (.int .i64) gen, .d (.sl (.int .u8)) b], [] => (match veil (xlate_Peek.f BIG gen b) with | none => none | some y => κ [.agg [.d (.int .i64) y.1, .d (.int .i64) y.2.1, .d (.int .i64) y.2.2.1, .d (.int .i64) y.2.2.2.1, .d (.int .i64) y.2.2.2.2.1, .d (.int .i64) y.2.2.2.2.2.1, .d (.int .i64) y.2.2.2.2.2.2.1, .d (.int .i64) y.2.2.2.2.2.2.2.1, .d (.int .i64) y.2.2.2.2.2.2.2.2.1, .d (.int .i64) y.2.2.2.2.2.2.2.2.2.1, .d (.sl (.pair (.int .i64) (.pair (.int .i64) (.pair (.int .i64) (.pair (.pair (.int .i64) (.int .i64)) (.pair .bool (.sl (.pair (.int .i64) (.sl (.int .u8)))))))))) y.2.2.2.2.2.2.2.2.2.2.1], .d (.int .i64) y.2.2.2.2.2.2.2.2.2.2.2] [])
 | _, _ => none⟩
theorem s_xlate_Peek_det : SumDet s_xlate_Peek := fun avs objs R κ => by
 show s_xlate_Peek.run avs objs (two κ) = (s_xlate_Peek.run avs objs (two some)).bind κ
 unfold s_xlate_Peek
 simp only [veil_eq]
 split
 ·split <;> rfl
 ·rfl
theorem s_xlate_Peek_ok : SumOk Try.prog 37 s_xlate_Peek := by
 have hE : EnvOk Try.prog xlate_Peek_E := env_ok (l := [(26, s_gen3_Head), (30, s_msg_Head), (35, s_xlate_Decode)]) th_ok any_ok ⟨⟨s_gen3_Head_ok, s_gen3_Head_det⟩, ⟨s_msg_Head_ok, s_msg_Head_det⟩, ⟨s_xlate_Decode_ok, s_xlate_Decode_det⟩, trivial⟩ _
 refine sum_ok hE Try.func37 rfl (by kernel_rfl) s_xlate_Peek [.dat (.pair (.int .i64) (.pair (.int .i64) (.pair (.int .i64) (.pair (.pair (.int .i64) (.int .i64)) (.pair (.int .i64) (.pair (.int .i64) (.pair (.int .i64) (.pair (.int .i64) (.pair (.int .i64) (.sl (.pair (.int .i64) (.pair (.int .i64) (.pair (.int .i64) (.pair (.pair (.int .i64) (.int .i64)) (.pair .bool (.sl (.pair (.int .i64) (.sl (.int .u8))))))))))))))))))) true, .raw] xlate_Peek.k ?_
 intro R avs objs κ r h
 unfold s_xlate_Peek at h
 simp only [veil_eq] at h
 split at h
 ·rename_i gen b
  split at h
  ·cases h
  ·rename_i y hy
   refine ⟨BIG, _, _, _, (xlate_Peek.eq BIG gen b).trans hy, ?_, h⟩
   intro rs ros hk
   unfold xlate_Peek.k at hk
   split at hk
   ·first | (cases hk; exact ⟨rfl, rfl⟩) | (have e := Option.some.inj hk; rw [← e]; exact ⟨rfl, rfl⟩)
   ·cases hk
 ·cases h
noncomputable def xlate_Shift_E : Env := ⟨th, gam [(19, s_gen3_Encode), (29, s_gen3_Decode), (33, s_xlate_Encode), (35, s_xlate_Decode), (37, s_xlate_Peek), (78, s_xlate_of), (109, s_xlate_of_c1), (110, s_xlate_of_c2), (111, s_xlate_of_c3), (112, s_xlate_of_c4)], fun i => ⟨[], [], []⟩⟩
noncomputable def xlate_Shift.k (rs : List AV) (os : List Den.Obj) : Option ((List Int) × Int) :=
 match rs, os with
 | [.d (.sl (.int .u8)) r0, .d (.int .i64) r1], [] => some (r0, r1)
 | _, _ => none
noncomputable def xlate_Shift.b (from0 : Int) (to0 : Int) (b : List Int) : Option ((List Int) × Int) :=
 (if (to0 == (1 : Int)) then (match (veil (xlate_Peek.f BIG from0 b)) with | none => none | some y0 => (if (y0.2.2.2.2.2.2.2.2.2.2.2 != (0 : Int)) then some (([] : List Int), y0.2.2.2.2.2.2.2.2.2.2.2) else (if (y0.2.2.2.2.2.2.2.2.2.1 != (0 : Int)) then some (([] : List Int), (12 : Int)) else (match (veil (xlate_Decode.f BIG from0 b ([] : LR))) with | none => none | some y1 => (if (y1.2.2.2.2.2.2.2.2.2.2.2 != (0 : Int)) then some (([] : List Int), y1.2.2.2.2.2.2.2.2.2.2.2) else (match (veil (xlate_Encode.f BIG to0 y1.1 y1.2.1 y1.2.2.1 y1.2.2.2.1 y1.2.2.2.2.1 y1.2.2.2.2.2.1 y1.2.2.2.2.2.2.1 y1.2.2.2.2.2.2.2.1 y1.2.2.2.2.2.2.2.2.1 y1.2.2.2.2.2.2.2.2.2.1 y1.2.2.2.2.2.2.2.2.2.2.1 ([] : LR))) with | none => none | some y2 => some (y2.1, y2.2))))))) else (if (to0 == (2 : Int)) then (match (veil (xlate_Peek.f BIG from0 b)) with | none => none | some y3 => (if (y3.2.2.2.2.2.2.2.2.2.2.2 != (0 : Int)) then some (([] : List Int), y3.2.2.2.2.2.2.2.2.2.2.2) else (if (y3.2.2.2.2.2.2.2.2.2.1 != (0 : Int)) then some (([] : List Int), (12 : Int)) else (match (veil (xlate_Decode.f BIG from0 b ([] : LR))) with | none => none | some y4 => (if (y4.2.2.2.2.2.2.2.2.2.2.2 != (0 : Int)) then some (([] : List Int), y4.2.2.2.2.2.2.2.2.2.2.2) else (match (veil (xlate_Encode.f BIG to0 y4.1 y4.2.1 y4.2.2.1 y4.2.2.2.1 y4.2.2.2.2.1 y4.2.2.2.2.2.1 y4.2.2.2.2.2.2.1 y4.2.2.2.2.2.2.2.1 y4.2.2.2.2.2.2.2.2.1 y4.2.2.2.2.2.2.2.2.2.1 y4.2.2.2.2.2.2.2.2.2.2.1 ([] : LR))) with | none => none | some y5 => some (y5.1, y5.2))))))) else (if (to0 == (3 : Int)) then (match (veil (xlate_Peek.f BIG from0 b)) with | none => none | some y6 => (if (y6.2.2.2.2.2.2.2.2.2.2.2 != (0 : Int)) then some (([] : List Int), y6.2.2.2.2.2.2.2.2.2.2.2) else (if (y6.2.2.2.2.2.2.2.2.2.1 != (0 : Int)) then some (([] : List Int), (12 : Int)) else (match (veil (xlate_Decode.f BIG from0 b ([] : LR))) with | none => none | some y7 => (if (y7.2.2.2.2.2.2.2.2.2.2.2 != (0 : Int)) then some (([] : List Int), y7.2.2.2.2.2.2.2.2.2.2.2) else (match (veil (xlate_Encode.f BIG to0 y7.1 y7.2.1 y7.2.2.1 y7.2.2.2.1 y7.2.2.2.2.1 y7.2.2.2.2.2.1 y7.2.2.2.2.2.2.1 y7.2.2.2.2.2.2.2.1 y7.2.2.2.2.2.2.2.2.1 y7.2.2.2.2.2.2.2.2.2.1 y7.2.2.2.2.2.2.2.2.2.2.1 ([] : LR))) with | none => none | some y8 => some (y8.1, y8.2))))))) else some (([] : List Int), (5 : Int)))))
noncomputable def xlate_Shift.f (fuel : Nat) (from0 : Int) (to0 : Int) (b : List Int) : Option ((List Int) × Int) := xlate_Shift.b from0 to0 b
theorem xlate_Shift.eq (fuel : Nat) (from0 : Int) (to0 : Int) (b : List Int) : (denF xlate_Shift_E loopN fuel Try.f39 [.dat (.sl (.int .u8)) false, .raw] [.d (.int .i64) from0, .d (.int .i64) to0, .d (.sl (.int .u8)) b] [] xlate_Shift.k) = xlate_Shift.f fuel from0 to0 b := by
 kernel_rfl
noncomputable def s_xlate_Shift : Den.Sum := ⟨[.raw, .raw, .dat (.sl (.int .u8)) false], fun args objs κ => match args, objs with
 | [.d (.int .i64) from0, .d (.int .i64) to0, .d (.sl (.int .u8)) b], [] => (match veil (xlate_Shift.f BIG from0 to0 b) with | none => none | some y => κ [.d (.sl (.int .u8)) y.1, .d (.int .i64) y.2] [])
 | _, _ => none⟩
theorem s_xlate_Shift_det : SumDet s_xlate_Shift := fun avs objs R κ => by
 show s_xlate_Shift.run avs objs (two κ) = (s_xlate_Shift.run avs objs (two some)).bind κ
 unfold s_xlate_Shift
 simp only [veil_eq]
 split
 ·split <;> rfl
 ·rfl
theorem s_xlate_Shift_ok : SumOk Try.prog 39 s_xlate_Shift := by
 have hE : EnvOk Try.prog xlate_Shift_E := env_ok (l := [(19, s_gen3_Encode), (29, s_gen3_Decode), (33, s_xlate_Encode), (35, s_xlate_Decode), (37, s_xlate_Peek), (78, s_xlate_of), (109, s_xlate_of_c1), (110, s_xlate_of_c2), (111, s_xlate_of_c3), (112, s_xlate_of_c4)]) th_ok any_ok ⟨⟨s_gen3_Encode_ok, s_gen3_Encode_det⟩, ⟨s_gen3_Decode_ok, s_gen3_Decode_det⟩, ⟨s_xlate_Encode_ok, s_xlate_Encode_det⟩, ⟨s_xlate_Decode_ok, s_xlate_Decode_det⟩, ⟨s_xlate_Peek_ok, s_xlate_Peek_det⟩, ⟨s_xlate_of_ok, s_xlate_of_det⟩, ⟨s_xlate_of_c1_ok, s_xlate_of_c1_det⟩, ⟨s_xlate_of_c2_ok, s_xlate_of_c2_det⟩, ⟨s_xlate_of_c3_ok, s_xlate_of_c3_det⟩, ⟨s_xlate_of_c4_ok, s_xlate_of_c4_det⟩, trivial⟩ _
 refine sum_ok hE Try.func39 rfl (by kernel_rfl) s_xlate_Shift [.dat (.sl (.int .u8)) false, .raw] xlate_Shift.k ?_
 intro R avs objs κ r h
 unfold s_xlate_Shift at h
 simp only [veil_eq] at h
 split at h
 ·rename_i from0 to0 b
  split at h
  ·cases h
  ·rename_i y hy
   refine ⟨BIG, _, _, _, (xlate_Shift.eq BIG from0 to0 b).trans hy, ?_, h⟩
   intro rs ros hk
   unfold xlate_Shift.k at hk
   split at hk
   ·first | (cases hk; exact ⟨rfl, rfl⟩) | (have e := Option.some.inj hk; rw [← e]; exact ⟨rfl, rfl⟩)
   ·cases hk
 ·cases h
noncomputable def law17_awake_E : Env := ⟨th, gam [(39, s_xlate_Shift)], fun i => ⟨[], [], []⟩⟩
noncomputable def law17_awake.k (rs : List AV) (os : List Den.Obj) : Option Bool :=
 match rs, os with
 | [.d .bool r0], [] => some r0
 | _, _ => none
noncomputable def law17_awake.b (u : Unit) : Option Bool :=
 (match (veil (xlate_Shift.f BIG (1 : Int) (3 : Int) ((4 : Int) :: ((0 : Int) :: ((5 : Int) :: ((0 : Int) :: ((0 : Int) :: ((0 : Int) :: ((0 : Int) :: ((0 : Int) :: ((1 : Int) :: ((19 : Int) :: ((0 : Int) :: ((7 : Int) :: ((0 : Int) :: ((0 : Int) :: ((0 : Int) :: ([] : List Int)))))))))))))))))) with | none => none | some y0 => (match (veil (xlate_Shift.f BIG (3 : Int) (1 : Int) y0.1)) with | none => none | some y1 => (match (veil (xlate_Shift.f BIG (0 : Int) (1 : Int) ((4 : Int) :: ((0 : Int) :: ((5 : Int) :: ((0 : Int) :: ((0 : Int) :: ((0 : Int) :: ((0 : Int) :: ((0 : Int) :: ((1 : Int) :: ((19 : Int) :: ((0 : Int) :: ((7 : Int) :: ((0 : Int) :: ((0 : Int) :: ((0 : Int) :: ([] : List Int)))))))))))))))))) with | none => none | some y2 => (if (y0.2 == (0 : Int)) then (if ((ByteArray.toList (strOf y0.1)) == (ByteArray.toList (strOf ((4 : Int) :: ((5 : Int) :: ((1 : Int) :: ((19 : Int) :: ((7 : Int) :: ((0 : Int) :: ([] : List Int)))))))))) then (if (y1.2 == (0 : Int)) then (if ((ByteArray.toList (strOf y1.1)) == (ByteArray.toList (strOf ((4 : Int) :: ((0 : Int) :: ((5 : Int) :: ((0 : Int) :: ((0 : Int) :: ((0 : Int) :: ((0 : Int) :: ((0 : Int) :: ((1 : Int) :: ((19 : Int) :: ((0 : Int) :: ((7 : Int) :: ((0 : Int) :: ((0 : Int) :: ((0 : Int) :: ([] : List Int))))))))))))))))))) then some ((y2.2 == (5 : Int))) else some (false)) else some (false)) else some (false)) else some (false)))))
noncomputable def law17_awake.f (fuel : Nat) (u : Unit) : Option Bool := law17_awake.b u
theorem law17_awake.eq (fuel : Nat) (u : Unit) : (denF law17_awake_E loopN fuel Try.f32 [.raw] [] [] law17_awake.k) = law17_awake.f fuel u := by
 kernel_rfl
noncomputable def s_law17_awake : Den.Sum := ⟨[], fun args objs κ => match args, objs with
 | [], [] => (match veil (law17_awake.f BIG ()) with | none => none | some y => κ [.d .bool y] [])
 | _, _ => none⟩
theorem s_law17_awake_det : SumDet s_law17_awake := fun avs objs R κ => by
 show s_law17_awake.run avs objs (two κ) = (s_law17_awake.run avs objs (two some)).bind κ
 unfold s_law17_awake
 simp only [veil_eq]
 split
 ·split <;> rfl
 ·rfl
theorem s_law17_awake_ok : SumOk Try.prog 32 s_law17_awake := by
 have hE : EnvOk Try.prog law17_awake_E := env_ok (l := [(39, s_xlate_Shift)]) th_ok any_ok ⟨⟨s_xlate_Shift_ok, s_xlate_Shift_det⟩, trivial⟩ _
 refine sum_ok hE Try.func32 rfl (by kernel_rfl) s_law17_awake [.raw] law17_awake.k ?_
 intro R avs objs κ r h
 unfold s_law17_awake at h
 simp only [veil_eq] at h
 split at h
 ·skip
  split at h
  ·cases h
  ·rename_i y hy
   refine ⟨BIG, _, _, _, (law17_awake.eq BIG ()).trans hy, ?_, h⟩
   intro rs ros hk
   unfold law17_awake.k at hk
   split at hk
   ·first | (cases hk; exact ⟨rfl, rfl⟩) | (have e := Option.some.inj hk; rw [← e]; exact ⟨rfl, rfl⟩)
   ·cases hk
 ·cases h
theorem XEnc.pure (gen k f i lo hi s t l e b : Int) (recs base : LR) (hr : smallRecs recs = true) (hl : smallRecs base = true) (hln : base.length < 1000000000) :
  xlate_Encode.f BIG gen k f i lo hi s t l e b recs base = some (writeX gen k f i lo hi s t l e b recs base) := by
 refine gen_cases (gen := gen) (fun gen => xlate_Encode.f BIG gen k f i lo hi s t l e b recs base = some (writeX gen k f i lo hi s t l e b recs base)) ?_ ?_ ?_ ?_
 ·rw [writeX1]
  unfold xlate_Encode.f xlate_Encode.b
  simp only [veil_eq]
  rw [if_pos (c := ((1 : Int) == 1) = true) rfl]
  unfold xlate_of_c1.f xlate_of_c1.b
  rw [hr]
  all_goals rfl
 ·rw [writeX2]
  unfold xlate_Encode.f xlate_Encode.b
  simp only [veil_eq]
  rw [if_neg (c := ((2 : Int) == 1) = true) (by decide), if_pos (c := ((2 : Int) == 2) = true) rfl]
  unfold xlate_of_c3.f xlate_of_c3.b
  rw [hr]
  all_goals rfl
 ·rw [writeX3]
  unfold xlate_Encode.f xlate_Encode.b
  simp only [veil_eq]
  rw [if_neg (c := ((3 : Int) == 1) = true) (by decide), if_neg (c := ((3 : Int) == 2) = true) (by decide), if_pos (c := ((3 : Int) == 3) = true) rfl, Enc3.pure k f i lo hi s t l e b recs base hr hl hln]
 ·intro h1 h2 h3
  rw [writeX0 h1 h2 h3]
  unfold xlate_Encode.f xlate_Encode.b
  simp only [veil_eq]
  rw [if_neg (c := (gen == 1) = true) (by simpa using h1), if_neg (c := (gen == 2) = true) (by simpa using h2), if_neg (c := (gen == 3) = true) (by simpa using h3)]
theorem Write17.pure (gen k f i lo hi s t l e b : Int) (recs base : LR) (hr : smallRecs recs = true) (hl : smallRecs base = true) (hln : base.length < 1000000000) :
  law17_write.f BIG gen k f i lo hi s t l e b recs base = some (writeX gen k f i lo hi s t l e b recs base) := by
 refine gen_cases (gen := gen) (fun gen => law17_write.f BIG gen k f i lo hi s t l e b recs base = some (writeX gen k f i lo hi s t l e b recs base)) ?_ ?_ ?_ ?_
 ·rw [writeX1]
  unfold law17_write.f law17_write.b
  simp only [veil_eq]
  rw [if_pos (c := ((1 : Int) == 1) = true) rfl]
  rw [hr]
  all_goals rfl
 ·rw [writeX2]
  unfold law17_write.f law17_write.b
  simp only [veil_eq]
  rw [if_neg (c := ((2 : Int) == 1) = true) (by decide), if_pos (c := ((2 : Int) == 2) = true) rfl]
  rw [hr]
  all_goals rfl
 ·rw [writeX3]
  unfold law17_write.f law17_write.b
  simp only [veil_eq]
  rw [if_neg (c := ((3 : Int) == 1) = true) (by decide), if_neg (c := ((3 : Int) == 2) = true) (by decide), if_pos (c := ((3 : Int) == 3) = true) rfl, Enc3.pure k f i lo hi s t l e b recs base hr hl hln]
 ·intro h1 h2 h3
  rw [writeX0 h1 h2 h3]
  unfold law17_write.f law17_write.b
  simp only [veil_eq]
  rw [if_neg (c := (gen == 1) = true) (by simpa using h1), if_neg (c := (gen == 2) = true) (by simpa using h2), if_neg (c := (gen == 3) = true) (by simpa using h3)]
theorem XDec.pure (gen : Int) (b : List Int) (base : LR) (hb : isB b) (hl : b.length < 1000000000) (hs : smallRecs base = true) :
  xlate_Decode.f BIG gen b base = some (readX gen b base) := by
 have hin : inB b = true := (inB_iff b).2 ⟨by omega, hb⟩
 have his : inS b = true := inS_of hb hl
 refine gen_cases (gen := gen) (fun gen => xlate_Decode.f BIG gen b base = some (readX gen b base)) ?_ ?_ ?_ ?_
 ·rw [readX1]
  unfold xlate_Decode.f xlate_Decode.b
  simp only [veil_eq]
  rw [if_pos (c := ((1 : Int) == 1) = true) rfl]
  unfold xlate_of_c2.f xlate_of_c2.b
  simp only [veil_eq]
  rw [hin]
  all_goals rfl
 ·rw [readX2]
  unfold xlate_Decode.f xlate_Decode.b
  simp only [veil_eq]
  rw [if_neg (c := ((2 : Int) == 1) = true) (by decide), if_pos (c := ((2 : Int) == 2) = true) rfl]
  unfold xlate_of_c4.f xlate_of_c4.b
  simp only [veil_eq]
  rw [his]
  all_goals rfl
 ·rw [readX3]
  unfold xlate_Decode.f xlate_Decode.b
  simp only [veil_eq]
  rw [if_neg (c := ((3 : Int) == 1) = true) (by decide), if_neg (c := ((3 : Int) == 2) = true) (by decide), if_pos (c := ((3 : Int) == 3) = true) rfl, Dec3.pure b base hin hs]
 ·intro h1 h2 h3
  unfold xlate_Decode.f xlate_Decode.b
  simp only [veil_eq]
  unfold readX
  simp only [show (gen == 1) = false from by simpa using h1, show (gen == 2) = false from by simpa using h2, show (gen == 3) = false from by simpa using h3, Bool.false_eq_true, if_false]
  all_goals rfl
theorem Read17.pure (gen : Int) (b : List Int) (base : LR) (hb : isB b) (hl : b.length < 1000000000) (hs : smallRecs base = true) :
  law17_read.f BIG gen b base = some (readX gen b base) := by
 have hin : inB b = true := (inB_iff b).2 ⟨by omega, hb⟩
 have his : inS b = true := inS_of hb hl
 refine gen_cases (gen := gen) (fun gen => law17_read.f BIG gen b base = some (readX gen b base)) ?_ ?_ ?_ ?_
 ·rw [readX1]
  unfold law17_read.f law17_read.b
  simp only [veil_eq]
  rw [if_pos (c := ((1 : Int) == 1) = true) rfl]
  rw [hin]
  all_goals rfl
 ·rw [readX2]
  unfold law17_read.f law17_read.b
  simp only [veil_eq]
  rw [if_neg (c := ((2 : Int) == 1) = true) (by decide), if_pos (c := ((2 : Int) == 2) = true) rfl]
  rw [his]
  all_goals rfl
 ·rw [readX3]
  unfold law17_read.f law17_read.b
  simp only [veil_eq]
  rw [if_neg (c := ((3 : Int) == 1) = true) (by decide), if_neg (c := ((3 : Int) == 2) = true) (by decide), if_pos (c := ((3 : Int) == 3) = true) rfl, Dec3.pure b base hin hs]
 ·intro h1 h2 h3
  unfold law17_read.f law17_read.b
  simp only [veil_eq]
  unfold readX
  simp only [show (gen == 1) = false from by simpa using h1, show (gen == 2) = false from by simpa using h2, show (gen == 3) = false from by simpa using h3, Bool.false_eq_true, if_false]
  all_goals rfl
theorem XPeek.pure (gen : Int) (b : List Int) (hb : isB b) (hl : b.length < 1000000000) : xlate_Peek.f BIG gen b = some (peekX gen b) := by
 have hin : inB b = true := (inB_iff b).2 ⟨by omega, hb⟩
 unfold xlate_Peek.f xlate_Peek.b peekX
 simp only [veil_eq]
 cases h3 : gen == 3
 ·simp only [Bool.false_eq_true, if_false]
  rw [XDec.pure gen b [] hb hl rfl]
  all_goals rfl
 ·simp only [if_true]
  rw [HeadX.pure hin]
theorem peek_range {gen : Int} {b : List Int} (h : gen < 1 ∨ gen > 3) : peekX gen b = z12 5 := by
 unfold peekX readX
 rw [if_neg (by simp; omega), if_neg (by simp; omega), if_neg (by simp; omega), if_neg (by simp; omega)]
 all_goals rfl
noncomputable def shiftY (from0 to0 : Int) (b : List Int) : List Int × Int :=
 if errX (peekX from0 b) ≠ 0 then ([], errX (peekX from0 b))
 else if baseX (peekX from0 b) ≠ 0 then ([], 12)
 else if errX (readX from0 b []) ≠ 0 then ([], errX (readX from0 b []))
 else putX to0 (readX from0 b []) []
theorem shiftY_eq {from0 to0 : Int} {b : List Int} (h1 : 1 ≤ to0) (h3 : to0 ≤ 3) : shiftX from0 to0 b = shiftY from0 to0 b := by
 unfold shiftX shiftY
 by_cases h : from0 < 1 ∨ from0 > 3
 ·rw [if_pos (by omega), peek_range h, if_pos (by unfold errX z12; decide)]
  all_goals rfl
 ·rw [if_neg (by omega)]
theorem shiftY_run (from0 to0 : Int) (b : List Int) (hb : isB b) (hl : b.length < 1000000000) :
  (match xlate_Peek.f BIG from0 b with
   | none => none
   | some y0 => if (y0.2.2.2.2.2.2.2.2.2.2.2 != 0) = true then some (([] : List Int), y0.2.2.2.2.2.2.2.2.2.2.2) else if (y0.2.2.2.2.2.2.2.2.2.1 != 0) = true then some ([], 12) else
    match xlate_Decode.f BIG from0 b [] with
    | none => none
    | some y1 => if (y1.2.2.2.2.2.2.2.2.2.2.2 != 0) = true then some ([], y1.2.2.2.2.2.2.2.2.2.2.2) else
     match xlate_Encode.f BIG to0 y1.1 y1.2.1 y1.2.2.1 y1.2.2.2.1 y1.2.2.2.2.1 y1.2.2.2.2.2.1 y1.2.2.2.2.2.2.1 y1.2.2.2.2.2.2.2.1 y1.2.2.2.2.2.2.2.2.1 y1.2.2.2.2.2.2.2.2.2.1 y1.2.2.2.2.2.2.2.2.2.2.1 [] with
     | none => none
     | some y2 => some (y2.1, y2.2)) = some (shiftY from0 to0 b) := by
 have hE := XEnc.pure to0 (readX from0 b []).1 (readX from0 b []).2.1 (readX from0 b []).2.2.1 (readX from0 b []).2.2.2.1 (readX from0 b []).2.2.2.2.1 (readX from0 b []).2.2.2.2.2.1 (readX from0 b []).2.2.2.2.2.2.1 (readX from0 b []).2.2.2.2.2.2.2.1 (readX from0 b []).2.2.2.2.2.2.2.2.1 (readX from0 b []).2.2.2.2.2.2.2.2.2.1 (readX from0 b []).2.2.2.2.2.2.2.2.2.2.1 [] (readX_small hb hl) rfl (by simp)
 rw [XPeek.pure from0 b hb hl, XDec.pure from0 b [] hb hl rfl]
 dsimp only
 rw [hE]
 unfold shiftY putX errX baseX
 by_cases h1 : (peekX from0 b).2.2.2.2.2.2.2.2.2.2.2 = 0
 ·by_cases h2 : (peekX from0 b).2.2.2.2.2.2.2.2.2.1 = 0
  ·by_cases h3 : (readX from0 b []).2.2.2.2.2.2.2.2.2.2.2 = 0
   ·simp [h1, h2, h3]
   ·simp [h1, h2, h3]
  ·simp [h1, h2]
 ·simp [h1]
theorem XShift.pure (from0 to0 : Int) (b : List Int) (hb : isB b) (hl : b.length < 1000000000) : xlate_Shift.f BIG from0 to0 b = some (shiftX from0 to0 b) := by
 refine gen_cases (gen := to0) (fun to0 => xlate_Shift.f BIG from0 to0 b = some (shiftX from0 to0 b)) ?_ ?_ ?_ ?_
 ·have hy := shiftY_run from0 1 b hb hl
  unfold xlate_Shift.f xlate_Shift.b
  simp only [veil_eq]
  rw [shiftY_eq (by omega) (by omega), if_pos (c := ((1 : Int) == 1) = true) rfl]
  exact hy
 ·have hy := shiftY_run from0 2 b hb hl
  unfold xlate_Shift.f xlate_Shift.b
  simp only [veil_eq]
  rw [shiftY_eq (by omega) (by omega), if_neg (c := ((2 : Int) == 1) = true) (by decide), if_pos (c := ((2 : Int) == 2) = true) rfl]
  exact hy
 ·have hy := shiftY_run from0 3 b hb hl
  unfold xlate_Shift.f xlate_Shift.b
  simp only [veil_eq]
  rw [shiftY_eq (by omega) (by omega), if_neg (c := ((3 : Int) == 1) = true) (by decide), if_neg (c := ((3 : Int) == 2) = true) (by decide), if_pos (c := ((3 : Int) == 3) = true) rfl]
  exact hy
 ·intro h1 h2 h3
  unfold xlate_Shift.f xlate_Shift.b shiftX
  simp only [veil_eq]
  rw [if_neg (c := (to0 == 1) = true) (by simpa using h1), if_neg (c := (to0 == 2) = true) (by simpa using h2), if_neg (c := (to0 == 3) = true) (by simpa using h3), if_pos (c := from0 < 1 ∨ from0 > 3 ∨ to0 < 1 ∨ to0 > 3) (by omega)]
theorem Awake17.pure : law17_awake.f BIG () = some true := by
 unfold law17_awake.f law17_awake.b
 simp only [veil_eq]
 have e1 : shiftX 1 3 [4, 0, 5, 0, 0, 0, 0, 0, 1, 19, 0, 7, 0, 0, 0] = ([4, 5, 1, 19, 7, 0], 0) := by kernel_rfl
 have e2 : shiftX 3 1 [4, 5, 1, 19, 7, 0] = ([4, 0, 5, 0, 0, 0, 0, 0, 1, 19, 0, 7, 0, 0, 0], 0) := by kernel_rfl
 have e3 : shiftX 0 1 [4, 0, 5, 0, 0, 0, 0, 0, 1, 19, 0, 7, 0, 0, 0] = ([], 5) := by kernel_rfl
 have hb1 : isB [4, 0, 5, 0, 0, 0, 0, 0, 1, 19, 0, 7, 0, 0, 0] := by unfold isB; decide
 have hb2 : isB [4, 5, 1, 19, 7, 0] := by unfold isB; decide
 rw [XShift.pure 1 3 _ hb1 (by simp), XShift.pure 0 1 _ hb1 (by simp), e1, e3]
 dsimp only
 rw [XShift.pure 3 1 _ hb2 (by simp), e2]
 simp
noncomputable def law17_XlateDownUp_E : Env := ⟨th, gam [(16, s_few10), (20, s_valid), (28, s_alike10), (32, s_law17_awake), (34, s_law17_write), (36, s_law17_read), (39, s_xlate_Shift), (42, s_fit_Fits)], fun i => ⟨[], [], []⟩⟩
noncomputable def law17_XlateDownUp.k (rs : List AV) (os : List Den.Obj) : Option Bool :=
 match rs, os with
 | [.d .bool r0], [] => some r0
 | _, _ => none
noncomputable def law17_XlateDownUp.b (low : Int) (high : Int) (mKind : Int) (mFrom : Int) (mInc : Int) (mSpanLo : Int) (mSpanHi : Int) (mSeq : Int) (mTarget : Int) (mLife : Int) (mEpoch : Int) (mBase : Int) (mRecs : LR) : Option Bool :=
 (if (decide (low < (1 : Int))) then (match (veil (law17_awake.f BIG ())) with | none => none | some y0 => some (y0)) else (if (decide (high ≤ low)) then (match (veil (law17_awake.f BIG ())) with | none => none | some y1 => some (y1)) else (if (decide (high > (3 : Int))) then (match (veil (law17_awake.f BIG ())) with | none => none | some y2 => some (y2)) else (if (smallRecs mRecs) then (if (!(few8 mRecs)) then (match (veil (law17_awake.f BIG ())) with | none => none | some y3 => some (y3)) else (if (mBase != (0 : Int)) then (match (veil (law17_awake.f BIG ())) with | none => none | some y4 => some (y4)) else (match (veil (law17_write.f BIG high mKind mFrom mInc mSpanLo mSpanHi mSeq mTarget mLife mEpoch mBase mRecs ([] : LR))) with | none => none | some y5 => (if (y5.2 != (0 : Int)) then (match (veil (law17_awake.f BIG ())) with | none => none | some y6 => some (y6)) else (match (veil (xlate_Shift.f BIG high low y5.1)) with | none => none | some y7 => (match (veil (fit_Fits.f BIG mKind mFrom mInc mSpanLo mSpanHi mSeq mTarget mLife mEpoch mBase mRecs low)) with | none => none | some y8 => (if (!y8) then (if (y7.2 == (14 : Int)) then (if (((((List.length y7.1)) : Nat) : Int) == (0 : Int)) then (match (veil (law17_awake.f BIG ())) with | none => none | some y9 => some (y9)) else some (false)) else some (false)) else (match (veil (xlate_Shift.f BIG low high y7.1)) with | none => none | some y10 => (match (veil (law17_read.f BIG high y10.1 ([] : LR))) with | none => none | some y11 => (if (y7.2 == (0 : Int)) then (if (y10.2 == (0 : Int)) then (if (y11.2.2.2.2.2.2.2.2.2.2.2 == (0 : Int)) then (if ((ByteArray.toList (strOf y10.1)) == (ByteArray.toList (strOf y5.1))) then (if ((smallRecs y11.2.2.2.2.2.2.2.2.2.2.1) && (smallRecs mRecs)) then (if ((y11.1 == mKind) && ((y11.2.1 == mFrom) && ((y11.2.2.1 == mInc) && ((y11.2.2.2.1 == mSpanLo) && ((y11.2.2.2.2.1 == mSpanHi) && ((y11.2.2.2.2.2.1 == mSeq) && ((y11.2.2.2.2.2.2.1 == mTarget) && ((y11.2.2.2.2.2.2.2.1 == mLife) && ((y11.2.2.2.2.2.2.2.2.1 == mEpoch) && ((y11.2.2.2.2.2.2.2.2.2.1 == mBase) && (allGo y11.2.2.2.2.2.2.2.2.2.2.1 mRecs))))))))))) then (if (smallRecs y11.2.2.2.2.2.2.2.2.2.2.1) then (if (validF y11.1 y11.2.1 y11.2.2.1 y11.2.2.2.1 y11.2.2.2.2.1 y11.2.2.2.2.2.1 y11.2.2.2.2.2.2.1 y11.2.2.2.2.2.2.2.1 y11.2.2.2.2.2.2.2.2.1 y11.2.2.2.2.2.2.2.2.2.1 y11.2.2.2.2.2.2.2.2.2.2.1) then (match (veil (law17_awake.f BIG ())) with | none => none | some y12 => some (y12)) else some (false)) else none) else some (false)) else none) else some (false)) else some (false)) else some (false)) else some (false))))))))))) else none))))
noncomputable def law17_XlateDownUp.f (fuel : Nat) (low : Int) (high : Int) (mKind : Int) (mFrom : Int) (mInc : Int) (mSpanLo : Int) (mSpanHi : Int) (mSeq : Int) (mTarget : Int) (mLife : Int) (mEpoch : Int) (mBase : Int) (mRecs : LR) : Option Bool := law17_XlateDownUp.b low high mKind mFrom mInc mSpanLo mSpanHi mSeq mTarget mLife mEpoch mBase mRecs
theorem law17_XlateDownUp.eq (fuel : Nat) (low : Int) (high : Int) (mKind : Int) (mFrom : Int) (mInc : Int) (mSpanLo : Int) (mSpanHi : Int) (mSeq : Int) (mTarget : Int) (mLife : Int) (mEpoch : Int) (mBase : Int) (mRecs : LR) : (denF law17_XlateDownUp_E loopN fuel Try.f12 [.raw] [.d (.int .i64) low, .d (.int .i64) high, .agg [.d (.int .i64) mKind, .d (.int .i64) mFrom, .d (.int .i64) mInc, .d (.int .i64) mSpanLo, .d (.int .i64) mSpanHi, .d (.int .i64) mSeq, .d (.int .i64) mTarget, .d (.int .i64) mLife, .d (.int .i64) mEpoch, .d (.int .i64) mBase, .d (.sl (.pair (.int .i64) (.pair (.int .i64) (.pair (.int .i64) (.pair (.pair (.int .i64) (.int .i64)) (.pair .bool (.sl (.pair (.int .i64) (.sl (.int .u8)))))))))) mRecs]] [] law17_XlateDownUp.k) = law17_XlateDownUp.f fuel low high mKind mFrom mInc mSpanLo mSpanHi mSeq mTarget mLife mEpoch mBase mRecs := by
 kernel_rfl
theorem XlateDownUp.pure (low high kind from0 inc lo hi seq target life epoch base0 : Int) (recs : LR) (hh : smallRecs recs = true ∧ byteBags recs) :
  law17_XlateDownUp.f 0 low high kind from0 inc lo hi seq target life epoch base0 recs = some true := by
 obtain ⟨hr, hbb⟩ := hh
 unfold law17_XlateDownUp.f law17_XlateDownUp.b
 simp only [veil_eq]
 rw [Awake17.pure, hr]
 by_cases h1 : low < 1
 ·simp [h1]
 by_cases h2 : high ≤ low
 ·simp [h1, h2]
 by_cases h3 : high > 3
 ·simp [h1, h2, h3]
 cases h8 : few8 recs
 ·simp [h1, h2, h3]
 by_cases h4 : base0 = 0
 ·subst h4
  rw [Write17.pure high kind from0 inc lo hi seq target life epoch 0 recs [] hr rfl (by simp), Fits.pure kind from0 inc lo hi seq target life epoch 0 recs low hr]
  by_cases h5 : (writeX high kind from0 inc lo hi seq target life epoch 0 recs []).2 = 0
  ·obtain ⟨hrd, hv, hlen, _⟩ := write_back (base := []) (fun _ => rfl) h5
   have hby := write_bytes (gen := high) (k := kind) (f := from0) (i := inc) (lo := lo) (hi := hi) (s := seq) (t := target) (l := life) (e := epoch) (b := 0) (recs := recs) (base := []) (fun _ => rfl) hbb
   have hdn := write_bytes (gen := low) (k := kind) (f := from0) (i := inc) (lo := lo) (hi := hi) (s := seq) (t := target) (l := life) (e := epoch) (b := 0) (recs := recs) (base := []) (fun _ => rfl) hbb
   have hs := shift_written (g := high) (h := low) (by omega) (by omega) h5
   obtain ⟨hf1, hf2⟩ := write_fit (gen := low) (by omega) (by omega) hv
   dsimp only
   rw [XShift.pure high low _ hby.1 (by omega), hs]
   dsimp only
   cases hf : fitF kind from0 inc lo hi seq target life epoch 0 recs low with
   | false =>
    rw [hf2 hf]
    simp [h1, h2, h3, h5]
   | true =>
    have hw := hf1 hf
    have hs2 := shift_written (g := low) (h := high) (by omega) (by omega) hw
    rw [XShift.pure low high _ hdn.1 (by omega), hs2]
    dsimp only
    rw [Read17.pure high _ [] hby.1 (by omega) rfl, hrd]
    simp [h1, h2, h3, h5, hw, hr, hv, allGo_self]
  ·simp [h1, h2, h3, h5]
 ·simp [h1, h2, h3, h4]
theorem xlateDownUp_envOk : EnvOk Try.prog law17_XlateDownUp_E := env_ok (l := [(16, s_few10), (20, s_valid), (28, s_alike10), (32, s_law17_awake), (34, s_law17_write), (36, s_law17_read), (39, s_xlate_Shift), (42, s_fit_Fits)]) th_ok any_ok ⟨⟨s_few10_ok, s_few10_det⟩, ⟨s_valid_ok, s_valid_det⟩, ⟨s_alike10_ok, s_alike10_det⟩, ⟨s_law17_awake_ok, s_law17_awake_det⟩, ⟨s_law17_write_ok, s_law17_write_det⟩, ⟨s_law17_read_ok, s_law17_read_det⟩, ⟨s_xlate_Shift_ok, s_xlate_Shift_det⟩, ⟨s_fit_Fits_ok, s_fit_Fits_det⟩, trivial⟩ _
theorem xlateDownUp_tells (low : Int) (high : Int) (mKind : Int) (mFrom : Int) (mInc : Int) (mSpanLo : Int) (mSpanHi : Int) (mSeq : Int) (mTarget : Int) (mLife : Int) (mEpoch : Int) (mBase : Int) (mRecs : LR) (hl : smallRecs mRecs = true ∧ byteBags mRecs) : denF law17_XlateDownUp_E loopN 0 Try.f12 [.raw] [.d (.int .i64) low, .d (.int .i64) high, .agg [.d (.int .i64) mKind, .d (.int .i64) mFrom, .d (.int .i64) mInc, .d (.int .i64) mSpanLo, .d (.int .i64) mSpanHi, .d (.int .i64) mSeq, .d (.int .i64) mTarget, .d (.int .i64) mLife, .d (.int .i64) mEpoch, .d (.int .i64) mBase, .d (.sl (.pair (.int .i64) (.pair (.int .i64) (.pair (.int .i64) (.pair (.pair (.int .i64) (.int .i64)) (.pair .bool (.sl (.pair (.int .i64) (.sl (.int .u8)))))))))) mRecs]] [] isTrue = some () := by
 rw [denF_any xlateDownUp_envOk.D ((law17_XlateDownUp.eq 0 low high mKind mFrom mInc mSpanLo mSpanHi mSeq mTarget mLife mEpoch mBase mRecs).trans (XlateDownUp.pure low high mKind mFrom mInc mSpanLo mSpanHi mSeq mTarget mLife mEpoch mBase mRecs hl)) (out := [.d .bool true]) (os := []) (fun rs ros hk => by
  unfold law17_XlateDownUp.k at hk
  split at hk
  ·first | (cases hk; exact ⟨rfl, rfl⟩) | (have e := Option.some.inj hk; rw [← e]; exact ⟨rfl, rfl⟩)
  ·cases hk)]
 rfl
set_option maxRecDepth 100000 in
theorem xlateDownUp_lifted (os : Os) (started : os.Started) (H : Type) (enc : TypeId × Value → H) :
  ReturnsInHanded {} Try.checked os 12 .any (Rows.xlateDownUpSpec.pre6 enc Try.prog Try.f12 Rows.xlateDownUpRow.domain false) (Rows.xlateDownUpSpec.post enc Try.prog Try.f12 false true false false) := by
 refine returnsInHanded_of_change_sized (C := Try.checked) Try.own started (by kernel_rfl) Try.func12
  (ChangeSpec.witness6 (enc := enc) (C := Try.checked) false ⟨#[], #[.int .i64 0, .int .i64 0, .agg #[.int .i64 0, .int .i64 0, .int .i64 0, .int .i64 0, .int .i64 0, .int .i64 0, .int .i64 0, .int .i64 0, .int .i64 0, .int .i64 0, .slice none 0 0]], []⟩ 8 (by kernel_rfl) (by kernel_rfl) (by kernel_rfl) (by kernel_rfl)) ?_
 intro W base args ds gs before hval hW _ hwt _
 exact law_contract xlateDownUp_envOk Try.func12 rfl [(.int .i64, false), (.int .i64, false), ((.pair (.int .i64) (.pair (.int .i64) (.pair (.int .i64) (.pair (.pair (.int .i64) (.int .i64)) (.pair (.int .i64) (.pair (.int .i64) (.pair (.int .i64) (.pair (.int .i64) (.pair (.int .i64) (.sl (.pair (.int .i64) (.pair (.int .i64) (.pair (.int .i64) (.pair (.pair (.int .i64) (.int .i64)) (.pair .bool (.sl (.pair (.int .i64) (.sl (.int .u8))))))))))))))))))), true)] (tb := 4) (by kernel_rfl) (by kernel_rfl) (by kernel_rfl) rfl
  (fun ds h => by match ds, h with | [_, _, _], _ => rfl) Try.laidOut Try.mapsRow Try.slicesSize (fun y hg => ⟨0, xlateDownUp_tells y.1 y.2.1 y.2.2.1.1 y.2.2.1.2.1 y.2.2.1.2.2.1 y.2.2.1.2.2.2.1.1 y.2.2.1.2.2.2.1.2 y.2.2.1.2.2.2.2.1 y.2.2.1.2.2.2.2.2.1 y.2.2.1.2.2.2.2.2.2.1 y.2.2.1.2.2.2.2.2.2.2.1 y.2.2.1.2.2.2.2.2.2.2.2.1 y.2.2.1.2.2.2.2.2.2.2.2.2 ⟨good_recs (hg.2.2.1.2.2.2.2.2.2.2.2.2), good_bags (hg.2.2.1.2.2.2.2.2.2.2.2.2)⟩⟩) W base args ds gs before hval hW hwt
theorem xlateDownUp_holds : Rows.XlateDownUpSaid :=
 OpenClaim.holds_of_wide 12 Try.f12 rfl rfl rfl rfl rfl rfl rfl ⟨rfl, rfl, rfl, rfl, rfl⟩ rfl rfl rfl rfl rfl (by kernel_rfl) Try.func12 (by kernel_rfl)
  (of_decide_eq_true (by kernel_rfl)) (by unfold Func.isWrapper; first | (rw [if_pos (by decide +kernel)]; kernel_rfl) | (rw [if_neg (by decide +kernel)]; exact ⟨rfl, rfl⟩))
  (fun os started H enc _ => xlateDownUp_lifted os started H enc)
end Go.Proofs.Ytnlkghcibpopgaa
