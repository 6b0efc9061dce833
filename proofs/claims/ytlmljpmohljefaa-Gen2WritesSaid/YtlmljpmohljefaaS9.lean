import Derived.Test.YtlmljpmohljefaaK10
set_option linter.unusedVariables false
namespace Go.Proofs.Ytlmljpmohljefaa
open Go.Den
theorem s_num60_det : SumDet s_num60 := fun avs objs R κ => by
  show s_num60.run avs objs (two κ) = (s_num60.run avs objs (two some)).bind κ
  unfold s_num60
  simp only
  split
  · first | rfl | (split <;> rfl)
  · rfl
theorem s_num60_ok : SumOk Try.prog 60 s_num60 := by
  have hE : EnvOk Try.prog Num60_E := env_ok (l := []) th_ok any_ok trivial _
  refine sum_ok hE Try.func60 rfl (by kernel_rfl) s_num60 [.raw] Num60.k ?_
  intro R avs objs κ r h
  unfold s_num60 at h
  simp only at h
  split at h
  · rename_i p
    split at h
    case isFalse => cases h
    rename_i hl
    refine ⟨9, _, _, _, (Num60.eq (9) p).trans (Num60.pure p hl), ?_, h⟩
    intro rs ros hk
    unfold Num60.k at hk
    split at hk
    · first | (cases hk; exact ⟨rfl, rfl⟩) | (have e := Option.some.inj hk; rw [← e]; exact ⟨rfl, rfl⟩)
    · cases hk
  · cases h
noncomputable def s_msg1 : Den.Sum := ⟨[.dat (.sl (.int .u8)) false], fun args objs κ => match args, objs with
  | [.d (.sl (.int .u8)) l], [] => if inB l = true then κ [.agg [.d (.int .i64) (msgL l).1, .d (.int .i64) (msgL l).2.1, .d (.int .i64) (msgL l).2.2.1, .d (.int .i64) (msgL l).2.2.2.1, .d (.int .i64) (msgL l).2.2.2.2.1, .d (.int .i64) (msgL l).2.2.2.2.2.1, .d (.int .i64) (msgL l).2.2.2.2.2.2.1, .d (.int .i64) 0, .d (.int .i64) 0, .d (.int .i64) 0, .d (.sl (.pair (.int .i64) (.pair (.int .i64) (.pair (.int .i64) (.pair (.pair (.int .i64) (.int .i64)) (.pair .bool (.sl (.pair (.int .i64) (.sl (.int .u8)))))))))) ((msgL l).2.2.2.2.2.2.2.1)], .d .bool (msgL l).2.2.2.2.2.2.2.2] [] else none
  | _, _ => none⟩
noncomputable def s_msg1b : Den.Sum := ⟨[.dat (.sl (.int .u8)) false], fun args objs κ => match args, objs with
  | [.d (.sl (.int .u8)) l], [] => if inB l = true then (match veil (some (msgL l)) with | none => none | some y => κ [.agg [.d (.int .i64) y.1, .d (.int .i64) y.2.1, .d (.int .i64) y.2.2.1, .d (.int .i64) y.2.2.2.1, .d (.int .i64) y.2.2.2.2.1, .d (.int .i64) y.2.2.2.2.2.1, .d (.int .i64) y.2.2.2.2.2.2.1, .d (.int .i64) 0, .d (.int .i64) 0, .d (.int .i64) 0, .d (.sl (.pair (.int .i64) (.pair (.int .i64) (.pair (.int .i64) (.pair (.pair (.int .i64) (.int .i64)) (.pair .bool (.sl (.pair (.int .i64) (.sl (.int .u8)))))))))) (y.2.2.2.2.2.2.2.1)], .d .bool y.2.2.2.2.2.2.2.2] []) else none
  | _, _ => none⟩
theorem s_msg1_det : SumDet s_msg1 := fun avs objs R κ => by
  show s_msg1.run avs objs (two κ) = (s_msg1.run avs objs (two some)).bind κ
  unfold s_msg1
  simp only
  split
  · first | rfl | (split <;> rfl)
  · rfl
theorem s_msg1_ok : SumOk Try.prog 23 s_msg1 := by
  have hE : EnvOk Try.prog Message1_E := env_ok (l := [(60, s_num60), (20, s_valid)]) th_ok any_ok ⟨⟨s_num60_ok, s_num60_det⟩, ⟨s_valid_ok, s_valid_det⟩, trivial⟩ _
  refine sum_ok hE Try.func23 rfl (by kernel_rfl) s_msg1 [.dat (.pair (.int .i64) (.pair (.int .i64) (.pair (.int .i64) (.pair (.pair (.int .i64) (.int .i64)) (.pair (.int .i64) (.pair (.int .i64) (.pair (.int .i64) (.pair (.int .i64) (.pair (.int .i64) (.sl (.pair (.int .i64) (.pair (.int .i64) (.pair (.int .i64) (.pair (.pair (.int .i64) (.int .i64)) (.pair .bool (.sl (.pair (.int .i64) (.sl (.int .u8))))))))))))))))))) true, .raw] Message1.k ?_
  intro R avs objs κ r h
  unfold s_msg1 at h
  simp only at h
  split at h
  · rename_i l
    split at h
    case isFalse => cases h
    rename_i hl
    refine ⟨300, _, _, _, (Message1.eq (300) l).trans (Message1.pure l hl), ?_, h⟩
    intro rs ros hk
    unfold Message1.k at hk
    split at hk
    · first | (cases hk; exact ⟨rfl, rfl⟩) | (have e := Option.some.inj hk; rw [← e]; exact ⟨rfl, rfl⟩)
    · cases hk
  · cases h
theorem s_msg1b_det : SumDet s_msg1b := fun avs objs R κ => by
  show s_msg1b.run avs objs (two κ) = (s_msg1b.run avs objs (two some)).bind κ
  unfold s_msg1b
  simp only [veil_eq]
  split
  · first | rfl | (split <;> rfl)
  · rfl
theorem s_msg1b_ok : SumOk Try.prog 23 s_msg1b := ⟨s_msg1_ok.1, fun avs objs κ r hr => s_msg1_ok.2 avs objs κ r (by
  unfold s_msg1b at hr
  simp only [veil_eq] at hr
  split at hr
  · exact hr
  · cases hr)⟩
end Go.Proofs.Ytlmljpmohljefaa
