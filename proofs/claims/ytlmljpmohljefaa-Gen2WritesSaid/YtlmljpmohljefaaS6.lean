import Derived.Test.YtlmljpmohljefaaK6
set_option linter.unusedVariables false
namespace Go.Proofs.Ytlmljpmohljefaa
open Go.Den
noncomputable def s_dec : Den.Sum := ⟨[.dat (.sl (.int .u8)) false], fun args objs κ => match args, objs with
  | [.d (.sl (.int .u8)) l], [] => if inB l = true then κ [.agg [.d (.int .i64) (decF l).1, .d (.int .i64) (decF l).2.1, .d (.int .i64) (decF l).2.2.1, .d (.int .i64) (decF l).2.2.2.1, .d (.int .i64) (decF l).2.2.2.2.1, .d (.int .i64) (decF l).2.2.2.2.2.1, .d (.int .i64) (decF l).2.2.2.2.2.2.1, .d (.int .i64) 0, .d (.int .i64) 0, .d (.int .i64) 0, .d (.sl (.pair (.int .i64) (.pair (.int .i64) (.pair (.int .i64) (.pair (.pair (.int .i64) (.int .i64)) (.pair .bool (.sl (.pair (.int .i64) (.sl (.int .u8)))))))))) ((decF l).2.2.2.2.2.2.2.1)], .d (.int .i64) ((decF l).2.2.2.2.2.2.2.2)] [] else none
  | _, _ => none⟩
noncomputable def s_decb : Den.Sum := ⟨[.dat (.sl (.int .u8)) false], fun args objs κ => match args, objs with
  | [.d (.sl (.int .u8)) l], [] => if inB l = true then (match veil (some (decF l)) with | none => none | some y => κ [.agg [.d (.int .i64) y.1, .d (.int .i64) y.2.1, .d (.int .i64) y.2.2.1, .d (.int .i64) y.2.2.2.1, .d (.int .i64) y.2.2.2.2.1, .d (.int .i64) y.2.2.2.2.2.1, .d (.int .i64) y.2.2.2.2.2.2.1, .d (.int .i64) 0, .d (.int .i64) 0, .d (.int .i64) 0, .d (.sl (.pair (.int .i64) (.pair (.int .i64) (.pair (.int .i64) (.pair (.pair (.int .i64) (.int .i64)) (.pair .bool (.sl (.pair (.int .i64) (.sl (.int .u8)))))))))) (y.2.2.2.2.2.2.2.1)], .d (.int .i64) (y.2.2.2.2.2.2.2.2)] []) else none
  | _, _ => none⟩
theorem s_dec_det : SumDet s_dec := fun avs objs R κ => by
  show s_dec.run avs objs (two κ) = (s_dec.run avs objs (two some)).bind κ
  unfold s_dec
  simp only
  split
  · first | rfl | (split <;> rfl)
  · rfl
theorem s_dec_ok : SumOk Try.prog 22 s_dec := by
  have hE : EnvOk Try.prog Decode1_E := env_ok (l := [(54, s_read), (56, s_sofb), (58, s_oneb), (18, s_fits1), (55, s_rnumb), (57, s_bad), (59, s_done)]) th_ok any_ok ⟨⟨s_read_ok, s_read_det⟩, ⟨s_sofb_ok, s_sofb_det⟩, ⟨s_oneb_ok, s_oneb_det⟩, ⟨s_fits1_ok, s_fits1_det⟩, ⟨s_rnumb_ok, s_rnumb_det⟩, ⟨s_bad_ok, s_bad_det⟩, ⟨s_done_ok, s_done_det⟩, trivial⟩ _
  refine sum_ok hE Try.func22 rfl (by kernel_rfl) s_dec [.dat (.pair (.int .i64) (.pair (.int .i64) (.pair (.int .i64) (.pair (.pair (.int .i64) (.int .i64)) (.pair (.int .i64) (.pair (.int .i64) (.pair (.int .i64) (.pair (.int .i64) (.pair (.int .i64) (.sl (.pair (.int .i64) (.pair (.int .i64) (.pair (.int .i64) (.pair (.pair (.int .i64) (.int .i64)) (.pair .bool (.sl (.pair (.int .i64) (.sl (.int .u8))))))))))))))))))) true, .raw] Decode1.k ?_
  intro R avs objs κ r h
  unfold s_dec at h
  simp only at h
  split at h
  · rename_i l
    split at h
    case isFalse => cases h
    rename_i hl
    refine ⟨300, _, _, _, (Decode1.eq (300) l).trans (Decode1.pure l hl), ?_, h⟩
    intro rs ros hk
    unfold Decode1.k at hk
    split at hk
    · first | (cases hk; exact ⟨rfl, rfl⟩) | (have e := Option.some.inj hk; rw [← e]; exact ⟨rfl, rfl⟩)
    · cases hk
  · cases h
theorem s_decb_det : SumDet s_decb := fun avs objs R κ => by
  show s_decb.run avs objs (two κ) = (s_decb.run avs objs (two some)).bind κ
  unfold s_decb
  simp only [veil_eq]
  split
  · first | rfl | (split <;> rfl)
  · rfl
theorem s_decb_ok : SumOk Try.prog 22 s_decb := ⟨s_dec_ok.1, fun avs objs κ r hr => s_dec_ok.2 avs objs κ r (by
  unfold s_decb at hr
  simp only [veil_eq] at hr
  split at hr
  · exact hr
  · cases hr)⟩
end Go.Proofs.Ytlmljpmohljefaa
