import Derived.Test.YtlmljpmohljefaaK16
set_option linter.unusedVariables false
namespace Go.Proofs.Ytlmljpmohljefaa
open Go.Den
theorem s_awake13_det : SumDet s_awake13 := fun avs objs R κ => by
  show s_awake13.run avs objs (two κ) = (s_awake13.run avs objs (two some)).bind κ
  unfold s_awake13
  simp only
  split
  · first | rfl | (split <;> rfl)
  · rfl
theorem s_awake13_ok : SumOk Try.prog 25 s_awake13 := by
  have hE : EnvOk Try.prog awake13_E := env_ok (l := [(26, s_enc2)]) th_ok any_ok ⟨⟨s_enc2_ok, s_enc2_det⟩, trivial⟩ _
  refine sum_ok hE Try.func25 rfl (by kernel_rfl) s_awake13 [.raw] awake13.k ?_
  intro R avs objs κ r h
  unfold s_awake13 at h
  simp only at h
  split at h
  · skip
    refine ⟨0, _, _, _, (awake13.eq (0) ()).trans (awake13.pure), ?_, h⟩
    intro rs ros hk
    unfold awake13.k at hk
    split at hk
    · first | (cases hk; exact ⟨rfl, rfl⟩) | (have e := Option.some.inj hk; rw [← e]; exact ⟨rfl, rfl⟩)
    · cases hk
  · cases h
end Go.Proofs.Ytlmljpmohljefaa
