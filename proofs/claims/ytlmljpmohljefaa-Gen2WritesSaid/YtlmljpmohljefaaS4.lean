import Derived.Test.YtlmljpmohljefaaK4
set_option linter.unusedVariables false
namespace Go.Proofs.Ytlmljpmohljefaa
open Go.Den
theorem s_body_det : SumDet s_body := fun avs objs R κ => by
  show s_body.run avs objs (two κ) = (s_body.run avs objs (two some)).bind κ
  unfold s_body
  simp only
  split
  · first | rfl | (split <;> rfl)
  · rfl
theorem s_body_ok : SumOk Try.prog 21 s_body := by
  have hE : EnvOk Try.prog Body11_E := env_ok (l := [(53, s_put)]) th_ok any_ok ⟨⟨s_put_ok, s_put_det⟩, trivial⟩ _
  refine sum_ok hE Try.func21 rfl (by kernel_rfl) s_body [.dat (.sl (.int .u8)) false] Body11.k ?_
  intro R avs objs κ r h
  unfold s_body at h
  simp only at h
  split at h
  · rename_i mkind mfrom0 minc mlo mhi mseq mtarget mlife mepoch mbase mrecs
    split at h
    case isFalse => cases h
    rename_i hl
    refine ⟨mrecs.length + 1, _, _, _, (Body11.eq (mrecs.length + 1) mkind mfrom0 minc mlo mhi mseq mtarget mlife mepoch mbase mrecs).trans (Body11.pure mkind mfrom0 minc mlo mhi mseq mtarget mlife mepoch mbase mrecs hl), ?_, h⟩
    intro rs ros hk
    unfold Body11.k at hk
    split at hk
    · first | (cases hk; exact ⟨rfl, rfl⟩) | (have e := Option.some.inj hk; rw [← e]; exact ⟨rfl, rfl⟩)
    · cases hk
  · cases h
theorem s_enc_det : SumDet s_enc := fun avs objs R κ => by
  show s_enc.run avs objs (two κ) = (s_enc.run avs objs (two some)).bind κ
  unfold s_enc
  simp only
  split
  · first | rfl | (split <;> rfl)
  · rfl
theorem s_enc_ok : SumOk Try.prog 17 s_enc := by
  have hE : EnvOk Try.prog Encode1_E := env_ok (l := [(20, s_valid), (18, s_fits1), (42, s_write), (44, s_code), (45, s_state), (43, s_num), (46, s_bytes)]) th_ok any_ok ⟨⟨s_valid_ok, s_valid_det⟩, ⟨s_fits1_ok, s_fits1_det⟩, ⟨s_write_ok, s_write_det⟩, ⟨s_code_ok, s_code_det⟩, ⟨s_state_ok, s_state_det⟩, ⟨s_num_ok, s_num_det⟩, ⟨s_bytes_ok, s_bytes_det⟩, trivial⟩ _
  refine sum_ok hE Try.func17 rfl (by kernel_rfl) s_enc [.dat (.sl (.int .u8)) false, .raw] Encode1.k ?_
  intro R avs objs κ r h
  unfold s_enc at h
  simp only at h
  split at h
  · rename_i mkind mfrom0 minc mlo mhi mseq mtarget mlife mepoch mbase mrecs
    split at h
    case isFalse => cases h
    rename_i hl
    refine ⟨mrecs.length + 1, _, _, _, (Encode1.eq (mrecs.length + 1) mkind mfrom0 minc mlo mhi mseq mtarget mlife mepoch mbase mrecs).trans (Encode1.pure mkind mfrom0 minc mlo mhi mseq mtarget mlife mepoch mbase mrecs hl), ?_, h⟩
    intro rs ros hk
    unfold Encode1.k at hk
    split at hk
    · first | (cases hk; exact ⟨rfl, rfl⟩) | (have e := Option.some.inj hk; rw [← e]; exact ⟨rfl, rfl⟩)
    · cases hk
  · cases h
theorem s_awake11_det : SumDet s_awake11 := fun avs objs R κ => by
  show s_awake11.run avs objs (two κ) = (s_awake11.run avs objs (two some)).bind κ
  unfold s_awake11
  simp only
  split
  · first | rfl | (split <;> rfl)
  · rfl
theorem s_awake11_ok : SumOk Try.prog 16 s_awake11 := by
  have hE : EnvOk Try.prog awake11_E := env_ok (l := [(17, s_enc)]) th_ok any_ok ⟨⟨s_enc_ok, s_enc_det⟩, trivial⟩ _
  refine sum_ok hE Try.func16 rfl (by kernel_rfl) s_awake11 [.raw] awake11.k ?_
  intro R avs objs κ r h
  unfold s_awake11 at h
  simp only at h
  split at h
  · skip
    refine ⟨0, _, _, _, (awake11.eq (0) ()).trans (awake11.pure), ?_, h⟩
    intro rs ros hk
    unfold awake11.k at hk
    split at hk
    · first | (cases hk; exact ⟨rfl, rfl⟩) | (have e := Option.some.inj hk; rw [← e]; exact ⟨rfl, rfl⟩)
    · cases hk
  · cases h
end Go.Proofs.Ytlmljpmohljefaa
