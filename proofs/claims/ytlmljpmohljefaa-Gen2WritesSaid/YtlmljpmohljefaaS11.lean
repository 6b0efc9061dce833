import Derived.Test.YtlmljpmohljefaaK15
set_option linter.unusedVariables false
namespace Go.Proofs.Ytlmljpmohljefaa
open Go.Den
theorem s_inner13_det : SumDet s_inner13 := fun avs objs R κ => by
  show s_inner13.run avs objs (two κ) = (s_inner13.run avs objs (two some)).bind κ
  unfold s_inner13
  simp only
  split
  · first | rfl | (split <;> rfl)
  · rfl
theorem s_inner13_ok : SumOk Try.prog 67 s_inner13 := by
  have hE : EnvOk Try.prog Inner13_E := env_ok (l := [(66, s_item13)]) th_ok any_ok ⟨⟨s_item13_ok, s_item13_det⟩, trivial⟩ _
  refine sum_ok hE Try.func67 rfl (by kernel_rfl) s_inner13 [.dat (.sl (.int .u8)) false] Inner13.k ?_
  intro R avs objs κ r h
  unfold s_inner13 at h
  simp only at h
  split at h
  · rename_i rid rinc rst rlo rhi rcut rbag
    split at h
    case isFalse => cases h
    rename_i hl
    refine ⟨rbag.length + 1, _, _, _, (Inner13.eq (rbag.length + 1) rid rinc rst rlo rhi rcut rbag).trans (Inner13.pure rid rinc rst rlo rhi rcut rbag hl), ?_, h⟩
    intro rs ros hk
    unfold Inner13.k at hk
    split at hk
    · first | (cases hk; exact ⟨rfl, rfl⟩) | (have e := Option.some.inj hk; rw [← e]; exact ⟨rfl, rfl⟩)
    · cases hk
  · cases h
theorem s_body13_det : SumDet s_body13 := fun avs objs R κ => by
  show s_body13.run avs objs (two κ) = (s_body13.run avs objs (two some)).bind κ
  unfold s_body13
  simp only
  split
  · first | rfl | (split <;> rfl)
  · rfl
theorem s_body13_ok : SumOk Try.prog 30 s_body13 := by
  have hE : EnvOk Try.prog Body13_E := env_ok (l := [(66, s_item13), (50, s_has), (67, s_inner13)]) th_ok any_ok ⟨⟨s_item13_ok, s_item13_det⟩, ⟨s_has_ok, s_has_det⟩, ⟨s_inner13_ok, s_inner13_det⟩, trivial⟩ _
  refine sum_ok hE Try.func30 rfl (by kernel_rfl) s_body13 [.dat (.sl (.int .u8)) false] Body13.k ?_
  intro R avs objs κ r h
  unfold s_body13 at h
  simp only at h
  split at h
  · rename_i mkind mfrom0 minc mlo mhi mseq mtarget mlife mepoch mbase mrecs
    split at h
    case isFalse => cases h
    rename_i hl
    refine ⟨mrecs.length + 1, _, _, _, (Body13.eq (mrecs.length + 1) mkind mfrom0 minc mlo mhi mseq mtarget mlife mepoch mbase mrecs).trans (Body13.pure mkind mfrom0 minc mlo mhi mseq mtarget mlife mepoch mbase mrecs hl), ?_, h⟩
    intro rs ros hk
    unfold Body13.k at hk
    split at hk
    · first | (cases hk; exact ⟨rfl, rfl⟩) | (have e := Option.some.inj hk; rw [← e]; exact ⟨rfl, rfl⟩)
    · cases hk
  · cases h
theorem s_fits13_det : SumDet s_fits13 := fun avs objs R κ => by
  show s_fits13.run avs objs (two κ) = (s_fits13.run avs objs (two some)).bind κ
  unfold s_fits13
  simp only
  split
  · first | rfl | (split <;> rfl)
  · rfl
theorem s_fits13_ok : SumOk Try.prog 28 s_fits13 := by
  have hE : EnvOk Try.prog Fits13_E := env_ok (l := [(20, s_valid), (30, s_body13)]) th_ok any_ok ⟨⟨s_valid_ok, s_valid_det⟩, ⟨s_body13_ok, s_body13_det⟩, trivial⟩ _
  refine sum_ok hE Try.func28 rfl (by kernel_rfl) s_fits13 [.raw] Fits13.k ?_
  intro R avs objs κ r h
  unfold s_fits13 at h
  simp only at h
  split at h
  · rename_i mkind mfrom0 minc mlo mhi mseq mtarget mlife mepoch mbase mrecs
    split at h
    case isFalse => cases h
    rename_i hl
    refine ⟨mrecs.length + 1, _, _, _, (Fits13.eq (mrecs.length + 1) mkind mfrom0 minc mlo mhi mseq mtarget mlife mepoch mbase mrecs).trans (Fits13.pure mkind mfrom0 minc mlo mhi mseq mtarget mlife mepoch mbase mrecs hl), ?_, h⟩
    intro rs ros hk
    unfold Fits13.k at hk
    split at hk
    · first | (cases hk; exact ⟨rfl, rfl⟩) | (have e := Option.some.inj hk; rw [← e]; exact ⟨rfl, rfl⟩)
    · cases hk
  · cases h
theorem s_within2_det : SumDet s_within2 := fun avs objs R κ => by
  show s_within2.run avs objs (two κ) = (s_within2.run avs objs (two some)).bind κ
  unfold s_within2
  simp only
  split
  · first | rfl | (split <;> rfl)
  · rfl
theorem s_within2_ok : SumOk Try.prog 64 s_within2 := by
  have hE : EnvOk Try.prog Within2_E := env_ok (l := [(62, s_tnum), (44, s_code)]) th_ok any_ok ⟨⟨s_tnum_ok, s_tnum_det⟩, ⟨s_code_ok, s_code_det⟩, trivial⟩ _
  refine sum_ok hE Try.func64 rfl (by kernel_rfl) s_within2 [.dat (.sl (.pair (.int .i64) (.sl (.int .u8)))) false] Within2.k ?_
  intro R avs objs κ r h
  unfold s_within2 at h
  simp only at h
  split at h
  · rename_i rid rinc rst rlo rhi rcut rbag
    split at h
    case isFalse => cases h
    rename_i hl
    refine ⟨0, _, _, _, (Within2.eq (0) rid rinc rst rlo rhi rcut rbag).trans (Within2.pure rid rinc rst rlo rhi rcut rbag hl), ?_, h⟩
    intro rs ros hk
    unfold Within2.k at hk
    split at hk
    · first | (cases hk; exact ⟨rfl, rfl⟩) | (have e := Option.some.inj hk; rw [← e]; exact ⟨rfl, rfl⟩)
    · cases hk
  · cases h
theorem s_join_det : SumDet s_join := fun avs objs R κ => by
  show s_join.run avs objs (two κ) = (s_join.run avs objs (two some)).bind κ
  unfold s_join
  simp only
  split
  · first | rfl | (split <;> rfl)
  · rfl
theorem s_join_ok : SumOk Try.prog 63 s_join := by
  have hE : EnvOk Try.prog Join_E := env_ok (l := []) th_ok any_ok trivial _
  refine sum_ok hE Try.func63 rfl (by kernel_rfl) s_join [.dat (.sl (.int .u8)) false, .raw] Join.k ?_
  intro R avs objs κ r h
  unfold s_join at h
  simp only at h
  split at h
  · rename_i l
    split at h
    case isFalse => cases h
    rename_i hl
    refine ⟨l.length + 3, _, _, _, (Join.eq (l.length + 3) l).trans (Join.pure l hl), ?_, h⟩
    intro rs ros hk
    unfold Join.k at hk
    split at hk
    · first | (cases hk; exact ⟨rfl, rfl⟩) | (have e := Option.some.inj hk; rw [← e]; exact ⟨rfl, rfl⟩)
    · cases hk
  · cases h
theorem s_enc2_det : SumDet s_enc2 := fun avs objs R κ => by
  show s_enc2.run avs objs (two κ) = (s_enc2.run avs objs (two some)).bind κ
  unfold s_enc2
  simp only
  split
  · first | rfl | (split <;> rfl)
  · rfl
theorem s_enc2_ok : SumOk Try.prog 26 s_enc2 := by
  have hE : EnvOk Try.prog Encode2_E := env_ok (l := [(20, s_valid), (27, s_fits2), (62, s_tnum), (44, s_code), (50, s_has), (64, s_within2), (63, s_join)]) th_ok any_ok ⟨⟨s_valid_ok, s_valid_det⟩, ⟨s_fits2_ok, s_fits2_det⟩, ⟨s_tnum_ok, s_tnum_det⟩, ⟨s_code_ok, s_code_det⟩, ⟨s_has_ok, s_has_det⟩, ⟨s_within2_ok, s_within2_det⟩, ⟨s_join_ok, s_join_det⟩, trivial⟩ _
  refine sum_ok hE Try.func26 rfl (by kernel_rfl) s_enc2 [.dat (.sl (.int .u8)) false, .raw] Encode2.k ?_
  intro R avs objs κ r h
  unfold s_enc2 at h
  simp only at h
  split at h
  · rename_i mkind mfrom0 minc mlo mhi mseq mtarget mlife mepoch mbase mrecs
    split at h
    case isFalse => cases h
    rename_i hl
    refine ⟨mrecs.length + 1, _, _, _, (Encode2.eq (mrecs.length + 1) mkind mfrom0 minc mlo mhi mseq mtarget mlife mepoch mbase mrecs).trans (Encode2.pure mkind mfrom0 minc mlo mhi mseq mtarget mlife mepoch mbase mrecs hl), ?_, h⟩
    intro rs ros hk
    unfold Encode2.k at hk
    split at hk
    · first | (cases hk; exact ⟨rfl, rfl⟩) | (have e := Option.some.inj hk; rw [← e]; exact ⟨rfl, rfl⟩)
    · cases hk
  · cases h
end Go.Proofs.Ytlmljpmohljefaa
