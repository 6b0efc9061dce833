import Derived.Test.YtlmljpmohljefaaK13
set_option linter.unusedVariables false
namespace Go.Proofs.Ytlmljpmohljefaa
open Go.Den
theorem s_rsz2_det : SumDet s_rsz2 := fun avs objs R κ => by
  show s_rsz2.run avs objs (two κ) = (s_rsz2.run avs objs (two some)).bind κ
  unfold s_rsz2
  simp only
  split
  · first | rfl | (split <;> rfl)
  · rfl
theorem s_rsz2_ok : SumOk Try.prog 65 s_rsz2 := by
  have hE : EnvOk Try.prog RSize2_E := env_ok (l := []) th_ok any_ok trivial _
  refine sum_ok hE Try.func65 rfl (by kernel_rfl) s_rsz2 [.raw] RSize2.k ?_
  intro R avs objs κ r h
  unfold s_rsz2 at h
  simp only at h
  split at h
  · rename_i rid rinc rst rlo rhi rcut rbag
    split at h
    case isFalse => cases h
    rename_i hl
    refine ⟨rbag.length + 1, _, _, _, (RSize2.eq (rbag.length + 1) rid rinc rst rlo rhi rcut rbag).trans (RSize2.pure rid rinc rst rlo rhi rcut rbag hl), ?_, h⟩
    intro rs ros hk
    unfold RSize2.k at hk
    split at hk
    · first | (cases hk; exact ⟨rfl, rfl⟩) | (have e := Option.some.inj hk; rw [← e]; exact ⟨rfl, rfl⟩)
    · cases hk
  · cases h
theorem s_size2_det : SumDet s_size2 := fun avs objs R κ => by
  show s_size2.run avs objs (two κ) = (s_size2.run avs objs (two some)).bind κ
  unfold s_size2
  simp only
  split
  · first | rfl | (split <;> rfl)
  · rfl
theorem s_size2_ok : SumOk Try.prog 29 s_size2 := by
  have hE : EnvOk Try.prog Size2_E := env_ok (l := [(20, s_valid), (50, s_has), (65, s_rsz2)]) th_ok any_ok ⟨⟨s_valid_ok, s_valid_det⟩, ⟨s_has_ok, s_has_det⟩, ⟨s_rsz2_ok, s_rsz2_det⟩, trivial⟩ _
  refine sum_ok hE Try.func29 rfl (by kernel_rfl) s_size2 [.raw] Size2.k ?_
  intro R avs objs κ r h
  unfold s_size2 at h
  simp only at h
  split at h
  · rename_i mkind mfrom0 minc mlo mhi mseq mtarget mlife mepoch mbase mrecs
    split at h
    case isFalse => cases h
    rename_i hl
    refine ⟨mrecs.length + 1, _, _, _, (Size2.eq (mrecs.length + 1) mkind mfrom0 minc mlo mhi mseq mtarget mlife mepoch mbase mrecs).trans (Size2.pure mkind mfrom0 minc mlo mhi mseq mtarget mlife mepoch mbase mrecs hl), ?_, h⟩
    intro rs ros hk
    unfold Size2.k at hk
    split at hk
    · first | (cases hk; exact ⟨rfl, rfl⟩) | (have e := Option.some.inj hk; rw [← e]; exact ⟨rfl, rfl⟩)
    · cases hk
  · cases h
theorem s_fits2_det : SumDet s_fits2 := fun avs objs R κ => by
  show s_fits2.run avs objs (two κ) = (s_fits2.run avs objs (two some)).bind κ
  unfold s_fits2
  simp only
  split
  · first | rfl | (split <;> rfl)
  · rfl
theorem s_fits2_ok : SumOk Try.prog 27 s_fits2 := by
  have hE : EnvOk Try.prog Fits2_E := env_ok (l := [(20, s_valid), (29, s_size2)]) th_ok any_ok ⟨⟨s_valid_ok, s_valid_det⟩, ⟨s_size2_ok, s_size2_det⟩, trivial⟩ _
  refine sum_ok hE Try.func27 rfl (by kernel_rfl) s_fits2 [.raw] Fits2.k ?_
  intro R avs objs κ r h
  unfold s_fits2 at h
  simp only at h
  split at h
  · rename_i mkind mfrom0 minc mlo mhi mseq mtarget mlife mepoch mbase mrecs
    split at h
    case isFalse => cases h
    rename_i hl
    refine ⟨mrecs.length + 1, _, _, _, (Fits2.eq (mrecs.length + 1) mkind mfrom0 minc mlo mhi mseq mtarget mlife mepoch mbase mrecs).trans (Fits2.pure mkind mfrom0 minc mlo mhi mseq mtarget mlife mepoch mbase mrecs hl), ?_, h⟩
    intro rs ros hk
    unfold Fits2.k at hk
    split at hk
    · first | (cases hk; exact ⟨rfl, rfl⟩) | (have e := Option.some.inj hk; rw [← e]; exact ⟨rfl, rfl⟩)
    · cases hk
  · cases h
theorem s_item13_det : SumDet s_item13 := fun avs objs R κ => by
  show s_item13.run avs objs (two κ) = (s_item13.run avs objs (two some)).bind κ
  unfold s_item13
  simp only
  split
  · first | rfl | (split <;> rfl)
  · rfl
theorem s_item13_ok : SumOk Try.prog 66 s_item13 := by
  have hE : EnvOk Try.prog Item13_E := env_ok (l := []) th_ok any_ok trivial _
  refine sum_ok hE Try.func66 rfl (by kernel_rfl) s_item13 [.own 5 (.int .u8)] Item13.k ?_
  intro R avs objs κ r h
  unfold s_item13 at h
  simp only at h
  split at h
  · rename_i t n v l
    split at h
    case isFalse => cases h
    rename_i hl
    refine ⟨9, _, _, _, (Item13.eq (9) t n v l).trans (Item13.pure t n v l hl.1 hl.2.1 hl.2.2), ?_, h⟩
    intro rs ros hk
    unfold Item13.k at hk
    split at hk
    · first | (cases hk; exact ⟨rfl, rfl⟩) | (have e := Option.some.inj hk; rw [← e]; exact ⟨rfl, rfl⟩)
    · cases hk
  · cases h
theorem s_tnum_det : SumDet s_tnum := fun avs objs R κ => by
  show s_tnum.run avs objs (two κ) = (s_tnum.run avs objs (two some)).bind κ
  unfold s_tnum
  simp only
  split
  · first | rfl | (split <;> rfl)
  · rfl
theorem s_tnum_ok : SumOk Try.prog 62 s_tnum := by
  have hE : EnvOk Try.prog TNum_E := env_ok (l := [(42, s_write), (43, s_num), (46, s_bytes)]) th_ok any_ok ⟨⟨s_write_ok, s_write_det⟩, ⟨s_num_ok, s_num_det⟩, ⟨s_bytes_ok, s_bytes_det⟩, trivial⟩ _
  refine sum_ok hE Try.func62 rfl (by kernel_rfl) s_tnum [.dat (.pair (.int .i64) (.sl (.int .u8))) true] TNum.k ?_
  intro R avs objs κ r h
  unfold s_tnum at h
  simp only at h
  split at h
  · rename_i t n v
    split at h
    case isFalse => cases h
    rename_i hl
    refine ⟨0, _, _, _, (TNum.eq (0) t n v).trans (TNum.pure t n v hl), ?_, h⟩
    intro rs ros hk
    unfold TNum.k at hk
    split at hk
    · first | (cases hk; exact ⟨rfl, rfl⟩) | (have e := Option.some.inj hk; rw [← e]; exact ⟨rfl, rfl⟩)
    · cases hk
  · cases h
end Go.Proofs.Ytlmljpmohljefaa
