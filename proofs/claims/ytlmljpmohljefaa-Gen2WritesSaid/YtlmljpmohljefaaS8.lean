import Derived.Test.YtlmljpmohljefaaK8
set_option linter.unusedVariables false
namespace Go.Proofs.Ytlmljpmohljefaa
open Go.Den
theorem s_isnan_det : SumDet s_isnan := fun avs objs R κ => by
  show s_isnan.run avs objs (two κ) = (s_isnan.run avs objs (two some)).bind κ
  unfold s_isnan
  simp only
  split
  · first | rfl | (split <;> rfl)
  · rfl
theorem s_isnan_ok : SumOk Try.prog 109 s_isnan := by
  have hE : EnvOk Try.prog IsNaN_E := env_ok (l := []) th_ok any_ok trivial _
  refine sum_ok hE Try.func109 rfl (by kernel_rfl) s_isnan [.raw] IsNaN.k ?_
  intro R avs objs κ r h
  unfold s_isnan at h
  simp only at h
  split at h
  · rename_i x
    refine ⟨0, _, _, _, (IsNaN.eq (0) x).trans (IsNaN.pure x), ?_, h⟩
    intro rs ros hk
    unfold IsNaN.k at hk
    split at hk
    · first | (cases hk; exact ⟨rfl, rfl⟩) | (have e := Option.some.inj hk; rw [← e]; exact ⟨rfl, rfl⟩)
    · cases hk
  · cases h
theorem s_cmpb_det : SumDet s_cmpb := fun avs objs R κ => by
  show s_cmpb.run avs objs (two κ) = (s_cmpb.run avs objs (two some)).bind κ
  unfold s_cmpb
  simp only
  split
  · first | rfl | (split <;> rfl)
  · rfl
theorem s_cmpb_ok : SumOk Try.prog 108 s_cmpb := by
  have hE : EnvOk Try.prog CmpB_E := env_ok (l := [(109, s_isnan)]) th_ok any_ok ⟨⟨s_isnan_ok, s_isnan_det⟩, trivial⟩ _
  refine sum_ok hE Try.func108 rfl (by kernel_rfl) s_cmpb [.raw] CmpB.k ?_
  intro R avs objs κ r h
  unfold s_cmpb at h
  simp only at h
  split at h
  · rename_i x y
    refine ⟨0, _, _, _, (CmpB.eq (0) x y).trans (CmpB.pure x y), ?_, h⟩
    intro rs ros hk
    unfold CmpB.k at hk
    split at hk
    · first | (cases hk; exact ⟨rfl, rfl⟩) | (have e := Option.some.inj hk; rw [← e]; exact ⟨rfl, rfl⟩)
    · cases hk
  · cases h
theorem s_slcmp_det : SumDet s_slcmp := fun avs objs R κ => by
  show s_slcmp.run avs objs (two κ) = (s_slcmp.run avs objs (two some)).bind κ
  unfold s_slcmp
  simp only
  split
  · first | rfl | (split <;> rfl)
  · rfl
theorem s_slcmp_ok : SumOk Try.prog 106 s_slcmp := by
  have hE : EnvOk Try.prog SlCmp_E := env_ok (l := [(108, s_cmpb)]) th_ok any_ok ⟨⟨s_cmpb_ok, s_cmpb_det⟩, trivial⟩ _
  refine sum_ok hE Try.func106 rfl (by kernel_rfl) s_slcmp [.raw] SlCmp.k ?_
  intro R avs objs κ r h
  unfold s_slcmp at h
  simp only at h
  split at h
  · rename_i l m
    split at h
    case isFalse => cases h
    rename_i hl
    refine ⟨l.length + 1, _, _, _, (SlCmp.eq (l.length + 1) l m).trans (SlCmp.pure l m hl), ?_, h⟩
    intro rs ros hk
    unfold SlCmp.k at hk
    split at hk
    · first | (cases hk; exact ⟨rfl, rfl⟩) | (have e := Option.some.inj hk; rw [← e]; exact ⟨rfl, rfl⟩)
    · cases hk
  · cases h
theorem s_sign_det : SumDet s_sign := fun avs objs R κ => by
  show s_sign.run avs objs (two κ) = (s_sign.run avs objs (two some)).bind κ
  unfold s_sign
  simp only
  split
  · first | rfl | (split <;> rfl)
  · rfl
theorem s_sign_ok : SumOk Try.prog 104 s_sign := by
  have hE : EnvOk Try.prog BSign_E := env_ok (l := [(106, s_slcmp)]) th_ok any_ok ⟨⟨s_slcmp_ok, s_slcmp_det⟩, trivial⟩ _
  refine sum_ok hE Try.func104 rfl (by kernel_rfl) s_sign [.raw] BSign.k ?_
  intro R avs objs κ r h
  unfold s_sign at h
  simp only at h
  split at h
  · rename_i t1 d1 t2 d2
    split at h
    case isFalse => cases h
    rename_i hl
    refine ⟨0, _, _, _, (BSign.eq (0) t1 d1 t2 d2).trans (BSign.pure t1 d1 t2 d2 hl), ?_, h⟩
    intro rs ros hk
    unfold BSign.k at hk
    split at hk
    · first | (cases hk; exact ⟨rfl, rfl⟩) | (have e := Option.some.inj hk; rw [← e]; exact ⟨rfl, rfl⟩)
    · cases hk
  · cases h
theorem s_bcmp_det : SumDet s_bcmp := fun avs objs R κ => by
  show s_bcmp.run avs objs (two κ) = (s_bcmp.run avs objs (two some)).bind κ
  unfold s_bcmp
  simp only
  split
  · first | rfl | (split <;> rfl)
  · rfl
theorem s_bcmp_ok : SumOk Try.prog 101 s_bcmp := by
  have hE : EnvOk Try.prog BCmp_E := env_ok (l := [(104, s_sign)]) th_ok any_ok ⟨⟨s_sign_ok, s_sign_det⟩, trivial⟩ _
  refine sum_ok hE Try.func101 rfl (by kernel_rfl) s_bcmp [.raw] BCmp.k ?_
  intro R avs objs κ r h
  unfold s_bcmp at h
  simp only at h
  split at h
  · rename_i a b
    split at h
    case isFalse => cases h
    rename_i hl
    refine ⟨a.length + 1, _, _, _, (BCmp.eq (a.length + 1) a b).trans (BCmp.pure a b hl), ?_, h⟩
    intro rs ros hk
    unfold BCmp.k at hk
    split at hk
    · first | (cases hk; exact ⟨rfl, rfl⟩) | (have e := Option.some.inj hk; rw [← e]; exact ⟨rfl, rfl⟩)
    · cases hk
  · cases h
theorem s_bsame_det : SumDet s_bsame := fun avs objs R κ => by
  show s_bsame.run avs objs (two κ) = (s_bsame.run avs objs (two some)).bind κ
  unfold s_bsame
  simp only
  split
  · first | rfl | (split <;> rfl)
  · rfl
theorem s_bsame_ok : SumOk Try.prog 96 s_bsame := by
  have hE : EnvOk Try.prog BSame_E := env_ok (l := [(101, s_bcmp)]) th_ok any_ok ⟨⟨s_bcmp_ok, s_bcmp_det⟩, trivial⟩ _
  refine sum_ok hE Try.func96 rfl (by kernel_rfl) s_bsame [.raw] BSame.k ?_
  intro R avs objs κ r h
  unfold s_bsame at h
  simp only at h
  split at h
  · rename_i a b
    split at h
    case isFalse => cases h
    rename_i hl
    refine ⟨0, _, _, _, (BSame.eq (0) a b).trans (BSame.pure a b hl), ?_, h⟩
    intro rs ros hk
    unfold BSame.k at hk
    split at hk
    · first | (cases hk; exact ⟨rfl, rfl⟩) | (have e := Option.some.inj hk; rw [← e]; exact ⟨rfl, rfl⟩)
    · cases hk
  · cases h
theorem s_alike8_det : SumDet s_alike8 := fun avs objs R κ => by
  show s_alike8.run avs objs (two κ) = (s_alike8.run avs objs (two some)).bind κ
  unfold s_alike8
  simp only
  split
  · first | rfl | (split <;> rfl)
  · rfl
theorem s_alike8_ok : SumOk Try.prog 90 s_alike8 := by
  have hE : EnvOk Try.prog Alike8_E := env_ok (l := [(96, s_bsame)]) th_ok any_ok ⟨⟨s_bsame_ok, s_bsame_det⟩, trivial⟩ _
  refine sum_ok hE Try.func90 rfl (by kernel_rfl) s_alike8 [.raw] Alike8.k ?_
  intro R avs objs κ r h
  unfold s_alike8 at h
  simp only at h
  split at h
  · rename_i rid rinc rst rlo rhi rcut rbag sid sinc sst slo shi scut sbag
    split at h
    case isFalse => cases h
    rename_i hl
    refine ⟨0, _, _, _, (Alike8.eq (0) rid rinc rst rlo rhi rcut rbag sid sinc sst slo shi scut sbag).trans (Alike8.pure rid rinc rst rlo rhi rcut rbag sid sinc sst slo shi scut sbag hl), ?_, h⟩
    intro rs ros hk
    unfold Alike8.k at hk
    split at hk
    · first | (cases hk; exact ⟨rfl, rfl⟩) | (have e := Option.some.inj hk; rw [← e]; exact ⟨rfl, rfl⟩)
    · cases hk
  · cases h
theorem s_allal_det : SumDet s_allal := fun avs objs R κ => by
  show s_allal.run avs objs (two κ) = (s_allal.run avs objs (two some)).bind κ
  unfold s_allal
  simp only
  split
  · first | rfl | (split <;> rfl)
  · rfl
theorem s_allal_ok : SumOk Try.prog 61 s_allal := by
  have hE : EnvOk Try.prog AllAl_E := env_ok (l := [(90, s_alike8)]) th_ok any_ok ⟨⟨s_alike8_ok, s_alike8_det⟩, trivial⟩ _
  refine sum_ok hE Try.func61 rfl (by kernel_rfl) s_allal [.raw] AllAl.k ?_
  intro R avs objs κ r h
  unfold s_allal at h
  simp only at h
  split at h
  · rename_i l m
    split at h
    case isFalse => cases h
    rename_i hl
    refine ⟨l.length + 1, _, _, _, (AllAl.eq (l.length + 1) l m).trans (AllAl.pure l m hl), ?_, h⟩
    intro rs ros hk
    unfold AllAl.k at hk
    split at hk
    · first | (cases hk; exact ⟨rfl, rfl⟩) | (have e := Option.some.inj hk; rw [← e]; exact ⟨rfl, rfl⟩)
    · cases hk
  · cases h
theorem s_alike10_det : SumDet s_alike10 := fun avs objs R κ => by
  show s_alike10.run avs objs (two κ) = (s_alike10.run avs objs (two some)).bind κ
  unfold s_alike10
  simp only
  split
  · first | rfl | (split <;> rfl)
  · rfl
theorem s_alike10_ok : SumOk Try.prog 24 s_alike10 := by
  have hE : EnvOk Try.prog Alike10_E := env_ok (l := [(61, s_allal)]) th_ok any_ok ⟨⟨s_allal_ok, s_allal_det⟩, trivial⟩ _
  refine sum_ok hE Try.func24 rfl (by kernel_rfl) s_alike10 [.raw] Alike10.k ?_
  intro R avs objs κ r h
  unfold s_alike10 at h
  simp only at h
  split at h
  · rename_i mkind mfrom0 minc mlo mhi mseq mtarget mlife mepoch mbase mrecs nkind nfrom0 ninc nlo nhi nseq ntarget nlife nepoch nbase nrecs
    split at h
    case isFalse => cases h
    rename_i hl
    refine ⟨0, _, _, _, (Alike10.eq (0) mkind mfrom0 minc mlo mhi mseq mtarget mlife mepoch mbase mrecs nkind nfrom0 ninc nlo nhi nseq ntarget nlife nepoch nbase nrecs).trans (Alike10.pure mkind mfrom0 minc mlo mhi mseq mtarget mlife mepoch mbase mrecs nkind nfrom0 ninc nlo nhi nseq ntarget nlife nepoch nbase nrecs hl), ?_, h⟩
    intro rs ros hk
    unfold Alike10.k at hk
    split at hk
    · first | (cases hk; exact ⟨rfl, rfl⟩) | (have e := Option.some.inj hk; rw [← e]; exact ⟨rfl, rfl⟩)
    · cases hk
  · cases h
end Go.Proofs.Ytlmljpmohljefaa
