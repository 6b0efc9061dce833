import Derived.Test.YtlmljpmohljefaaK2
set_option linter.unusedVariables false
namespace Go.Proofs.Ytlmljpmohljefaa
open Go.Den
theorem s_has_det : SumDet s_has := fun avs objs R κ => by
  show s_has.run avs objs (two κ) = (s_has.run avs objs (two some)).bind κ
  unfold s_has
  simp only
  split
  · first | rfl | (split <;> rfl)
  · rfl
theorem s_has_ok : SumOk Try.prog 50 s_has := by
  have hE : EnvOk Try.prog MsgHas_E := env_ok (l := [(47, s_of)]) th_ok any_ok ⟨⟨s_of_ok, s_of_det⟩, trivial⟩ _
  refine sum_ok hE Try.func50 rfl (by kernel_rfl) s_has [.raw] MsgHas.k ?_
  intro R avs objs κ r h
  unfold s_has at h
  simp only at h
  split at h
  · rename_i k p
    refine ⟨0, _, _, _, (MsgHas.eq (0) k p).trans (MsgHas.pure k p), ?_, h⟩
    intro rs ros hk
    unfold MsgHas.k at hk
    split at hk
    · first | (cases hk; exact ⟨rfl, rfl⟩) | (have e := Option.some.inj hk; rw [← e]; exact ⟨rfl, rfl⟩)
    · cases hk
  · cases h
theorem s_lives_det : SumDet s_lives := fun avs objs R κ => by
  show s_lives.run avs objs (two κ) = (s_lives.run avs objs (two some)).bind κ
  unfold s_lives
  simp only
  split
  · first | rfl | (split <;> rfl)
  · rfl
theorem s_lives_ok : SumOk Try.prog 51 s_lives := by
  have hE : EnvOk Try.prog MsgLives_E := env_ok (l := [(50, s_has), (49, s_within)]) th_ok any_ok ⟨⟨s_has_ok, s_has_det⟩, ⟨s_within_ok, s_within_det⟩, trivial⟩ _
  refine sum_ok hE Try.func51 rfl (by kernel_rfl) s_lives [.raw] MsgLives.k ?_
  intro R avs objs κ r h
  unfold s_lives at h
  simp only at h
  split at h
  · rename_i mkind mfrom0 minc mlo mhi mseq mtarget mlife mepoch mbase mrecs
    refine ⟨0, _, _, _, (MsgLives.eq (0) mkind mfrom0 minc mlo mhi mseq mtarget mlife mepoch mbase mrecs).trans (MsgLives.pure mkind mfrom0 minc mlo mhi mseq mtarget mlife mepoch mbase mrecs), ?_, h⟩
    intro rs ros hk
    unfold MsgLives.k at hk
    split at hk
    · first | (cases hk; exact ⟨rfl, rfl⟩) | (have e := Option.some.inj hk; rw [← e]; exact ⟨rfl, rfl⟩)
    · cases hk
  · cases h
theorem s_srt1_det : SumDet s_srt1 := fun avs objs R κ => by
  show s_srt1.run avs objs (two κ) = (s_srt1.run avs objs (two some)).bind κ
  unfold s_srt1
  simp only
  split
  · first | rfl | (split <;> rfl)
  · rfl
theorem s_srt1_ok : SumOk Try.prog 85 s_srt1 := by
  have hE : EnvOk Try.prog Srt1_E := env_ok (l := [(86, s_recv)]) th_ok any_ok ⟨⟨s_recv_ok, s_recv_det⟩, trivial⟩ _
  refine sum_ok hE Try.func85 rfl (by kernel_rfl) s_srt1 [.raw] Srt1.k ?_
  intro R avs objs κ r h
  unfold s_srt1 at h
  simp only at h
  split at h
  · rename_i rid rinc rst rlo rhi rcut rbag last
    split at h
    case isFalse => cases h
    rename_i hl
    refine ⟨0, _, _, _, (Srt1.eq (0) rid rinc rst rlo rhi rcut rbag last).trans (Srt1.pure rid rinc rst rlo rhi rcut rbag last hl), ?_, h⟩
    intro rs ros hk
    unfold Srt1.k at hk
    split at hk
    · first | (cases hk; exact ⟨rfl, rfl⟩) | (have e := Option.some.inj hk; rw [← e]; exact ⟨rfl, rfl⟩)
    · cases hk
  · cases h
theorem s_where_det : SumDet s_where := fun avs objs R κ => by
  show s_where.run avs objs (two κ) = (s_where.run avs objs (two some)).bind κ
  unfold s_where
  simp only
  split
  · first | rfl | (split <;> rfl)
  · rfl
theorem s_where_ok : SumOk Try.prog 84 s_where := by
  have hE : EnvOk Try.prog Where_E := env_ok (l := [(85, s_srt1)]) th_ok any_ok ⟨⟨s_srt1_ok, s_srt1_det⟩, trivial⟩ _
  refine sum_ok hE Try.func84 rfl (by kernel_rfl) s_where [.raw] Where.k ?_
  intro R avs objs κ r h
  unfold s_where at h
  simp only at h
  split at h
  · rename_i l last
    split at h
    case isFalse => cases h
    rename_i hl
    refine ⟨l.length + 1, _, _, _, (Where.eq (l.length + 1) l last).trans (Where.pure l last hl), ?_, h⟩
    intro rs ros hk
    unfold Where.k at hk
    split at hk
    · first | (cases hk; exact ⟨rfl, rfl⟩) | (have e := Option.some.inj hk; rw [← e]; exact ⟨rfl, rfl⟩)
    · cases hk
  · cases h
theorem s_sorted_det : SumDet s_sorted := fun avs objs R κ => by
  show s_sorted.run avs objs (two κ) = (s_sorted.run avs objs (two some)).bind κ
  unfold s_sorted
  simp only
  split
  · first | rfl | (split <;> rfl)
  · rfl
theorem s_sorted_ok : SumOk Try.prog 52 s_sorted := by
  have hE : EnvOk Try.prog Sorted_E := env_ok (l := [(84, s_where)]) th_ok any_ok ⟨⟨s_where_ok, s_where_det⟩, trivial⟩ _
  refine sum_ok hE Try.func52 rfl (by kernel_rfl) s_sorted [.raw] Sorted.k ?_
  intro R avs objs κ r h
  unfold s_sorted at h
  simp only at h
  split at h
  · rename_i l
    split at h
    case isFalse => cases h
    rename_i hl
    refine ⟨0, _, _, _, (Sorted.eq (0) l).trans (Sorted.pure l hl), ?_, h⟩
    intro rs ros hk
    unfold Sorted.k at hk
    split at hk
    · first | (cases hk; exact ⟨rfl, rfl⟩) | (have e := Option.some.inj hk; rw [← e]; exact ⟨rfl, rfl⟩)
    · cases hk
  · cases h
theorem s_valid_det : SumDet s_valid := fun avs objs R κ => by
  show s_valid.run avs objs (two κ) = (s_valid.run avs objs (two some)).bind κ
  unfold s_valid
  simp only
  split
  · first | rfl | (split <;> rfl)
  · rfl
theorem s_valid_ok : SumOk Try.prog 20 s_valid := by
  have hE : EnvOk Try.prog MsgValid_E := env_ok (l := [(47, s_of), (48, s_sv), (49, s_within), (50, s_has), (51, s_lives), (52, s_sorted)]) th_ok any_ok ⟨⟨s_of_ok, s_of_det⟩, ⟨s_sv_ok, s_sv_det⟩, ⟨s_within_ok, s_within_det⟩, ⟨s_has_ok, s_has_det⟩, ⟨s_lives_ok, s_lives_det⟩, ⟨s_sorted_ok, s_sorted_det⟩, trivial⟩ _
  refine sum_ok hE Try.func20 rfl (by kernel_rfl) s_valid [.raw] MsgValid.k ?_
  intro R avs objs κ r h
  unfold s_valid at h
  simp only at h
  split at h
  · rename_i mkind mfrom0 minc mlo mhi mseq mtarget mlife mepoch mbase mrecs
    split at h
    case isFalse => cases h
    rename_i hl
    refine ⟨0, _, _, _, (MsgValid.eq (0) mkind mfrom0 minc mlo mhi mseq mtarget mlife mepoch mbase mrecs).trans (MsgValid.pure mkind mfrom0 minc mlo mhi mseq mtarget mlife mepoch mbase mrecs hl), ?_, h⟩
    intro rs ros hk
    unfold MsgValid.k at hk
    split at hk
    · first | (cases hk; exact ⟨rfl, rfl⟩) | (have e := Option.some.inj hk; rw [← e]; exact ⟨rfl, rfl⟩)
    · cases hk
  · cases h
theorem s_few6_det : SumDet s_few6 := fun avs objs R κ => by
  show s_few6.run avs objs (two κ) = (s_few6.run avs objs (two some)).bind κ
  unfold s_few6
  simp only
  split
  · first | rfl | (split <;> rfl)
  · rfl
theorem s_few6_ok : SumOk Try.prog 81 s_few6 := by
  have hE : EnvOk Try.prog Few6_E := env_ok (l := []) th_ok any_ok trivial _
  refine sum_ok hE Try.func81 rfl (by kernel_rfl) s_few6 [.raw] Few6.k ?_
  intro R avs objs κ r h
  unfold s_few6 at h
  simp only at h
  split at h
  · rename_i b
    split at h
    case isFalse => cases h
    rename_i hl
    refine ⟨b.length + 1, _, _, _, (Few6.eq (b.length + 1) b).trans (Few6.pure b hl), ?_, h⟩
    intro rs ros hk
    unfold Few6.k at hk
    split at hk
    · first | (cases hk; exact ⟨rfl, rfl⟩) | (have e := Option.some.inj hk; rw [← e]; exact ⟨rfl, rfl⟩)
    · cases hk
  · cases h
theorem s_few8_det : SumDet s_few8 := fun avs objs R κ => by
  show s_few8.run avs objs (two κ) = (s_few8.run avs objs (two some)).bind κ
  unfold s_few8
  simp only
  split
  · first | rfl | (split <;> rfl)
  · rfl
theorem s_few8_ok : SumOk Try.prog 41 s_few8 := by
  have hE : EnvOk Try.prog Few8_E := env_ok (l := [(81, s_few6)]) th_ok any_ok ⟨⟨s_few6_ok, s_few6_det⟩, trivial⟩ _
  refine sum_ok hE Try.func41 rfl (by kernel_rfl) s_few8 [.raw] Few8.k ?_
  intro R avs objs κ r h
  unfold s_few8 at h
  simp only at h
  split at h
  · rename_i l
    split at h
    case isFalse => cases h
    rename_i hl
    refine ⟨l.length + 1, _, _, _, (Few8.eq (l.length + 1) l).trans (Few8.pure l hl), ?_, h⟩
    intro rs ros hk
    unfold Few8.k at hk
    split at hk
    · first | (cases hk; exact ⟨rfl, rfl⟩) | (have e := Option.some.inj hk; rw [← e]; exact ⟨rfl, rfl⟩)
    · cases hk
  · cases h
theorem s_few10_det : SumDet s_few10 := fun avs objs R κ => by
  show s_few10.run avs objs (two κ) = (s_few10.run avs objs (two some)).bind κ
  unfold s_few10
  simp only
  split
  · first | rfl | (split <;> rfl)
  · rfl
theorem s_few10_ok : SumOk Try.prog 15 s_few10 := by
  have hE : EnvOk Try.prog Few10_E := env_ok (l := [(41, s_few8)]) th_ok any_ok ⟨⟨s_few8_ok, s_few8_det⟩, trivial⟩ _
  refine sum_ok hE Try.func15 rfl (by kernel_rfl) s_few10 [.raw] Few10.k ?_
  intro R avs objs κ r h
  unfold s_few10 at h
  simp only at h
  split at h
  · rename_i mkind mfrom0 minc mlo mhi mseq mtarget mlife mepoch mbase mrecs
    split at h
    case isFalse => cases h
    rename_i hl
    refine ⟨0, _, _, _, (Few10.eq (0) mkind mfrom0 minc mlo mhi mseq mtarget mlife mepoch mbase mrecs).trans (Few10.pure mkind mfrom0 minc mlo mhi mseq mtarget mlife mepoch mbase mrecs hl), ?_, h⟩
    intro rs ros hk
    unfold Few10.k at hk
    split at hk
    · first | (cases hk; exact ⟨rfl, rfl⟩) | (have e := Option.some.inj hk; rw [← e]; exact ⟨rfl, rfl⟩)
    · cases hk
  · cases h
theorem s_fits1_det : SumDet s_fits1 := fun avs objs R κ => by
  show s_fits1.run avs objs (two κ) = (s_fits1.run avs objs (two some)).bind κ
  unfold s_fits1
  simp only
  split
  · first | rfl | (split <;> rfl)
  · rfl
theorem s_fits1_ok : SumOk Try.prog 18 s_fits1 := by
  have hE : EnvOk Try.prog Fits1_E := env_ok (l := [(20, s_valid)]) th_ok any_ok ⟨⟨s_valid_ok, s_valid_det⟩, trivial⟩ _
  refine sum_ok hE Try.func18 rfl (by kernel_rfl) s_fits1 [.raw] Fits1.k ?_
  intro R avs objs κ r h
  unfold s_fits1 at h
  simp only at h
  split at h
  · rename_i mkind mfrom0 minc mlo mhi mseq mtarget mlife mepoch mbase mrecs
    split at h
    case isFalse => cases h
    rename_i hl
    refine ⟨mrecs.length + 1, _, _, _, (Fits1.eq (mrecs.length + 1) mkind mfrom0 minc mlo mhi mseq mtarget mlife mepoch mbase mrecs).trans (Fits1.pure mkind mfrom0 minc mlo mhi mseq mtarget mlife mepoch mbase mrecs hl), ?_, h⟩
    intro rs ros hk
    unfold Fits1.k at hk
    split at hk
    · first | (cases hk; exact ⟨rfl, rfl⟩) | (have e := Option.some.inj hk; rw [← e]; exact ⟨rfl, rfl⟩)
    · cases hk
  · cases h
theorem s_fitsL_det : SumDet s_fitsL := fun avs objs R κ => by
  show s_fitsL.run avs objs (two κ) = (s_fitsL.run avs objs (two some)).bind κ
  unfold s_fitsL
  simp only
  split
  · first | rfl | (split <;> rfl)
  · rfl
theorem s_fitsL_ok : SumOk Try.prog 19 s_fitsL := by
  have hE : EnvOk Try.prog FitsL_E := env_ok (l := [(20, s_valid)]) th_ok any_ok ⟨⟨s_valid_ok, s_valid_det⟩, trivial⟩ _
  refine sum_ok hE Try.func19 rfl (by kernel_rfl) s_fitsL [.raw] FitsL.k ?_
  intro R avs objs κ r h
  unfold s_fitsL at h
  simp only at h
  split at h
  · rename_i mkind mfrom0 minc mlo mhi mseq mtarget mlife mepoch mbase mrecs
    split at h
    case isFalse => cases h
    rename_i hl
    refine ⟨mrecs.length + 1, _, _, _, (FitsL.eq (mrecs.length + 1) mkind mfrom0 minc mlo mhi mseq mtarget mlife mepoch mbase mrecs).trans (FitsL.pure mkind mfrom0 minc mlo mhi mseq mtarget mlife mepoch mbase mrecs hl), ?_, h⟩
    intro rs ros hk
    unfold FitsL.k at hk
    split at hk
    · first | (cases hk; exact ⟨rfl, rfl⟩) | (have e := Option.some.inj hk; rw [← e]; exact ⟨rfl, rfl⟩)
    · cases hk
  · cases h
theorem s_state_det : SumDet s_state := fun avs objs R κ => by
  show s_state.run avs objs (two κ) = (s_state.run avs objs (two some)).bind κ
  unfold s_state
  simp only
  split
  · first | rfl | (split <;> rfl)
  · rfl
theorem s_state_ok : SumOk Try.prog 45 s_state := by
  have hE : EnvOk Try.prog State_E := env_ok (l := []) th_ok any_ok trivial _
  refine sum_ok hE Try.func45 rfl (by kernel_rfl) s_state [.raw] State.k ?_
  intro R avs objs κ r h
  unfold s_state at h
  simp only at h
  split at h
  · rename_i rid rinc rst rlo rhi rcut rbag
    refine ⟨0, _, _, _, (State.eq (0) rid rinc rst rlo rhi rcut rbag).trans (State.pure rid rinc rst rlo rhi rcut rbag), ?_, h⟩
    intro rs ros hk
    unfold State.k at hk
    split at hk
    · first | (cases hk; exact ⟨rfl, rfl⟩) | (have e := Option.some.inj hk; rw [← e]; exact ⟨rfl, rfl⟩)
    · cases hk
  · cases h
theorem s_ofits_det : SumDet s_ofits := fun avs objs R κ => by
  show s_ofits.run avs objs (two κ) = (s_ofits.run avs objs (two some)).bind κ
  unfold s_ofits
  simp only
  split
  · first | rfl | (split <;> rfl)
  · rfl
theorem s_ofits_ok : SumOk Try.prog 82 s_ofits := by
  have hE : EnvOk Try.prog OctFits_E := env_ok (l := []) th_ok any_ok trivial _
  refine sum_ok hE Try.func82 rfl (by kernel_rfl) s_ofits [.raw] OctFits.k ?_
  intro R avs objs κ r h
  unfold s_ofits at h
  simp only at h
  split at h
  · rename_i n v
    split at h
    case isFalse => cases h
    rename_i hl
    refine ⟨0, _, _, _, (OctFits.eq (0) n v).trans (OctFits.pure n v hl), ?_, h⟩
    intro rs ros hk
    unfold OctFits.k at hk
    split at hk
    · first | (cases hk; exact ⟨rfl, rfl⟩) | (have e := Option.some.inj hk; rw [← e]; exact ⟨rfl, rfl⟩)
    · cases hk
  · cases h
end Go.Proofs.Ytlmljpmohljefaa
