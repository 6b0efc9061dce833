import Derived.Test.YtlmljpmohljefaaK5
set_option linter.unusedVariables false
namespace Go.Proofs.Ytlmljpmohljefaa
open Go.Den
theorem s_all_det : SumDet s_all := fun avs objs R κ => by
  show s_all.run avs objs (two κ) = (s_all.run avs objs (two some)).bind κ
  unfold s_all
  simp only
  split
  · first | rfl | (split <;> rfl)
  · rfl
theorem s_all_ok : SumOk Try.prog 88 s_all := by
  have hE : EnvOk Try.prog SAll_E := env_ok (l := []) th_ok any_ok trivial _
  refine sum_ok hE Try.func88 rfl (by kernel_rfl) s_all [.own 23 (.pair (.int .i64) (.int .i64))] SAll.k ?_
  intro R avs objs κ r h
  unfold s_all at h
  simp only at h
  split at h
  · skip
    refine ⟨9, _, _, _, (SAll.eq (9) ()).trans (SAll.pure), ?_, h⟩
    intro rs ros hk
    unfold SAll.k at hk
    split at hk
    · first | (cases hk; exact ⟨rfl, rfl⟩) | (have e := Option.some.inj hk; rw [← e]; exact ⟨rfl, rfl⟩)
    · cases hk
  · cases h
theorem s_sof_det : SumDet s_sof := fun avs objs R κ => by
  show s_sof.run avs objs (two κ) = (s_sof.run avs objs (two some)).bind κ
  unfold s_sof
  simp only
  split
  · first | rfl | (split <;> rfl)
  · rfl
theorem s_sof_ok : SumOk Try.prog 56 s_sof := by
  have hE : EnvOk Try.prog SOf_E := env_ok (l := [(88, s_all), (44, s_code)]) th_ok any_ok ⟨⟨s_all_ok, s_all_det⟩, ⟨s_code_ok, s_code_det⟩, trivial⟩ _
  refine sum_ok hE Try.func56 rfl (by kernel_rfl) s_sof [.dat (.pair (.int .i64) (.int .i64)) true, .raw] SOf.k ?_
  intro R avs objs κ r h
  unfold s_sof at h
  simp only at h
  split at h
  · rename_i c
    refine ⟨9, _, _, _, (SOf.eq (9) c).trans (SOf.pure c), ?_, h⟩
    intro rs ros hk
    unfold SOf.k at hk
    split at hk
    · first | (cases hk; exact ⟨rfl, rfl⟩) | (have e := Option.some.inj hk; rw [← e]; exact ⟨rfl, rfl⟩)
    · cases hk
  · cases h
theorem s_read_det : SumDet s_read := fun avs objs R κ => by
  show s_read.run avs objs (two κ) = (s_read.run avs objs (two some)).bind κ
  unfold s_read
  simp only
  split
  · first | rfl | (split <;> rfl)
  · rfl
theorem s_read_ok : SumOk Try.prog 54 s_read := by
  have hE : EnvOk Try.prog ORead_E := env_ok (l := []) th_ok any_ok trivial _
  refine sum_ok hE Try.func54 rfl (by kernel_rfl) s_read [.fz] ORead.k ?_
  intro R avs objs κ r h
  unfold s_read at h
  simp only at h
  split at h
  · rename_i l
    split at h
    case isFalse => cases h
    rename_i hl
    refine ⟨0, _, _, _, (ORead.eq (0) l).trans (ORead.pure l hl), ?_, h⟩
    intro rs ros hk
    unfold ORead.k at hk
    split at hk
    · first | (cases hk; exact ⟨rfl, rfl⟩) | (have e := Option.some.inj hk; rw [← e]; exact ⟨rfl, rfl⟩)
    · cases hk
  · cases h
theorem s_step_det : SumDet s_step := fun avs objs R κ => by
  show s_step.run avs objs (two κ) = (s_step.run avs objs (two some)).bind κ
  unfold s_step
  simp only
  split
  · first | rfl | (split <;> rfl)
  · rfl
theorem s_step_ok : SumOk Try.prog 87 s_step := by
  have hE : EnvOk Try.prog OStep_E := env_ok (l := []) th_ok any_ok trivial _
  refine sum_ok hE Try.func87 rfl (by kernel_rfl) s_step [.dat (.sl (.int .u8)) false, .raw] OStep.k ?_
  intro R avs objs κ r h
  unfold s_step at h
  simp only at h
  split at h
  · rename_i n l a bad
    split at h
    case isFalse => cases h
    rename_i hl
    refine ⟨0, _, _, _, (OStep.eq (0) n l a bad).trans (OStep.pure n l a bad hl), ?_, h⟩
    intro rs ros hk
    unfold OStep.k at hk
    split at hk
    · first | (cases hk; exact ⟨rfl, rfl⟩) | (have e := Option.some.inj hk; rw [← e]; exact ⟨rfl, rfl⟩)
    · cases hk
  · cases h
theorem s_rnum_det : SumDet s_rnum := fun avs objs R κ => by
  show s_rnum.run avs objs (two κ) = (s_rnum.run avs objs (two some)).bind κ
  unfold s_rnum
  simp only
  split
  · first | rfl | (split <;> rfl)
  · rfl
theorem s_rnum_ok : SumOk Try.prog 55 s_rnum := by
  have hE : EnvOk Try.prog RNum_E := env_ok (l := [(87, s_step)]) th_ok any_ok ⟨⟨s_step_ok, s_step_det⟩, trivial⟩ _
  refine sum_ok hE Try.func55 rfl (by kernel_rfl) s_rnum [.raw] RNum.k ?_
  intro R avs objs κ r h
  unfold s_rnum at h
  simp only at h
  split at h
  · rename_i n l a bad
    split at h
    case isFalse => cases h
    rename_i hl
    refine ⟨9, _, _, _, (RNum.eq (9) n l a bad).trans (RNum.pure n l a bad hl), ?_, h⟩
    intro rs ros hk
    unfold RNum.k at hk
    split at hk
    · first | (cases hk; exact ⟨rfl, rfl⟩) | (have e := Option.some.inj hk; rw [← e]; exact ⟨rfl, rfl⟩)
    · cases hk
  · cases h
theorem s_bad_det : SumDet s_bad := fun avs objs R κ => by
  show s_bad.run avs objs (two κ) = (s_bad.run avs objs (two some)).bind κ
  unfold s_bad
  simp only
  split
  · first | rfl | (split <;> rfl)
  · rfl
theorem s_bad_ok : SumOk Try.prog 57 s_bad := by
  have hE : EnvOk Try.prog RBad_E := env_ok (l := []) th_ok any_ok trivial _
  refine sum_ok hE Try.func57 rfl (by kernel_rfl) s_bad [.raw] RBad.k ?_
  intro R avs objs κ r h
  unfold s_bad at h
  simp only at h
  split at h
  · rename_i l a bad
    refine ⟨0, _, _, _, (RBad.eq (0) l a bad).trans (RBad.pure l a bad), ?_, h⟩
    intro rs ros hk
    unfold RBad.k at hk
    split at hk
    · first | (cases hk; exact ⟨rfl, rfl⟩) | (have e := Option.some.inj hk; rw [← e]; exact ⟨rfl, rfl⟩)
    · cases hk
  · cases h
theorem s_left_det : SumDet s_left := fun avs objs R κ => by
  show s_left.run avs objs (two κ) = (s_left.run avs objs (two some)).bind κ
  unfold s_left
  simp only
  split
  · first | rfl | (split <;> rfl)
  · rfl
theorem s_left_ok : SumOk Try.prog 89 s_left := by
  have hE : EnvOk Try.prog RLeft_E := env_ok (l := [(57, s_bad)]) th_ok any_ok ⟨⟨s_bad_ok, s_bad_det⟩, trivial⟩ _
  refine sum_ok hE Try.func89 rfl (by kernel_rfl) s_left [.raw] RLeft.k ?_
  intro R avs objs κ r h
  unfold s_left at h
  simp only at h
  split at h
  · rename_i l a bad
    split at h
    case isFalse => cases h
    rename_i hl
    refine ⟨0, _, _, _, (RLeft.eq (0) l a bad).trans (RLeft.pure l a bad hl), ?_, h⟩
    intro rs ros hk
    unfold RLeft.k at hk
    split at hk
    · first | (cases hk; exact ⟨rfl, rfl⟩) | (have e := Option.some.inj hk; rw [← e]; exact ⟨rfl, rfl⟩)
    · cases hk
  · cases h
theorem s_done_det : SumDet s_done := fun avs objs R κ => by
  show s_done.run avs objs (two κ) = (s_done.run avs objs (two some)).bind κ
  unfold s_done
  simp only
  split
  · first | rfl | (split <;> rfl)
  · rfl
theorem s_done_ok : SumOk Try.prog 59 s_done := by
  have hE : EnvOk Try.prog RDone_E := env_ok (l := [(57, s_bad), (89, s_left)]) th_ok any_ok ⟨⟨s_bad_ok, s_bad_det⟩, ⟨s_left_ok, s_left_det⟩, trivial⟩ _
  refine sum_ok hE Try.func59 rfl (by kernel_rfl) s_done [.raw] RDone.k ?_
  intro R avs objs κ r h
  unfold s_done at h
  simp only at h
  split at h
  · rename_i l a bad
    split at h
    case isFalse => cases h
    rename_i hl
    refine ⟨0, _, _, _, (RDone.eq (0) l a bad).trans (RDone.pure l a bad hl), ?_, h⟩
    intro rs ros hk
    unfold RDone.k at hk
    split at hk
    · first | (cases hk; exact ⟨rfl, rfl⟩) | (have e := Option.some.inj hk; rw [← e]; exact ⟨rfl, rfl⟩)
    · cases hk
  · cases h
theorem s_one_det : SumDet s_one := fun avs objs R κ => by
  show s_one.run avs objs (two κ) = (s_one.run avs objs (two some)).bind κ
  unfold s_one
  simp only
  split
  · first | rfl | (split <;> rfl)
  · rfl
theorem s_one_ok : SumOk Try.prog 58 s_one := by
  have hE : EnvOk Try.prog One1_E := env_ok (l := [(55, s_rnum)]) th_ok any_ok ⟨⟨s_rnum_ok, s_rnum_det⟩, trivial⟩ _
  refine sum_ok hE Try.func58 rfl (by kernel_rfl) s_one [.dat (.pair (.int .i64) (.pair (.int .i64) (.pair (.int .i64) (.pair (.pair (.int .i64) (.int .i64)) (.pair .bool (.sl (.pair (.int .i64) (.sl (.int .u8))))))))) true] One1.k ?_
  intro R avs objs κ r h
  unfold s_one at h
  simp only at h
  split at h
  · rename_i l a bad
    split at h
    case isFalse => cases h
    rename_i hl
    refine ⟨0, _, _, _, (One1.eq (0) l a bad).trans (One1.pure l a bad hl), ?_, h⟩
    intro rs ros hk
    unfold One1.k at hk
    split at hk
    · first | (cases hk; exact ⟨rfl, rfl⟩) | (have e := Option.some.inj hk; rw [← e]; exact ⟨rfl, rfl⟩)
    · cases hk
  · cases h
end Go.Proofs.Ytlmljpmohljefaa
