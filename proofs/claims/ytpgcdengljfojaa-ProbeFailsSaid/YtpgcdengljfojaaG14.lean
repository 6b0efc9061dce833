import Derived.Test.YtpgcdengljfojaaG13
set_option linter.unusedVariables false
namespace Go.Proofs.Ytpgcdengljfojaa
open Go.Den
theorem s34_det : SumDet s34 := fun avs objs R κ => by
  show s34.run avs objs (two κ) = (s34.run avs objs (two some)).bind κ
  unfold s34
  simp only
  split
  · first | rfl | (split <;> rfl)
  · rfl
theorem s34_ok : SumOk Try.prog 34 s34 := by
  have hE : EnvOk Try.prog tick28_E := env_ok (l := []) th_ok any_ok trivial _
  refine sum_ok hE Try.func34 rfl (by kernel_rfl) s34 [.raw] tick28.k ?_
  intro R avs objs κ r h
  unfold s34 at h
  simp only at h
  split at h
  · rename_i t
    refine ⟨0, _, _, _, (tick28.eq (0) t).trans (tick28.pure t), ?_, h⟩
    intro rs ros hk
    unfold tick28.k at hk
    split at hk
    · first | (cases hk; exact ⟨rfl, rfl⟩) | (have e := Option.some.inj hk; rw [← e]; exact ⟨rfl, rfl⟩)
    · cases hk
  · cases h
theorem s10_det : SumDet s10 := fun avs objs R κ => by
  show s10.run avs objs (two κ) = (s10.run avs objs (two some)).bind κ
  unfold s10
  simp only
  split
  · first | rfl | (split <;> rfl)
  · rfl
theorem s10_ok : SumOk Try.prog 10 s10 := by
  have hE : EnvOk Try.prog New28_E := env_ok (l := []) th_ok any_ok trivial _
  refine sum_ok hE Try.func10 rfl (by kernel_rfl) s10 [.raw] New28.k ?_
  intro R avs objs κ r h
  unfold s10 at h
  simp only at h
  split at h
  · skip
    refine ⟨0, _, _, _, (New28.eq (0) ()).trans (rfl), ?_, h⟩
    intro rs ros hk
    unfold New28.k at hk
    split at hk
    · first | (cases hk; exact ⟨rfl, rfl⟩) | (have e := Option.some.inj hk; rw [← e]; exact ⟨rfl, rfl⟩)
    · cases hk
  · cases h
theorem s11_det : SumDet s11 := fun avs objs R κ => by
  show s11.run avs objs (two κ) = (s11.run avs objs (two some)).bind κ
  unfold s11
  simp only
  split
  · first | rfl | (split <;> rfl)
  · rfl
theorem s11_ok : SumOk Try.prog 11 s11 := by
  have hE : EnvOk Try.prog Begin28_E := env_ok (l := [(34, s34)]) th_ok any_ok ⟨⟨s34_ok, s34_det⟩, trivial⟩ _
  refine sum_ok hE Try.func11 rfl (by kernel_rfl) s11 [] Begin28.k ?_
  intro R avs objs κ r h
  unfold s11 at h
  simp only at h
  split at h
  · rename_i now a b c x0 x1 x2 x3 x4 x5 x6
    refine ⟨0, _, _, _, (Begin28.eq (0) now a b c x0 x1 x2 x3 x4 x5 x6).trans (rfl), ?_, h⟩
    intro rs ros hk
    unfold Begin28.k at hk
    split at hk
    · first | (cases hk; exact ⟨rfl, rfl⟩) | (have e := Option.some.inj hk; rw [← e]; exact ⟨rfl, rfl⟩)
    · cases hk
  · cases h
theorem s12_det : SumDet s12 := fun avs objs R κ => by
  show s12.run avs objs (two κ) = (s12.run avs objs (two some)).bind κ
  unfold s12
  simp only
  split
  · first | rfl | (split <;> rfl)
  · rfl
theorem s12_ok : SumOk Try.prog 12 s12 := by
  have hE : EnvOk Try.prog Answer28_E := env_ok (l := []) th_ok any_ok trivial _
  refine sum_ok hE Try.func12 rfl (by kernel_rfl) s12 [.raw] Answer28.k ?_
  intro R avs objs κ r h
  unfold s12 at h
  simp only at h
  split at h
  · rename_i from0 seq x0 x1 x2 x3 x4 x5 x6
    split at h
    case isFalse => cases h
    rename_i hl
    refine ⟨0, _, _, _, (Answer28.eq (0) from0 seq x0 x1 x2 x3 x4 x5 x6).trans (Answer28.pure from0 seq x0 x1 x2 x3 x4 x5 x6 hl), ?_, h⟩
    intro rs ros hk
    unfold Answer28.k at hk
    split at hk
    · first | (cases hk; exact ⟨rfl, rfl⟩) | (have e := Option.some.inj hk; rw [← e]; exact ⟨rfl, rfl⟩)
    · cases hk
  · cases h
theorem s13_det : SumDet s13 := fun avs objs R κ => by
  show s13.run avs objs (two κ) = (s13.run avs objs (two some)).bind κ
  unfold s13
  simp only
  split
  · first | rfl | (split <;> rfl)
  · rfl
theorem s13_ok : SumOk Try.prog 13 s13 := by
  have hE : EnvOk Try.prog Look28_E := env_ok (l := [(34, s34)]) th_ok any_ok ⟨⟨s34_ok, s34_det⟩, trivial⟩ _
  refine sum_ok hE Try.func13 rfl (by kernel_rfl) s13 [.raw] Look28.k ?_
  intro R avs objs κ r h
  unfold s13 at h
  simp only at h
  split at h
  · rename_i now wait period x0 x1 x2 x3 x4 x5 x6
    refine ⟨0, _, _, _, (Look28.eq (0) now wait period x0 x1 x2 x3 x4 x5 x6).trans (Look28.pure now wait period x0 x1 x2 x3 x4 x5 x6), ?_, h⟩
    intro rs ros hk
    unfold Look28.k at hk
    split at hk
    · first | (cases hk; exact ⟨rfl, rfl⟩) | (have e := Option.some.inj hk; rw [← e]; exact ⟨rfl, rfl⟩)
    · cases hk
  · cases h
theorem s9_det : SumDet s9 := fun avs objs R κ => by
  show s9.run avs objs (two κ) = (s9.run avs objs (two some)).bind κ
  unfold s9
  simp only
  split
  · first | rfl | (split <;> rfl)
  · rfl
theorem s9_ok : SumOk Try.prog 9 s9 := by
  have hE : EnvOk Try.prog awake28_E := env_ok (l := [(10, s10), (11, s11), (13, s13)]) th_ok any_ok ⟨⟨s10_ok, s10_det⟩, ⟨s11_ok, s11_det⟩, ⟨s13_ok, s13_det⟩, trivial⟩ _
  refine sum_ok hE Try.func9 rfl (by kernel_rfl) s9 [.raw] awake28.k ?_
  intro R avs objs κ r h
  unfold s9 at h
  simp only at h
  split at h
  · skip
    refine ⟨9, _, _, _, (awake28.eq (9) ()).trans (awake28.pure), ?_, h⟩
    intro rs ros hk
    unfold awake28.k at hk
    split at hk
    · first | (cases hk; exact ⟨rfl, rfl⟩) | (have e := Option.some.inj hk; rw [← e]; exact ⟨rfl, rfl⟩)
    · cases hk
  · cases h
end Go.Proofs.Ytpgcdengljfojaa
