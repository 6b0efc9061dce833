import Derived.Test.YtpgcdengljfojaaG11
set_option linter.unusedVariables false
namespace Go.Proofs.Ytpgcdengljfojaa
open Go.Den
theorem s24_det : SumDet s24 := fun avs objs R κ => by
  show s24.run avs objs (two κ) = (s24.run avs objs (two some)).bind κ
  unfold s24
  simp only
  split
  · first | rfl | (split <;> rfl)
  · rfl
theorem s24_ok : SumOk Try.prog 24 s24 := by
  have hE : EnvOk Try.prog Has_E := env_ok (l := [(23, s23)]) th_ok any_ok ⟨⟨s23_ok, s23_det⟩, trivial⟩ _
  refine sum_ok hE Try.func24 rfl (by kernel_rfl) s24 [.raw] Has.k ?_
  intro R avs objs κ r h
  unfold s24 at h
  simp only at h
  split at h
  · rename_i a b m
    refine ⟨0, _, _, _, (Has.eq (0) a b m).trans (Has.pure a b m), ?_, h⟩
    intro rs ros hk
    unfold Has.k at hk
    split at hk
    · first | (cases hk; exact ⟨rfl, rfl⟩) | (have e := Option.some.inj hk; rw [← e]; exact ⟨rfl, rfl⟩)
    · cases hk
  · cases h
theorem s26_det : SumDet s26 := fun avs objs R κ => by
  show s26.run avs objs (two κ) = (s26.run avs objs (two some)).bind κ
  unfold s26
  simp only
  split
  · first | rfl | (split <;> rfl)
  · rfl
theorem s26_ok : SumOk Try.prog 26 s26 := by
  have hE : EnvOk Try.prog Of_E := env_ok (l := [(22, s22), (25, s25)]) th_ok any_ok ⟨⟨s22_ok, s22_det⟩, ⟨s25_ok, s25_det⟩, trivial⟩ _
  refine sum_ok hE Try.func26 rfl (by kernel_rfl) s26 [.dat (.pair (.int .i64) (.int .i64)) true, .raw] Of.k ?_
  intro R avs objs κ r h
  unfold s26 at h
  simp only at h
  split at h
  · rename_i c
    refine ⟨9, _, _, _, (Of.eq (9) c).trans (Of.pure c), ?_, h⟩
    intro rs ros hk
    unfold Of.k at hk
    split at hk
    · first | (cases hk; exact ⟨rfl, rfl⟩) | (have e := Option.some.inj hk; rw [← e]; exact ⟨rfl, rfl⟩)
    · cases hk
  · cases h
theorem s21_det : SumDet s21 := fun avs objs R κ => by
  show s21.run avs objs (two κ) = (s21.run avs objs (two some)).bind κ
  unfold s21
  simp only
  split
  · first | rfl | (split <;> rfl)
  · rfl
theorem s21_ok : SumOk Try.prog 21 s21 := by
  have hE : EnvOk Try.prog Text_E := env_ok (l := [(23, s23)]) th_ok any_ok ⟨⟨s23_ok, s23_det⟩, trivial⟩ _
  refine sum_ok hE Try.func21 rfl (by kernel_rfl) s21 [.raw] Text.k ?_
  intro R avs objs κ r h
  unfold s21 at h
  simp only at h
  split at h
  · rename_i a b
    refine ⟨0, _, _, _, (Text.eq (0) a b).trans (Text.pure a b), ?_, h⟩
    intro rs ros hk
    unfold Text.k at hk
    split at hk
    · first | (cases hk; exact ⟨rfl, rfl⟩) | (have e := Option.some.inj hk; rw [← e]; exact ⟨rfl, rfl⟩)
    · cases hk
  · cases h
end Go.Proofs.Ytpgcdengljfojaa
