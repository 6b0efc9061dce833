import Derived.Test.YtpgcdengljfojaaF1
set_option linter.unusedVariables false
namespace Go.Proofs.Ytpgcdengljfojaa
open Go.Den
theorem any_ok : Try.prog.follows .mixedOrders = true := by kernel_rfl

theorem s23_det : SumDet s23 := fun avs objs R κ => by
  show s23.run avs objs (two κ) = (s23.run avs objs (two some)).bind κ
  unfold s23
  simp only
  split <;> rfl

theorem Valid.pure (fuel : Nat) (lo hi : Int) : Valid.f fuel lo hi = some (decide (1 ≤ lo) && decide (lo ≤ hi) && decide (hi ≤ 3)) := by
  unfold Valid.f Valid.b
  split <;> rename_i h1
  · split <;> rename_i h2
    · simp at h1 h2; simp [h1, h2]
    · simp at h1 h2; simp [h1, show ¬ lo ≤ hi from by omega]
  · simp at h1; simp [show ¬ 1 ≤ lo from by omega]

theorem s23_ok : SumOk Try.prog 23 s23 := by
  have hE : EnvOk Try.prog Valid_E := env_ok (l := []) th_ok any_ok trivial _
  refine sum_ok hE Try.func23 rfl (by kernel_rfl) s23 [.raw] Valid.k ?_
  intro R avs objs κ r h
  unfold s23 at h
  simp only at h
  split at h
  · rename_i lo hi
    refine ⟨0, _, _, _, (Valid.eq 0 lo hi).trans (Valid.pure 0 lo hi), ?_, h⟩
    intro rs ros hk
    unfold Valid.k at hk
    split at hk
    · cases hk; exact ⟨rfl, rfl⟩
    · cases hk
  · cases h
end Go.Proofs.Ytpgcdengljfojaa
