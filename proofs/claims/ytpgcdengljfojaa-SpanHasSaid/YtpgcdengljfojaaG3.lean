import Derived.Test.YtpgcdengljfojaaF3
set_option linter.unusedVariables false
set_option linter.unusedSimpArgs false
namespace Go.Proofs.Ytpgcdengljfojaa
open Go.Den
theorem All.pure : All.f 9 () = some allF := by kernel_rfl
theorem Code.pure (a b : Int) : Code.f 0 a b = some (codeF a b) := by
  unfold Code.f Code.b codeF
  have e : (decide (1 ≤ a) && decide (a ≤ b) && decide (b ≤ 3)) = okS a b := rfl
  rw [e]
  cases okS a b <;> rfl
theorem w2 : Go.IntKind.wrap .i64 ((1 : Int) + 1) = 2 := by rw [wrap_small _ (by omega) (by omega)]; rfl
theorem w3 : Go.IntKind.wrap .i64 ((2 : Int) + 1) = 3 := by rw [wrap_small _ (by omega) (by omega)]; rfl
theorem w4 : Go.IntKind.wrap .i64 ((3 : Int) + 1) = 4 := by rw [wrap_small _ (by omega) (by omega)]; rfl
def chk (a b i j : Int) (nx : Option Bool) : Option Bool := if (a == i) = true then (if (b == j) = true then some true else nx) else nx
theorem may.flat (a b : Int) : may.f 9 a b = chk a b 1 1 (chk a b 1 2 (chk a b 1 3 (chk a b 2 2 (chk a b 2 3 (chk a b 3 3 (some false)))))) := by kernel_rfl
theorem chk_eq (a b i j : Int) (nx : Option Bool) : chk a b i j nx = if a = i ∧ b = j then some true else nx := by
  unfold chk
  by_cases h1 : a = i <;> by_cases h2 : b = j <;> simp [h1, h2]
theorem may.pure (a b : Int) : may.f 9 a b = some (okS a b) := by
  rw [may.flat]
  simp only [chk_eq]
  unfold okS
  split
  · rename_i h; obtain ⟨rfl, rfl⟩ := h; rfl
  split
  · rename_i h; obtain ⟨rfl, rfl⟩ := h; rfl
  split
  · rename_i h; obtain ⟨rfl, rfl⟩ := h; rfl
  split
  · rename_i h; obtain ⟨rfl, rfl⟩ := h; rfl
  split
  · rename_i h; obtain ⟨rfl, rfl⟩ := h; rfl
  split
  · rename_i h; obtain ⟨rfl, rfl⟩ := h; rfl
  · congr 1
    symm
    rw [Bool.eq_false_iff]
    intro hh
    simp only [Bool.and_eq_true, decide_eq_true_eq] at hh
    omega
theorem s16_det : SumDet s16 := fun avs objs R κ => by
  show s16.run avs objs (two κ) = (s16.run avs objs (two some)).bind κ
  unfold s16
  simp only
  split
  · first | rfl | (split <;> rfl)
  · rfl
theorem s16_ok : SumOk Try.prog 16 s16 := by
  have hE : EnvOk Try.prog Best_E := env_ok (l := [(18, s18)]) th_ok any_ok ⟨⟨s18_ok, s18_det⟩, trivial⟩ _
  refine sum_ok hE Try.func16 rfl (by kernel_rfl) s16 [.raw] Best.k ?_
  intro R avs objs κ r h
  unfold s16 at h
  simp only at h
  split at h
  · rename_i a b c d
    refine ⟨0, _, _, _, (Best.eq (0) a b c d).trans (rfl), ?_, h⟩
    intro rs ros hk
    unfold Best.k at hk
    split at hk
    · first | (cases hk; exact ⟨rfl, rfl⟩) | (have e := Option.some.inj hk; rw [← e]; exact ⟨rfl, rfl⟩)
    · cases hk
  · cases h
theorem s22_det : SumDet s22 := fun avs objs R κ => by
  show s22.run avs objs (two κ) = (s22.run avs objs (two some)).bind κ
  unfold s22
  simp only
  split
  · first | rfl | (split <;> rfl)
  · rfl
theorem s22_ok : SumOk Try.prog 22 s22 := by
  have hE : EnvOk Try.prog All_E := env_ok (l := []) th_ok any_ok trivial _
  refine sum_ok hE Try.func22 rfl (by kernel_rfl) s22 [.own 33 (.pair (.int .i64) (.int .i64))] All.k ?_
  intro R avs objs κ r h
  unfold s22 at h
  simp only at h
  split at h
  · skip
    refine ⟨9, _, _, _, (All.eq (9) ()).trans (All.pure), ?_, h⟩
    intro rs ros hk
    unfold All.k at hk
    split at hk
    · first | (cases hk; exact ⟨rfl, rfl⟩) | (have e := Option.some.inj hk; rw [← e]; exact ⟨rfl, rfl⟩)
    · cases hk
  · cases h
theorem s19_det : SumDet s19 := fun avs objs R κ => by
  show s19.run avs objs (two κ) = (s19.run avs objs (two some)).bind κ
  unfold s19
  simp only
  split
  · first | rfl | (split <;> rfl)
  · rfl
theorem s19_ok : SumOk Try.prog 19 s19 := by
  have hE : EnvOk Try.prog may_E := env_ok (l := [(23, s23)]) th_ok any_ok ⟨⟨s23_ok, s23_det⟩, trivial⟩ _
  refine sum_ok hE Try.func19 rfl (by kernel_rfl) s19 [.raw] may.k ?_
  intro R avs objs κ r h
  unfold s19 at h
  simp only at h
  split at h
  · rename_i a b
    refine ⟨9, _, _, _, (may.eq (9) a b).trans (may.pure a b), ?_, h⟩
    intro rs ros hk
    unfold may.k at hk
    split at hk
    · first | (cases hk; exact ⟨rfl, rfl⟩) | (have e := Option.some.inj hk; rw [← e]; exact ⟨rfl, rfl⟩)
    · cases hk
  · cases h
theorem s25_det : SumDet s25 := fun avs objs R κ => by
  show s25.run avs objs (two κ) = (s25.run avs objs (two some)).bind κ
  unfold s25
  simp only
  split
  · first | rfl | (split <;> rfl)
  · rfl
theorem s25_ok : SumOk Try.prog 25 s25 := by
  have hE : EnvOk Try.prog Code_E := env_ok (l := [(23, s23)]) th_ok any_ok ⟨⟨s23_ok, s23_det⟩, trivial⟩ _
  refine sum_ok hE Try.func25 rfl (by kernel_rfl) s25 [.raw] Code.k ?_
  intro R avs objs κ r h
  unfold s25 at h
  simp only at h
  split at h
  · rename_i a b
    refine ⟨0, _, _, _, (Code.eq (0) a b).trans (Code.pure a b), ?_, h⟩
    intro rs ros hk
    unfold Code.k at hk
    split at hk
    · first | (cases hk; exact ⟨rfl, rfl⟩) | (have e := Option.some.inj hk; rw [← e]; exact ⟨rfl, rfl⟩)
    · cases hk
  · cases h
end Go.Proofs.Ytpgcdengljfojaa
