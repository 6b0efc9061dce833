import Derived.Test.YtlmljpmohljefaaC10
import Derived.Test.YtlmljpmohljefaaK11
set_option linter.unusedVariables false
set_option linter.unusedSimpArgs false
namespace Go.Proofs.Ytlmljpmohljefaa
open Go.Den
theorem dec_fail (l : List Int) (h : (decF l).2.2.2.2.2.2.2.2 ≠ 0) : decF l = (0, 0, 0, 0, 0, 0, 0, [], 4) := by
  unfold decF endF at h ⊢
  dsimp only at h ⊢
  split
  · rename_i hc
    rw [if_pos hc] at h
    exact absurd rfl h
  · rfl
theorem Gen1Reads.pure (l : List Int) (hl : ∀ c ∈ l, 0 ≤ c ∧ c ≤ 255) : Gen1Reads.f 0 l = some true := by
  unfold Gen1Reads.f Gen1Reads.b
  by_cases h : ((l.length : Nat) : Int) > 120
  · rw [if_pos (by simpa using h)]
  have hb : inB l = true := (inB_iff l).2 ⟨by omega, hl⟩
  rw [if_neg (by simpa using h), if_pos hb, veil_eq, veil_eq]
  dsimp only
  rw [if_pos hb]
  by_cases hd : (decF l).2.2.2.2.2.2.2.2 = 0
  · obtain ⟨i1, i2, i3⟩ := image l hb hd
    have hm := msg_back _ _ _ _ _ _ _ _ i1
    rw [i2] at hm
    rw [hm]
    dsimp only
    rw [if_neg (by simp), if_pos (by simpa using hd), i3, allGo_self]
    simp
  · rw [dec_fail l hd]
    dsimp only
    by_cases hm : (msgL l).2.2.2.2.2.2.2.2 = true
    · obtain ⟨i1, i2⟩ := msg_image l hb hm
      have hk := back _ _ _ _ _ _ _ _ i1
      rw [i2] at hk
      exact absurd (by rw [hk]) hd
    · rw [if_pos (by simpa using hm)]
      rfl
end Go.Proofs.Ytlmljpmohljefaa
