import Derived.Test.YtlmljpmohljefaaC13
set_option linter.unusedVariables false
set_option linter.unusedSimpArgs false
namespace Go.Proofs.Ytlmljpmohljefaa
open Go.Den
theorem flatR_len : ∀ (l : LR), (((l.flatMap recB2).length : Nat) : Int) = recsLen l
  | [] => rfl
  | r :: l => by
    have h1 := flatR_len l
    have h2 := recB2_len r
    rw [List.flatMap_cons, List.length_append, recsLen]
    omega
theorem size_body {kind from0 inc lo hi seq target life epoch base : Int} {recs : LR} (hv : validF kind from0 inc lo hi seq target life epoch base recs = true) :
    size2 kind from0 inc lo hi seq target life epoch base recs = ((body2 kind from0 inc lo hi seq target recs).length : Int) := by
  have h := flatR_len recs
  unfold size2 body2
  rw [hv, if_neg (by simp)]
  generalize recs.flatMap recB2 = L at h ⊢
  simp only [List.length_append, itB_len]
  cases hasF kind 0 <;> cases hasF kind 1 <;> simp [itB_len] <;> omega
theorem fits2_same (kind from0 inc lo hi seq target life epoch base : Int) (recs : LR) : fits2 kind from0 inc lo hi seq target life epoch base recs = fits13 kind from0 inc lo hi seq target life epoch base recs := by
  unfold fits2 fits13
  cases hv : validF kind from0 inc lo hi seq target life epoch base recs
  · rfl
  · rw [size_body hv]
    generalize hn : ((body2 kind from0 inc lo hi seq target recs).length : Int) = n
    by_cases he : epoch = 0
    · subst he
      obtain ⟨_, _, _, _, _, _, _, _, _, _, _, hl, _⟩ := valid_facts hv
      obtain ⟨rfl, rfl⟩ := lives_zero hl
      by_cases h9 : kind = 9
      · simp [h9]
      · by_cases hs : n > 65499
        · simp [h9, hs]
        · simp [h9, hs]
          omega
    · by_cases h9 : kind = 9
      · simp [h9]
      · simp [he, h9]
theorem hello_ok : validF 4 0 0 1 2 0 0 0 0 0 [(0, 4294967296, 0, (1, 2), false, [])] = true := by
  have a0 : hasF 4 0 = true := by kernel_rfl
  have a1 : hasF 4 1 = false := by kernel_rfl
  have a2 : hasF 4 2 = false := by kernel_rfl
  have a4 : hasF 4 4 = true := by kernel_rfl
  have b : ((ofF 4).1.toList == (⟨#[]⟩ : ByteArray).toList) = false := by kernel_rfl
  unfold validF
  rw [b, a0, a1, a4]
  simp [okS, withinF, livesF, a2, sortedF, whGo, recOkT, recOk, bagOk, bagGo]
theorem awake13.pure : awake13.f 0 () = some true := by
  unfold awake13.f awake13.b
  rw [veil_eq]
  have hv := hello_ok
  have hf : fits2 4 0 0 1 2 0 0 0 0 0 [(0, 4294967296, 0, (1, 2), false, [])] = false := by
    unfold fits2
    simp [hv, fit2Go]
  unfold enc2
  rw [hv, hf]
  rfl
theorem Gen2Writes.pure (kind from0 inc lo hi seq target life epoch base : Int) (recs : LR) (hl : smallRecs recs = true) : Gen2Writes.f 0 kind from0 inc lo hi seq target life epoch base recs = some true := by
  unfold Gen2Writes.f Gen2Writes.b
  rw [hl, fits2_same]
  cases few8 recs
  · rfl
  simp only [if_true, Bool.not_true, Bool.false_eq_true, if_false, beq_self_eq_true, Bool.and_true]
  unfold enc2
  rw [fits2_same]
  cases hv : validF kind from0 inc lo hi seq target life epoch base recs
  · simp [size2, hv]
  · rw [size_body hv]
    cases hf : fits13 kind from0 inc lo hi seq target life epoch base recs
    · simp
    · simp
end Go.Proofs.Ytlmljpmohljefaa
