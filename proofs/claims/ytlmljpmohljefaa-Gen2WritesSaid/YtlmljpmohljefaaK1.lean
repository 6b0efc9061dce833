import Derived.Test.YtlmljpmohljefaaC1
set_option linter.unusedVariables false
set_option linter.unusedSimpArgs false
namespace Go.Proofs.Ytlmljpmohljefaa
open Go.Den
theorem okS_iff (a b : Int) : okS a b = true ↔ 1 ≤ a ∧ a ≤ b ∧ b ≤ 3 := by
  unfold okS
  simp only [Bool.and_eq_true, decide_eq_true_eq]
  omega
theorem SpanValid.pure (lo hi : Int) : SpanValid.f 0 lo hi = some (okS lo hi) := by
  unfold SpanValid.f SpanValid.b okS
  by_cases h1 : 1 ≤ lo
  · by_cases h2 : lo ≤ hi <;> simp [h1, h2]
  · simp [h1]
theorem SpanCode.pure (a b : Int) : SpanCode.f 0 a b = some (codeF a b) := by
  unfold SpanCode.f SpanCode.b codeF
  cases okS a b <;> rfl
theorem MsgOf.pure (k : Int) : MsgOf.f 0 k = some ((ofF k).1, (ofF k).2) := by
  unfold MsgOf.f MsgOf.b ofF
  by_cases h1 : k < 1
  · simp [h1]
  · by_cases h2 : k > 9
    · simp [h1, h2]
    · have := getD_at tableL (⟨#[]⟩, 0) k.toNat (by show k.toNat < 10; omega)
      rw [Int.toNat_of_nonneg (by omega)] at this
      simp [h1, h2, this]
theorem MsgWithin.pure (had : Bool) (v lo hi : Int) : MsgWithin.f 0 had v lo hi = some (withinF had v lo hi) := by
  unfold MsgWithin.f MsgWithin.b withinF
  cases had
  · rfl
  · by_cases h : v ≥ lo <;> simp [h]
theorem smallBag_iff (b : List (Int × List Int)) : smallBag b = true ↔ b.length < 281474976710656 ∧ ∀ x ∈ b, x.2.length < 281474976710656 := by
  unfold smallBag
  simp [List.all_eq_true]
theorem BagValid.loop (fuel : Nat) (b : List (Int × List Int)) (hl : smallBag b = true) : ∀ (k i : Nat) (last size : Int), i ≤ b.length → b.length - i < k → 0 ≤ size → size ≤ 4096 →
    BagValid.l5 fuel b k last size (b.length : Int) (i : Int) = some (bagGo (b.drop i) last size) := by
  obtain ⟨hb, hx⟩ := (smallBag_iff b).1 hl
  intro k
  induction k with
  | zero => intro i last size h1 h2; omega
  | succ k ih =>
    intro i last size h1 h2 h3 h4
    rw [BagValid.l5]
    unfold BagValid.b5
    by_cases hi : i < b.length
    · rw [if_pos (by simp; omega), idx_at, List.getElem?_eq_getElem hi]
      simp only
      rw [List.drop_eq_getElem_cons hi]
      have hxl := hx b[i] (List.getElem_mem hi)
      unfold bagGo
      rw [wrap_small (size + _) (by omega) (by omega), wrap_small ((i : Int) + 1) (by omega) (by omega)]
      by_cases c1 : b[i].1 < last
      · simp [c1]
      · by_cases c2 : b[i].1 > 255
        · simp [c1, c2]
        · by_cases c3 : size + (b[i].2.length : Int) > 4096
          · simp [c1, c2, c3]
          · simp only [c1, c2, c3, decide_false, Bool.or_self, Bool.false_eq_true, if_false]
            exact ih (i + 1) _ _ (by omega) (by omega) (by omega) (by omega)
    · rw [if_neg (by simp; omega)]
      rw [List.drop_of_length_le (by omega)]
      rfl
theorem BagValid.pure (b : List (Int × List Int)) (hl : smallBag b = true) : BagValid.f (b.length + 1) b = some (bagOk b) := by
  unfold BagValid.f BagValid.b bagOk
  split
  · rfl
  · exact BagValid.loop _ b hl _ 0 32 0 (by omega) (by omega) (by omega) (by omega)
theorem RecValid.pure (id inc st lo hi : Int) (cut : Bool) (bag : List (Int × List Int)) (hl : smallBag bag = true) : RecValid.f 0 id inc st lo hi cut bag = some (recOk id inc st lo hi cut bag) := by
  unfold RecValid.f RecValid.b recOk
  rw [veil_eq, hl]
  by_cases c1 : id < 0
  · simp [c1]
  by_cases c2 : id > 4095
  · simp [c1, c2]
  by_cases c3 : inc < 0
  · simp [c1, c2, c3]
  by_cases c4 : inc > 281474976710655
  · simp [c1, c2, c3, c4]
  by_cases c5 : st < 0
  · simp [c1, c2, c3, c4, c5]
  by_cases c6 : st > 3
  · simp [c1, c2, c3, c4, c5, c6]
  simp only [c1, c2, c3, c4, c5, c6, decide_false, Bool.or_self, Bool.false_eq_true, if_false, if_true]
  cases okS lo hi <;> cases bagOk bag <;> cases cut <;> simp
  split <;> simp_all
end Go.Proofs.Ytlmljpmohljefaa
