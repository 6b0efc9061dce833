import Derived.Test.YtlmljpmohljefaaC2
set_option linter.unusedVariables false
set_option linter.unusedSimpArgs false
namespace Go.Proofs.Ytlmljpmohljefaa
open Go.Den
theorem MsgHas.pure (k p : Int) : MsgHas.f 0 k p = some (hasF k p) := by
  unfold MsgHas.f MsgHas.b hasF
  by_cases h1 : p ≥ 0
  · by_cases h2 : p ≤ 4
    · rw [if_pos (by simpa using h1), if_pos (by simpa using h2), if_neg (by omega), if_pos (by simp; omega)]
    · simp [h1, h2]
  · simp [h1]
theorem MsgLives.pure (kind from0 inc lo hi seq target life epoch base : Int) (recs : List (Int × Int × Int × (Int × Int) × Bool × List (Int × List Int))) : MsgLives.f 0 kind from0 inc lo hi seq target life epoch base recs = some (livesF kind life epoch base) := by
  unfold MsgLives.f MsgLives.b livesF
  rw [veil_eq]
  cases withinF (hasF kind 2) life 0 281474976710655
  · simp
  cases withinF (hasF kind 2) epoch 0 65535
  · simp
  simp only [Bool.not_true, Bool.false_eq_true, if_false, Bool.or_self]
  by_cases h1 : epoch = 0 <;> by_cases h2 : life = 0 <;> by_cases h3 : kind = 9 <;> by_cases h4 : base = 0 <;> cases hasF kind 3 <;> by_cases h5 : base > 0 <;> simp [h1, h2, h3, h4, h5]
theorem Srt1.pure (id inc st lo hi : Int) (cut : Bool) (bag : List (Int × List Int)) (last : Int) (hl : smallBag bag = true) : Srt1.f 0 id inc st lo hi cut bag last = some (!recOk id inc st lo hi cut bag || decide (id ≤ last), id) := by
  unfold Srt1.f Srt1.b
  dsimp only
  rw [hl]
  cases recOk id inc st lo hi cut bag <;> simp
theorem smallRecs_iff (l : List (Int × Int × Int × (Int × Int) × Bool × List (Int × List Int))) : smallRecs l = true ↔ l.length < 281474976710656 ∧ ∀ r ∈ l, smallBag r.2.2.2.2.2 = true := by
  unfold smallRecs
  simp [List.all_eq_true, smallRec]
theorem Where.loop (fuel : Nat) (l : List (Int × Int × Int × (Int × Int) × Bool × List (Int × List Int))) (l0 : Int) (hl : smallRecs l = true) : ∀ (k i : Nat) (last : Int), i ≤ l.length → l.length - i < k →
    Where.l2 fuel l l0 k (l.length : Int) (i : Int) last = some (whGo (l.drop i) (i : Int) last) := by
  obtain ⟨hb, hx⟩ := (smallRecs_iff l).1 hl
  intro k
  induction k with
  | zero => intro i last h1 h2; omega
  | succ k ih =>
    intro i last h1 h2
    rw [Where.l2]
    unfold Where.b2
    by_cases hi : i < l.length
    · rw [if_pos (by simp; omega), idx_at, List.getElem?_eq_getElem hi]
      dsimp only
      rw [List.drop_eq_getElem_cons hi, hx l[i] (List.getElem_mem hi)]
      unfold whGo recOkT
      rw [if_pos rfl, wrap_small ((i : Int) + 1) (by omega) (by omega)]
      split
      · rfl
      · exact ih (i + 1) _ (by omega) (by omega)
    · rw [if_neg (by simp; omega)]
      have : i = l.length := by omega
      subst this
      rw [List.drop_of_length_le (by omega)]
      rfl
theorem Where.pure (l : List (Int × Int × Int × (Int × Int) × Bool × List (Int × List Int))) (last : Int) (hl : smallRecs l = true) : Where.f (l.length + 1) l last = some ((whGo l 0 last).1, (whGo l 0 last).2) := by
  unfold Where.f Where.b
  exact Where.loop _ l last hl _ 0 last (by omega) (by omega)
theorem Sorted.pure (l : List (Int × Int × Int × (Int × Int) × Bool × List (Int × List Int))) (hl : smallRecs l = true) : Sorted.f 0 l = some (sortedF l) := by
  unfold Sorted.f Sorted.b sortedF
  rw [hl]; rfl
theorem MsgValid.pure (kind from0 inc lo hi seq target life epoch base : Int) (recs : List (Int × Int × Int × (Int × Int) × Bool × List (Int × List Int))) (hl : smallRecs recs = true) : MsgValid.f 0 kind from0 inc lo hi seq target life epoch base recs = some (validF kind from0 inc lo hi seq target life epoch base recs) := by
  unfold MsgValid.f MsgValid.b validF
  rw [veil_eq, hl]
  dsimp only
  cases h0 : ((ofF kind).1.toList == (⟨[].toArray⟩ : ByteArray).toList)
  case true => simp [h0]
  by_cases c1 : from0 < 0
  · simp [h0, c1]
  by_cases c2 : from0 > 4095
  · simp [h0, c1, c2]
  by_cases c3 : inc < 0
  · simp [h0, c1, c2, c3]
  by_cases c4 : inc > 281474976710655
  · simp [h0, c1, c2, c3, c4]
  cases h1 : okS lo hi
  · simp [h0, c1, c2, c3, c4]
  simp only [h0, c1, c2, c3, c4, decide_false, Bool.or_self, Bool.not_true, Bool.false_eq_true, if_false]
  cases withinF (hasF kind 0) seq 0 65535
  · by_cases h3 : kind = 3 <;> simp [h3]
  by_cases h3 : kind = 3
  · subst h3
    simp only [beq_self_eq_true, if_true]
    cases withinF (hasF 3 1) target 1 3 <;> cases livesF 3 life epoch base <;> cases hasF 3 4 <;> simp
    · exact Bool.eq_iff_iff.2 (by simp)
    · split
      · simp_all
      · simp_all; omega
  · have h3' : (kind == 3) = false := by simpa using h3
    simp only [h3', Bool.false_eq_true, if_false]
    cases withinF (hasF kind 1) target 0 4095 <;> cases livesF kind life epoch base <;> cases hasF kind 4 <;> simp
    · exact Bool.eq_iff_iff.2 (by simp)
    · split
      · simp_all
      · simp_all; omega
theorem Few6.loop (fuel : Nat) (b : List (Int × List Int)) (hl : smallBag b = true) : ∀ (k i : Nat) (n : Int), i ≤ b.length → b.length - i < k → 0 ≤ n → n ≤ 5000 → Few6.l5 fuel b k n (i : Int) = some (few6Go (b.drop i) n) := by
  obtain ⟨hb, hx⟩ := (smallBag_iff b).1 hl
  intro k
  induction k with
  | zero => intro i n h1 h2; omega
  | succ k ih =>
    intro i n h1 h2 h3 h4
    rw [Few6.l5]
    unfold Few6.b5
    by_cases hi : i < b.length
    · rw [if_pos (by simp; omega), idx_at, List.getElem?_eq_getElem hi]
      dsimp only
      rw [List.drop_eq_getElem_cons hi]
      have hxl := hx b[i] (List.getElem_mem hi)
      unfold few6Go
      rw [wrap_small (n + _) (by omega) (by omega), wrap_small ((i : Int) + 1) (by omega) (by omega)]
      split
      · rfl
      · rename_i hh
        exact ih (i + 1) _ (by omega) (by omega) (by omega) (by simpa using hh)
    · rw [if_neg (by simp; omega), List.drop_of_length_le (by omega)]
      rfl
theorem Few6.pure (b : List (Int × List Int)) (hl : smallBag b = true) : Few6.f (b.length + 1) b = some (few6 b) := by
  unfold Few6.f Few6.b few6
  split
  · rfl
  · exact Few6.loop _ b hl _ 0 0 (by omega) (by omega) (by omega) (by omega)
theorem Few8.loop (fuel : Nat) (l : List (Int × Int × Int × (Int × Int) × Bool × List (Int × List Int))) (hl : smallRecs l = true) : ∀ (k i : Nat), i ≤ l.length → l.length - i < k → Few8.l4 fuel l k (i : Int) = some ((l.drop i).all fun r => few6 r.2.2.2.2.2) := by
  obtain ⟨hb, hx⟩ := (smallRecs_iff l).1 hl
  intro k
  induction k with
  | zero => intro i h1 h2; omega
  | succ k ih =>
    intro i h1 h2
    rw [Few8.l4]
    unfold Few8.b4
    by_cases hi : i < l.length
    · rw [if_pos (by simp; omega), idx_at, List.getElem?_eq_getElem hi]
      dsimp only
      rw [List.drop_eq_getElem_cons hi, hx l[i] (List.getElem_mem hi), if_pos rfl, wrap_small ((i : Int) + 1) (by omega) (by omega), List.all_cons]
      cases few6 l[i].2.2.2.2.2
      · rfl
      · simp only [Bool.not_true, Bool.false_eq_true, if_false, Bool.true_and]
        exact ih (i + 1) (by omega) (by omega)
    · rw [if_neg (by simp; omega), List.drop_of_length_le (by omega)]
      rfl
theorem Few8.pure (l : List (Int × Int × Int × (Int × Int) × Bool × List (Int × List Int))) (hl : smallRecs l = true) : Few8.f (l.length + 1) l = some (few8 l) := by
  unfold Few8.f Few8.b few8
  split
  · rfl
  · exact Few8.loop _ l hl _ 0 (by omega) (by omega)
theorem Few10.pure (kind from0 inc lo hi seq target life epoch base : Int) (recs : List (Int × Int × Int × (Int × Int) × Bool × List (Int × List Int))) (hl : smallRecs recs = true) : Few10.f 0 kind from0 inc lo hi seq target life epoch base recs = some (few8 recs) := by
  unfold Few10.f Few10.b
  rw [hl]; rfl
theorem Fits1.loop (fuel : Nat) (kind from0 inc lo hi seq target life epoch base : Int) (l : List (Int × Int × Int × (Int × Int) × Bool × List (Int × List Int))) (hl : l.length < 281474976710656) : ∀ (k i : Nat), i ≤ l.length → l.length - i < k → Fits1.l4 fuel kind from0 inc lo hi seq target life epoch base l k (l.length : Int) (i : Int) = some (fitGo (l.drop i)) := by
  intro k
  induction k with
  | zero => intro i h1 h2; omega
  | succ k ih =>
    intro i h1 h2
    rw [Fits1.l4]
    unfold Fits1.b4
    by_cases hi : i < l.length
    · rw [if_pos (by simp; omega), idx_at, List.getElem?_eq_getElem hi]
      dsimp only
      rw [List.drop_eq_getElem_cons hi, wrap_small ((i : Int) + 1) (by omega) (by omega)]
      unfold fitGo
      by_cases c1 : l[i].2.1 > 65535
      · simp [c1]
      · by_cases c2 : ((l[i].2.2.2.2.2.length : Nat) : Int) > 0
        · rw [if_neg (by simpa using c1), if_pos (by simpa using c2), if_pos (by simp; right; simpa using c2)]
        · rw [if_neg (by simpa using c1), if_neg (by simpa using c2), if_neg (by simp; exact ⟨by omega, by simpa using c2⟩)]
          exact ih (i + 1) (by omega) (by omega)
    · rw [if_neg (by simp; omega), List.drop_of_length_le (by omega)]
      rfl
theorem Fits1.pure (kind from0 inc lo hi seq target life epoch base : Int) (recs : List (Int × Int × Int × (Int × Int) × Bool × List (Int × List Int))) (hl : smallRecs recs = true) : Fits1.f (recs.length + 1) kind from0 inc lo hi seq target life epoch base recs = some (fits1 kind from0 inc lo hi seq target life epoch base recs) := by
  unfold Fits1.f Fits1.b fits1
  dsimp only
  have := Fits1.loop (recs.length + 1) kind from0 inc lo hi seq target life epoch base recs ((smallRecs_iff recs).1 hl).1 (recs.length + 1) 0 (by omega) (by omega)
  rw [hl, if_pos rfl]
  cases validF kind from0 inc lo hi seq target life epoch base recs
  · rfl
  · by_cases h1 : kind = 9
    · simp [h1]
    · by_cases h2 : epoch = 0
      · subst h2
        have h1' : (kind == 9) = false := by simpa using h1
        simp only [h1', bne_self_eq_false, Bool.false_eq_true, if_false, Bool.or_self, Bool.not_true]
        exact this
      · have h1' : (kind == 9) = false := by simpa using h1
        simp [h1', h2]
theorem FitsL.loop (fuel : Nat) (kind from0 inc lo hi seq target life epoch base : Int) (l : List (Int × Int × Int × (Int × Int) × Bool × List (Int × List Int))) (hl : l.length < 281474976710656) : ∀ (k i : Nat), i ≤ l.length → l.length - i < k → FitsL.l4 fuel kind from0 inc lo hi seq target life epoch base l k (i : Int) = some (fitGo (l.drop i)) := by
  intro k
  induction k with
  | zero => intro i h1 h2; omega
  | succ k ih =>
    intro i h1 h2
    rw [FitsL.l4]
    unfold FitsL.b4
    by_cases hi : i < l.length
    · rw [if_pos (by simp; omega), idx_at, List.getElem?_eq_getElem hi]
      dsimp only
      rw [List.drop_eq_getElem_cons hi, wrap_small ((i : Int) + 1) (by omega) (by omega)]
      unfold fitGo
      by_cases c1 : l[i].2.1 > 65535
      · simp [c1]
      · by_cases c2 : ((l[i].2.2.2.2.2.length : Nat) : Int) > 0
        · rw [if_neg (by simpa using c1), if_pos (by simpa using c2), if_pos (by simp; right; simpa using c2)]
        · rw [if_neg (by simpa using c1), if_neg (by simpa using c2), if_neg (by simp; exact ⟨by omega, by simpa using c2⟩)]
          exact ih (i + 1) (by omega) (by omega)
    · rw [if_neg (by simp; omega), List.drop_of_length_le (by omega)]
      rfl
theorem FitsL.pure (kind from0 inc lo hi seq target life epoch base : Int) (recs : List (Int × Int × Int × (Int × Int) × Bool × List (Int × List Int))) (hl : smallRecs recs = true) : FitsL.f (recs.length + 1) kind from0 inc lo hi seq target life epoch base recs = some (fitsL kind from0 inc lo hi seq target life epoch base recs) := by
  unfold FitsL.f FitsL.b fitsL
  dsimp only
  have := FitsL.loop (recs.length + 1) kind from0 inc lo hi seq target life epoch base recs ((smallRecs_iff recs).1 hl).1 (recs.length + 1) 0 (by omega) (by omega)
  rw [hl, if_pos rfl]
  cases validF kind from0 inc lo hi seq target life epoch base recs
  · rfl
  · by_cases h1 : kind = 9
    · simp [h1]
    · by_cases h2 : life = 0
      · by_cases h3 : epoch = 0
        · by_cases h4 : base = 0
          · subst h2; subst h3; subst h4
            have h1' : (kind == 9) = false := by simpa using h1
            simp only [h1', bne_self_eq_false, Bool.false_eq_true, if_false, Bool.or_self, Bool.not_true]
            exact this
          · simp [h1, h2, h3, h4]
        · simp [h1, h2, h3]
      · simp [h1, h2]
theorem State.pure (id inc st lo hi : Int) (cut : Bool) (bag : List (Int × List Int)) : State.f 0 id inc st lo hi cut bag = some (stateF st lo hi cut) := by
  unfold State.f State.b stateF
  cases cut <;> rfl
theorem fitsF_iff (n v : Int) : fitsF n v = true ↔ 1 ≤ n ∧ n ≤ 7 ∧ 0 ≤ v ∧ v < 256 ^ n.toNat := by
  unfold fitsF
  simp only [Bool.and_eq_true, decide_eq_true_eq]
theorem fdiv_zero (v m : Int) (h0 : 0 ≤ v) (hm : v < m) : Int.fdiv v m = 0 := by
  rw [Int.fdiv_eq_ediv_of_nonneg _ (by omega)]
  exact Int.ediv_eq_zero_of_lt h0 hm
theorem pow8 (n : Int) (h1 : 1 ≤ n) (h7 : n ≤ 7) : ((2 : Int) ^ (Min.min (Int.toNat (Go.IntKind.wrap .i64 ((8 : Int) * n))) (Go.IntKind.bits .i64))) = 256 ^ n.toNat := by
  have : n = 1 ∨ n = 2 ∨ n = 3 ∨ n = 4 ∨ n = 5 ∨ n = 6 ∨ n = 7 := by omega
  rcases this with rfl | rfl | rfl | rfl | rfl | rfl | rfl <;> rfl
theorem OctFits.pure (n v : Int) (hl : fitsF n v = true) : OctFits.f 0 n v = some true := by
  obtain ⟨h1, h2, h3, h4⟩ := (fitsF_iff n v).1 hl
  unfold OctFits.f OctFits.b
  rw [if_pos (by simpa using h1), if_pos (by simpa using h2), if_pos (by simpa using h3), if_neg (by rw [wrap_small _ (by omega) (by omega)]; omega), pow8 n h1 h2, fdiv_zero v _ h3 h4]
  rfl
end Go.Proofs.Ytlmljpmohljefaa
