import Derived.Test.YtpgcdengljfojaaF7
import Derived.Test.YtpgcdengljfojaaG8
set_option linter.unusedVariables false
set_option linter.unusedSimpArgs false
namespace Go.Proofs.Ytpgcdengljfojaa
open Go.Den
theorem getD_at {α : Type} (l : List α) (d : α) (i : Nat) (h : i < l.length) : idx l (i : Int) = some (l.getD i d) := by
  rw [idx_at, List.getElem?_eq_getElem h]; simp [List.getD, List.getElem?_eq_getElem h]

theorem SpanCommons.in20 (fuel : Nat) (l : List (Int × Int)) (hl : l.length ≤ 20) (A : Bool → Bool → Int → Option Bool) (i : Nat) (hi : i < l.length) (x9 : Bool) : ∀ (k j : Nat) (x10 : Bool), j ≤ i + 1 → i + 1 - j < k →
    SpanCommons.l20 fuel l A k x9 x10 (i : Int) (j : Int) = A x9 (x10 && (List.range' j (i + 1 - j)).all (pm l i)) ((i + 1 : Nat) : Int) := by
  intro k
  induction k with
  | zero => intro j x10 h1 h2; omega
  | succ k ih =>
    intro j x10 h1 h2
    unfold SpanCommons.l20 SpanCommons.b20
    by_cases hj : j ≤ i
    · rw [if_pos (by simp; omega), getD_at l (0, 0) i hi, getD_at l (0, 0) j (by omega)]
      simp only
      have e : ((commonF [((l.getD i (0, 0)).1, (l.getD i (0, 0)).2), ((l.getD j (0, 0)).1, (l.getD j (0, 0)).2)]).2.1 == 0) = !pm l i j := best_zero _
      rw [e, wrap_small _ (by omega) (by omega), show ((j : Int) + 1) = ((j + 1 : Nat) : Int) from by omega]
      rw [show i + 1 - j = (i + 1 - (j + 1)) + 1 from by omega, List.range'_succ]
      cases hp : pm l i j
      · simp only [Bool.not_false, if_true]
        rw [ih (j + 1) false (by omega) (by omega)]
        simp [hp]
      · simp only [Bool.not_true, Bool.false_eq_true, if_false]
        rw [ih (j + 1) x10 (by omega) (by omega)]
        simp [hp]
    · rw [if_neg (by simp; omega), wrap_small _ (by omega) (by omega)]
      have : i + 1 - j = 0 := by omega
      rw [this]
      simp

theorem SpanCommons.in17 (fuel : Nat) (hf : 25 < fuel) (l : List (Int × Int)) (hl : l.length ≤ 20) (x6 : Bool) : ∀ (k i : Nat) (x7 : Bool), i ≤ l.length → l.length - i < k →
    SpanCommons.l17 fuel l k x6 x7 (i : Int) = some ((x7 && (List.range' i (l.length - i)).all (rowB l)) == x6) := by
  intro k
  induction k with
  | zero => intro i x7 h1 h2; omega
  | succ k ih =>
    intro i x7 h1 h2
    unfold SpanCommons.l17 SpanCommons.b17
    by_cases hi : i < l.length
    · rw [if_pos (by simp; omega)]
      have := SpanCommons.in20 fuel l hl (SpanCommons.l17 fuel l k) i hi x6 fuel 0 x7 (by omega) (by omega)
      rw [show ((0 : Nat) : Int) = 0 from rfl] at this
      rw [this, ih (i + 1) _ (by omega) (by omega)]
      rw [show l.length - i = (l.length - (i + 1)) + 1 from by omega, List.range'_succ]
      simp only [List.all_cons, rowB, List.range_eq_range', Nat.sub_zero, Bool.and_assoc]
    · rw [if_neg (by simp; omega)]
      have : l.length - i = 0 := by omega
      rw [this]
      simp only [List.range'_zero, List.all_nil, Bool.and_true]
      cases x7 <;> cases x6 <;> rfl

theorem SpanCommons.step (l : List (Int × Int)) (hl : l.length ≤ 20) (k : Nat) (x0 : Bool) (x1 x2 g x4 x5 : Int) (hg : g ≥ 1) : SpanCommons.l7 30 l (k + 1) x0 x1 x2 g x4 x5 = SpanCommons.l7 30 l k x0 (rnd l g x1 x2).1 (rnd l g x1 x2).2 (Go.IntKind.wrap .i64 (g - 1)) x4 x5 := by
  rw [SpanCommons.l7]
  unfold SpanCommons.b7 rnd
  rw [if_pos (by simpa using hg), if_pos (by omega)]
  split
  · split <;> rfl
  · rfl

theorem SpanCommons.fin (l : List (Int × Int)) (hl : l.length ≤ 20) (k : Nat) (x0 : Bool) (x1 x2 x4 x5 : Int) (h4 : x4 = x2) (h5 : x5 = x1) (h0 : x0 = decide (x1 > 0)) (hx : x0 = (commonF l).2.2) : SpanCommons.l7 30 l (k + 1) x0 x1 x2 0 x4 x5 = some true := by
  rw [SpanCommons.l7]
  unfold SpanCommons.b7
  rw [if_neg (by simp), if_neg (by simp [h4]), if_neg (by simp [h5]), if_neg (by rw [← h0]; cases x0 <;> simp)]
  have := SpanCommons.in17 30 (by omega) l hl x0 30 0 true (by omega) (by omega)
  rw [show ((0 : Nat) : Int) = 0 from rfl] at this
  rw [this]
  have e := pairs_ok l
  rw [List.range_eq_range'] at e
  rw [Nat.sub_zero, e, hx]
  simp

theorem SpanCommons.pure (l : List (Int × Int)) : SpanCommons.f 30 l = some true := by
  unfold SpanCommons.f SpanCommons.b
  by_cases h : l.length ≤ 20
  · rw [if_neg (by simp; omega), if_pos (by omega)]
    rw [SpanCommons.step l h _ _ _ _ _ _ _ (by omega), w31, SpanCommons.step l h _ _ _ _ _ _ _ (by omega), w21, SpanCommons.step l h _ _ _ _ _ _ _ (by omega), w11]
    obtain ⟨e1, e2, e3⟩ := rnd_common l
    exact SpanCommons.fin l h _ _ _ _ _ _ e1 e2 e3 rfl
  · rw [if_pos (by simp; omega)]
end Go.Proofs.Ytpgcdengljfojaa
