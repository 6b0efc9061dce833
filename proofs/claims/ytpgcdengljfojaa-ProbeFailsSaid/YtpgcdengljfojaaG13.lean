import Derived.Test.YtpgcdengljfojaaF9
set_option linter.unusedVariables false
set_option linter.unusedSimpArgs false
namespace Go.Proofs.Ytpgcdengljfojaa
open Go.Den
theorem tickF_eq (t : Int) : tickF t = maxI 0 (minI t 281474976710655) := by unfold tickF; rw [veil_eq]
theorem tick28.pure (t : Int) : tick28.f 0 t = some (tickF t) := by
  unfold tick28.f tick28.b
  rw [tickF_eq, veil_eq]
theorem tick_small (t : Int) (h0 : 0 ≤ t) (h1 : t ≤ 2000000) : tickF t = t := by
  rw [tickF_eq]; unfold maxI minI; split <;> split <;> omega
theorem Answer28.pure (from0 seq : Int) (x0 : Bool) (x1 x2 x3 x4 : Int) (x5 x6 : Bool) (h : (from0 == x1) = true) : Answer28.f 0 from0 seq x0 x1 x2 x3 x4 x5 x6 = some (x0 && (seq == x3), x0, x1, x2, x3, x4, (x5 || (x0 && (seq == x3))), x6) := by
  unfold Answer28.f Answer28.b
  have e : from0 = x1 := by simpa using h
  subst e
  cases x0
  · simp
  · by_cases h2 : seq = x3
    · subst h2; simp
    · simp [h2]
theorem Look28.pure (now wait period : Int) (x0 : Bool) (x1 x2 x3 x4 : Int) (x5 x6 : Bool) : Look28.f 0 now wait period x0 x1 x2 x3 x4 x5 x6 = some ((lookF x0 x4 x5 x6 now wait period).1, (lookF x0 x4 x5 x6 now wait period).2.1, x1, x2, x3, x4, x5, (lookF x0 x4 x5 x6 now wait period).2.2) := by
  unfold Look28.f Look28.b lookF
  cases x0
  · rfl
  · simp only [Bool.not_true, Bool.false_eq_true, if_false]
    by_cases h : decide (Go.IntKind.wrap .i64 (tickF now - x4) ≥ period) = true
    · rw [if_pos h, if_pos h]
      cases x5 <;> rfl
    · rw [if_neg h, if_neg h]
      cases x5
      · cases x6
        · simp only [Bool.not_false, if_true, Bool.true_and]
          split <;> rfl
        · rfl
      · rfl
theorem awake28.pure : awake28.f 9 () = some true := by
  unfold awake28.f awake28.b
  have t10 : tickF 10 = 10 := tick_small _ (by omega) (by omega)
  have t11 : tickF 11 = 11 := tick_small _ (by omega) (by omega)
  have t12 : tickF 12 = 12 := tick_small _ (by omega) (by omega)
  have t13 : tickF 13 = 13 := tick_small _ (by omega) (by omega)
  have t15 : tickF 15 = 15 := tick_small _ (by omega) (by omega)
  have w1 : Go.IntKind.wrap .i64 (1 : Int) = 1 := by kernel_rfl
  have w2 : Go.IntKind.wrap .i64 (2 : Int) = 2 := by kernel_rfl
  have w3 : Go.IntKind.wrap .i64 (3 : Int) = 3 := by kernel_rfl
  have w4 : Go.IntKind.wrap .i64 (4 : Int) = 4 := by kernel_rfl
  have w5 : Go.IntKind.wrap .i64 (5 : Int) = 5 := by kernel_rfl
  have w6 : Go.IntKind.wrap .i64 (6 : Int) = 6 := by kernel_rfl
  simp [awake28.l6, awake28.b6, lookF, idx, t10, t11, t12, t13, t15, w1, w2, w3, w4, w5, w6]

def lk (i wait period : Int) (a t : Bool) : Int × Bool × Bool := if decide (i ≥ period) then (if a then (3, false, t) else (2, false, t)) else if !a && (!t && decide (i ≥ wait)) then (1, true, true) else (0, true, t)
theorem lk_eq (start i wait period : Int) (a t : Bool) (h0 : 0 ≤ start) (h1 : start ≤ 1000000) (h2 : 1 ≤ i) (h3 : i ≤ 60) : lookF true (tickF start) a t (Go.IntKind.wrap .i64 (start + i)) wait period = lk i wait period a t := by
  unfold lookF lk
  rw [wrap_small (start + i) (by omega) (by omega), tick_small start h0 (by omega), tick_small (start + i) (by omega) (by omega), wrap_small _ (by omega) (by omega), show start + i - start = i from by omega]
  simp

def ansB (att i : Int) : Bool := decide (1 ≤ att) && decide (att < i)
def toldB (att wait i : Int) : Bool := decide (wait < i) && !(decide (1 ≤ att) && decide (att ≤ wait))
theorem ProbeFails.step (start wait period att i : Int) (k : Nat) (h0 : 0 ≤ start) (h1 : start ≤ 1000000) (hw : 1 ≤ wait) (hp : wait < period) (h60 : period ≤ 60) (h2 : 1 ≤ i) (h3 : i ≤ period) :
    ProbeFails.l6 90 start wait period att (k + 1) i true 3 0 9 (ansB att i) (toldB att wait i) = ProbeFails.l6 90 start wait period att k (i + 1) (decide (i < period)) 3 0 9 (ansB att (i + 1)) (toldB att wait (i + 1)) := by
  rw [ProbeFails.l6]
  unfold ProbeFails.b6
  simp only [lk_eq start i wait period _ _ h0 h1 h2 (by omega : i ≤ 60)]
  rw [wrap_small (i + 1) (by omega) (by omega), if_pos (by simpa using h3)]
  by_cases ha : i = att
  · subst ha
    have c1 : decide (i ≥ 1) = true := by simp; omega
    have c2 : decide (i ≤ i) = true := by simp
    have a1 : ansB i i = false := by unfold ansB; simp
    have a2 : ansB i (i + 1) = true := by unfold ansB; simp; omega
    simp only [beq_self_eq_true, if_true, Bool.and_self, Bool.not_true, Bool.false_eq_true, if_false, c1, c2, a1, a2, Bool.false_or]
    by_cases hpi : i = period
    · subst hpi
      have t2 : toldB i wait (i + 1) = toldB i wait i := by unfold toldB; congr 1; simp; omega
      simp [lk, t2]
    · have hlt : i < period := by omega
      have n1 : ¬ (period ≤ i) := by omega
      have t2 : toldB i wait (i + 1) = toldB i wait i := by
        unfold toldB
        by_cases hh : i ≤ wait
        · have : decide (1 ≤ i) = true := by simp; omega
          simp [this, hh]
        · have e1 : decide (wait < i + 1) = true := by simp; omega
          have e2 : decide (wait < i) = true := by simp; omega
          rw [e1, e2]
      have hl : ∀ t, lk i wait period true t = (0, true, t) := fun t => by simp [lk, n1]
      by_cases hwi : i = wait
      · subst hwi
        simp [hpi, hl, t2, hlt]
      · simp [hpi, hwi, hl, t2, hlt]
  · have hne : (i == att) = false := by simpa using ha
    simp only [hne, Bool.false_eq_true, if_false]
    by_cases hc : 1 ≤ att ∧ att < i
    · have a1 : ansB att i = true := by unfold ansB; simp; omega
      have a2 : ansB att (i + 1) = true := by unfold ansB; simp; omega
      have c1 : decide (att ≥ 1) = true := by simp; omega
      have c2 : decide (att ≤ i) = true := by simp; omega
      simp only [a1, a2, c1, c2, if_true]
      by_cases hpi : i = period
      · subst hpi
        have t2 : toldB att wait (i + 1) = toldB att wait i := by unfold toldB; congr 1; simp; omega
        simp [lk, t2]
      · have hlt : i < period := by omega
        have n1 : ¬ (period ≤ i) := by omega
        have t2 : toldB att wait (i + 1) = toldB att wait i := by
          unfold toldB
          by_cases hh : i ≤ wait
          · have e1 : decide (1 ≤ att) = true := by simp; omega
            have e2 : decide (att ≤ wait) = true := by simp; omega
            simp [e1, e2]
          · have e1 : decide (wait < i + 1) = true := by simp; omega
            have e2 : decide (wait < i) = true := by simp; omega
            rw [e1, e2]
        have hl : ∀ t, lk i wait period true t = (0, true, t) := fun t => by simp [lk, n1]
        by_cases hwi : i = wait
        · subst hwi
          simp [hpi, hl, t2, hlt]
        · simp [hpi, hwi, hl, t2, hlt]
    · have a1 : ansB att i = false := by unfold ansB; simp; omega
      have a2 : ansB att (i + 1) = false := by unfold ansB; simp; omega
      have came : ∀ X Y : Option Bool, (if decide (att ≥ 1) = true then (if (!decide (att ≤ i)) = true then X else Y) else X) = X := by
        intro X Y
        split
        · rename_i h
          rw [if_pos (by simp at h ⊢; omega)]
        · rfl
      simp only [a1, a2]
      by_cases hpi : i = period
      · subst hpi
        have t2 : toldB att wait (i + 1) = toldB att wait i := by unfold toldB; congr 1; simp; omega
        by_cases h1a : att ≥ 1
        · have c2 : decide (att ≤ i) = false := by simp; omega
          simp [lk, t2, h1a, c2]
        · simp [lk, t2, h1a]
      · have hlt : i < period := by omega
        have n1 : ¬ (period ≤ i) := by omega
        by_cases hwi : i = wait
        · subst hwi
          have t1 : toldB att i i = false := by unfold toldB; simp
          have t2 : toldB att i (i + 1) = true := by unfold toldB; simp; omega
          by_cases h1a : att ≥ 1
          · have c2 : decide (att ≤ i) = false := by simp; omega
            simp [lk, n1, t1, t2, h1a, c2, hpi, hlt]
          · simp [lk, n1, t1, t2, h1a, hpi, hlt]
        · have t2 : toldB att wait (i + 1) = toldB att wait i := by unfold toldB; congr 1; simp; omega
          have hl : lk i wait period false (toldB att wait i) = (0, true, toldB att wait i) := by
            by_cases hh : i < wait
            · have : ¬ (wait ≤ i) := by omega
              simp [lk, n1, this]
            · have : toldB att wait i = true := by unfold toldB; simp; omega
              simp [lk, n1, this]
          by_cases h1a : att ≥ 1
          · simp [hl, t2, h1a, hpi, hwi, hlt]
          · simp [hl, t2, h1a, hpi, hwi, hlt]

theorem ProbeFails.go (start wait period att : Int) (h0 : 0 ≤ start) (h1 : start ≤ 1000000) (hw : 1 ≤ wait) (hp : wait < period) (h60 : period ≤ 60) : ∀ (k : Nat) (i : Int), 1 ≤ i → i ≤ period → period - i + 2 < k →
    ProbeFails.l6 90 start wait period att k i true 3 0 9 (ansB att i) (toldB att wait i) = some true := by
  intro k
  induction k with
  | zero => intro i h2 h3 hk; omega
  | succ k ih =>
    intro i h2 h3 hk
    rw [ProbeFails.step start wait period att i k h0 h1 hw hp h60 h2 h3]
    by_cases hi : i < period
    · rw [decide_eq_true hi]
      exact ih (i + 1) (by omega) (by omega) (by omega)
    · cases k with
      | zero => omega
      | succ k =>
        rw [ProbeFails.l6]
        unfold ProbeFails.b6
        rw [if_neg (by simp; omega)]

theorem ProbeFails.pure (start wait period att : Int) : ProbeFails.f 90 start wait period att = some true := by
  unfold ProbeFails.f ProbeFails.b
  rw [veil_eq]
  by_cases c1 : start < 0
  · rw [if_pos (by simpa using c1)]
  · rw [if_neg (by simpa using c1)]
    by_cases c2 : start > 1000000
    · rw [if_pos (by simpa using c2)]
    · rw [if_neg (by simpa using c2)]
      by_cases c3 : wait < 1
      · rw [if_pos (by simpa using c3)]
      · rw [if_neg (by simpa using c3)]
        by_cases c4 : wait ≥ period
        · rw [if_pos (by simpa using c4)]
        · rw [if_neg (by simpa using c4)]
          by_cases c5 : period > 60
          · rw [if_pos (by simpa using c5)]
          · rw [if_neg (by simpa using c5)]
            have := ProbeFails.go start wait period att (by omega) (by omega) (by omega) (by omega) (by omega) 90 1 (by omega) (by omega) (by omega)
            have e1 : ansB att 1 = false := by unfold ansB; simp
            have e2 : toldB att wait 1 = false := by unfold toldB; simp; omega
            rw [e1, e2] at this
            exact this
end Go.Proofs.Ytpgcdengljfojaa
