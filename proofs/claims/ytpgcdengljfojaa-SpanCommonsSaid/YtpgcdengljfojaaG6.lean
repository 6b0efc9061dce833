import Derived.Test.YtpgcdengljfojaaG5
set_option linter.unusedVariables false
set_option linter.unusedSimpArgs false
namespace Go.Proofs.Ytpgcdengljfojaa
open Go.Den
theorem w31 : Go.IntKind.wrap .i64 ((3 : Int) - 1) = 2 := by rw [wrap_small _ (by omega) (by omega)]; rfl
theorem w21 : Go.IntKind.wrap .i64 ((2 : Int) - 1) = 1 := by rw [wrap_small _ (by omega) (by omega)]; rfl
theorem w11 : Go.IntKind.wrap .i64 ((1 : Int) - 1) = 0 := by rw [wrap_small _ (by omega) (by omega)]; rfl
/-- one round of the loop -/
noncomputable def rnd (l : List (Int × Int)) (i : Int) (hi lo : Int) : Int × Int := if inGo l i = true then (if (hi == 0) = true then (i, i) else (hi, i)) else (hi, lo)
noncomputable def meetsB (a b c d : Int) : Bool :=
  let l := [(a, b), (c, d)]
  let r1 := rnd l 3 0 0
  let r2 := rnd l 2 r1.1 r1.2
  let r3 := rnd l 1 r2.1 r2.2
  let m := commonF l
  m.1 == r3.2 && (m.2.1 == r3.1 && (m.2.2 == decide (r3.1 > 0) && m.2.1 == r3.1))
theorem okS_cases {a b : Int} (h : okS a b = true) : (a, b) = (1, 1) ∨ (a, b) = (1, 2) ∨ (a, b) = (1, 3) ∨ (a, b) = (2, 2) ∨ (a, b) = (2, 3) ∨ (a, b) = (3, 3) := by
  unfold okS at h
  simp only [Bool.and_eq_true, decide_eq_true_eq] at h
  simp only [Prod.mk.injEq]
  omega
theorem inGo_no2 {a b c d : Int} (h : okS a b = false ∨ okS c d = false) (i : Int) : inGo [(a, b), (c, d)] i = false := by
  unfold inGo
  rcases h with h | h
  · simp [h]
  · split
    · rfl
    · unfold inGo; simp [h]
theorem common_no2 {a b c d : Int} (h : okS a b = false ∨ okS c d = false) : commonF [(a, b), (c, d)] = (0, 0, false) := by
  unfold commonF commonGo
  rcases h with h | h
  · simp [h]
  · split
    · rfl
    · unfold commonGo; simp [h]
theorem meets_true (a b c d : Int) : meetsB a b c d = true := by
  by_cases h : okS a b = false ∨ okS c d = false
  · unfold meetsB rnd
    simp [inGo_no2 h, common_no2 h]
  · have h1 : okS a b = true := by cases hh : okS a b <;> simp_all
    have h2 : okS c d = true := by cases hh : okS c d <;> simp_all
    rcases okS_cases h1 with e | e | e | e | e | e <;> rcases okS_cases h2 with e2 | e2 | e2 | e2 | e2 | e2 <;> (cases e; cases e2; rfl)
noncomputable def stepF (l : List (Int × Int)) (i x1 x2 : Int) (nx : Int → Int → Option Bool) : Option Bool := if inGo l i = true then (if (x1 == 0) = true then nx i i else nx x1 i) else nx x1 x2
theorem stepF_eq (l : List (Int × Int)) (i x1 x2 : Int) (nx : Int → Int → Option Bool) : stepF l i x1 x2 nx = nx (rnd l i x1 x2).1 (rnd l i x1 x2).2 := by
  unfold stepF rnd
  split
  · split <;> rfl
  · rfl
noncomputable def finF (m : Int × Int × Bool) (x1 x2 : Int) : Option Bool := if (m.1 == x2) = true then (if (m.2.1 == x1) = true then (if (m.2.2 == decide (x1 > 0)) = true then (if (m.2.1 == x1) = true then some true else some false) else some false) else some false) else some false
theorem SpanMeets.flat (a b c d : Int) : SpanMeets.f 5 a b c d = stepF [(a, b), (c, d)] 3 0 0 fun x1 x2 => stepF [(a, b), (c, d)] 2 x1 x2 fun x1 x2 => stepF [(a, b), (c, d)] 1 x1 x2 fun x1 x2 => finF (commonF [(a, b), (c, d)]) x1 x2 := by kernel_rfl
theorem SpanMeets.pure (a b c d : Int) : SpanMeets.f 5 a b c d = some true := by
  rw [SpanMeets.flat, stepF_eq, stepF_eq, stepF_eq]
  have h := meets_true a b c d
  unfold meetsB at h
  simp only [Bool.and_eq_true] at h
  obtain ⟨h1, h2, h3, h4⟩ := h
  unfold finF
  rw [if_pos h1, if_pos h2, if_pos h3, if_pos h4]
end Go.Proofs.Ytpgcdengljfojaa
