import Derived.Test.YtpgcdengljfojaaG9
set_option linter.unusedVariables false
set_option linter.unusedSimpArgs false
namespace Go.Proofs.Ytpgcdengljfojaa
open Go.Den
theorem Has.pure (a b m : Int) : Has.f 0 a b m = some (okS a b && (decide (a ≤ m) && decide (m ≤ b))) := by
  unfold Has.f Has.b
  show (if okS a b = true then _ else _) = _
  cases okS a b
  · rfl
  · by_cases h : a ≤ m <;> simp [h]
theorem Of.flat (c : Int) : Of.f 9 c = (if (codeF 1 1 == c) = true then some (1, 1, true) else if (codeF 1 2 == c) = true then some (1, 2, true) else if (codeF 1 3 == c) = true then some (1, 3, true) else
  if (codeF 2 2 == c) = true then some (2, 2, true) else if (codeF 2 3 == c) = true then some (2, 3, true) else if (codeF 3 3 == c) = true then some (3, 3, true) else some (0, 0, false)) := by kernel_rfl
theorem Of.pure (c : Int) : Of.f 9 c = some ((ofGo allF c).1, (ofGo allF c).2.1, (ofGo allF c).2.2) := by
  rw [Of.flat]
  unfold allF ofGo ofGo ofGo ofGo ofGo ofGo ofGo
  repeat' split
  all_goals rfl
theorem Text.pure (a b : Int) : Text.f 0 a b = some (textF a b) := by
  unfold Text.f Text.b
  show (if (!okS a b) = true then _ else _) = _
  cases h : okS a b
  · simp [textF, h]
  · rcases okS_cases h with e | e | e | e | e | e <;> (cases e; kernel_rfl)
end Go.Proofs.Ytpgcdengljfojaa
