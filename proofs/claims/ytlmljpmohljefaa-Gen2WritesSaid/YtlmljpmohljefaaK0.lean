/- Small facts. -/
import Derived.Test.YtlmljpmohljefaaTh
import Derived.Laws.BitsLemmas
set_option linter.unusedVariables false
set_option linter.unusedSimpArgs false
namespace Go.Proofs.Ytlmljpmohljefaa
open Go.Den
theorem any_ok : Try.prog.follows .mixedOrders = true := by kernel_rfl
theorem wrap_small (n : Int) (h0 : -9223372036854775808 ≤ n) (h1 : n < 9223372036854775808) : Go.IntKind.wrap .i64 n = n := by
  rw [Go.IntKind.wrap_i64]; omega
theorem idx_at {α : Type} (l : List α) (i : Nat) : idx l (i : Int) = l[i]? := by
  unfold idx
  rw [if_pos (by omega)]
  simp
theorem getD_at {α : Type} (l : List α) (d : α) (i : Nat) (h : i < l.length) : idx l (i : Int) = some (l.getD i d) := by
  rw [idx_at, List.getElem?_eq_getElem h]; simp [List.getD, List.getElem?_eq_getElem h]
end Go.Proofs.Ytlmljpmohljefaa
