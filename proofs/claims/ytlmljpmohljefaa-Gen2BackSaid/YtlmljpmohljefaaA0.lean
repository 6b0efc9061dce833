/- The fuel of printed functions. -/
import Derived.Test.YtlmljpmohljefaaEv3
namespace Go.Proofs.Ytlmljpmohljefaa
open Go.Den
noncomputable def BIG : Nat := veil 1099511627776
theorem BIG_eq : BIG = 1099511627776 := veil_eq _
end Go.Proofs.Ytlmljpmohljefaa
