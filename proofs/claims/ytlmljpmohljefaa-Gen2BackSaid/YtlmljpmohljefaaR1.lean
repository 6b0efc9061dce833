import Derived.Test.YtlmljpmohljefaaR0
namespace Go.Proofs.Ytlmljpmohljefaa
open Go.Den
theorem good_bytes {l : List Int} (h : Go.Den.Good (.sl (.int .u8)) l) : ∀ c ∈ l, 0 ≤ c ∧ c ≤ 255 := by
  intro c hc
  have h1 := h.2 c hc
  have h2 : (Lit.int .u8 c).wf = true := h1
  simp [Lit.wf, IntKind.min, IntKind.max, IntKind.signed, IntKind.bits] at h2
  omega
end Go.Proofs.Ytlmljpmohljefaa
