import Derived.Test.YtlmljpmohljefaaR1
import Derived.Test.YtlmljpmohljefaaK25
namespace Go.Proofs.Ytlmljpmohljefaa
open Go.Den
theorem good_bags {l : LR} (h : Go.Den.Good (.sl (.pair (.int .i64) (.pair (.int .i64) (.pair (.int .i64) (.pair (.pair (.int .i64) (.int .i64)) (.pair .bool (.sl (.pair (.int .i64) (.sl (.int .u8))))))))) ) l) : byteBags l := by
  obtain ⟨h1, h2⟩ := h
  intro r hr x hx
  have h3 := (h2 r hr).2.2.2.2.2
  exact good_bytes (h3.2 x hx).2
end Go.Proofs.Ytlmljpmohljefaa
