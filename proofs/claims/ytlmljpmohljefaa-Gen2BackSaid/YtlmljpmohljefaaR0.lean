/- What all rows of this seat share. -/
import Derived.Test.YtlmljpmohljefaaEv3
import Derived.Test.YtlmljpmohljefaaRows
import Derived.Test.YtlmljpmohljefaaP1
import Derived.KernelRfl
namespace Go.Proofs.Ytlmljpmohljefaa
open Go.Den
theorem Try.own : ownKnob Try.prog.godebug = none := by kernel_rfl
theorem Try.laidOut : laidOutB Try.prog = true := by kernel_rfl
theorem Try.mapsRow : mapsRowed Try.prog = true := by kernel_rfl
theorem Try.slicesSize : slicesSized Try.prog = true := by kernel_rfl
theorem good_bag {b : List (Int × List Int)} (h : Go.Den.Good (.sl (.pair (.int .i64) (.sl (.int .u8)))) b) : smallBag b = true := by
  obtain ⟨h1, h2⟩ := h
  refine (smallBag_iff b).2 ⟨by have : reachBytes = 140737488351232 := rfl; omega, fun x hx => ?_⟩
  have := (h2 x hx).2.1
  have e : reachBytes = 140737488351232 := rfl
  omega
theorem good_recs {l : List (Int × Int × Int × (Int × Int) × Bool × List (Int × List Int))} (h : Go.Den.Good (.sl (.pair (.int .i64) (.pair (.int .i64) (.pair (.int .i64) (.pair (.pair (.int .i64) (.int .i64)) (.pair .bool (.sl (.pair (.int .i64) (.sl (.int .u8))))))))) ) l) : smallRecs l = true := by
  obtain ⟨h1, h2⟩ := h
  refine (smallRecs_iff l).2 ⟨by have : reachBytes = 140737488351232 := rfl; omega, fun r hr => ?_⟩
  exact good_bag (h2 r hr).2.2.2.2.2
end Go.Proofs.Ytlmljpmohljefaa
