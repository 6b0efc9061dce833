/- What all rows of this seat share. -/
import Derived.Test.YtpgcdengljfojaaSound23
import Derived.Test.YtpgcdengljfojaaRows
import Derived.KernelRfl
namespace Go.Proofs.Ytpgcdengljfojaa
open Go.Den
theorem Try.own : ownKnob Try.prog.godebug = none := by kernel_rfl
theorem Try.laidOut : laidOutB Try.prog = true := by kernel_rfl
theorem Try.mapsRow : mapsRowed Try.prog = true := by kernel_rfl
theorem Try.slicesSize : slicesSized Try.prog = true := by kernel_rfl
end Go.Proofs.Ytpgcdengljfojaa
