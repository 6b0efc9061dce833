/- The package variables that are tables of numbers, and what they hold (of each seat its own). -/
import GoSem.Core.Layout
set_option linter.unusedVariables false
namespace Go.Den
def halves : List Int := [0, 79764919, 159529838, 222504665, 319059676, 398814059, 445009330, 507990021, 638119352, 583659535, 797628118, 726387553, 890018660, 835552979, 1015980042, 944750013]
def gtab (n : Nat) : Option (IntKind × List Int) := if n = 0 then some (.u32, halves) else none
def gblk : List Nat := []
def gok (l : List (Option Go.Obj)) : Prop := True
end Go.Den
