/- Operations in any order. -/
import Derived.Test.YtlmljpmohljefaaSound18
set_option linter.unusedVariables false
set_option linter.unusedSimpArgs false
namespace Go.Den
variable {P : Program}

/-- a region whose order is drawn: the text's order tells all -/
def DrawOk (P : Program) (E : Env) : Prop :=
  ∀ {R : Type} {B : Base} {g0 : G} {m : Nat} {d : List Deferred} {id : Nat} {ops : Array Oper} (_ : slotsOk ops (ancs ops.toList) = true) (κ : St → Option R) (r : R) (st : St) (a : Act) (w : World)
    (_ : denD E ops (ancs ops.toList) 0 ops.toList st [] κ = some r) (_ : Inv B g0 m d st a w) (Q : Exit → Act → World → Prop) (_ : ∀ st a w, κ st = some r → Inv B g0 m d st a w → Q .normal a w), (Code.region id ops true).wp P Q a w
end Go.Den
