/- The package variables that are tables of numbers, and what they hold; those that the library reads, and what is known of them. -/
import GoSem.Core.Layout
import Derived.Lib.ItoaNum
set_option linter.unusedVariables false
namespace Go.Den
def gtab (n : Nat) : Option (IntKind × List Int) := none
/-- other variables that are read by the library, and what is known of them -/
def gblk : List Nat := [0, 3, 4, 5]
def errV (v : Value) : Prop := v = .nilIface ∨ ∃ te pe, v = .iface te pe
def gok (l : List (Option Go.Obj)) : Prop := match l with
  | [some (.cells c0 _ _), some (.cells c3 _ _), some (.cells c4 _ _), some (.cells c5 _ _)] => (∃ m, c0[0]? = some (.int .i64 m)) ∧ c3 = (Lib.pow10Tab.map fun z => Value.int .u64 z).toArray ∧ (∃ v, c4[0]? = some v ∧ errV v) ∧ ∃ v, c5[0]? = some v ∧ errV v
  | _ => False
end Go.Den
