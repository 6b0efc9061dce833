/-
  No cell of these rows narrows 'for every input' (looked for: loops, veiled, ifaces, maps, wideKeys, modest, calm, conditions, laid).
  DERIVED. THE GIVEN ROWS OF THIS SEAT. 5 by the template 'for every input the law returns true; each argument reads behind the call as it read before'; 0 by the template 'total and deterministic' (their statements: YtkfiohbhihmcnaaTotals.lean).
  GIVEN WITH THE SEED: the statements are not yours to turn. If you find one false, say at which input.
  Laid BY PROGRAM, IN A SANDBOX (cutbox-rows.mjs): the forced cells as the released guide's own fill.sh prints them over the translation c56acae499e7ea95… (all of the seat's roots in one cut). By AI agents, Wed Nov 11 2026. No macro, syntax, notation, axiom, sorry.
-/
import Derived.Test.YtkfiohbhihmcnaaChecked
import GoSem.Claim
import GoSem.ClaimJoined
import GoSem.ClaimMapViews
import Derived.JoinedTies
import Derived.KernelRfl
namespace Go.Proofs.Ytkfiohbhihmcnaa
/- THE CELL 'sum', in the pinned program and in every row, IS THE sha256 OF THE DUMP (.gsa) THAT YtkfiohbhihmcnaaProg.lean LOADS. Nothing in Lean hashes anything: it is a label: what it is worth is what the hold of that sum in a sandbox is worth. -/
noncomputable def Try.pinned : Pinned := { name := "ytkfiohbhihmcnaa", sum := "c56acae499e7ea95c68bc0750ca8f93f500b3847abd2710658d23085a9abff8d", checked := Try.checked }
namespace Rows
def none {H : Type} : Left H := { results := [], args := [] }

/-- 'polyglotlaw29.ErrandPlays': WHATEVER THE INPUT: true; the input reads as it did. -/
def errandPlaysSpec : ChangeSpec := { name := "errandPlays", fn := fun _ => fun
  | [d] => { results := [.lit (.bool true)], args := [d] }
  | _ => none }
def errandPlaysRow : OpenClaim := { program := "ytkfiohbhihmcnaa", sum := "c56acae499e7ea95c68bc0750ca8f93f500b3847abd2710658d23085a9abff8d", func := "polyglot/polyglotlaw29.ErrandPlays", spec := "errandPlays", unfollowed := true, recurses := true, apart := false }
def ErrandPlaysSaid : Prop := errandPlaysRow.holds Try.pinned (OpenSpec.ofChange errandPlaysSpec)

/-- ITS FALSE NEIGHBOUR: 'it returns false'. Refute it at one input. -/
def errandPlaysWrong : ChangeSpec := { name := "errandPlays", fn := fun _ => fun
  | [d] => { results := [.lit (.bool false)], args := [d] }
  | _ => none }
def ErrandPlaysWrongFalsely : Prop := errandPlaysRow.holds Try.pinned (OpenSpec.ofChange errandPlaysWrong)

/-- 'polyglotlaw22.QueuePlays': WHATEVER THE INPUT: true; the input reads as it did. -/
def queuePlaysSpec : ChangeSpec := { name := "queuePlays", fn := fun _ => fun
  | [d] => { results := [.lit (.bool true)], args := [d] }
  | _ => none }
def queuePlaysRow : OpenClaim := { program := "ytkfiohbhihmcnaa", sum := "c56acae499e7ea95c68bc0750ca8f93f500b3847abd2710658d23085a9abff8d", func := "polyglot/polyglotlaw22.QueuePlays", spec := "queuePlays", unfollowed := true, recurses := true, apart := false }
def QueuePlaysSaid : Prop := queuePlaysRow.holds Try.pinned (OpenSpec.ofChange queuePlaysSpec)

/-- ITS FALSE NEIGHBOUR: 'it returns false'. Refute it at one input. -/
def queuePlaysWrong : ChangeSpec := { name := "queuePlays", fn := fun _ => fun
  | [d] => { results := [.lit (.bool false)], args := [d] }
  | _ => none }
def QueuePlaysWrongFalsely : Prop := queuePlaysRow.holds Try.pinned (OpenSpec.ofChange queuePlaysWrong)

/-- 'polyglotlaw22.QueueBudgets': WHATEVER THE INPUT: true; the input reads as it did. -/
def queueBudgetsSpec : ChangeSpec := { name := "queueBudgets", fn := fun _ => fun
  | [d1, d2] => { results := [.lit (.bool true)], args := [d1, d2] }
  | _ => none }
def queueBudgetsRow : OpenClaim := { program := "ytkfiohbhihmcnaa", sum := "c56acae499e7ea95c68bc0750ca8f93f500b3847abd2710658d23085a9abff8d", func := "polyglot/polyglotlaw22.QueueBudgets", spec := "queueBudgets", unfollowed := true, recurses := true, apart := false }
def QueueBudgetsSaid : Prop := queueBudgetsRow.holds Try.pinned (OpenSpec.ofChange queueBudgetsSpec)

/-- ITS FALSE NEIGHBOUR: 'it returns false'. Refute it at one input. -/
def queueBudgetsWrong : ChangeSpec := { name := "queueBudgets", fn := fun _ => fun
  | [d1, d2] => { results := [.lit (.bool false)], args := [d1, d2] }
  | _ => none }
def QueueBudgetsWrongFalsely : Prop := queueBudgetsRow.holds Try.pinned (OpenSpec.ofChange queueBudgetsWrong)

/-- 'polyglotlaw22.QueueOften': WHATEVER THE INPUT: true; the input reads as it did. -/
def queueOftenSpec : ChangeSpec := { name := "queueOften", fn := fun _ => fun
  | [d1, d2, d3] => { results := [.lit (.bool true)], args := [d1, d2, d3] }
  | _ => none }
def queueOftenRow : OpenClaim := { program := "ytkfiohbhihmcnaa", sum := "c56acae499e7ea95c68bc0750ca8f93f500b3847abd2710658d23085a9abff8d", func := "polyglot/polyglotlaw22.QueueOften", spec := "queueOften", unfollowed := true, recurses := true, apart := false }
def QueueOftenSaid : Prop := queueOftenRow.holds Try.pinned (OpenSpec.ofChange queueOftenSpec)

/-- ITS FALSE NEIGHBOUR: 'it returns false'. Refute it at one input. -/
def queueOftenWrong : ChangeSpec := { name := "queueOften", fn := fun _ => fun
  | [d1, d2, d3] => { results := [.lit (.bool false)], args := [d1, d2, d3] }
  | _ => none }
def QueueOftenWrongFalsely : Prop := queueOftenRow.holds Try.pinned (OpenSpec.ofChange queueOftenWrong)

/-- 'polyglotlaw35.PostPlays': WHATEVER THE INPUT: true; the input reads as it did. -/
def postPlaysSpec : ChangeSpec := { name := "postPlays", fn := fun _ => fun
  | [d1, d2] => { results := [.lit (.bool true)], args := [d1, d2] }
  | _ => none }
def postPlaysRow : OpenClaim := { program := "ytkfiohbhihmcnaa", sum := "c56acae499e7ea95c68bc0750ca8f93f500b3847abd2710658d23085a9abff8d", func := "polyglot/polyglotlaw35.PostPlays", spec := "postPlays", unfollowed := true, recurses := true, apart := false }
def PostPlaysSaid : Prop := postPlaysRow.holds Try.pinned (OpenSpec.ofChange postPlaysSpec)

/-- ITS FALSE NEIGHBOUR: 'it returns false'. Refute it at one input. -/
def postPlaysWrong : ChangeSpec := { name := "postPlays", fn := fun _ => fun
  | [d1, d2] => { results := [.lit (.bool false)], args := [d1, d2] }
  | _ => none }
def PostPlaysWrongFalsely : Prop := postPlaysRow.holds Try.pinned (OpenSpec.ofChange postPlaysWrong)

/- THE SECOND FORM. 'bulk': how many values and letters a reading holds, each counted each time it is reached (what is shared counts as often as it is met; a slice's spare places count too). A statement '..UptoSaid' is the law's where the arguments, and the package variables that the reading takes, are together of bulk at most 1048576: NARROWER than '..Said'. Prove '..Said' where nothing that the law and all that it calls make is longer than what came in: it says more and counts as full. Else prove '..UptoSaid'. A law counts once. -/
mutual
def uptoBulk {H : Type} : DataW H → Nat
  | .lit (.string bytes) => bytes.length + 1
  | .lit _ => 1
  | .nil => 1
  | .ptr d => uptoBulk d + 1
  | .slice elems spare => uptoBulkAll elems + uptoBulkAll spare + 1
  | .agg parts => uptoBulkAll parts + 1
  | .iface _ d => uptoBulk d + 1
  | .map entries => uptoBulkEntries entries + 1
  | .held _ => 1
def uptoBulkAll {H : Type} : List (DataW H) → Nat
  | [] => 0
  | d :: r => uptoBulk d + uptoBulkAll r
def uptoBulkEntries {H : Type} : List (Lit × DataW H) → Nat
  | [] => 0
  | x :: r => uptoBulkEntry x + uptoBulkEntries r
def uptoBulkEntry {H : Type} : Lit × DataW H → Nat
  | (.string bytes, d) => bytes.length + uptoBulk d + 1
  | (_, d) => uptoBulk d + 1
 end
def uptoSmall : (H : Type) → List (DataW H) → Bool := fun _ ds => decide (uptoBulkAll ds ≤ 1048576)
def OpenSpec.upto (s : _root_.Go.ChangeSpec) : _root_.Go.OpenSpec := { _root_.Go.OpenSpec.ofChange s with cond := some uptoSmall }

/-- 'polyglotlaw29.ErrandPlays', WHERE WHAT IT READS IS OF BULK AT MOST 1048576: true; the input reads as it did. -/
def errandPlaysUptoRow : OpenClaim := { program := "ytkfiohbhihmcnaa", sum := "c56acae499e7ea95c68bc0750ca8f93f500b3847abd2710658d23085a9abff8d", func := "polyglot/polyglotlaw29.ErrandPlays", spec := "errandPlays", unfollowed := true, recurses := true, apart := false, narrowed := true }
def ErrandPlaysUptoSaid : Prop := errandPlaysUptoRow.holds Try.pinned (OpenSpec.upto errandPlaysSpec)

/-- 'polyglotlaw22.QueuePlays', WHERE WHAT IT READS IS OF BULK AT MOST 1048576: true; the input reads as it did. -/
def queuePlaysUptoRow : OpenClaim := { program := "ytkfiohbhihmcnaa", sum := "c56acae499e7ea95c68bc0750ca8f93f500b3847abd2710658d23085a9abff8d", func := "polyglot/polyglotlaw22.QueuePlays", spec := "queuePlays", unfollowed := true, recurses := true, apart := false, narrowed := true }
def QueuePlaysUptoSaid : Prop := queuePlaysUptoRow.holds Try.pinned (OpenSpec.upto queuePlaysSpec)

/-- 'polyglotlaw22.QueueBudgets', WHERE WHAT IT READS IS OF BULK AT MOST 1048576: true; the input reads as it did. -/
def queueBudgetsUptoRow : OpenClaim := { program := "ytkfiohbhihmcnaa", sum := "c56acae499e7ea95c68bc0750ca8f93f500b3847abd2710658d23085a9abff8d", func := "polyglot/polyglotlaw22.QueueBudgets", spec := "queueBudgets", unfollowed := true, recurses := true, apart := false, narrowed := true }
def QueueBudgetsUptoSaid : Prop := queueBudgetsUptoRow.holds Try.pinned (OpenSpec.upto queueBudgetsSpec)

/-- 'polyglotlaw22.QueueOften', WHERE WHAT IT READS IS OF BULK AT MOST 1048576: true; the input reads as it did. -/
def queueOftenUptoRow : OpenClaim := { program := "ytkfiohbhihmcnaa", sum := "c56acae499e7ea95c68bc0750ca8f93f500b3847abd2710658d23085a9abff8d", func := "polyglot/polyglotlaw22.QueueOften", spec := "queueOften", unfollowed := true, recurses := true, apart := false, narrowed := true }
def QueueOftenUptoSaid : Prop := queueOftenUptoRow.holds Try.pinned (OpenSpec.upto queueOftenSpec)

/-- 'polyglotlaw35.PostPlays', WHERE WHAT IT READS IS OF BULK AT MOST 1048576: true; the input reads as it did. -/
def postPlaysUptoRow : OpenClaim := { program := "ytkfiohbhihmcnaa", sum := "c56acae499e7ea95c68bc0750ca8f93f500b3847abd2710658d23085a9abff8d", func := "polyglot/polyglotlaw35.PostPlays", spec := "postPlays", unfollowed := true, recurses := true, apart := false, narrowed := true }
def PostPlaysUptoSaid : Prop := postPlaysUptoRow.holds Try.pinned (OpenSpec.upto postPlaysSpec)

end Rows
end Go.Proofs.Ytkfiohbhihmcnaa
