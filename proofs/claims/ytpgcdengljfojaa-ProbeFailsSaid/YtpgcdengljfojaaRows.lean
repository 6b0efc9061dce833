/-
  No cell of these rows narrows 'for every input' (looked for: loops, veiled, ifaces, maps, wideKeys, modest, calm, conditions, laid).
  DERIVED. THE GIVEN ROWS OF THIS SEAT. 6 by the template 'for every input the law returns true; each argument reads behind the call as it read before'; 0 by the template 'total and deterministic' (their statements: YtpgcdengljfojaaTotals.lean).
  GIVEN WITH THE SEED: the statements are not yours to turn. If you find one false, say at which input.
  Laid BY PROGRAM, IN A SANDBOX (cutbox-rows.mjs): the forced cells as the released guide's own fill.sh prints them over the translation c6ace4f998062ddc… (all of the seat's roots in one cut). By AI agents, Wed Nov 11 2026. No macro, syntax, notation, axiom, sorry.
-/
import Derived.Test.YtpgcdengljfojaaChecked
import GoSem.Claim
import GoSem.ClaimJoined
import GoSem.ClaimMapViews
import Derived.JoinedTies
import Derived.KernelRfl
namespace Go.Proofs.Ytpgcdengljfojaa
/- THE CELL 'sum', in the pinned program and in every row, IS THE sha256 OF THE DUMP (.gsa) THAT YtpgcdengljfojaaProg.lean LOADS. Nothing in Lean hashes anything: it is a label: what it is worth is what the hold of that sum in a sandbox is worth. -/
noncomputable def Try.pinned : Pinned := { name := "ytpgcdengljfojaa", sum := "c6ace4f998062ddc78d8f0d33970ce7fb965d502fc5c4fc1c417a2a7bd6d54fc", checked := Try.checked }
namespace Rows
def none {H : Type} : Left H := { results := [], args := [] }

/-- 'polyglotlaw28.ProbeFails': WHATEVER THE INPUT: true; the input reads as it did. -/
def probeFailsSpec : ChangeSpec := { name := "probeFails", fn := fun _ => fun
  | [d1, d2, d3, d4] => { results := [.lit (.bool true)], args := [d1, d2, d3, d4] }
  | _ => none }
def probeFailsRow : OpenClaim := { program := "ytpgcdengljfojaa", sum := "c6ace4f998062ddc78d8f0d33970ce7fb965d502fc5c4fc1c417a2a7bd6d54fc", func := "polyglot/polyglotlaw28.ProbeFails", spec := "probeFails", apart := false }
def ProbeFailsSaid : Prop := probeFailsRow.holds Try.pinned (OpenSpec.ofChange probeFailsSpec)

/-- ITS FALSE NEIGHBOUR: 'it returns false'. Refute it at one input. -/
def probeFailsWrong : ChangeSpec := { name := "probeFails", fn := fun _ => fun
  | [d1, d2, d3, d4] => { results := [.lit (.bool false)], args := [d1, d2, d3, d4] }
  | _ => none }
def ProbeFailsWrongFalsely : Prop := probeFailsRow.holds Try.pinned (OpenSpec.ofChange probeFailsWrong)

/-- 'polyglotlaw05.SpanMeets': WHATEVER THE INPUT: true; the input reads as it did. -/
def spanMeetsSpec : ChangeSpec := { name := "spanMeets", fn := fun _ => fun
  | [d1, d2] => { results := [.lit (.bool true)], args := [d1, d2] }
  | _ => none }
def spanMeetsRow : OpenClaim := { program := "ytpgcdengljfojaa", sum := "c6ace4f998062ddc78d8f0d33970ce7fb965d502fc5c4fc1c417a2a7bd6d54fc", func := "polyglot/polyglotlaw05.SpanMeets", spec := "spanMeets", apart := false }
def SpanMeetsSaid : Prop := spanMeetsRow.holds Try.pinned (OpenSpec.ofChange spanMeetsSpec)

/-- ITS FALSE NEIGHBOUR: 'it returns false'. Refute it at one input. -/
def spanMeetsWrong : ChangeSpec := { name := "spanMeets", fn := fun _ => fun
  | [d1, d2] => { results := [.lit (.bool false)], args := [d1, d2] }
  | _ => none }
def SpanMeetsWrongFalsely : Prop := spanMeetsRow.holds Try.pinned (OpenSpec.ofChange spanMeetsWrong)

/-- 'polyglotlaw05.SpanCommons': WHATEVER THE INPUT: true; the input reads as it did. -/
def spanCommonsSpec : ChangeSpec := { name := "spanCommons", fn := fun _ => fun
  | [d] => { results := [.lit (.bool true)], args := [d] }
  | _ => none }
def spanCommonsRow : OpenClaim := { program := "ytpgcdengljfojaa", sum := "c6ace4f998062ddc78d8f0d33970ce7fb965d502fc5c4fc1c417a2a7bd6d54fc", func := "polyglot/polyglotlaw05.SpanCommons", spec := "spanCommons", apart := false }
def SpanCommonsSaid : Prop := spanCommonsRow.holds Try.pinned (OpenSpec.ofChange spanCommonsSpec)

/-- ITS FALSE NEIGHBOUR: 'it returns false'. Refute it at one input. -/
def spanCommonsWrong : ChangeSpec := { name := "spanCommons", fn := fun _ => fun
  | [d] => { results := [.lit (.bool false)], args := [d] }
  | _ => none }
def SpanCommonsWrongFalsely : Prop := spanCommonsRow.holds Try.pinned (OpenSpec.ofChange spanCommonsWrong)

/-- 'polyglotlaw05.SpanTexts': WHATEVER THE INPUT: true; the input reads as it did. -/
def spanTextsSpec : ChangeSpec := { name := "spanTexts", fn := fun _ => fun
  | [d1, d2] => { results := [.lit (.bool true)], args := [d1, d2] }
  | _ => none }
def spanTextsRow : OpenClaim := { program := "ytpgcdengljfojaa", sum := "c6ace4f998062ddc78d8f0d33970ce7fb965d502fc5c4fc1c417a2a7bd6d54fc", func := "polyglot/polyglotlaw05.SpanTexts", spec := "spanTexts", apart := false }
def SpanTextsSaid : Prop := spanTextsRow.holds Try.pinned (OpenSpec.ofChange spanTextsSpec)

/-- ITS FALSE NEIGHBOUR: 'it returns false'. Refute it at one input. -/
def spanTextsWrong : ChangeSpec := { name := "spanTexts", fn := fun _ => fun
  | [d1, d2] => { results := [.lit (.bool false)], args := [d1, d2] }
  | _ => none }
def SpanTextsWrongFalsely : Prop := spanTextsRow.holds Try.pinned (OpenSpec.ofChange spanTextsWrong)

/-- 'polyglotlaw05.SpanHas': WHATEVER THE INPUT: true; the input reads as it did. -/
def spanHasSpec : ChangeSpec := { name := "spanHas", fn := fun _ => fun
  | [d1, d2, d3] => { results := [.lit (.bool true)], args := [d1, d2, d3] }
  | _ => none }
def spanHasRow : OpenClaim := { program := "ytpgcdengljfojaa", sum := "c6ace4f998062ddc78d8f0d33970ce7fb965d502fc5c4fc1c417a2a7bd6d54fc", func := "polyglot/polyglotlaw05.SpanHas", spec := "spanHas", apart := false }
def SpanHasSaid : Prop := spanHasRow.holds Try.pinned (OpenSpec.ofChange spanHasSpec)

/-- ITS FALSE NEIGHBOUR: 'it returns false'. Refute it at one input. -/
def spanHasWrong : ChangeSpec := { name := "spanHas", fn := fun _ => fun
  | [d1, d2, d3] => { results := [.lit (.bool false)], args := [d1, d2, d3] }
  | _ => none }
def SpanHasWrongFalsely : Prop := spanHasRow.holds Try.pinned (OpenSpec.ofChange spanHasWrong)

/-- 'polyglotlaw29.ErrandPlays': WHATEVER THE INPUT: true; the input reads as it did. -/
def errandPlaysSpec : ChangeSpec := { name := "errandPlays", fn := fun _ => fun
  | [d] => { results := [.lit (.bool true)], args := [d] }
  | _ => none }
def errandPlaysRow : OpenClaim := { program := "ytpgcdengljfojaa", sum := "c6ace4f998062ddc78d8f0d33970ce7fb965d502fc5c4fc1c417a2a7bd6d54fc", func := "polyglot/polyglotlaw29.ErrandPlays", spec := "errandPlays", unfollowed := true, recurses := true, apart := false }
def ErrandPlaysSaid : Prop := errandPlaysRow.holds Try.pinned (OpenSpec.ofChange errandPlaysSpec)

/-- ITS FALSE NEIGHBOUR: 'it returns false'. Refute it at one input. -/
def errandPlaysWrong : ChangeSpec := { name := "errandPlays", fn := fun _ => fun
  | [d] => { results := [.lit (.bool false)], args := [d] }
  | _ => none }
def ErrandPlaysWrongFalsely : Prop := errandPlaysRow.holds Try.pinned (OpenSpec.ofChange errandPlaysWrong)

/- THE SECOND FORM. 'bulk': how many values and letters a reading holds, each counted each time it is reached (what is shared counts as often as it is met; a slice's spare places count too). A statement '..UptoSaid' is the law's where the arguments, and the package variables that the reading takes, are together of bulk at most 1048576: NARROWER than '..Said'. Prove '..Said' where nothing that the law and all that it calls make is longer than what came in: it says more and counts as full. Else prove '..UptoSaid'. A law counts once. -/
mutual
def uptoBulk {H : Type} : DataW H → Nat
  | .lit (.string bytes) => bytes.length + 1
  | .lit _ => 1
  | .nil => 1
  | .ptr d => uptoBulk d + 1
  | .slice elems spare => uptoBulkAll elems + uptoBulkAll spare + 1
  | .agg parts => uptoBulkAll parts + 1
  | .iface _ d => uptoBulk d + 1
  | .map entries => uptoBulkEntries entries + 1
  | .held _ => 1
def uptoBulkAll {H : Type} : List (DataW H) → Nat
  | [] => 0
  | d :: r => uptoBulk d + uptoBulkAll r
def uptoBulkEntries {H : Type} : List (Lit × DataW H) → Nat
  | [] => 0
  | x :: r => uptoBulkEntry x + uptoBulkEntries r
def uptoBulkEntry {H : Type} : Lit × DataW H → Nat
  | (.string bytes, d) => bytes.length + uptoBulk d + 1
  | (_, d) => uptoBulk d + 1
 end
def uptoSmall : (H : Type) → List (DataW H) → Bool := fun _ ds => decide (uptoBulkAll ds ≤ 1048576)
def OpenSpec.upto (s : _root_.Go.ChangeSpec) : _root_.Go.OpenSpec := { _root_.Go.OpenSpec.ofChange s with cond := some uptoSmall }

/-- 'polyglotlaw28.ProbeFails', WHERE WHAT IT READS IS OF BULK AT MOST 1048576: true; the input reads as it did. -/
def probeFailsUptoRow : OpenClaim := { program := "ytpgcdengljfojaa", sum := "c6ace4f998062ddc78d8f0d33970ce7fb965d502fc5c4fc1c417a2a7bd6d54fc", func := "polyglot/polyglotlaw28.ProbeFails", spec := "probeFails", apart := false, narrowed := true }
def ProbeFailsUptoSaid : Prop := probeFailsUptoRow.holds Try.pinned (OpenSpec.upto probeFailsSpec)

/-- 'polyglotlaw05.SpanMeets', WHERE WHAT IT READS IS OF BULK AT MOST 1048576: true; the input reads as it did. -/
def spanMeetsUptoRow : OpenClaim := { program := "ytpgcdengljfojaa", sum := "c6ace4f998062ddc78d8f0d33970ce7fb965d502fc5c4fc1c417a2a7bd6d54fc", func := "polyglot/polyglotlaw05.SpanMeets", spec := "spanMeets", apart := false, narrowed := true }
def SpanMeetsUptoSaid : Prop := spanMeetsUptoRow.holds Try.pinned (OpenSpec.upto spanMeetsSpec)

/-- 'polyglotlaw05.SpanCommons', WHERE WHAT IT READS IS OF BULK AT MOST 1048576: true; the input reads as it did. -/
def spanCommonsUptoRow : OpenClaim := { program := "ytpgcdengljfojaa", sum := "c6ace4f998062ddc78d8f0d33970ce7fb965d502fc5c4fc1c417a2a7bd6d54fc", func := "polyglot/polyglotlaw05.SpanCommons", spec := "spanCommons", apart := false, narrowed := true }
def SpanCommonsUptoSaid : Prop := spanCommonsUptoRow.holds Try.pinned (OpenSpec.upto spanCommonsSpec)

/-- 'polyglotlaw05.SpanTexts', WHERE WHAT IT READS IS OF BULK AT MOST 1048576: true; the input reads as it did. -/
def spanTextsUptoRow : OpenClaim := { program := "ytpgcdengljfojaa", sum := "c6ace4f998062ddc78d8f0d33970ce7fb965d502fc5c4fc1c417a2a7bd6d54fc", func := "polyglot/polyglotlaw05.SpanTexts", spec := "spanTexts", apart := false, narrowed := true }
def SpanTextsUptoSaid : Prop := spanTextsUptoRow.holds Try.pinned (OpenSpec.upto spanTextsSpec)

/-- 'polyglotlaw05.SpanHas', WHERE WHAT IT READS IS OF BULK AT MOST 1048576: true; the input reads as it did. -/
def spanHasUptoRow : OpenClaim := { program := "ytpgcdengljfojaa", sum := "c6ace4f998062ddc78d8f0d33970ce7fb965d502fc5c4fc1c417a2a7bd6d54fc", func := "polyglot/polyglotlaw05.SpanHas", spec := "spanHas", apart := false, narrowed := true }
def SpanHasUptoSaid : Prop := spanHasUptoRow.holds Try.pinned (OpenSpec.upto spanHasSpec)

/-- 'polyglotlaw29.ErrandPlays', WHERE WHAT IT READS IS OF BULK AT MOST 1048576: true; the input reads as it did. -/
def errandPlaysUptoRow : OpenClaim := { program := "ytpgcdengljfojaa", sum := "c6ace4f998062ddc78d8f0d33970ce7fb965d502fc5c4fc1c417a2a7bd6d54fc", func := "polyglot/polyglotlaw29.ErrandPlays", spec := "errandPlays", unfollowed := true, recurses := true, apart := false, narrowed := true }
def ErrandPlaysUptoSaid : Prop := errandPlaysUptoRow.holds Try.pinned (OpenSpec.upto errandPlaysSpec)

end Rows
end Go.Proofs.Ytpgcdengljfojaa
