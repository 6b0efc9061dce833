/-
  NARROWER THAN 'FOR EVERY INPUT', by the rows' own cells (each row's printed sentence says how): ParcelBack: laid · ParcelOpens: laid · DissectSame: laid · DissectLines: laid.
  DERIVED. THE GIVEN ROWS OF THIS SEAT. 4 by the template 'for every input the law returns true; each argument reads behind the call as it read before'; 0 by the template 'total and deterministic' (their statements: YtneiiplppcjjlaaGreatDoorTotals.lean).
  GIVEN WITH THE SEED: the statements are not yours to turn. If you find one false, say at which input.
  Laid BY PROGRAM, IN A SANDBOX (cutbox-rows.mjs): the forced cells as the released guide's own fill.sh prints them over the translation 3e29d95041c7ff21… (all of the seat's roots in one cut). By AI agents, Wed Nov 11 2026. No macro, syntax, notation, axiom, sorry.
-/
import Derived.Test.YtneiiplppcjjlaaGreatDoorChecked
import GoSem.Claim
import GoSem.ClaimJoined
import GoSem.ClaimMapViews
import Derived.JoinedTies
import Derived.KernelRfl
namespace Go.Proofs.YtneiiplppcjjlaaGreatDoor
/- THE CELL 'sum', in the pinned program and in every row, IS THE sha256 OF THE DUMP (.gsa) THAT YtneiiplppcjjlaaGreatDoorProg.lean LOADS. Nothing in Lean hashes anything: it is a label: what it is worth is what the hold of that sum in a sandbox is worth. -/
noncomputable def Tryz.pinned : Pinned := { name := "ytneiiplppcjjlaagreatdoor", sum := "3e29d95041c7ff21d9814cd7f6270c35f95c039757b5db7ae3bb37425526060b", checked := Tryz.checked }
namespace Rows
def none {H : Type} : Left H := { results := [], args := [] }

/- WHAT THE LISTED PACKAGE-LEVEL VARIABLES READ AS WHEN THE CALL BEGINS. Each datum BY PROGRAM (the guide's laid-datum.mjs) off the statement by which the dump's own 'gosem.cut.vars' lays the variable. In a bare row this is a premise. The card (YtneiiplppcjjlaaGreatDoorCards.lean) ties it to the program's text. -/
def laid_polyglot_crc_halves {H : Type} : DataW H := .agg [.lit (.int .u32 0), .lit (.int .u32 79764919), .lit (.int .u32 159529838), .lit (.int .u32 222504665), .lit (.int .u32 319059676), .lit (.int .u32 398814059), .lit (.int .u32 445009330), .lit (.int .u32 507990021), .lit (.int .u32 638119352), .lit (.int .u32 583659535), .lit (.int .u32 797628118), .lit (.int .u32 726387553), .lit (.int .u32 890018660), .lit (.int .u32 835552979), .lit (.int .u32 1015980042), .lit (.int .u32 944750013)]

/-- 'polyglotlaw30.ParcelBack': WHATEVER THE INPUT: true; the input reads as it did. -/
def parcelBackSpec : ChangeSpec := { name := "parcelBack", fn := fun _ => fun
  | [d1, d2, d3, d4, d5, d6] => { results := [.lit (.bool true)], args := [d1, d2, d3, d4, d5, d6] }
  | _ => none }
def parcelBackRow : OpenClaim := { program := "ytneiiplppcjjlaagreatdoor", sum := "3e29d95041c7ff21d9814cd7f6270c35f95c039757b5db7ae3bb37425526060b", func := "polyglot/polyglotlaw30.ParcelBack", spec := "parcelBack", unfollowed := true, recurses := true, named := ["polyglot/crc.halves"], apart := false, laid := [("polyglot/crc.halves", laid_polyglot_crc_halves)] }
def ParcelBackSaid : Prop := parcelBackRow.holds Tryz.pinned (OpenSpec.ofChange parcelBackSpec)

/-- ITS FALSE NEIGHBOUR: 'it returns false'. Refute it at one input. -/
def parcelBackWrong : ChangeSpec := { name := "parcelBack", fn := fun _ => fun
  | [d1, d2, d3, d4, d5, d6] => { results := [.lit (.bool false)], args := [d1, d2, d3, d4, d5, d6] }
  | _ => none }
def ParcelBackWrongFalsely : Prop := parcelBackRow.holds Tryz.pinned (OpenSpec.ofChange parcelBackWrong)

/-- 'polyglotlaw30.ParcelOpens': WHATEVER THE INPUT: true; the input reads as it did. -/
def parcelOpensSpec : ChangeSpec := { name := "parcelOpens", fn := fun _ => fun
  | [d1, d2, d3] => { results := [.lit (.bool true)], args := [d1, d2, d3] }
  | _ => none }
def parcelOpensRow : OpenClaim := { program := "ytneiiplppcjjlaagreatdoor", sum := "3e29d95041c7ff21d9814cd7f6270c35f95c039757b5db7ae3bb37425526060b", func := "polyglot/polyglotlaw30.ParcelOpens", spec := "parcelOpens", unfollowed := true, recurses := true, named := ["polyglot/crc.halves"], apart := false, laid := [("polyglot/crc.halves", laid_polyglot_crc_halves)] }
def ParcelOpensSaid : Prop := parcelOpensRow.holds Tryz.pinned (OpenSpec.ofChange parcelOpensSpec)

/-- ITS FALSE NEIGHBOUR: 'it returns false'. Refute it at one input. -/
def parcelOpensWrong : ChangeSpec := { name := "parcelOpens", fn := fun _ => fun
  | [d1, d2, d3] => { results := [.lit (.bool false)], args := [d1, d2, d3] }
  | _ => none }
def ParcelOpensWrongFalsely : Prop := parcelOpensRow.holds Tryz.pinned (OpenSpec.ofChange parcelOpensWrong)

/-- 'polyglotlaw41.DissectSame': WHATEVER THE INPUT: true; the input reads as it did. -/
def dissectSameSpec : ChangeSpec := { name := "dissectSame", fn := fun _ => fun
  | [d1, d2, d3] => { results := [.lit (.bool true)], args := [d1, d2, d3] }
  | _ => none }
def dissectSameRow : OpenClaim := { program := "ytneiiplppcjjlaagreatdoor", sum := "3e29d95041c7ff21d9814cd7f6270c35f95c039757b5db7ae3bb37425526060b", func := "polyglot/polyglotlaw41.DissectSame", spec := "dissectSame", inPlace := ["internal/abi.NoEscape", "internal/bytealg.MakeNoZero"], unfollowed := true, recurses := true, named := ["polyglot/crc.halves"], apart := false, laid := [("polyglot/crc.halves", laid_polyglot_crc_halves)] }
def DissectSameSaid : Prop := dissectSameRow.holds Tryz.pinned (OpenSpec.ofChange dissectSameSpec)

/-- ITS FALSE NEIGHBOUR: 'it returns false'. Refute it at one input. -/
def dissectSameWrong : ChangeSpec := { name := "dissectSame", fn := fun _ => fun
  | [d1, d2, d3] => { results := [.lit (.bool false)], args := [d1, d2, d3] }
  | _ => none }
def DissectSameWrongFalsely : Prop := dissectSameRow.holds Tryz.pinned (OpenSpec.ofChange dissectSameWrong)

/-- 'polyglotlaw41.DissectLines': WHATEVER THE INPUT: true; the input reads as it did. -/
def dissectLinesSpec : ChangeSpec := { name := "dissectLines", fn := fun _ => fun
  | [d] => { results := [.lit (.bool true)], args := [d] }
  | _ => none }
def dissectLinesRow : OpenClaim := { program := "ytneiiplppcjjlaagreatdoor", sum := "3e29d95041c7ff21d9814cd7f6270c35f95c039757b5db7ae3bb37425526060b", func := "polyglot/polyglotlaw41.DissectLines", spec := "dissectLines", inPlace := ["internal/abi.NoEscape", "internal/bytealg.MakeNoZero"], unfollowed := true, recurses := true, named := ["polyglot/crc.halves"], apart := false, laid := [("polyglot/crc.halves", laid_polyglot_crc_halves)] }
def DissectLinesSaid : Prop := dissectLinesRow.holds Tryz.pinned (OpenSpec.ofChange dissectLinesSpec)

/-- ITS FALSE NEIGHBOUR: 'it returns false'. Refute it at one input. -/
def dissectLinesWrong : ChangeSpec := { name := "dissectLines", fn := fun _ => fun
  | [d] => { results := [.lit (.bool false)], args := [d] }
  | _ => none }
def DissectLinesWrongFalsely : Prop := dissectLinesRow.holds Tryz.pinned (OpenSpec.ofChange dissectLinesWrong)

/- THE SECOND FORM. 'bulk': how many values and letters a reading holds, each counted each time it is reached (what is shared counts as often as it is met; a slice's spare places count too). A statement '..UptoSaid' is the law's where the arguments, and the package variables that the reading takes, are together of bulk at most 1048576: NARROWER than '..Said'. Prove '..Said' where nothing that the law and all that it calls make is longer than what came in: it says more and counts as full. Else prove '..UptoSaid'. A law counts once. -/
mutual
def uptoBulk {H : Type} : DataW H → Nat
  | .lit (.string bytes) => bytes.length + 1
  | .lit _ => 1
  | .nil => 1
  | .ptr d => uptoBulk d + 1
  | .slice elems spare => uptoBulkAll elems + uptoBulkAll spare + 1
  | .agg parts => uptoBulkAll parts + 1
  | .iface _ d => uptoBulk d + 1
  | .map entries => uptoBulkEntries entries + 1
  | .held _ => 1
def uptoBulkAll {H : Type} : List (DataW H) → Nat
  | [] => 0
  | d :: r => uptoBulk d + uptoBulkAll r
def uptoBulkEntries {H : Type} : List (Lit × DataW H) → Nat
  | [] => 0
  | x :: r => uptoBulkEntry x + uptoBulkEntries r
def uptoBulkEntry {H : Type} : Lit × DataW H → Nat
  | (.string bytes, d) => bytes.length + uptoBulk d + 1
  | (_, d) => uptoBulk d + 1
 end
def uptoSmall : (H : Type) → List (DataW H) → Bool := fun _ ds => decide (uptoBulkAll ds ≤ 1048576)
def OpenSpec.upto (s : _root_.Go.ChangeSpec) : _root_.Go.OpenSpec := { _root_.Go.OpenSpec.ofChange s with cond := some uptoSmall }

/-- 'polyglotlaw30.ParcelBack', WHERE WHAT IT READS IS OF BULK AT MOST 1048576: true; the input reads as it did. -/
def parcelBackUptoRow : OpenClaim := { program := "ytneiiplppcjjlaagreatdoor", sum := "3e29d95041c7ff21d9814cd7f6270c35f95c039757b5db7ae3bb37425526060b", func := "polyglot/polyglotlaw30.ParcelBack", spec := "parcelBack", unfollowed := true, recurses := true, named := ["polyglot/crc.halves"], apart := false, laid := [("polyglot/crc.halves", laid_polyglot_crc_halves)], narrowed := true }
def ParcelBackUptoSaid : Prop := parcelBackUptoRow.holds Tryz.pinned (OpenSpec.upto parcelBackSpec)

/-- 'polyglotlaw30.ParcelOpens', WHERE WHAT IT READS IS OF BULK AT MOST 1048576: true; the input reads as it did. -/
def parcelOpensUptoRow : OpenClaim := { program := "ytneiiplppcjjlaagreatdoor", sum := "3e29d95041c7ff21d9814cd7f6270c35f95c039757b5db7ae3bb37425526060b", func := "polyglot/polyglotlaw30.ParcelOpens", spec := "parcelOpens", unfollowed := true, recurses := true, named := ["polyglot/crc.halves"], apart := false, laid := [("polyglot/crc.halves", laid_polyglot_crc_halves)], narrowed := true }
def ParcelOpensUptoSaid : Prop := parcelOpensUptoRow.holds Tryz.pinned (OpenSpec.upto parcelOpensSpec)

/-- 'polyglotlaw41.DissectSame', WHERE WHAT IT READS IS OF BULK AT MOST 1048576: true; the input reads as it did. -/
def dissectSameUptoRow : OpenClaim := { program := "ytneiiplppcjjlaagreatdoor", sum := "3e29d95041c7ff21d9814cd7f6270c35f95c039757b5db7ae3bb37425526060b", func := "polyglot/polyglotlaw41.DissectSame", spec := "dissectSame", inPlace := ["internal/abi.NoEscape", "internal/bytealg.MakeNoZero"], unfollowed := true, recurses := true, named := ["polyglot/crc.halves"], apart := false, laid := [("polyglot/crc.halves", laid_polyglot_crc_halves)], narrowed := true }
def DissectSameUptoSaid : Prop := dissectSameUptoRow.holds Tryz.pinned (OpenSpec.upto dissectSameSpec)

/-- 'polyglotlaw41.DissectLines', WHERE WHAT IT READS IS OF BULK AT MOST 1048576: true; the input reads as it did. -/
def dissectLinesUptoRow : OpenClaim := { program := "ytneiiplppcjjlaagreatdoor", sum := "3e29d95041c7ff21d9814cd7f6270c35f95c039757b5db7ae3bb37425526060b", func := "polyglot/polyglotlaw41.DissectLines", spec := "dissectLines", inPlace := ["internal/abi.NoEscape", "internal/bytealg.MakeNoZero"], unfollowed := true, recurses := true, named := ["polyglot/crc.halves"], apart := false, laid := [("polyglot/crc.halves", laid_polyglot_crc_halves)], narrowed := true }
def DissectLinesUptoSaid : Prop := dissectLinesUptoRow.holds Tryz.pinned (OpenSpec.upto dissectLinesSpec)

end Rows
end Go.Proofs.YtneiiplppcjjlaaGreatDoor
