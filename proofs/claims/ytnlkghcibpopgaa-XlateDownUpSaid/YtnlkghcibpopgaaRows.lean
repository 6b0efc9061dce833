/-
  No cell of these rows narrows 'for every input' (looked for: loops, veiled, ifaces, maps, wideKeys, modest, calm, conditions, laid).
  DERIVED. THE GIVEN ROWS OF THIS SEAT. 13 by the template 'for every input the law returns true; each argument reads behind the call as it read before'; 0 by the template 'total and deterministic' (their statements: YtnlkghcibpopgaaTotals.lean).
  GIVEN WITH THE SEED: the statements are not yours to turn. If you find one false, say at which input.
  Laid BY PROGRAM, IN A SANDBOX (cutbox-rows.mjs): the forced cells as the released guide's own fill.sh prints them over the translation a2eb3abad5af280f… (all of the seat's roots in one cut). By AI agents, Wed Nov 11 2026. No macro, syntax, notation, axiom, sorry.
-/
import Derived.Test.YtnlkghcibpopgaaChecked
import GoSem.Claim
import GoSem.ClaimJoined
import GoSem.ClaimMapViews
import Derived.JoinedTies
import Derived.KernelRfl
namespace Go.Proofs.Ytnlkghcibpopgaa
/- THE CELL 'sum', in the pinned program and in every row, IS THE sha256 OF THE DUMP (.gsa) THAT YtnlkghcibpopgaaProg.lean LOADS. Nothing in Lean hashes anything: it is a label: what it is worth is what the hold of that sum in a sandbox is worth. -/
noncomputable def Try.pinned : Pinned := { name := "ytnlkghcibpopgaa", sum := "a2eb3abad5af280f2641b53d153775a106876b11f8c6730a8b399a2162c9e518", checked := Try.checked }
namespace Rows
def none {H : Type} : Left H := { results := [], args := [] }

/-- 'polyglotlaw15.Gen3Writes': WHATEVER THE INPUT: true; the input reads as it did. -/
def gen3WritesSpec : ChangeSpec := { name := "gen3Writes", fn := fun _ => fun
  | [d1, d2] => { results := [.lit (.bool true)], args := [d1, d2] }
  | _ => none }
def gen3WritesRow : OpenClaim := { program := "ytnlkghcibpopgaa", sum := "a2eb3abad5af280f2641b53d153775a106876b11f8c6730a8b399a2162c9e518", func := "polyglot/polyglotlaw15.Gen3Writes", spec := "gen3Writes", unfollowed := true, recurses := true, apart := false }
def Gen3WritesSaid : Prop := gen3WritesRow.holds Try.pinned (OpenSpec.ofChange gen3WritesSpec)

/-- ITS FALSE NEIGHBOUR: 'it returns false'. Refute it at one input. -/
def gen3WritesWrong : ChangeSpec := { name := "gen3Writes", fn := fun _ => fun
  | [d1, d2] => { results := [.lit (.bool false)], args := [d1, d2] }
  | _ => none }
def Gen3WritesWrongFalsely : Prop := gen3WritesRow.holds Try.pinned (OpenSpec.ofChange gen3WritesWrong)

/-- 'polyglotlaw15.Gen3Less': WHATEVER THE INPUT: true; the input reads as it did. -/
def gen3LessSpec : ChangeSpec := { name := "gen3Less", fn := fun _ => fun
  | [d] => { results := [.lit (.bool true)], args := [d] }
  | _ => none }
def gen3LessRow : OpenClaim := { program := "ytnlkghcibpopgaa", sum := "a2eb3abad5af280f2641b53d153775a106876b11f8c6730a8b399a2162c9e518", func := "polyglot/polyglotlaw15.Gen3Less", spec := "gen3Less", unfollowed := true, recurses := true, apart := false }
def Gen3LessSaid : Prop := gen3LessRow.holds Try.pinned (OpenSpec.ofChange gen3LessSpec)

/-- ITS FALSE NEIGHBOUR: 'it returns false'. Refute it at one input. -/
def gen3LessWrong : ChangeSpec := { name := "gen3Less", fn := fun _ => fun
  | [d] => { results := [.lit (.bool false)], args := [d] }
  | _ => none }
def Gen3LessWrongFalsely : Prop := gen3LessRow.holds Try.pinned (OpenSpec.ofChange gen3LessWrong)

/-- 'polyglotlaw15.Gen3Heads': WHATEVER THE INPUT: true; the input reads as it did. -/
def gen3HeadsSpec : ChangeSpec := { name := "gen3Heads", fn := fun _ => fun
  | [d] => { results := [.lit (.bool true)], args := [d] }
  | _ => none }
def gen3HeadsRow : OpenClaim := { program := "ytnlkghcibpopgaa", sum := "a2eb3abad5af280f2641b53d153775a106876b11f8c6730a8b399a2162c9e518", func := "polyglot/polyglotlaw15.Gen3Heads", spec := "gen3Heads", unfollowed := true, recurses := true, apart := false }
def Gen3HeadsSaid : Prop := gen3HeadsRow.holds Try.pinned (OpenSpec.ofChange gen3HeadsSpec)

/-- ITS FALSE NEIGHBOUR: 'it returns false'. Refute it at one input. -/
def gen3HeadsWrong : ChangeSpec := { name := "gen3Heads", fn := fun _ => fun
  | [d] => { results := [.lit (.bool false)], args := [d] }
  | _ => none }
def Gen3HeadsWrongFalsely : Prop := gen3HeadsRow.holds Try.pinned (OpenSpec.ofChange gen3HeadsWrong)

/-- 'polyglotlaw15.Gen3Back': WHATEVER THE INPUT: true; the input reads as it did. -/
def gen3BackSpec : ChangeSpec := { name := "gen3Back", fn := fun _ => fun
  | [d1, d2] => { results := [.lit (.bool true)], args := [d1, d2] }
  | _ => none }
def gen3BackRow : OpenClaim := { program := "ytnlkghcibpopgaa", sum := "a2eb3abad5af280f2641b53d153775a106876b11f8c6730a8b399a2162c9e518", func := "polyglot/polyglotlaw15.Gen3Back", spec := "gen3Back", unfollowed := true, recurses := true, apart := false }
def Gen3BackSaid : Prop := gen3BackRow.holds Try.pinned (OpenSpec.ofChange gen3BackSpec)

/-- ITS FALSE NEIGHBOUR: 'it returns false'. Refute it at one input. -/
def gen3BackWrong : ChangeSpec := { name := "gen3Back", fn := fun _ => fun
  | [d1, d2] => { results := [.lit (.bool false)], args := [d1, d2] }
  | _ => none }
def Gen3BackWrongFalsely : Prop := gen3BackRow.holds Try.pinned (OpenSpec.ofChange gen3BackWrong)

/-- 'polyglotlaw15.Gen3Image': WHATEVER THE INPUT: true; the input reads as it did. -/
def gen3ImageSpec : ChangeSpec := { name := "gen3Image", fn := fun _ => fun
  | [d1, d2] => { results := [.lit (.bool true)], args := [d1, d2] }
  | _ => none }
def gen3ImageRow : OpenClaim := { program := "ytnlkghcibpopgaa", sum := "a2eb3abad5af280f2641b53d153775a106876b11f8c6730a8b399a2162c9e518", func := "polyglot/polyglotlaw15.Gen3Image", spec := "gen3Image", unfollowed := true, recurses := true, apart := false }
def Gen3ImageSaid : Prop := gen3ImageRow.holds Try.pinned (OpenSpec.ofChange gen3ImageSpec)

/-- ITS FALSE NEIGHBOUR: 'it returns false'. Refute it at one input. -/
def gen3ImageWrong : ChangeSpec := { name := "gen3Image", fn := fun _ => fun
  | [d1, d2] => { results := [.lit (.bool false)], args := [d1, d2] }
  | _ => none }
def Gen3ImageWrongFalsely : Prop := gen3ImageRow.holds Try.pinned (OpenSpec.ofChange gen3ImageWrong)

/-- 'polyglotlaw17.XlateCodecs': WHATEVER THE INPUT: true; the input reads as it did. -/
def xlateCodecsSpec : ChangeSpec := { name := "xlateCodecs", fn := fun _ => fun
  | [d1, d2, d3, d4] => { results := [.lit (.bool true)], args := [d1, d2, d3, d4] }
  | _ => none }
def xlateCodecsRow : OpenClaim := { program := "ytnlkghcibpopgaa", sum := "a2eb3abad5af280f2641b53d153775a106876b11f8c6730a8b399a2162c9e518", func := "polyglot/polyglotlaw17.XlateCodecs", spec := "xlateCodecs", unfollowed := true, recurses := true, apart := false }
def XlateCodecsSaid : Prop := xlateCodecsRow.holds Try.pinned (OpenSpec.ofChange xlateCodecsSpec)

/-- ITS FALSE NEIGHBOUR: 'it returns false'. Refute it at one input. -/
def xlateCodecsWrong : ChangeSpec := { name := "xlateCodecs", fn := fun _ => fun
  | [d1, d2, d3, d4] => { results := [.lit (.bool false)], args := [d1, d2, d3, d4] }
  | _ => none }
def XlateCodecsWrongFalsely : Prop := xlateCodecsRow.holds Try.pinned (OpenSpec.ofChange xlateCodecsWrong)

/-- 'polyglotlaw17.XlateShifts': WHATEVER THE INPUT: true; the input reads as it did. -/
def xlateShiftsSpec : ChangeSpec := { name := "xlateShifts", fn := fun _ => fun
  | [d1, d2, d3] => { results := [.lit (.bool true)], args := [d1, d2, d3] }
  | _ => none }
def xlateShiftsRow : OpenClaim := { program := "ytnlkghcibpopgaa", sum := "a2eb3abad5af280f2641b53d153775a106876b11f8c6730a8b399a2162c9e518", func := "polyglot/polyglotlaw17.XlateShifts", spec := "xlateShifts", unfollowed := true, recurses := true, apart := false }
def XlateShiftsSaid : Prop := xlateShiftsRow.holds Try.pinned (OpenSpec.ofChange xlateShiftsSpec)

/-- ITS FALSE NEIGHBOUR: 'it returns false'. Refute it at one input. -/
def xlateShiftsWrong : ChangeSpec := { name := "xlateShifts", fn := fun _ => fun
  | [d1, d2, d3] => { results := [.lit (.bool false)], args := [d1, d2, d3] }
  | _ => none }
def XlateShiftsWrongFalsely : Prop := xlateShiftsRow.holds Try.pinned (OpenSpec.ofChange xlateShiftsWrong)

/-- 'polyglotlaw17.XlateUpDown': WHATEVER THE INPUT: true; the input reads as it did. -/
def xlateUpDownSpec : ChangeSpec := { name := "xlateUpDown", fn := fun _ => fun
  | [d1, d2, d3] => { results := [.lit (.bool true)], args := [d1, d2, d3] }
  | _ => none }
def xlateUpDownRow : OpenClaim := { program := "ytnlkghcibpopgaa", sum := "a2eb3abad5af280f2641b53d153775a106876b11f8c6730a8b399a2162c9e518", func := "polyglot/polyglotlaw17.XlateUpDown", spec := "xlateUpDown", unfollowed := true, recurses := true, apart := false }
def XlateUpDownSaid : Prop := xlateUpDownRow.holds Try.pinned (OpenSpec.ofChange xlateUpDownSpec)

/-- ITS FALSE NEIGHBOUR: 'it returns false'. Refute it at one input. -/
def xlateUpDownWrong : ChangeSpec := { name := "xlateUpDown", fn := fun _ => fun
  | [d1, d2, d3] => { results := [.lit (.bool false)], args := [d1, d2, d3] }
  | _ => none }
def XlateUpDownWrongFalsely : Prop := xlateUpDownRow.holds Try.pinned (OpenSpec.ofChange xlateUpDownWrong)

/-- 'polyglotlaw17.XlateChains': WHATEVER THE INPUT: true; the input reads as it did. -/
def xlateChainsSpec : ChangeSpec := { name := "xlateChains", fn := fun _ => fun
  | [d1, d2] => { results := [.lit (.bool true)], args := [d1, d2] }
  | _ => none }
def xlateChainsRow : OpenClaim := { program := "ytnlkghcibpopgaa", sum := "a2eb3abad5af280f2641b53d153775a106876b11f8c6730a8b399a2162c9e518", func := "polyglot/polyglotlaw17.XlateChains", spec := "xlateChains", unfollowed := true, recurses := true, apart := false }
def XlateChainsSaid : Prop := xlateChainsRow.holds Try.pinned (OpenSpec.ofChange xlateChainsSpec)

/-- ITS FALSE NEIGHBOUR: 'it returns false'. Refute it at one input. -/
def xlateChainsWrong : ChangeSpec := { name := "xlateChains", fn := fun _ => fun
  | [d1, d2] => { results := [.lit (.bool false)], args := [d1, d2] }
  | _ => none }
def XlateChainsWrongFalsely : Prop := xlateChainsRow.holds Try.pinned (OpenSpec.ofChange xlateChainsWrong)

/-- 'polyglotlaw17.XlateDownUp': WHATEVER THE INPUT: true; the input reads as it did. -/
def xlateDownUpSpec : ChangeSpec := { name := "xlateDownUp", fn := fun _ => fun
  | [d1, d2, d3] => { results := [.lit (.bool true)], args := [d1, d2, d3] }
  | _ => none }
def xlateDownUpRow : OpenClaim := { program := "ytnlkghcibpopgaa", sum := "a2eb3abad5af280f2641b53d153775a106876b11f8c6730a8b399a2162c9e518", func := "polyglot/polyglotlaw17.XlateDownUp", spec := "xlateDownUp", unfollowed := true, recurses := true, apart := false }
def XlateDownUpSaid : Prop := xlateDownUpRow.holds Try.pinned (OpenSpec.ofChange xlateDownUpSpec)

/-- ITS FALSE NEIGHBOUR: 'it returns false'. Refute it at one input. -/
def xlateDownUpWrong : ChangeSpec := { name := "xlateDownUp", fn := fun _ => fun
  | [d1, d2, d3] => { results := [.lit (.bool false)], args := [d1, d2, d3] }
  | _ => none }
def XlateDownUpWrongFalsely : Prop := xlateDownUpRow.holds Try.pinned (OpenSpec.ofChange xlateDownUpWrong)

/-- 'polyglotlaw40.LabelRecs': WHATEVER THE INPUT: true; the input reads as it did. -/
def labelRecsSpec : ChangeSpec := { name := "labelRecs", fn := fun _ => fun
  | [d] => { results := [.lit (.bool true)], args := [d] }
  | _ => none }
def labelRecsRow : OpenClaim := { program := "ytnlkghcibpopgaa", sum := "a2eb3abad5af280f2641b53d153775a106876b11f8c6730a8b399a2162c9e518", func := "polyglot/polyglotlaw40.LabelRecs", spec := "labelRecs", inPlace := ["internal/abi.NoEscape", "internal/bytealg.MakeNoZero"], recurses := true, apart := false }
def LabelRecsSaid : Prop := labelRecsRow.holds Try.pinned (OpenSpec.ofChange labelRecsSpec)

/-- ITS FALSE NEIGHBOUR: 'it returns false'. Refute it at one input. -/
def labelRecsWrong : ChangeSpec := { name := "labelRecs", fn := fun _ => fun
  | [d] => { results := [.lit (.bool false)], args := [d] }
  | _ => none }
def LabelRecsWrongFalsely : Prop := labelRecsRow.holds Try.pinned (OpenSpec.ofChange labelRecsWrong)

/-- 'polyglotlaw40.LabelMsgs': WHATEVER THE INPUT: true; the input reads as it did. -/
def labelMsgsSpec : ChangeSpec := { name := "labelMsgs", fn := fun _ => fun
  | [d] => { results := [.lit (.bool true)], args := [d] }
  | _ => none }
def labelMsgsRow : OpenClaim := { program := "ytnlkghcibpopgaa", sum := "a2eb3abad5af280f2641b53d153775a106876b11f8c6730a8b399a2162c9e518", func := "polyglot/polyglotlaw40.LabelMsgs", spec := "labelMsgs", inPlace := ["internal/abi.NoEscape", "internal/bytealg.MakeNoZero"], recurses := true, apart := false }
def LabelMsgsSaid : Prop := labelMsgsRow.holds Try.pinned (OpenSpec.ofChange labelMsgsSpec)

/-- ITS FALSE NEIGHBOUR: 'it returns false'. Refute it at one input. -/
def labelMsgsWrong : ChangeSpec := { name := "labelMsgs", fn := fun _ => fun
  | [d] => { results := [.lit (.bool false)], args := [d] }
  | _ => none }
def LabelMsgsWrongFalsely : Prop := labelMsgsRow.holds Try.pinned (OpenSpec.ofChange labelMsgsWrong)

/-- 'polyglotlaw40.LabelNums': WHATEVER THE INPUT: true; the input reads as it did. -/
def labelNumsSpec : ChangeSpec := { name := "labelNums", fn := fun _ => fun
  | [d1, d2] => { results := [.lit (.bool true)], args := [d1, d2] }
  | _ => none }
def labelNumsRow : OpenClaim := { program := "ytnlkghcibpopgaa", sum := "a2eb3abad5af280f2641b53d153775a106876b11f8c6730a8b399a2162c9e518", func := "polyglot/polyglotlaw40.LabelNums", spec := "labelNums", inPlace := ["internal/abi.NoEscape", "internal/bytealg.MakeNoZero"], recurses := true, apart := false }
def LabelNumsSaid : Prop := labelNumsRow.holds Try.pinned (OpenSpec.ofChange labelNumsSpec)

/-- ITS FALSE NEIGHBOUR: 'it returns false'. Refute it at one input. -/
def labelNumsWrong : ChangeSpec := { name := "labelNums", fn := fun _ => fun
  | [d1, d2] => { results := [.lit (.bool false)], args := [d1, d2] }
  | _ => none }
def LabelNumsWrongFalsely : Prop := labelNumsRow.holds Try.pinned (OpenSpec.ofChange labelNumsWrong)

/- THE SECOND FORM. 'bulk': how many values and letters a reading holds, each counted each time it is reached (what is shared counts as often as it is met; a slice's spare places count too). A statement '..UptoSaid' is the law's where the arguments, and the package variables that the reading takes, are together of bulk at most 1048576: NARROWER than '..Said'. Prove '..Said' where nothing that the law and all that it calls make is longer than what came in: it says more and counts as full. Else prove '..UptoSaid'. A law counts once. -/
mutual
def uptoBulk {H : Type} : DataW H → Nat
  | .lit (.string bytes) => bytes.length + 1
  | .lit _ => 1
  | .nil => 1
  | .ptr d => uptoBulk d + 1
  | .slice elems spare => uptoBulkAll elems + uptoBulkAll spare + 1
  | .agg parts => uptoBulkAll parts + 1
  | .iface _ d => uptoBulk d + 1
  | .map entries => uptoBulkEntries entries + 1
  | .held _ => 1
def uptoBulkAll {H : Type} : List (DataW H) → Nat
  | [] => 0
  | d :: r => uptoBulk d + uptoBulkAll r
def uptoBulkEntries {H : Type} : List (Lit × DataW H) → Nat
  | [] => 0
  | x :: r => uptoBulkEntry x + uptoBulkEntries r
def uptoBulkEntry {H : Type} : Lit × DataW H → Nat
  | (.string bytes, d) => bytes.length + uptoBulk d + 1
  | (_, d) => uptoBulk d + 1
 end
def uptoSmall : (H : Type) → List (DataW H) → Bool := fun _ ds => decide (uptoBulkAll ds ≤ 1048576)
def OpenSpec.upto (s : _root_.Go.ChangeSpec) : _root_.Go.OpenSpec := { _root_.Go.OpenSpec.ofChange s with cond := some uptoSmall }

/-- 'polyglotlaw15.Gen3Writes', WHERE WHAT IT READS IS OF BULK AT MOST 1048576: true; the input reads as it did. -/
def gen3WritesUptoRow : OpenClaim := { program := "ytnlkghcibpopgaa", sum := "a2eb3abad5af280f2641b53d153775a106876b11f8c6730a8b399a2162c9e518", func := "polyglot/polyglotlaw15.Gen3Writes", spec := "gen3Writes", unfollowed := true, recurses := true, apart := false, narrowed := true }
def Gen3WritesUptoSaid : Prop := gen3WritesUptoRow.holds Try.pinned (OpenSpec.upto gen3WritesSpec)

/-- 'polyglotlaw15.Gen3Less', WHERE WHAT IT READS IS OF BULK AT MOST 1048576: true; the input reads as it did. -/
def gen3LessUptoRow : OpenClaim := { program := "ytnlkghcibpopgaa", sum := "a2eb3abad5af280f2641b53d153775a106876b11f8c6730a8b399a2162c9e518", func := "polyglot/polyglotlaw15.Gen3Less", spec := "gen3Less", unfollowed := true, recurses := true, apart := false, narrowed := true }
def Gen3LessUptoSaid : Prop := gen3LessUptoRow.holds Try.pinned (OpenSpec.upto gen3LessSpec)

/-- 'polyglotlaw15.Gen3Heads', WHERE WHAT IT READS IS OF BULK AT MOST 1048576: true; the input reads as it did. -/
def gen3HeadsUptoRow : OpenClaim := { program := "ytnlkghcibpopgaa", sum := "a2eb3abad5af280f2641b53d153775a106876b11f8c6730a8b399a2162c9e518", func := "polyglot/polyglotlaw15.Gen3Heads", spec := "gen3Heads", unfollowed := true, recurses := true, apart := false, narrowed := true }
def Gen3HeadsUptoSaid : Prop := gen3HeadsUptoRow.holds Try.pinned (OpenSpec.upto gen3HeadsSpec)

/-- 'polyglotlaw15.Gen3Back', WHERE WHAT IT READS IS OF BULK AT MOST 1048576: true; the input reads as it did. -/
def gen3BackUptoRow : OpenClaim := { program := "ytnlkghcibpopgaa", sum := "a2eb3abad5af280f2641b53d153775a106876b11f8c6730a8b399a2162c9e518", func := "polyglot/polyglotlaw15.Gen3Back", spec := "gen3Back", unfollowed := true, recurses := true, apart := false, narrowed := true }
def Gen3BackUptoSaid : Prop := gen3BackUptoRow.holds Try.pinned (OpenSpec.upto gen3BackSpec)

/-- 'polyglotlaw15.Gen3Image', WHERE WHAT IT READS IS OF BULK AT MOST 1048576: true; the input reads as it did. -/
def gen3ImageUptoRow : OpenClaim := { program := "ytnlkghcibpopgaa", sum := "a2eb3abad5af280f2641b53d153775a106876b11f8c6730a8b399a2162c9e518", func := "polyglot/polyglotlaw15.Gen3Image", spec := "gen3Image", unfollowed := true, recurses := true, apart := false, narrowed := true }
def Gen3ImageUptoSaid : Prop := gen3ImageUptoRow.holds Try.pinned (OpenSpec.upto gen3ImageSpec)

/-- 'polyglotlaw17.XlateCodecs', WHERE WHAT IT READS IS OF BULK AT MOST 1048576: true; the input reads as it did. -/
def xlateCodecsUptoRow : OpenClaim := { program := "ytnlkghcibpopgaa", sum := "a2eb3abad5af280f2641b53d153775a106876b11f8c6730a8b399a2162c9e518", func := "polyglot/polyglotlaw17.XlateCodecs", spec := "xlateCodecs", unfollowed := true, recurses := true, apart := false, narrowed := true }
def XlateCodecsUptoSaid : Prop := xlateCodecsUptoRow.holds Try.pinned (OpenSpec.upto xlateCodecsSpec)

/-- 'polyglotlaw17.XlateShifts', WHERE WHAT IT READS IS OF BULK AT MOST 1048576: true; the input reads as it did. -/
def xlateShiftsUptoRow : OpenClaim := { program := "ytnlkghcibpopgaa", sum := "a2eb3abad5af280f2641b53d153775a106876b11f8c6730a8b399a2162c9e518", func := "polyglot/polyglotlaw17.XlateShifts", spec := "xlateShifts", unfollowed := true, recurses := true, apart := false, narrowed := true }
def XlateShiftsUptoSaid : Prop := xlateShiftsUptoRow.holds Try.pinned (OpenSpec.upto xlateShiftsSpec)

/-- 'polyglotlaw17.XlateUpDown', WHERE WHAT IT READS IS OF BULK AT MOST 1048576: true; the input reads as it did. -/
def xlateUpDownUptoRow : OpenClaim := { program := "ytnlkghcibpopgaa", sum := "a2eb3abad5af280f2641b53d153775a106876b11f8c6730a8b399a2162c9e518", func := "polyglot/polyglotlaw17.XlateUpDown", spec := "xlateUpDown", unfollowed := true, recurses := true, apart := false, narrowed := true }
def XlateUpDownUptoSaid : Prop := xlateUpDownUptoRow.holds Try.pinned (OpenSpec.upto xlateUpDownSpec)

/-- 'polyglotlaw17.XlateChains', WHERE WHAT IT READS IS OF BULK AT MOST 1048576: true; the input reads as it did. -/
def xlateChainsUptoRow : OpenClaim := { program := "ytnlkghcibpopgaa", sum := "a2eb3abad5af280f2641b53d153775a106876b11f8c6730a8b399a2162c9e518", func := "polyglot/polyglotlaw17.XlateChains", spec := "xlateChains", unfollowed := true, recurses := true, apart := false, narrowed := true }
def XlateChainsUptoSaid : Prop := xlateChainsUptoRow.holds Try.pinned (OpenSpec.upto xlateChainsSpec)

/-- 'polyglotlaw17.XlateDownUp', WHERE WHAT IT READS IS OF BULK AT MOST 1048576: true; the input reads as it did. -/
def xlateDownUpUptoRow : OpenClaim := { program := "ytnlkghcibpopgaa", sum := "a2eb3abad5af280f2641b53d153775a106876b11f8c6730a8b399a2162c9e518", func := "polyglot/polyglotlaw17.XlateDownUp", spec := "xlateDownUp", unfollowed := true, recurses := true, apart := false, narrowed := true }
def XlateDownUpUptoSaid : Prop := xlateDownUpUptoRow.holds Try.pinned (OpenSpec.upto xlateDownUpSpec)

/-- 'polyglotlaw40.LabelRecs', WHERE WHAT IT READS IS OF BULK AT MOST 1048576: true; the input reads as it did. -/
def labelRecsUptoRow : OpenClaim := { program := "ytnlkghcibpopgaa", sum := "a2eb3abad5af280f2641b53d153775a106876b11f8c6730a8b399a2162c9e518", func := "polyglot/polyglotlaw40.LabelRecs", spec := "labelRecs", inPlace := ["internal/abi.NoEscape", "internal/bytealg.MakeNoZero"], recurses := true, apart := false, narrowed := true }
def LabelRecsUptoSaid : Prop := labelRecsUptoRow.holds Try.pinned (OpenSpec.upto labelRecsSpec)

/-- 'polyglotlaw40.LabelMsgs', WHERE WHAT IT READS IS OF BULK AT MOST 1048576: true; the input reads as it did. -/
def labelMsgsUptoRow : OpenClaim := { program := "ytnlkghcibpopgaa", sum := "a2eb3abad5af280f2641b53d153775a106876b11f8c6730a8b399a2162c9e518", func := "polyglot/polyglotlaw40.LabelMsgs", spec := "labelMsgs", inPlace := ["internal/abi.NoEscape", "internal/bytealg.MakeNoZero"], recurses := true, apart := false, narrowed := true }
def LabelMsgsUptoSaid : Prop := labelMsgsUptoRow.holds Try.pinned (OpenSpec.upto labelMsgsSpec)

/-- 'polyglotlaw40.LabelNums', WHERE WHAT IT READS IS OF BULK AT MOST 1048576: true; the input reads as it did. -/
def labelNumsUptoRow : OpenClaim := { program := "ytnlkghcibpopgaa", sum := "a2eb3abad5af280f2641b53d153775a106876b11f8c6730a8b399a2162c9e518", func := "polyglot/polyglotlaw40.LabelNums", spec := "labelNums", inPlace := ["internal/abi.NoEscape", "internal/bytealg.MakeNoZero"], recurses := true, apart := false, narrowed := true }
def LabelNumsUptoSaid : Prop := labelNumsUptoRow.holds Try.pinned (OpenSpec.upto labelNumsSpec)

end Rows
end Go.Proofs.Ytnlkghcibpopgaa
