/-
  NARROWER THAN 'FOR EVERY INPUT', by the rows' own cells (each row's printed sentence says how): TrafficRows: laid.
  DERIVED. THE GIVEN ROWS OF THIS SEAT. 1 by the template 'for every input the law returns true; each argument reads behind the call as it read before'; 0 by the template 'total and deterministic' (their statements: YtgaakgeemnkeeaaGreatDoorTotals.lean).
  GIVEN WITH THE SEED: the statements are not yours to turn. If you find one false, say at which input.
  Laid BY PROGRAM, IN A SANDBOX (cutbox-rows.mjs): the forced cells as the released guide's own fill.sh prints them over the translation e7381ad61803eadc… (all of the seat's roots in one cut). By AI agents, Wed Nov 11 2026. No macro, syntax, notation, axiom, sorry.
-/
import Derived.Test.YtgaakgeemnkeeaaGreatDoorChecked
import GoSem.Claim
import GoSem.ClaimJoined
import GoSem.ClaimMapViews
import Derived.JoinedTies
import Derived.KernelRfl
namespace Go.Proofs.YtgaakgeemnkeeaaGreatDoor
/- THE CELL 'sum', in the pinned program and in every row, IS THE sha256 OF THE DUMP (.gsa) THAT YtgaakgeemnkeeaaGreatDoorProg.lean LOADS. Nothing in Lean hashes anything: it is a label: what it is worth is what the hold of that sum in a sandbox is worth. -/
noncomputable def Tryz.pinned : Pinned := { name := "ytgaakgeemnkeeaagreatdoor", sum := "e7381ad61803eadc52a4963d3f62cde9046a03134dc9a261e0b88438a1ab9baa", checked := Tryz.checked }
namespace Rows
def none {H : Type} : Left H := { results := [], args := [] }

/- WHAT THE LISTED PACKAGE-LEVEL VARIABLES READ AS WHEN THE CALL BEGINS. Each datum BY PROGRAM (the guide's laid-datum.mjs) off the statement by which the dump's own 'gosem.cut.vars' lays the variable. In a bare row this is a premise. The card (YtgaakgeemnkeeaaGreatDoorCards.lean) ties it to the program's text. -/
def laid_polyglot_crc_halves {H : Type} : DataW H := .agg [.lit (.int .u32 0), .lit (.int .u32 79764919), .lit (.int .u32 159529838), .lit (.int .u32 222504665), .lit (.int .u32 319059676), .lit (.int .u32 398814059), .lit (.int .u32 445009330), .lit (.int .u32 507990021), .lit (.int .u32 638119352), .lit (.int .u32 583659535), .lit (.int .u32 797628118), .lit (.int .u32 726387553), .lit (.int .u32 890018660), .lit (.int .u32 835552979), .lit (.int .u32 1015980042), .lit (.int .u32 944750013)]

/-- 'polyglotlaw43.TrafficRows': WHATEVER THE INPUT: true; the input reads as it did. -/
def trafficRowsSpec : ChangeSpec := { name := "trafficRows", fn := fun _ => fun
  | [d1, d2] => { results := [.lit (.bool true)], args := [d1, d2] }
  | _ => none }
def trafficRowsRow : OpenClaim := { program := "ytgaakgeemnkeeaagreatdoor", sum := "e7381ad61803eadc52a4963d3f62cde9046a03134dc9a261e0b88438a1ab9baa", func := "polyglot/polyglotlaw43.TrafficRows", spec := "trafficRows", unfollowed := true, recurses := true, named := ["polyglot/crc.halves"], plainKeys := false, apart := false, laid := [("polyglot/crc.halves", laid_polyglot_crc_halves)] }
def TrafficRowsSaid : Prop := trafficRowsRow.holds Tryz.pinned (OpenSpec.ofChange trafficRowsSpec)

/-- ITS FALSE NEIGHBOUR: 'it returns false'. Refute it at one input. -/
def trafficRowsWrong : ChangeSpec := { name := "trafficRows", fn := fun _ => fun
  | [d1, d2] => { results := [.lit (.bool false)], args := [d1, d2] }
  | _ => none }
def TrafficRowsWrongFalsely : Prop := trafficRowsRow.holds Tryz.pinned (OpenSpec.ofChange trafficRowsWrong)

/- THE SECOND FORM. 'bulk': how many values and letters a reading holds, each counted each time it is reached (what is shared counts as often as it is met; a slice's spare places count too). A statement '..UptoSaid' is the law's where the arguments, and the package variables that the reading takes, are together of bulk at most 1048576: NARROWER than '..Said'. Prove '..Said' where nothing that the law and all that it calls make is longer than what came in: it says more and counts as full. Else prove '..UptoSaid'. A law counts once. -/
mutual
def uptoBulk {H : Type} : DataW H → Nat
  | .lit (.string bytes) => bytes.length + 1
  | .lit _ => 1
  | .nil => 1
  | .ptr d => uptoBulk d + 1
  | .slice elems spare => uptoBulkAll elems + uptoBulkAll spare + 1
  | .agg parts => uptoBulkAll parts + 1
  | .iface _ d => uptoBulk d + 1
  | .map entries => uptoBulkEntries entries + 1
  | .held _ => 1
def uptoBulkAll {H : Type} : List (DataW H) → Nat
  | [] => 0
  | d :: r => uptoBulk d + uptoBulkAll r
def uptoBulkEntries {H : Type} : List (Lit × DataW H) → Nat
  | [] => 0
  | x :: r => uptoBulkEntry x + uptoBulkEntries r
def uptoBulkEntry {H : Type} : Lit × DataW H → Nat
  | (.string bytes, d) => bytes.length + uptoBulk d + 1
  | (_, d) => uptoBulk d + 1
 end
def uptoSmall : (H : Type) → List (DataW H) → Bool := fun _ ds => decide (uptoBulkAll ds ≤ 1048576)
def OpenSpec.upto (s : _root_.Go.ChangeSpec) : _root_.Go.OpenSpec := { _root_.Go.OpenSpec.ofChange s with cond := some uptoSmall }

/-- 'polyglotlaw43.TrafficRows', WHERE WHAT IT READS IS OF BULK AT MOST 1048576: true; the input reads as it did. -/
def trafficRowsUptoRow : OpenClaim := { program := "ytgaakgeemnkeeaagreatdoor", sum := "e7381ad61803eadc52a4963d3f62cde9046a03134dc9a261e0b88438a1ab9baa", func := "polyglot/polyglotlaw43.TrafficRows", spec := "trafficRows", unfollowed := true, recurses := true, named := ["polyglot/crc.halves"], plainKeys := false, apart := false, laid := [("polyglot/crc.halves", laid_polyglot_crc_halves)], narrowed := true }
def TrafficRowsUptoSaid : Prop := trafficRowsUptoRow.holds Tryz.pinned (OpenSpec.upto trafficRowsSpec)

end Rows
end Go.Proofs.YtgaakgeemnkeeaaGreatDoor
