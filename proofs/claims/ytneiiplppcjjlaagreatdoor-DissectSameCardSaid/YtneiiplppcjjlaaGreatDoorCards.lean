/-
  DERIVED. GIVEN WITH THE SEED: THE CARDS: each row of YtneiiplppcjjlaaGreatDoorRows.lean that lists a variable, with what it lists TIED to the program's text (the seventh form; the later family's looks); each row that meets fmt, with fmt's text TOLD by the authors' own Lean function (tested against real Go, not proved from fmt's source: count such statements apart). THE CARD IS WHAT COUNTS. Prove the row's statement (the work); the ties are given (YtneiiplppcjjlaaGreatDoorTie.lean); close each card by the builder's one call (the guide's Derived/Test/ToyasCard.lean, 'card_holds'). Laid BY PROGRAM, IN A SANDBOX (cutbox-door.mjs). By AI agents, Wed Nov 11 2026. No macro, syntax, notation, axiom, sorry.
-/
import Derived.Test.YtneiiplppcjjlaaGreatDoorRows
import GoSem.ClaimSeven
namespace Go.Proofs.YtneiiplppcjjlaaGreatDoor
namespace Rows

/-- THE TIED CARD OF 'polyglotlaw30.ParcelBack'. -/
def parcelBackCard : Claim7 := { stood := { row := parcelBackRow, standIns := [], harness := (true, "7f56fd0b3a73f309c59e77fbd84be1dadc43cc16a837bd7876cbbb970f836cba"), looks := false }, kinds := [], alts := [], laidByText := true, laidKinds := [.data], laidTests := true, laidLooks := .later }
def ParcelBackCardSaid : Prop := Claim7.holds Tryz.pinned (.plain (OpenSpec.ofChange parcelBackSpec)) parcelBackCard

/-- THE TIED CARD OF 'polyglotlaw30.ParcelOpens'. -/
def parcelOpensCard : Claim7 := { stood := { row := parcelOpensRow, standIns := [], harness := (true, "7f56fd0b3a73f309c59e77fbd84be1dadc43cc16a837bd7876cbbb970f836cba"), looks := false }, kinds := [], alts := [], laidByText := true, laidKinds := [.data], laidTests := true, laidLooks := .later }
def ParcelOpensCardSaid : Prop := Claim7.holds Tryz.pinned (.plain (OpenSpec.ofChange parcelOpensSpec)) parcelOpensCard

/-- THE TIED CARD OF 'polyglotlaw41.DissectSame'. -/
def dissectSameCard : Claim7 := { stood := { row := dissectSameRow, standIns := [], harness := (true, "7f56fd0b3a73f309c59e77fbd84be1dadc43cc16a837bd7876cbbb970f836cba"), looks := false }, kinds := [], alts := [], laidByText := true, laidKinds := [.data], laidTests := true, laidLooks := .later }
def DissectSameCardSaid : Prop := Claim7.holds Tryz.pinned (.plain (OpenSpec.ofChange dissectSameSpec)) dissectSameCard

/-- THE TIED CARD OF 'polyglotlaw41.DissectLines'. -/
def dissectLinesCard : Claim7 := { stood := { row := dissectLinesRow, standIns := [], harness := (true, "7f56fd0b3a73f309c59e77fbd84be1dadc43cc16a837bd7876cbbb970f836cba"), looks := false }, kinds := [], alts := [], laidByText := true, laidKinds := [.data], laidTests := true, laidLooks := .later }
def DissectLinesCardSaid : Prop := Claim7.holds Tryz.pinned (.plain (OpenSpec.ofChange dissectLinesSpec)) dissectLinesCard

/-- THE SECOND FORM's CARD OF 'polyglotlaw30.ParcelBack'. -/
def parcelBackUptoCard : Claim7 := { stood := { row := parcelBackUptoRow, standIns := [], harness := (true, "7f56fd0b3a73f309c59e77fbd84be1dadc43cc16a837bd7876cbbb970f836cba"), looks := false }, kinds := [], alts := [], laidByText := true, laidKinds := [.data], laidTests := true, laidLooks := .later }
def ParcelBackUptoCardSaid : Prop := Claim7.holds Tryz.pinned (.plain (OpenSpec.upto parcelBackSpec)) parcelBackUptoCard

/-- THE SECOND FORM's CARD OF 'polyglotlaw30.ParcelOpens'. -/
def parcelOpensUptoCard : Claim7 := { stood := { row := parcelOpensUptoRow, standIns := [], harness := (true, "7f56fd0b3a73f309c59e77fbd84be1dadc43cc16a837bd7876cbbb970f836cba"), looks := false }, kinds := [], alts := [], laidByText := true, laidKinds := [.data], laidTests := true, laidLooks := .later }
def ParcelOpensUptoCardSaid : Prop := Claim7.holds Tryz.pinned (.plain (OpenSpec.upto parcelOpensSpec)) parcelOpensUptoCard

/-- THE SECOND FORM's CARD OF 'polyglotlaw41.DissectSame'. -/
def dissectSameUptoCard : Claim7 := { stood := { row := dissectSameUptoRow, standIns := [], harness := (true, "7f56fd0b3a73f309c59e77fbd84be1dadc43cc16a837bd7876cbbb970f836cba"), looks := false }, kinds := [], alts := [], laidByText := true, laidKinds := [.data], laidTests := true, laidLooks := .later }
def DissectSameUptoCardSaid : Prop := Claim7.holds Tryz.pinned (.plain (OpenSpec.upto dissectSameSpec)) dissectSameUptoCard

/-- THE SECOND FORM's CARD OF 'polyglotlaw41.DissectLines'. -/
def dissectLinesUptoCard : Claim7 := { stood := { row := dissectLinesUptoRow, standIns := [], harness := (true, "7f56fd0b3a73f309c59e77fbd84be1dadc43cc16a837bd7876cbbb970f836cba"), looks := false }, kinds := [], alts := [], laidByText := true, laidKinds := [.data], laidTests := true, laidLooks := .later }
def DissectLinesUptoCardSaid : Prop := Claim7.holds Tryz.pinned (.plain (OpenSpec.upto dissectLinesSpec)) dissectLinesUptoCard
end Rows
end Go.Proofs.YtneiiplppcjjlaaGreatDoor
