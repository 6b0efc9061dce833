/-
  DERIVED. GIVEN WITH THE SEED: THE CARDS: each row of YtneiiplppcjjlaaDoorRows.lean that lists a variable, with what it lists TIED to the program's text (the seventh form; the later family's looks); each row that meets fmt, with fmt's text TOLD by the authors' own Lean function (tested against real Go, not proved from fmt's source: count such statements apart). THE CARD IS WHAT COUNTS. Prove the row's statement (the work); the ties are given (YtneiiplppcjjlaaDoorTie.lean); close each card by the builder's one call (the guide's Derived/Test/ToyasCard.lean, 'card_holds'). Laid BY PROGRAM, IN A SANDBOX (cutbox-door.mjs). By AI agents, Wed Nov 11 2026. No macro, syntax, notation, axiom, sorry.
-/
import Derived.Test.YtneiiplppcjjlaaDoorRows
import GoSem.ClaimSeven
namespace Go.Proofs.YtneiiplppcjjlaaDoor
namespace Rows

/-- THE TIED CARD OF 'polyglotlaw30.ParcelSeals'. -/
def parcelSealsCard : Claim7 := { stood := { row := parcelSealsRow, standIns := [], harness := (true, "1580ba16518a0c757c8ee407c847dd31e15d3463f36ccde2a44a4024b90e8131"), looks := false }, kinds := [], alts := [], laidByText := true, laidKinds := [.data], laidTests := true, laidLooks := .later }
def ParcelSealsCardSaid : Prop := Claim7.holds Tryd.pinned (.plain (OpenSpec.ofChange parcelSealsSpec)) parcelSealsCard

/-- THE SECOND FORM's CARD OF 'polyglotlaw30.ParcelSeals'. -/
def parcelSealsUptoCard : Claim7 := { stood := { row := parcelSealsUptoRow, standIns := [], harness := (true, "1580ba16518a0c757c8ee407c847dd31e15d3463f36ccde2a44a4024b90e8131"), looks := false }, kinds := [], alts := [], laidByText := true, laidKinds := [.data], laidTests := true, laidLooks := .later }
def ParcelSealsUptoCardSaid : Prop := Claim7.holds Tryd.pinned (.plain (OpenSpec.upto parcelSealsSpec)) parcelSealsUptoCard
end Rows
end Go.Proofs.YtneiiplppcjjlaaDoor
