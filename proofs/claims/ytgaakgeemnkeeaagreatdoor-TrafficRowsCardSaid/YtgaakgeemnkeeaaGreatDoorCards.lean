/-
  DERIVED. GIVEN WITH THE SEED: THE CARDS: each row of YtgaakgeemnkeeaaGreatDoorRows.lean that lists a variable, with what it lists TIED to the program's text (the seventh form; the later family's looks); each row that meets fmt, with fmt's text TOLD by the authors' own Lean function (tested against real Go, not proved from fmt's source: count such statements apart). THE CARD IS WHAT COUNTS. Prove the row's statement (the work); the ties are given (YtgaakgeemnkeeaaGreatDoorTie.lean); close each card by the builder's one call (the guide's Derived/Test/ToyasCard.lean, 'card_holds'). Laid BY PROGRAM, IN A SANDBOX (cutbox-door.mjs). By AI agents, Wed Nov 11 2026. No macro, syntax, notation, axiom, sorry.
-/
import Derived.Test.YtgaakgeemnkeeaaGreatDoorRows
import GoSem.ClaimSeven
namespace Go.Proofs.YtgaakgeemnkeeaaGreatDoor
namespace Rows

/-- THE TIED CARD OF 'polyglotlaw43.TrafficRows'. -/
def trafficRowsCard : Claim7 := { stood := { row := trafficRowsRow, standIns := [], harness := (true, "90511865b6128f7b219185ec73b5a452d86b8ec55f3ff3b0426a2ede2e8e04ca"), looks := false }, kinds := [], alts := [], laidByText := true, laidKinds := [.data], laidTests := true, laidLooks := .later }
def TrafficRowsCardSaid : Prop := Claim7.holds Tryz.pinned (.plain (OpenSpec.ofChange trafficRowsSpec)) trafficRowsCard

/-- THE SECOND FORM's CARD OF 'polyglotlaw43.TrafficRows'. -/
def trafficRowsUptoCard : Claim7 := { stood := { row := trafficRowsUptoRow, standIns := [], harness := (true, "90511865b6128f7b219185ec73b5a452d86b8ec55f3ff3b0426a2ede2e8e04ca"), looks := false }, kinds := [], alts := [], laidByText := true, laidKinds := [.data], laidTests := true, laidLooks := .later }
def TrafficRowsUptoCardSaid : Prop := Claim7.holds Tryz.pinned (.plain (OpenSpec.upto trafficRowsSpec)) trafficRowsUptoCard
end Rows
end Go.Proofs.YtgaakgeemnkeeaaGreatDoor
