/-
  DERIVED. GIVEN WITH THE SEED: THE CARDS: each row of YthangnlmckeipaaGreatDoorRows.lean that lists a variable, with what it lists TIED to the program's text (the seventh form; the later family's looks); each row that meets fmt, with fmt's text TOLD by the authors' own Lean function (tested against real Go, not proved from fmt's source: count such statements apart). THE CARD IS WHAT COUNTS. Prove the row's statement (the work); the ties are given (YthangnlmckeipaaGreatDoorTie.lean); close each card by the builder's one call (the guide's Derived/Test/ToyasCard.lean, 'card_holds'). Laid BY PROGRAM, IN A SANDBOX (cutbox-door.mjs). By AI agents, Wed Nov 11 2026. No macro, syntax, notation, axiom, sorry.
-/
import Derived.Test.YthangnlmckeipaaGreatDoorRows
import GoSem.ClaimSeven
namespace Go.Proofs.YthangnlmckeipaaGreatDoor
namespace Rows

/-- THE TIED CARD OF 'polyglotlaw39.SayParses'. -/
def sayParsesCard : Claim7 := { stood := { row := sayParsesRow, standIns := [], harness := (true, "acceacf41988f24c40d8fbda90477dcb0669e49302460bda22ef914b14c1da6e"), looks := true }, kinds := [], alts := [], laidByText := true, laidKinds := [.data, .data, .data, .data, .sentinel, .sentinel, .pinned], laidTests := true, laidLooks := .later }
def SayParsesCardSaid : Prop := Claim7.holds Tryz.pinned (.plain (OpenSpec.ofChange sayParsesSpec)) sayParsesCard

/-- THE TIED CARD OF 'polyglotlaw39.SayActs'. -/
def sayActsCard : Claim7 := { stood := { row := sayActsRow, standIns := [], harness := (true, "acceacf41988f24c40d8fbda90477dcb0669e49302460bda22ef914b14c1da6e"), looks := true }, kinds := [], alts := [], laidByText := true, laidKinds := [.data, .data, .data, .data, .sentinel, .sentinel, .pinned], laidTests := true, laidLooks := .later }
def SayActsCardSaid : Prop := Claim7.holds Tryz.pinned (.plain (OpenSpec.ofChange sayActsSpec)) sayActsCard

/-- THE TIED CARD OF 'polyglotlaw39.SayTexts'. -/
def sayTextsCard : Claim7 := { stood := { row := sayTextsRow, standIns := [], harness := (true, "acceacf41988f24c40d8fbda90477dcb0669e49302460bda22ef914b14c1da6e"), looks := true }, kinds := [], alts := [], laidByText := true, laidKinds := [.data, .data, .data, .data, .sentinel, .sentinel, .pinned], laidTests := true, laidLooks := .later }
def SayTextsCardSaid : Prop := Claim7.holds Tryz.pinned (.plain (OpenSpec.ofChange sayTextsSpec)) sayTextsCard

/-- THE TIED CARD OF 'polyglotlaw39.SayScripts'. -/
def sayScriptsCard : Claim7 := { stood := { row := sayScriptsRow, standIns := [], harness := (true, "acceacf41988f24c40d8fbda90477dcb0669e49302460bda22ef914b14c1da6e"), looks := true }, kinds := [], alts := [], laidByText := true, laidKinds := [.data, .data, .data, .data, .sentinel, .sentinel, .pinned], laidTests := true, laidLooks := .later }
def SayScriptsCardSaid : Prop := Claim7.holds Tryz.pinned (.plain (OpenSpec.ofChange sayScriptsSpec)) sayScriptsCard

/-- THE SECOND FORM's CARD OF 'polyglotlaw39.SayParses'. -/
def sayParsesUptoCard : Claim7 := { stood := { row := sayParsesUptoRow, standIns := [], harness := (true, "acceacf41988f24c40d8fbda90477dcb0669e49302460bda22ef914b14c1da6e"), looks := true }, kinds := [], alts := [], laidByText := true, laidKinds := [.data, .data, .data, .data, .sentinel, .sentinel, .pinned], laidTests := true, laidLooks := .later }
def SayParsesUptoCardSaid : Prop := Claim7.holds Tryz.pinned (.plain (OpenSpec.upto sayParsesSpec)) sayParsesUptoCard

/-- THE SECOND FORM's CARD OF 'polyglotlaw39.SayActs'. -/
def sayActsUptoCard : Claim7 := { stood := { row := sayActsUptoRow, standIns := [], harness := (true, "acceacf41988f24c40d8fbda90477dcb0669e49302460bda22ef914b14c1da6e"), looks := true }, kinds := [], alts := [], laidByText := true, laidKinds := [.data, .data, .data, .data, .sentinel, .sentinel, .pinned], laidTests := true, laidLooks := .later }
def SayActsUptoCardSaid : Prop := Claim7.holds Tryz.pinned (.plain (OpenSpec.upto sayActsSpec)) sayActsUptoCard

/-- THE SECOND FORM's CARD OF 'polyglotlaw39.SayTexts'. -/
def sayTextsUptoCard : Claim7 := { stood := { row := sayTextsUptoRow, standIns := [], harness := (true, "acceacf41988f24c40d8fbda90477dcb0669e49302460bda22ef914b14c1da6e"), looks := true }, kinds := [], alts := [], laidByText := true, laidKinds := [.data, .data, .data, .data, .sentinel, .sentinel, .pinned], laidTests := true, laidLooks := .later }
def SayTextsUptoCardSaid : Prop := Claim7.holds Tryz.pinned (.plain (OpenSpec.upto sayTextsSpec)) sayTextsUptoCard

/-- THE SECOND FORM's CARD OF 'polyglotlaw39.SayScripts'. -/
def sayScriptsUptoCard : Claim7 := { stood := { row := sayScriptsUptoRow, standIns := [], harness := (true, "acceacf41988f24c40d8fbda90477dcb0669e49302460bda22ef914b14c1da6e"), looks := true }, kinds := [], alts := [], laidByText := true, laidKinds := [.data, .data, .data, .data, .sentinel, .sentinel, .pinned], laidTests := true, laidLooks := .later }
def SayScriptsUptoCardSaid : Prop := Claim7.holds Tryz.pinned (.plain (OpenSpec.upto sayScriptsSpec)) sayScriptsUptoCard
end Rows
end Go.Proofs.YthangnlmckeipaaGreatDoor
