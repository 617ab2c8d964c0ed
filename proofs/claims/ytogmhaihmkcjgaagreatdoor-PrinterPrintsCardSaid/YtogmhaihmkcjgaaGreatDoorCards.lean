/-
  DERIVED. GIVEN WITH THE SEED: THE CARDS: each row of YtogmhaihmkcjgaaGreatDoorRows.lean that lists a variable, with what it lists TIED to the program's text (the seventh form; the later family's looks); each row that meets fmt, with fmt's text TOLD by the authors' own Lean function (tested against real Go, not proved from fmt's source: count such statements apart). THE CARD IS WHAT COUNTS. Prove the row's statement (the work); the ties are given (YtogmhaihmkcjgaaGreatDoorTie.lean); close each card by the builder's one call (the guide's Derived/Test/ToyasCard.lean, 'card_holds'). Laid BY PROGRAM, IN A SANDBOX (cutbox-door.mjs). By AI agents, Wed Nov 11 2026. No macro, syntax, notation, axiom, sorry.
-/
import Derived.Test.YtogmhaihmkcjgaaGreatDoorRows
import GoSem.ClaimSeven
namespace Go.Proofs.YtogmhaihmkcjgaaGreatDoor
namespace Rows

/-- THE TIED CARD OF 'dominotop.TopNormalises'. -/
def topNormalisesCard : Claim7 := { stood := { row := topNormalisesRow, standIns := [], harness := (true, "15b1a0286e8466e6122d296416bea1bc3e319ac3ac1ffa0ed3536dc060db9da6"), looks := true }, kinds := [], alts := [], laidByText := true, laidKinds := [.data, .data, .data, .data, .sentinel, .sentinel, .pinned], laidTests := true, laidLooks := .later }
def TopNormalisesCardSaid : Prop := Claim7.holds Tryz.pinned (.plain (OpenSpec.ofChange topNormalisesSpec)) topNormalisesCard

/-- THE TIED CARD OF 'dominotop.TopMeanings'. -/
def topMeaningsCard : Claim7 := { stood := { row := topMeaningsRow, standIns := [], harness := (true, "15b1a0286e8466e6122d296416bea1bc3e319ac3ac1ffa0ed3536dc060db9da6"), looks := true }, kinds := [], alts := [], laidByText := true, laidKinds := [.data, .data, .data, .data, .sentinel, .sentinel, .pinned], laidTests := true, laidLooks := .later }
def TopMeaningsCardSaid : Prop := Claim7.holds Tryz.pinned (.plain (OpenSpec.ofChange topMeaningsSpec)) topMeaningsCard

/-- THE TIED CARD OF 'dominolaw42.ParserParses'. -/
def parserParsesCard : Claim7 := { stood := { row := parserParsesRow, standIns := [], harness := (true, "15b1a0286e8466e6122d296416bea1bc3e319ac3ac1ffa0ed3536dc060db9da6"), looks := true }, kinds := [], alts := [], laidByText := true, laidKinds := [.data, .data, .data, .data, .sentinel, .sentinel, .pinned], laidTests := true, laidLooks := .later }
def ParserParsesCardSaid : Prop := Claim7.holds Tryz.pinned (.plain (OpenSpec.ofChange parserParsesSpec)) parserParsesCard

/-- THE TIED CARD OF 'dominolaw43.PrinterPrints'. -/
def printerPrintsCard : Claim7 := { stood := { row := printerPrintsRow, standIns := [], harness := (true, "15b1a0286e8466e6122d296416bea1bc3e319ac3ac1ffa0ed3536dc060db9da6"), looks := true }, kinds := [], alts := [], laidByText := true, laidKinds := [.data, .data, .data, .data, .sentinel, .sentinel, .pinned], laidTests := true, laidLooks := .later }
def PrinterPrintsCardSaid : Prop := Claim7.holds Tryz.pinned (.plain (OpenSpec.ofChange printerPrintsSpec)) printerPrintsCard

/-- THE TIED CARD OF 'dominolaw43.PrinterNodes'. -/
def printerNodesCard : Claim7 := { stood := { row := printerNodesRow, standIns := [], harness := (true, "15b1a0286e8466e6122d296416bea1bc3e319ac3ac1ffa0ed3536dc060db9da6"), looks := true }, kinds := [], alts := [], laidByText := true, laidKinds := [.data, .data, .data, .data, .sentinel, .sentinel, .pinned], laidTests := true, laidLooks := .later }
def PrinterNodesCardSaid : Prop := Claim7.holds Tryz.pinned (.plain (OpenSpec.ofChange printerNodesSpec)) printerNodesCard

/-- THE TIED CARD OF 'dominolaw43.PrinterSources'. -/
def printerSourcesCard : Claim7 := { stood := { row := printerSourcesRow, standIns := [], harness := (true, "15b1a0286e8466e6122d296416bea1bc3e319ac3ac1ffa0ed3536dc060db9da6"), looks := true }, kinds := [], alts := [], laidByText := true, laidKinds := [.data, .data, .data, .data, .sentinel, .sentinel, .pinned], laidTests := true, laidLooks := .later }
def PrinterSourcesCardSaid : Prop := Claim7.holds Tryz.pinned (.plain (OpenSpec.ofChange printerSourcesSpec)) printerSourcesCard

/-- THE SECOND FORM's CARD OF 'dominotop.TopNormalises'. -/
def topNormalisesUptoCard : Claim7 := { stood := { row := topNormalisesUptoRow, standIns := [], harness := (true, "15b1a0286e8466e6122d296416bea1bc3e319ac3ac1ffa0ed3536dc060db9da6"), looks := true }, kinds := [], alts := [], laidByText := true, laidKinds := [.data, .data, .data, .data, .sentinel, .sentinel, .pinned], laidTests := true, laidLooks := .later }
def TopNormalisesUptoCardSaid : Prop := Claim7.holds Tryz.pinned (.plain (OpenSpec.upto topNormalisesSpec)) topNormalisesUptoCard

/-- THE SECOND FORM's CARD OF 'dominotop.TopMeanings'. -/
def topMeaningsUptoCard : Claim7 := { stood := { row := topMeaningsUptoRow, standIns := [], harness := (true, "15b1a0286e8466e6122d296416bea1bc3e319ac3ac1ffa0ed3536dc060db9da6"), looks := true }, kinds := [], alts := [], laidByText := true, laidKinds := [.data, .data, .data, .data, .sentinel, .sentinel, .pinned], laidTests := true, laidLooks := .later }
def TopMeaningsUptoCardSaid : Prop := Claim7.holds Tryz.pinned (.plain (OpenSpec.upto topMeaningsSpec)) topMeaningsUptoCard

/-- THE SECOND FORM's CARD OF 'dominolaw42.ParserParses'. -/
def parserParsesUptoCard : Claim7 := { stood := { row := parserParsesUptoRow, standIns := [], harness := (true, "15b1a0286e8466e6122d296416bea1bc3e319ac3ac1ffa0ed3536dc060db9da6"), looks := true }, kinds := [], alts := [], laidByText := true, laidKinds := [.data, .data, .data, .data, .sentinel, .sentinel, .pinned], laidTests := true, laidLooks := .later }
def ParserParsesUptoCardSaid : Prop := Claim7.holds Tryz.pinned (.plain (OpenSpec.upto parserParsesSpec)) parserParsesUptoCard

/-- THE SECOND FORM's CARD OF 'dominolaw43.PrinterPrints'. -/
def printerPrintsUptoCard : Claim7 := { stood := { row := printerPrintsUptoRow, standIns := [], harness := (true, "15b1a0286e8466e6122d296416bea1bc3e319ac3ac1ffa0ed3536dc060db9da6"), looks := true }, kinds := [], alts := [], laidByText := true, laidKinds := [.data, .data, .data, .data, .sentinel, .sentinel, .pinned], laidTests := true, laidLooks := .later }
def PrinterPrintsUptoCardSaid : Prop := Claim7.holds Tryz.pinned (.plain (OpenSpec.upto printerPrintsSpec)) printerPrintsUptoCard

/-- THE SECOND FORM's CARD OF 'dominolaw43.PrinterNodes'. -/
def printerNodesUptoCard : Claim7 := { stood := { row := printerNodesUptoRow, standIns := [], harness := (true, "15b1a0286e8466e6122d296416bea1bc3e319ac3ac1ffa0ed3536dc060db9da6"), looks := true }, kinds := [], alts := [], laidByText := true, laidKinds := [.data, .data, .data, .data, .sentinel, .sentinel, .pinned], laidTests := true, laidLooks := .later }
def PrinterNodesUptoCardSaid : Prop := Claim7.holds Tryz.pinned (.plain (OpenSpec.upto printerNodesSpec)) printerNodesUptoCard

/-- THE SECOND FORM's CARD OF 'dominolaw43.PrinterSources'. -/
def printerSourcesUptoCard : Claim7 := { stood := { row := printerSourcesUptoRow, standIns := [], harness := (true, "15b1a0286e8466e6122d296416bea1bc3e319ac3ac1ffa0ed3536dc060db9da6"), looks := true }, kinds := [], alts := [], laidByText := true, laidKinds := [.data, .data, .data, .data, .sentinel, .sentinel, .pinned], laidTests := true, laidLooks := .later }
def PrinterSourcesUptoCardSaid : Prop := Claim7.holds Tryz.pinned (.plain (OpenSpec.upto printerSourcesSpec)) printerSourcesUptoCard
end Rows
end Go.Proofs.YtogmhaihmkcjgaaGreatDoor
