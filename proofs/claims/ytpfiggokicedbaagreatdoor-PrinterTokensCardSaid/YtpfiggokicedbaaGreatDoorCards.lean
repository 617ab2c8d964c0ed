/-
  DERIVED. GIVEN WITH THE SEED: THE CARDS: each row of YtpfiggokicedbaaGreatDoorRows.lean that lists a variable, with what it lists TIED to the program's text (the seventh form; the later family's looks); each row that meets fmt, with fmt's text TOLD by the authors' own Lean function (tested against real Go, not proved from fmt's source: count such statements apart). THE CARD IS WHAT COUNTS. Prove the row's statement (the work); the ties are given (YtpfiggokicedbaaGreatDoorTie.lean); close each card by the builder's one call (the guide's Derived/Test/ToyasCard.lean, 'card_holds'). Laid BY PROGRAM, IN A SANDBOX (cutbox-door.mjs). By AI agents, Wed Nov 11 2026. No macro, syntax, notation, axiom, sorry.
-/
import Derived.Test.YtpfiggokicedbaaGreatDoorRows
import GoSem.ClaimSeven
namespace Go.Proofs.YtpfiggokicedbaaGreatDoor
namespace Rows

/-- THE TIED CARD OF 'dominolaw43.PrinterPrints'. -/
def printerPrintsCard : Claim7 := { stood := { row := printerPrintsRow, standIns := [], harness := (true, "1a32e16650462ae9cd5fcc0cd35c85693e9aec4e1c8eaf60ee802fe4e1d7e902"), looks := true }, kinds := [], alts := [], laidByText := true, laidKinds := [.data, .data, .data, .data, .sentinel, .sentinel, .pinned], laidTests := true, laidLooks := .later }
def PrinterPrintsCardSaid : Prop := Claim7.holds Tryz.pinned (.plain (OpenSpec.ofChange printerPrintsSpec)) printerPrintsCard

/-- THE TIED CARD OF 'dominolaw43.PrinterNodes'. -/
def printerNodesCard : Claim7 := { stood := { row := printerNodesRow, standIns := [], harness := (true, "1a32e16650462ae9cd5fcc0cd35c85693e9aec4e1c8eaf60ee802fe4e1d7e902"), looks := true }, kinds := [], alts := [], laidByText := true, laidKinds := [.data, .data, .data, .data, .sentinel, .sentinel, .pinned], laidTests := true, laidLooks := .later }
def PrinterNodesCardSaid : Prop := Claim7.holds Tryz.pinned (.plain (OpenSpec.ofChange printerNodesSpec)) printerNodesCard

/-- THE TIED CARD OF 'dominolaw43.PrinterTokens'. -/
def printerTokensCard : Claim7 := { stood := { row := printerTokensRow, standIns := [], harness := (true, "1a32e16650462ae9cd5fcc0cd35c85693e9aec4e1c8eaf60ee802fe4e1d7e902"), looks := true }, kinds := [], alts := [], laidByText := true, laidKinds := [.data, .data, .data, .data, .sentinel, .sentinel, .pinned], laidTests := true, laidLooks := .later }
def PrinterTokensCardSaid : Prop := Claim7.holds Tryz.pinned (.plain (OpenSpec.ofChange printerTokensSpec)) printerTokensCard

/-- THE TIED CARD OF 'dominolaw43.PrinterParts'. -/
def printerPartsCard : Claim7 := { stood := { row := printerPartsRow, standIns := [], harness := (true, "1a32e16650462ae9cd5fcc0cd35c85693e9aec4e1c8eaf60ee802fe4e1d7e902"), looks := true }, kinds := [], alts := [], laidByText := true, laidKinds := [.data, .data, .data, .data, .sentinel, .sentinel, .pinned], laidTests := true, laidLooks := .later }
def PrinterPartsCardSaid : Prop := Claim7.holds Tryz.pinned (.plain (OpenSpec.ofChange printerPartsSpec)) printerPartsCard

/-- THE TIED CARD OF 'dominolaw43.PrinterBack'. -/
def printerBackCard : Claim7 := { stood := { row := printerBackRow, standIns := [], harness := (true, "1a32e16650462ae9cd5fcc0cd35c85693e9aec4e1c8eaf60ee802fe4e1d7e902"), looks := true }, kinds := [], alts := [], laidByText := true, laidKinds := [.data, .data, .data, .data, .sentinel, .sentinel, .pinned], laidTests := true, laidLooks := .later }
def PrinterBackCardSaid : Prop := Claim7.holds Tryz.pinned (.plain (OpenSpec.ofChange printerBackSpec)) printerBackCard

/-- THE TIED CARD OF 'dominolaw43.PrinterSources'. -/
def printerSourcesCard : Claim7 := { stood := { row := printerSourcesRow, standIns := [], harness := (true, "1a32e16650462ae9cd5fcc0cd35c85693e9aec4e1c8eaf60ee802fe4e1d7e902"), looks := true }, kinds := [], alts := [], laidByText := true, laidKinds := [.data, .data, .data, .data, .sentinel, .sentinel, .pinned], laidTests := true, laidLooks := .later }
def PrinterSourcesCardSaid : Prop := Claim7.holds Tryz.pinned (.plain (OpenSpec.ofChange printerSourcesSpec)) printerSourcesCard

/-- THE TIED CARD OF 'dominolaw43.PrinterTidies'. -/
def printerTidiesCard : Claim7 := { stood := { row := printerTidiesRow, standIns := [], harness := (true, "1a32e16650462ae9cd5fcc0cd35c85693e9aec4e1c8eaf60ee802fe4e1d7e902"), looks := true }, kinds := [], alts := [], laidByText := true, laidKinds := [.data, .data, .data, .data, .sentinel, .sentinel, .pinned], laidTests := true, laidLooks := .later }
def PrinterTidiesCardSaid : Prop := Claim7.holds Tryz.pinned (.plain (OpenSpec.ofChange printerTidiesSpec)) printerTidiesCard

/-- THE SECOND FORM's CARD OF 'dominolaw43.PrinterPrints'. -/
def printerPrintsUptoCard : Claim7 := { stood := { row := printerPrintsUptoRow, standIns := [], harness := (true, "1a32e16650462ae9cd5fcc0cd35c85693e9aec4e1c8eaf60ee802fe4e1d7e902"), looks := true }, kinds := [], alts := [], laidByText := true, laidKinds := [.data, .data, .data, .data, .sentinel, .sentinel, .pinned], laidTests := true, laidLooks := .later }
def PrinterPrintsUptoCardSaid : Prop := Claim7.holds Tryz.pinned (.plain (OpenSpec.upto printerPrintsSpec)) printerPrintsUptoCard

/-- THE SECOND FORM's CARD OF 'dominolaw43.PrinterNodes'. -/
def printerNodesUptoCard : Claim7 := { stood := { row := printerNodesUptoRow, standIns := [], harness := (true, "1a32e16650462ae9cd5fcc0cd35c85693e9aec4e1c8eaf60ee802fe4e1d7e902"), looks := true }, kinds := [], alts := [], laidByText := true, laidKinds := [.data, .data, .data, .data, .sentinel, .sentinel, .pinned], laidTests := true, laidLooks := .later }
def PrinterNodesUptoCardSaid : Prop := Claim7.holds Tryz.pinned (.plain (OpenSpec.upto printerNodesSpec)) printerNodesUptoCard

/-- THE SECOND FORM's CARD OF 'dominolaw43.PrinterTokens'. -/
def printerTokensUptoCard : Claim7 := { stood := { row := printerTokensUptoRow, standIns := [], harness := (true, "1a32e16650462ae9cd5fcc0cd35c85693e9aec4e1c8eaf60ee802fe4e1d7e902"), looks := true }, kinds := [], alts := [], laidByText := true, laidKinds := [.data, .data, .data, .data, .sentinel, .sentinel, .pinned], laidTests := true, laidLooks := .later }
def PrinterTokensUptoCardSaid : Prop := Claim7.holds Tryz.pinned (.plain (OpenSpec.upto printerTokensSpec)) printerTokensUptoCard

/-- THE SECOND FORM's CARD OF 'dominolaw43.PrinterParts'. -/
def printerPartsUptoCard : Claim7 := { stood := { row := printerPartsUptoRow, standIns := [], harness := (true, "1a32e16650462ae9cd5fcc0cd35c85693e9aec4e1c8eaf60ee802fe4e1d7e902"), looks := true }, kinds := [], alts := [], laidByText := true, laidKinds := [.data, .data, .data, .data, .sentinel, .sentinel, .pinned], laidTests := true, laidLooks := .later }
def PrinterPartsUptoCardSaid : Prop := Claim7.holds Tryz.pinned (.plain (OpenSpec.upto printerPartsSpec)) printerPartsUptoCard

/-- THE SECOND FORM's CARD OF 'dominolaw43.PrinterBack'. -/
def printerBackUptoCard : Claim7 := { stood := { row := printerBackUptoRow, standIns := [], harness := (true, "1a32e16650462ae9cd5fcc0cd35c85693e9aec4e1c8eaf60ee802fe4e1d7e902"), looks := true }, kinds := [], alts := [], laidByText := true, laidKinds := [.data, .data, .data, .data, .sentinel, .sentinel, .pinned], laidTests := true, laidLooks := .later }
def PrinterBackUptoCardSaid : Prop := Claim7.holds Tryz.pinned (.plain (OpenSpec.upto printerBackSpec)) printerBackUptoCard

/-- THE SECOND FORM's CARD OF 'dominolaw43.PrinterSources'. -/
def printerSourcesUptoCard : Claim7 := { stood := { row := printerSourcesUptoRow, standIns := [], harness := (true, "1a32e16650462ae9cd5fcc0cd35c85693e9aec4e1c8eaf60ee802fe4e1d7e902"), looks := true }, kinds := [], alts := [], laidByText := true, laidKinds := [.data, .data, .data, .data, .sentinel, .sentinel, .pinned], laidTests := true, laidLooks := .later }
def PrinterSourcesUptoCardSaid : Prop := Claim7.holds Tryz.pinned (.plain (OpenSpec.upto printerSourcesSpec)) printerSourcesUptoCard

/-- THE SECOND FORM's CARD OF 'dominolaw43.PrinterTidies'. -/
def printerTidiesUptoCard : Claim7 := { stood := { row := printerTidiesUptoRow, standIns := [], harness := (true, "1a32e16650462ae9cd5fcc0cd35c85693e9aec4e1c8eaf60ee802fe4e1d7e902"), looks := true }, kinds := [], alts := [], laidByText := true, laidKinds := [.data, .data, .data, .data, .sentinel, .sentinel, .pinned], laidTests := true, laidLooks := .later }
def PrinterTidiesUptoCardSaid : Prop := Claim7.holds Tryz.pinned (.plain (OpenSpec.upto printerTidiesSpec)) printerTidiesUptoCard
end Rows
end Go.Proofs.YtpfiggokicedbaaGreatDoor
