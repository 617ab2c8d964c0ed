/-
  DERIVED. GIVEN WITH THE SEED: THE CARDS: each row of YtminghdnclpocaaGreatDoorRows.lean that lists a variable, with what it lists TIED to the program's text (the seventh form; the later family's looks); each row that meets fmt, with fmt's text TOLD by the authors' own Lean function (tested against real Go, not proved from fmt's source: count such statements apart). THE CARD IS WHAT COUNTS. Prove the row's statement (the work); the ties are given (YtminghdnclpocaaGreatDoorTie.lean); close each card by the builder's one call (the guide's Derived/Test/ToyasCard.lean, 'card_holds'). Laid BY PROGRAM, IN A SANDBOX (cutbox-door.mjs). By AI agents, Wed Nov 11 2026. No macro, syntax, notation, axiom, sorry.
-/
import Derived.Test.YtminghdnclpocaaGreatDoorRows
import GoSem.ClaimSeven
namespace Go.Proofs.YtminghdnclpocaaGreatDoor
namespace Rows

/-- THE TIED CARD OF 'dominolaw42.ParserParses'. -/
def parserParsesCard : Claim7 := { stood := { row := parserParsesRow, standIns := [], harness := (true, "76308a759f52a1a568a7dbbc5997d862d9166772ee3fc2a9fc3f71ee3e8d16af"), looks := true }, kinds := [], alts := [], laidByText := true, laidKinds := [.data, .data, .data, .data, .sentinel, .sentinel, .pinned], laidTests := true, laidLooks := .later }
def ParserParsesCardSaid : Prop := Claim7.holds Tryz.pinned (.plain (OpenSpec.ofChange parserParsesSpec)) parserParsesCard

/-- THE TIED CARD OF 'dominolaw42.ParserStops'. -/
def parserStopsCard : Claim7 := { stood := { row := parserStopsRow, standIns := [], harness := (true, "76308a759f52a1a568a7dbbc5997d862d9166772ee3fc2a9fc3f71ee3e8d16af"), looks := true }, kinds := [], alts := [], laidByText := true, laidKinds := [.data, .data, .data, .data, .sentinel, .sentinel, .pinned], laidTests := true, laidLooks := .later }
def ParserStopsCardSaid : Prop := Claim7.holds Tryz.pinned (.plain (OpenSpec.ofChange parserStopsSpec)) parserStopsCard

/-- THE TIED CARD OF 'dominolaw42.ParserCompares'. -/
def parserComparesCard : Claim7 := { stood := { row := parserComparesRow, standIns := [], harness := (true, "76308a759f52a1a568a7dbbc5997d862d9166772ee3fc2a9fc3f71ee3e8d16af"), looks := true }, kinds := [], alts := [], laidByText := true, laidKinds := [.data, .data, .data, .data, .sentinel, .sentinel, .pinned], laidTests := true, laidLooks := .later }
def ParserComparesCardSaid : Prop := Claim7.holds Tryz.pinned (.plain (OpenSpec.ofChange parserComparesSpec)) parserComparesCard

/-- THE TIED CARD OF 'dominolaw42.ParserHeads'. -/
def parserHeadsCard : Claim7 := { stood := { row := parserHeadsRow, standIns := [], harness := (true, "76308a759f52a1a568a7dbbc5997d862d9166772ee3fc2a9fc3f71ee3e8d16af"), looks := true }, kinds := [], alts := [], laidByText := true, laidKinds := [.data, .data, .data, .data, .sentinel, .sentinel, .pinned], laidTests := true, laidLooks := .later }
def ParserHeadsCardSaid : Prop := Claim7.holds Tryz.pinned (.plain (OpenSpec.ofChange parserHeadsSpec)) parserHeadsCard

/-- THE TIED CARD OF 'dominolaw42.ParserSpaces'. -/
def parserSpacesCard : Claim7 := { stood := { row := parserSpacesRow, standIns := [], harness := (true, "76308a759f52a1a568a7dbbc5997d862d9166772ee3fc2a9fc3f71ee3e8d16af"), looks := true }, kinds := [], alts := [], laidByText := true, laidKinds := [.data, .data, .data, .data, .sentinel, .sentinel, .pinned], laidTests := true, laidLooks := .later }
def ParserSpacesCardSaid : Prop := Claim7.holds Tryz.pinned (.plain (OpenSpec.ofChange parserSpacesSpec)) parserSpacesCard

/-- THE TIED CARD OF 'dominolaw42.ParserParens'. -/
def parserParensCard : Claim7 := { stood := { row := parserParensRow, standIns := [], harness := (true, "76308a759f52a1a568a7dbbc5997d862d9166772ee3fc2a9fc3f71ee3e8d16af"), looks := true }, kinds := [], alts := [], laidByText := true, laidKinds := [.data, .data, .data, .data, .sentinel, .sentinel, .pinned], laidTests := true, laidLooks := .later }
def ParserParensCardSaid : Prop := Claim7.holds Tryz.pinned (.plain (OpenSpec.ofChange parserParensSpec)) parserParensCard

/-- THE TIED CARD OF 'dominolaw42.ParserForms'. -/
def parserFormsCard : Claim7 := { stood := { row := parserFormsRow, standIns := [], harness := (true, "76308a759f52a1a568a7dbbc5997d862d9166772ee3fc2a9fc3f71ee3e8d16af"), looks := true }, kinds := [], alts := [], laidByText := true, laidKinds := [.data, .data, .data, .data, .sentinel, .sentinel, .pinned], laidTests := true, laidLooks := .later }
def ParserFormsCardSaid : Prop := Claim7.holds Tryz.pinned (.plain (OpenSpec.ofChange parserFormsSpec)) parserFormsCard

/-- THE SECOND FORM's CARD OF 'dominolaw42.ParserParses'. -/
def parserParsesUptoCard : Claim7 := { stood := { row := parserParsesUptoRow, standIns := [], harness := (true, "76308a759f52a1a568a7dbbc5997d862d9166772ee3fc2a9fc3f71ee3e8d16af"), looks := true }, kinds := [], alts := [], laidByText := true, laidKinds := [.data, .data, .data, .data, .sentinel, .sentinel, .pinned], laidTests := true, laidLooks := .later }
def ParserParsesUptoCardSaid : Prop := Claim7.holds Tryz.pinned (.plain (OpenSpec.upto parserParsesSpec)) parserParsesUptoCard

/-- THE SECOND FORM's CARD OF 'dominolaw42.ParserStops'. -/
def parserStopsUptoCard : Claim7 := { stood := { row := parserStopsUptoRow, standIns := [], harness := (true, "76308a759f52a1a568a7dbbc5997d862d9166772ee3fc2a9fc3f71ee3e8d16af"), looks := true }, kinds := [], alts := [], laidByText := true, laidKinds := [.data, .data, .data, .data, .sentinel, .sentinel, .pinned], laidTests := true, laidLooks := .later }
def ParserStopsUptoCardSaid : Prop := Claim7.holds Tryz.pinned (.plain (OpenSpec.upto parserStopsSpec)) parserStopsUptoCard

/-- THE SECOND FORM's CARD OF 'dominolaw42.ParserCompares'. -/
def parserComparesUptoCard : Claim7 := { stood := { row := parserComparesUptoRow, standIns := [], harness := (true, "76308a759f52a1a568a7dbbc5997d862d9166772ee3fc2a9fc3f71ee3e8d16af"), looks := true }, kinds := [], alts := [], laidByText := true, laidKinds := [.data, .data, .data, .data, .sentinel, .sentinel, .pinned], laidTests := true, laidLooks := .later }
def ParserComparesUptoCardSaid : Prop := Claim7.holds Tryz.pinned (.plain (OpenSpec.upto parserComparesSpec)) parserComparesUptoCard

/-- THE SECOND FORM's CARD OF 'dominolaw42.ParserHeads'. -/
def parserHeadsUptoCard : Claim7 := { stood := { row := parserHeadsUptoRow, standIns := [], harness := (true, "76308a759f52a1a568a7dbbc5997d862d9166772ee3fc2a9fc3f71ee3e8d16af"), looks := true }, kinds := [], alts := [], laidByText := true, laidKinds := [.data, .data, .data, .data, .sentinel, .sentinel, .pinned], laidTests := true, laidLooks := .later }
def ParserHeadsUptoCardSaid : Prop := Claim7.holds Tryz.pinned (.plain (OpenSpec.upto parserHeadsSpec)) parserHeadsUptoCard

/-- THE SECOND FORM's CARD OF 'dominolaw42.ParserSpaces'. -/
def parserSpacesUptoCard : Claim7 := { stood := { row := parserSpacesUptoRow, standIns := [], harness := (true, "76308a759f52a1a568a7dbbc5997d862d9166772ee3fc2a9fc3f71ee3e8d16af"), looks := true }, kinds := [], alts := [], laidByText := true, laidKinds := [.data, .data, .data, .data, .sentinel, .sentinel, .pinned], laidTests := true, laidLooks := .later }
def ParserSpacesUptoCardSaid : Prop := Claim7.holds Tryz.pinned (.plain (OpenSpec.upto parserSpacesSpec)) parserSpacesUptoCard

/-- THE SECOND FORM's CARD OF 'dominolaw42.ParserParens'. -/
def parserParensUptoCard : Claim7 := { stood := { row := parserParensUptoRow, standIns := [], harness := (true, "76308a759f52a1a568a7dbbc5997d862d9166772ee3fc2a9fc3f71ee3e8d16af"), looks := true }, kinds := [], alts := [], laidByText := true, laidKinds := [.data, .data, .data, .data, .sentinel, .sentinel, .pinned], laidTests := true, laidLooks := .later }
def ParserParensUptoCardSaid : Prop := Claim7.holds Tryz.pinned (.plain (OpenSpec.upto parserParensSpec)) parserParensUptoCard

/-- THE SECOND FORM's CARD OF 'dominolaw42.ParserForms'. -/
def parserFormsUptoCard : Claim7 := { stood := { row := parserFormsUptoRow, standIns := [], harness := (true, "76308a759f52a1a568a7dbbc5997d862d9166772ee3fc2a9fc3f71ee3e8d16af"), looks := true }, kinds := [], alts := [], laidByText := true, laidKinds := [.data, .data, .data, .data, .sentinel, .sentinel, .pinned], laidTests := true, laidLooks := .later }
def ParserFormsUptoCardSaid : Prop := Claim7.holds Tryz.pinned (.plain (OpenSpec.upto parserFormsSpec)) parserFormsUptoCard
end Rows
end Go.Proofs.YtminghdnclpocaaGreatDoor
