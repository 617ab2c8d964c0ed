/-
  DERIVED. GIVEN WITH THE SEED: THE CARDS: each row of YtmdjhakamapngaaGreatDoorRows.lean that lists a variable, with what it lists TIED to the program's text (the seventh form; the later family's looks); each row that meets fmt, with fmt's text TOLD by the authors' own Lean function (tested against real Go, not proved from fmt's source: count such statements apart). THE CARD IS WHAT COUNTS. Prove the row's statement (the work); the ties are given (YtmdjhakamapngaaGreatDoorTie.lean); close each card by the builder's one call (the guide's Derived/Test/ToyasCard.lean, 'card_holds'). Laid BY PROGRAM, IN A SANDBOX (cutbox-door.mjs). By AI agents, Wed Nov 11 2026. No macro, syntax, notation, axiom, sorry.
-/
import Derived.Test.YtmdjhakamapngaaGreatDoorRows
import GoSem.ClaimSeven
namespace Go.Proofs.YtmdjhakamapngaaGreatDoor
namespace Rows

/-- THE TIED CARD OF 'dominolaw39.SchemaEncodes'. -/
def schemaEncodesCard : Claim7 := { stood := { row := schemaEncodesRow, standIns := [], harness := (true, "d583d0a1f26f4b5cdb8941ba4051c1f384c55943715f296b79bbac20fbd2c542"), looks := true }, kinds := [], alts := [], laidByText := true, laidKinds := [.data, .data, .data, .sentinel, .sentinel], laidTests := true, laidLooks := .later }
def SchemaEncodesCardSaid : Prop := Claim7.holds Tryz.pinned (.plain (OpenSpec.ofChange schemaEncodesSpec)) schemaEncodesCard

/-- THE SECOND FORM's CARD OF 'dominolaw39.SchemaEncodes'. -/
def schemaEncodesUptoCard : Claim7 := { stood := { row := schemaEncodesUptoRow, standIns := [], harness := (true, "d583d0a1f26f4b5cdb8941ba4051c1f384c55943715f296b79bbac20fbd2c542"), looks := true }, kinds := [], alts := [], laidByText := true, laidKinds := [.data, .data, .data, .sentinel, .sentinel], laidTests := true, laidLooks := .later }
def SchemaEncodesUptoCardSaid : Prop := Claim7.holds Tryz.pinned (.plain (OpenSpec.upto schemaEncodesSpec)) schemaEncodesUptoCard
end Rows
end Go.Proofs.YtmdjhakamapngaaGreatDoor
