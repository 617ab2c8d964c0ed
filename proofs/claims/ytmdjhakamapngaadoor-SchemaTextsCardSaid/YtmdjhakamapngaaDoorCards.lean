/-
  DERIVED. GIVEN WITH THE SEED: THE CARDS: each row of YtmdjhakamapngaaDoorRows.lean that lists a variable, with what it lists TIED to the program's text (the seventh form; the later family's looks); each row that meets fmt, with fmt's text TOLD by the authors' own Lean function (tested against real Go, not proved from fmt's source: count such statements apart). THE CARD IS WHAT COUNTS. Prove the row's statement (the work); the ties are given (YtmdjhakamapngaaDoorTie.lean); close each card by the builder's one call (the guide's Derived/Test/ToyasCard.lean, 'card_holds'). Laid BY PROGRAM, IN A SANDBOX (cutbox-door.mjs). By AI agents, Wed Nov 11 2026. No macro, syntax, notation, axiom, sorry.
-/
import Derived.Test.YtmdjhakamapngaaDoorRows
import GoSem.ClaimSeven
namespace Go.Proofs.YtmdjhakamapngaaDoor
namespace Rows

/-- THE TIED CARD OF 'dominolaw39.SchemaChecks'. -/
def schemaChecksCard : Claim7 := { stood := { row := schemaChecksRow, standIns := [], harness := (true, "7ec938058b646c7851ad6041a9ec5f6184e14b787776416ddae40eb4842c05b3"), looks := true }, kinds := [], alts := [], laidByText := true, laidKinds := [.data, .data, .data, .sentinel, .sentinel], laidTests := true, laidLooks := .later }
def SchemaChecksCardSaid : Prop := Claim7.holds Tryd.pinned (.plain (OpenSpec.ofChange schemaChecksSpec)) schemaChecksCard

/-- THE TIED CARD OF 'dominolaw39.SchemaValues'. -/
def schemaValuesCard : Claim7 := { stood := { row := schemaValuesRow, standIns := [], harness := (true, "7ec938058b646c7851ad6041a9ec5f6184e14b787776416ddae40eb4842c05b3"), looks := true }, kinds := [], alts := [], laidByText := true, laidKinds := [.data, .data, .data, .sentinel, .sentinel], laidTests := true, laidLooks := .later }
def SchemaValuesCardSaid : Prop := Claim7.holds Tryd.pinned (.plain (OpenSpec.ofChange schemaValuesSpec)) schemaValuesCard

/-- THE TIED CARD OF 'dominolaw39.SchemaAscends'. -/
def schemaAscendsCard : Claim7 := { stood := { row := schemaAscendsRow, standIns := [], harness := (true, "7ec938058b646c7851ad6041a9ec5f6184e14b787776416ddae40eb4842c05b3"), looks := true }, kinds := [], alts := [], laidByText := true, laidKinds := [.data, .data, .data, .sentinel, .sentinel], laidTests := true, laidLooks := .later }
def SchemaAscendsCardSaid : Prop := Claim7.holds Tryd.pinned (.plain (OpenSpec.ofChange schemaAscendsSpec)) schemaAscendsCard

/-- THE TIED CARD OF 'dominolaw39.SchemaInverts'. -/
def schemaInvertsCard : Claim7 := { stood := { row := schemaInvertsRow, standIns := [], harness := (true, "7ec938058b646c7851ad6041a9ec5f6184e14b787776416ddae40eb4842c05b3"), looks := true }, kinds := [], alts := [], laidByText := true, laidKinds := [.data, .data, .data, .sentinel, .sentinel], laidTests := true, laidLooks := .later }
def SchemaInvertsCardSaid : Prop := Claim7.holds Tryd.pinned (.plain (OpenSpec.ofChange schemaInvertsSpec)) schemaInvertsCard

/-- THE TIED CARD OF 'dominolaw39.SchemaTexts'. -/
def schemaTextsCard : Claim7 := { stood := { row := schemaTextsRow, standIns := [], harness := (true, "7ec938058b646c7851ad6041a9ec5f6184e14b787776416ddae40eb4842c05b3"), looks := true }, kinds := [], alts := [], laidByText := true, laidKinds := [.data, .data, .data, .sentinel, .sentinel], laidTests := true, laidLooks := .later }
def SchemaTextsCardSaid : Prop := Claim7.holds Tryd.pinned (.plain (OpenSpec.ofChange schemaTextsSpec)) schemaTextsCard

/-- THE SECOND FORM's CARD OF 'dominolaw39.SchemaChecks'. -/
def schemaChecksUptoCard : Claim7 := { stood := { row := schemaChecksUptoRow, standIns := [], harness := (true, "7ec938058b646c7851ad6041a9ec5f6184e14b787776416ddae40eb4842c05b3"), looks := true }, kinds := [], alts := [], laidByText := true, laidKinds := [.data, .data, .data, .sentinel, .sentinel], laidTests := true, laidLooks := .later }
def SchemaChecksUptoCardSaid : Prop := Claim7.holds Tryd.pinned (.plain (OpenSpec.upto schemaChecksSpec)) schemaChecksUptoCard

/-- THE SECOND FORM's CARD OF 'dominolaw39.SchemaValues'. -/
def schemaValuesUptoCard : Claim7 := { stood := { row := schemaValuesUptoRow, standIns := [], harness := (true, "7ec938058b646c7851ad6041a9ec5f6184e14b787776416ddae40eb4842c05b3"), looks := true }, kinds := [], alts := [], laidByText := true, laidKinds := [.data, .data, .data, .sentinel, .sentinel], laidTests := true, laidLooks := .later }
def SchemaValuesUptoCardSaid : Prop := Claim7.holds Tryd.pinned (.plain (OpenSpec.upto schemaValuesSpec)) schemaValuesUptoCard

/-- THE SECOND FORM's CARD OF 'dominolaw39.SchemaAscends'. -/
def schemaAscendsUptoCard : Claim7 := { stood := { row := schemaAscendsUptoRow, standIns := [], harness := (true, "7ec938058b646c7851ad6041a9ec5f6184e14b787776416ddae40eb4842c05b3"), looks := true }, kinds := [], alts := [], laidByText := true, laidKinds := [.data, .data, .data, .sentinel, .sentinel], laidTests := true, laidLooks := .later }
def SchemaAscendsUptoCardSaid : Prop := Claim7.holds Tryd.pinned (.plain (OpenSpec.upto schemaAscendsSpec)) schemaAscendsUptoCard

/-- THE SECOND FORM's CARD OF 'dominolaw39.SchemaInverts'. -/
def schemaInvertsUptoCard : Claim7 := { stood := { row := schemaInvertsUptoRow, standIns := [], harness := (true, "7ec938058b646c7851ad6041a9ec5f6184e14b787776416ddae40eb4842c05b3"), looks := true }, kinds := [], alts := [], laidByText := true, laidKinds := [.data, .data, .data, .sentinel, .sentinel], laidTests := true, laidLooks := .later }
def SchemaInvertsUptoCardSaid : Prop := Claim7.holds Tryd.pinned (.plain (OpenSpec.upto schemaInvertsSpec)) schemaInvertsUptoCard

/-- THE SECOND FORM's CARD OF 'dominolaw39.SchemaTexts'. -/
def schemaTextsUptoCard : Claim7 := { stood := { row := schemaTextsUptoRow, standIns := [], harness := (true, "7ec938058b646c7851ad6041a9ec5f6184e14b787776416ddae40eb4842c05b3"), looks := true }, kinds := [], alts := [], laidByText := true, laidKinds := [.data, .data, .data, .sentinel, .sentinel], laidTests := true, laidLooks := .later }
def SchemaTextsUptoCardSaid : Prop := Claim7.holds Tryd.pinned (.plain (OpenSpec.upto schemaTextsSpec)) schemaTextsUptoCard
end Rows
end Go.Proofs.YtmdjhakamapngaaDoor
