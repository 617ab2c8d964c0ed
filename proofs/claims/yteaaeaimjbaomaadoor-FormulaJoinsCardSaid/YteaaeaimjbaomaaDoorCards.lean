/-
  DERIVED. GIVEN WITH THE SEED: THE CARDS: each row of YteaaeaimjbaomaaDoorRows.lean that lists a variable, with what it lists TIED to the program's text (the seventh form; the later family's looks); each row that meets fmt, with fmt's text TOLD by the authors' own Lean function (tested against real Go, not proved from fmt's source: count such statements apart). THE CARD IS WHAT COUNTS. Prove the row's statement (the work); the ties are given (YteaaeaimjbaomaaDoorTie.lean); close each card by the builder's one call (the guide's Derived/Test/ToyasCard.lean, 'card_holds'). Laid BY PROGRAM, IN A SANDBOX (cutbox-door.mjs). By AI agents, Wed Nov 11 2026. No macro, syntax, notation, axiom, sorry.
-/
import Derived.Test.YteaaeaimjbaomaaDoorRows
import GoSem.ClaimSeven
namespace Go.Proofs.YteaaeaimjbaomaaDoor
namespace Rows

/-- THE TIED CARD OF 'dominolaw20.FormulaChecks'. -/
def formulaChecksCard : Claim7 := { stood := { row := formulaChecksRow, standIns := [], harness := (true, "fda931de6134f5cb9dedd2b82bf29487f55330c54dbb5ed41a7fc4fe2730b114"), looks := true }, kinds := [], alts := [], laidByText := true, laidKinds := [.data, .data, .data, .sentinel, .sentinel], laidTests := true, laidLooks := .later }
def FormulaChecksCardSaid : Prop := Claim7.holds Tryd.pinned (.plain (OpenSpec.ofChange formulaChecksSpec)) formulaChecksCard

/-- THE TIED CARD OF 'dominolaw20.FormulaTruths'. -/
def formulaTruthsCard : Claim7 := { stood := { row := formulaTruthsRow, standIns := [], harness := (true, "fda931de6134f5cb9dedd2b82bf29487f55330c54dbb5ed41a7fc4fe2730b114"), looks := true }, kinds := [], alts := [], laidByText := true, laidKinds := [.data, .data, .data, .sentinel, .sentinel], laidTests := true, laidLooks := .later }
def FormulaTruthsCardSaid : Prop := Claim7.holds Tryd.pinned (.plain (OpenSpec.ofChange formulaTruthsSpec)) formulaTruthsCard

/-- THE TIED CARD OF 'dominolaw20.FormulaHonest'. -/
def formulaHonestCard : Claim7 := { stood := { row := formulaHonestRow, standIns := [], harness := (true, "fda931de6134f5cb9dedd2b82bf29487f55330c54dbb5ed41a7fc4fe2730b114"), looks := true }, kinds := [], alts := [], laidByText := true, laidKinds := [.data, .data, .data, .sentinel, .sentinel], laidTests := true, laidLooks := .later }
def FormulaHonestCardSaid : Prop := Claim7.holds Tryd.pinned (.plain (OpenSpec.ofChange formulaHonestSpec)) formulaHonestCard

/-- THE TIED CARD OF 'dominolaw20.FormulaMonotone'. -/
def formulaMonotoneCard : Claim7 := { stood := { row := formulaMonotoneRow, standIns := [], harness := (true, "fda931de6134f5cb9dedd2b82bf29487f55330c54dbb5ed41a7fc4fe2730b114"), looks := true }, kinds := [], alts := [], laidByText := true, laidKinds := [.data, .data, .data, .sentinel, .sentinel], laidTests := true, laidLooks := .later }
def FormulaMonotoneCardSaid : Prop := Claim7.holds Tryd.pinned (.plain (OpenSpec.ofChange formulaMonotoneSpec)) formulaMonotoneCard

/-- THE TIED CARD OF 'dominolaw20.FormulaSets'. -/
def formulaSetsCard : Claim7 := { stood := { row := formulaSetsRow, standIns := [], harness := (true, "fda931de6134f5cb9dedd2b82bf29487f55330c54dbb5ed41a7fc4fe2730b114"), looks := true }, kinds := [], alts := [], laidByText := true, laidKinds := [.data, .data, .data, .sentinel, .sentinel], laidTests := true, laidLooks := .later }
def FormulaSetsCardSaid : Prop := Claim7.holds Tryd.pinned (.plain (OpenSpec.ofChange formulaSetsSpec)) formulaSetsCard

/-- THE TIED CARD OF 'dominolaw20.FormulaTexts'. -/
def formulaTextsCard : Claim7 := { stood := { row := formulaTextsRow, standIns := [], harness := (true, "fda931de6134f5cb9dedd2b82bf29487f55330c54dbb5ed41a7fc4fe2730b114"), looks := true }, kinds := [], alts := [], laidByText := true, laidKinds := [.data, .data, .data, .sentinel, .sentinel], laidTests := true, laidLooks := .later }
def FormulaTextsCardSaid : Prop := Claim7.holds Tryd.pinned (.plain (OpenSpec.ofChange formulaTextsSpec)) formulaTextsCard

/-- THE TIED CARD OF 'dominolaw20.FormulaParses'. -/
def formulaParsesCard : Claim7 := { stood := { row := formulaParsesRow, standIns := [], harness := (true, "fda931de6134f5cb9dedd2b82bf29487f55330c54dbb5ed41a7fc4fe2730b114"), looks := true }, kinds := [], alts := [], laidByText := true, laidKinds := [.data, .data, .data, .sentinel, .sentinel], laidTests := true, laidLooks := .later }
def FormulaParsesCardSaid : Prop := Claim7.holds Tryd.pinned (.plain (OpenSpec.ofChange formulaParsesSpec)) formulaParsesCard

/-- THE TIED CARD OF 'dominolaw20.FormulaMinimal'. -/
def formulaMinimalCard : Claim7 := { stood := { row := formulaMinimalRow, standIns := [], harness := (true, "fda931de6134f5cb9dedd2b82bf29487f55330c54dbb5ed41a7fc4fe2730b114"), looks := true }, kinds := [], alts := [], laidByText := true, laidKinds := [.data, .data, .data, .sentinel, .sentinel], laidTests := true, laidLooks := .later }
def FormulaMinimalCardSaid : Prop := Claim7.holds Tryd.pinned (.plain (OpenSpec.ofChange formulaMinimalSpec)) formulaMinimalCard

/-- THE TIED CARD OF 'dominolaw20.FormulaJoins'. -/
def formulaJoinsCard : Claim7 := { stood := { row := formulaJoinsRow, standIns := [], harness := (true, "fda931de6134f5cb9dedd2b82bf29487f55330c54dbb5ed41a7fc4fe2730b114"), looks := true }, kinds := [], alts := [], laidByText := true, laidKinds := [.data, .data, .data, .sentinel, .sentinel], laidTests := true, laidLooks := .later }
def FormulaJoinsCardSaid : Prop := Claim7.holds Tryd.pinned (.plain (OpenSpec.ofChange formulaJoinsSpec)) formulaJoinsCard

/-- THE SECOND FORM's CARD OF 'dominolaw20.FormulaChecks'. -/
def formulaChecksUptoCard : Claim7 := { stood := { row := formulaChecksUptoRow, standIns := [], harness := (true, "fda931de6134f5cb9dedd2b82bf29487f55330c54dbb5ed41a7fc4fe2730b114"), looks := true }, kinds := [], alts := [], laidByText := true, laidKinds := [.data, .data, .data, .sentinel, .sentinel], laidTests := true, laidLooks := .later }
def FormulaChecksUptoCardSaid : Prop := Claim7.holds Tryd.pinned (.plain (OpenSpec.upto formulaChecksSpec)) formulaChecksUptoCard

/-- THE SECOND FORM's CARD OF 'dominolaw20.FormulaTruths'. -/
def formulaTruthsUptoCard : Claim7 := { stood := { row := formulaTruthsUptoRow, standIns := [], harness := (true, "fda931de6134f5cb9dedd2b82bf29487f55330c54dbb5ed41a7fc4fe2730b114"), looks := true }, kinds := [], alts := [], laidByText := true, laidKinds := [.data, .data, .data, .sentinel, .sentinel], laidTests := true, laidLooks := .later }
def FormulaTruthsUptoCardSaid : Prop := Claim7.holds Tryd.pinned (.plain (OpenSpec.upto formulaTruthsSpec)) formulaTruthsUptoCard

/-- THE SECOND FORM's CARD OF 'dominolaw20.FormulaHonest'. -/
def formulaHonestUptoCard : Claim7 := { stood := { row := formulaHonestUptoRow, standIns := [], harness := (true, "fda931de6134f5cb9dedd2b82bf29487f55330c54dbb5ed41a7fc4fe2730b114"), looks := true }, kinds := [], alts := [], laidByText := true, laidKinds := [.data, .data, .data, .sentinel, .sentinel], laidTests := true, laidLooks := .later }
def FormulaHonestUptoCardSaid : Prop := Claim7.holds Tryd.pinned (.plain (OpenSpec.upto formulaHonestSpec)) formulaHonestUptoCard

/-- THE SECOND FORM's CARD OF 'dominolaw20.FormulaMonotone'. -/
def formulaMonotoneUptoCard : Claim7 := { stood := { row := formulaMonotoneUptoRow, standIns := [], harness := (true, "fda931de6134f5cb9dedd2b82bf29487f55330c54dbb5ed41a7fc4fe2730b114"), looks := true }, kinds := [], alts := [], laidByText := true, laidKinds := [.data, .data, .data, .sentinel, .sentinel], laidTests := true, laidLooks := .later }
def FormulaMonotoneUptoCardSaid : Prop := Claim7.holds Tryd.pinned (.plain (OpenSpec.upto formulaMonotoneSpec)) formulaMonotoneUptoCard

/-- THE SECOND FORM's CARD OF 'dominolaw20.FormulaSets'. -/
def formulaSetsUptoCard : Claim7 := { stood := { row := formulaSetsUptoRow, standIns := [], harness := (true, "fda931de6134f5cb9dedd2b82bf29487f55330c54dbb5ed41a7fc4fe2730b114"), looks := true }, kinds := [], alts := [], laidByText := true, laidKinds := [.data, .data, .data, .sentinel, .sentinel], laidTests := true, laidLooks := .later }
def FormulaSetsUptoCardSaid : Prop := Claim7.holds Tryd.pinned (.plain (OpenSpec.upto formulaSetsSpec)) formulaSetsUptoCard

/-- THE SECOND FORM's CARD OF 'dominolaw20.FormulaTexts'. -/
def formulaTextsUptoCard : Claim7 := { stood := { row := formulaTextsUptoRow, standIns := [], harness := (true, "fda931de6134f5cb9dedd2b82bf29487f55330c54dbb5ed41a7fc4fe2730b114"), looks := true }, kinds := [], alts := [], laidByText := true, laidKinds := [.data, .data, .data, .sentinel, .sentinel], laidTests := true, laidLooks := .later }
def FormulaTextsUptoCardSaid : Prop := Claim7.holds Tryd.pinned (.plain (OpenSpec.upto formulaTextsSpec)) formulaTextsUptoCard

/-- THE SECOND FORM's CARD OF 'dominolaw20.FormulaParses'. -/
def formulaParsesUptoCard : Claim7 := { stood := { row := formulaParsesUptoRow, standIns := [], harness := (true, "fda931de6134f5cb9dedd2b82bf29487f55330c54dbb5ed41a7fc4fe2730b114"), looks := true }, kinds := [], alts := [], laidByText := true, laidKinds := [.data, .data, .data, .sentinel, .sentinel], laidTests := true, laidLooks := .later }
def FormulaParsesUptoCardSaid : Prop := Claim7.holds Tryd.pinned (.plain (OpenSpec.upto formulaParsesSpec)) formulaParsesUptoCard

/-- THE SECOND FORM's CARD OF 'dominolaw20.FormulaMinimal'. -/
def formulaMinimalUptoCard : Claim7 := { stood := { row := formulaMinimalUptoRow, standIns := [], harness := (true, "fda931de6134f5cb9dedd2b82bf29487f55330c54dbb5ed41a7fc4fe2730b114"), looks := true }, kinds := [], alts := [], laidByText := true, laidKinds := [.data, .data, .data, .sentinel, .sentinel], laidTests := true, laidLooks := .later }
def FormulaMinimalUptoCardSaid : Prop := Claim7.holds Tryd.pinned (.plain (OpenSpec.upto formulaMinimalSpec)) formulaMinimalUptoCard

/-- THE SECOND FORM's CARD OF 'dominolaw20.FormulaJoins'. -/
def formulaJoinsUptoCard : Claim7 := { stood := { row := formulaJoinsUptoRow, standIns := [], harness := (true, "fda931de6134f5cb9dedd2b82bf29487f55330c54dbb5ed41a7fc4fe2730b114"), looks := true }, kinds := [], alts := [], laidByText := true, laidKinds := [.data, .data, .data, .sentinel, .sentinel], laidTests := true, laidLooks := .later }
def FormulaJoinsUptoCardSaid : Prop := Claim7.holds Tryd.pinned (.plain (OpenSpec.upto formulaJoinsSpec)) formulaJoinsUptoCard
end Rows
end Go.Proofs.YteaaeaimjbaomaaDoor
