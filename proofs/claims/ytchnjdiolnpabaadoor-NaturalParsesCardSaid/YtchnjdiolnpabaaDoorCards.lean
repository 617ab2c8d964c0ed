/-
  DERIVED. GIVEN WITH THE SEED: THE CARDS: each row of YtchnjdiolnpabaaDoorRows.lean that lists a variable, with what it lists TIED to the program's text (the seventh form; the later family's looks); each row that meets fmt, with fmt's text TOLD by the authors' own Lean function (tested against real Go, not proved from fmt's source: count such statements apart). THE CARD IS WHAT COUNTS. Prove the row's statement (the work); the ties are given (YtchnjdiolnpabaaDoorTie.lean); close each card by the builder's one call (the guide's Derived/Test/ToyasCard.lean, 'card_holds'). Laid BY PROGRAM, IN A SANDBOX (cutbox-door.mjs). By AI agents, Wed Nov 11 2026. No macro, syntax, notation, axiom, sorry.
-/
import Derived.Test.YtchnjdiolnpabaaDoorRows
import GoSem.ClaimSeven
namespace Go.Proofs.YtchnjdiolnpabaaDoor
namespace Rows

/-- THE TIED CARD OF 'dominolaw01.NaturalTexts'. -/
def naturalTextsCard : Claim7 := { stood := { row := naturalTextsRow, standIns := [], harness := (true, "2aebfb70044bbf0ff3f1a119e4d748b606777c40178b77c374351fad0da8432e"), looks := false }, kinds := [], alts := [], laidByText := true, laidKinds := [.data, .pinned], laidTests := true, laidLooks := .later }
def NaturalTextsCardSaid : Prop := Claim7.holds Tryd.pinned (.plain (OpenSpec.ofChange naturalTextsSpec)) naturalTextsCard

/-- THE TIED CARD OF 'dominolaw01.NaturalParses'. -/
def naturalParsesCard : Claim7 := { stood := { row := naturalParsesRow, standIns := [], harness := (true, "2aebfb70044bbf0ff3f1a119e4d748b606777c40178b77c374351fad0da8432e"), looks := false }, kinds := [], alts := [], laidByText := true, laidKinds := [.data, .pinned], laidTests := true, laidLooks := .later }
def NaturalParsesCardSaid : Prop := Claim7.holds Tryd.pinned (.plain (OpenSpec.ofChange naturalParsesSpec)) naturalParsesCard

/-- THE SECOND FORM's CARD OF 'dominolaw01.NaturalTexts'. -/
def naturalTextsUptoCard : Claim7 := { stood := { row := naturalTextsUptoRow, standIns := [], harness := (true, "2aebfb70044bbf0ff3f1a119e4d748b606777c40178b77c374351fad0da8432e"), looks := false }, kinds := [], alts := [], laidByText := true, laidKinds := [.data, .pinned], laidTests := true, laidLooks := .later }
def NaturalTextsUptoCardSaid : Prop := Claim7.holds Tryd.pinned (.plain (OpenSpec.upto naturalTextsSpec)) naturalTextsUptoCard

/-- THE SECOND FORM's CARD OF 'dominolaw01.NaturalParses'. -/
def naturalParsesUptoCard : Claim7 := { stood := { row := naturalParsesUptoRow, standIns := [], harness := (true, "2aebfb70044bbf0ff3f1a119e4d748b606777c40178b77c374351fad0da8432e"), looks := false }, kinds := [], alts := [], laidByText := true, laidKinds := [.data, .pinned], laidTests := true, laidLooks := .later }
def NaturalParsesUptoCardSaid : Prop := Claim7.holds Tryd.pinned (.plain (OpenSpec.upto naturalParsesSpec)) naturalParsesUptoCard
end Rows
end Go.Proofs.YtchnjdiolnpabaaDoor
