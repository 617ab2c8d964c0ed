/-
  DERIVED. GIVEN WITH THE SEED: THE CARDS: each row of YtekkapgknohadaaGreatDoorRows.lean that lists a variable, with what it lists TIED to the program's text (the seventh form; the later family's looks); each row that meets fmt, with fmt's text TOLD by the authors' own Lean function (tested against real Go, not proved from fmt's source: count such statements apart). THE CARD IS WHAT COUNTS. Prove the row's statement (the work); the ties are given (YtekkapgknohadaaGreatDoorTie.lean); close each card by the builder's one call (the guide's Derived/Test/ToyasCard.lean, 'card_holds'). Laid BY PROGRAM, IN A SANDBOX (cutbox-door.mjs). By AI agents, Wed Nov 11 2026. No macro, syntax, notation, axiom, sorry.
-/
import Derived.Test.YtekkapgknohadaaGreatDoorRows
import GoSem.ClaimSeven
namespace Go.Proofs.YtekkapgknohadaaGreatDoor
namespace Rows

/-- THE TIED CARD OF 'dominotop.TopNormalises'. -/
def topNormalisesCard : Claim7 := { stood := { row := topNormalisesRow, standIns := [], harness := (true, "8d2d2ac11e48b4e957390a595f75abd792fdfffb515b35557a79ad7edb87de7c"), looks := true }, kinds := [], alts := [], laidByText := true, laidKinds := [.data, .data, .data, .data, .sentinel, .sentinel, .pinned], laidTests := true, laidLooks := .later }
def TopNormalisesCardSaid : Prop := Claim7.holds Tryz.pinned (.plain (OpenSpec.ofChange topNormalisesSpec)) topNormalisesCard

/-- THE TIED CARD OF 'dominotop.TopMeanings'. -/
def topMeaningsCard : Claim7 := { stood := { row := topMeaningsRow, standIns := [], harness := (true, "8d2d2ac11e48b4e957390a595f75abd792fdfffb515b35557a79ad7edb87de7c"), looks := true }, kinds := [], alts := [], laidByText := true, laidKinds := [.data, .data, .data, .data, .sentinel, .sentinel, .pinned], laidTests := true, laidLooks := .later }
def TopMeaningsCardSaid : Prop := Claim7.holds Tryz.pinned (.plain (OpenSpec.ofChange topMeaningsSpec)) topMeaningsCard

/-- THE SECOND FORM's CARD OF 'dominotop.TopNormalises'. -/
def topNormalisesUptoCard : Claim7 := { stood := { row := topNormalisesUptoRow, standIns := [], harness := (true, "8d2d2ac11e48b4e957390a595f75abd792fdfffb515b35557a79ad7edb87de7c"), looks := true }, kinds := [], alts := [], laidByText := true, laidKinds := [.data, .data, .data, .data, .sentinel, .sentinel, .pinned], laidTests := true, laidLooks := .later }
def TopNormalisesUptoCardSaid : Prop := Claim7.holds Tryz.pinned (.plain (OpenSpec.upto topNormalisesSpec)) topNormalisesUptoCard

/-- THE SECOND FORM's CARD OF 'dominotop.TopMeanings'. -/
def topMeaningsUptoCard : Claim7 := { stood := { row := topMeaningsUptoRow, standIns := [], harness := (true, "8d2d2ac11e48b4e957390a595f75abd792fdfffb515b35557a79ad7edb87de7c"), looks := true }, kinds := [], alts := [], laidByText := true, laidKinds := [.data, .data, .data, .data, .sentinel, .sentinel, .pinned], laidTests := true, laidLooks := .later }
def TopMeaningsUptoCardSaid : Prop := Claim7.holds Tryz.pinned (.plain (OpenSpec.upto topMeaningsSpec)) topMeaningsUptoCard
end Rows
end Go.Proofs.YtekkapgknohadaaGreatDoor
