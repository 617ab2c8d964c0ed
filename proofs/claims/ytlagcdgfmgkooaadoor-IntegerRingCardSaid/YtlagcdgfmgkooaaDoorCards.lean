/-
  DERIVED. GIVEN WITH THE SEED: THE CARDS: each row of YtlagcdgfmgkooaaDoorRows.lean that lists a variable, with what it lists TIED to the program's text (the seventh form; the later family's looks); each row that meets fmt, with fmt's text TOLD by the authors' own Lean function (tested against real Go, not proved from fmt's source: count such statements apart). THE CARD IS WHAT COUNTS. Prove the row's statement (the work); the ties are given (YtlagcdgfmgkooaaDoorTie.lean); close each card by the builder's one call (the guide's Derived/Test/ToyasCard.lean, 'card_holds'). Laid BY PROGRAM, IN A SANDBOX (cutbox-door.mjs). By AI agents, Wed Nov 11 2026. No macro, syntax, notation, axiom, sorry.
-/
import Derived.Test.YtlagcdgfmgkooaaDoorRows
import GoSem.ClaimSeven
namespace Go.Proofs.YtlagcdgfmgkooaaDoor
namespace Rows

/-- THE TIED CARD OF 'dominolaw02.IntegerAdds'. -/
def integerAddsCard : Claim7 := { stood := { row := integerAddsRow, standIns := [], harness := (true, "dbb9cfdb4dceb7c91858a2de3db660e77ca248bdcf071eb1514cb7cc34277c5e"), looks := false }, kinds := [], alts := [], laidByText := true, laidKinds := [.data, .pinned], laidTests := true, laidLooks := .later }
def IntegerAddsCardSaid : Prop := Claim7.holds Tryd.pinned (.plain (OpenSpec.ofChange integerAddsSpec)) integerAddsCard

/-- THE TIED CARD OF 'dominolaw02.IntegerExtends'. -/
def integerExtendsCard : Claim7 := { stood := { row := integerExtendsRow, standIns := [], harness := (true, "dbb9cfdb4dceb7c91858a2de3db660e77ca248bdcf071eb1514cb7cc34277c5e"), looks := false }, kinds := [], alts := [], laidByText := true, laidKinds := [.data, .pinned], laidTests := true, laidLooks := .later }
def IntegerExtendsCardSaid : Prop := Claim7.holds Tryd.pinned (.plain (OpenSpec.ofChange integerExtendsSpec)) integerExtendsCard

/-- THE TIED CARD OF 'dominolaw02.IntegerBezout'. -/
def integerBezoutCard : Claim7 := { stood := { row := integerBezoutRow, standIns := [], harness := (true, "dbb9cfdb4dceb7c91858a2de3db660e77ca248bdcf071eb1514cb7cc34277c5e"), looks := false }, kinds := [], alts := [], laidByText := true, laidKinds := [.data, .pinned], laidTests := true, laidLooks := .later }
def IntegerBezoutCardSaid : Prop := Claim7.holds Tryd.pinned (.plain (OpenSpec.ofChange integerBezoutSpec)) integerBezoutCard

/-- THE TIED CARD OF 'dominolaw02.IntegerDivides'. -/
def integerDividesCard : Claim7 := { stood := { row := integerDividesRow, standIns := [], harness := (true, "dbb9cfdb4dceb7c91858a2de3db660e77ca248bdcf071eb1514cb7cc34277c5e"), looks := false }, kinds := [], alts := [], laidByText := true, laidKinds := [.data, .pinned], laidTests := true, laidLooks := .later }
def IntegerDividesCardSaid : Prop := Claim7.holds Tryd.pinned (.plain (OpenSpec.ofChange integerDividesSpec)) integerDividesCard

/-- THE TIED CARD OF 'dominolaw02.IntegerEuclid'. -/
def integerEuclidCard : Claim7 := { stood := { row := integerEuclidRow, standIns := [], harness := (true, "dbb9cfdb4dceb7c91858a2de3db660e77ca248bdcf071eb1514cb7cc34277c5e"), looks := false }, kinds := [], alts := [], laidByText := true, laidKinds := [.data, .pinned], laidTests := true, laidLooks := .later }
def IntegerEuclidCardSaid : Prop := Claim7.holds Tryd.pinned (.plain (OpenSpec.ofChange integerEuclidSpec)) integerEuclidCard

/-- THE TIED CARD OF 'dominolaw02.IntegerRing'. -/
def integerRingCard : Claim7 := { stood := { row := integerRingRow, standIns := [], harness := (true, "dbb9cfdb4dceb7c91858a2de3db660e77ca248bdcf071eb1514cb7cc34277c5e"), looks := false }, kinds := [], alts := [], laidByText := true, laidKinds := [.data, .pinned], laidTests := true, laidLooks := .later }
def IntegerRingCardSaid : Prop := Claim7.holds Tryd.pinned (.plain (OpenSpec.ofChange integerRingSpec)) integerRingCard

/-- THE TIED CARD OF 'dominolaw02.IntegerReads'. -/
def integerReadsCard : Claim7 := { stood := { row := integerReadsRow, standIns := [], harness := (true, "dbb9cfdb4dceb7c91858a2de3db660e77ca248bdcf071eb1514cb7cc34277c5e"), looks := false }, kinds := [], alts := [], laidByText := true, laidKinds := [.data, .pinned], laidTests := true, laidLooks := .later }
def IntegerReadsCardSaid : Prop := Claim7.holds Tryd.pinned (.plain (OpenSpec.ofChange integerReadsSpec)) integerReadsCard

/-- THE TIED CARD OF 'dominolaw02.IntegerTexts'. -/
def integerTextsCard : Claim7 := { stood := { row := integerTextsRow, standIns := [], harness := (true, "dbb9cfdb4dceb7c91858a2de3db660e77ca248bdcf071eb1514cb7cc34277c5e"), looks := false }, kinds := [], alts := [], laidByText := true, laidKinds := [.data, .pinned], laidTests := true, laidLooks := .later }
def IntegerTextsCardSaid : Prop := Claim7.holds Tryd.pinned (.plain (OpenSpec.ofChange integerTextsSpec)) integerTextsCard

/-- THE TIED CARD OF 'dominolaw02.IntegerParses'. -/
def integerParsesCard : Claim7 := { stood := { row := integerParsesRow, standIns := [], harness := (true, "dbb9cfdb4dceb7c91858a2de3db660e77ca248bdcf071eb1514cb7cc34277c5e"), looks := false }, kinds := [], alts := [], laidByText := true, laidKinds := [.data, .pinned], laidTests := true, laidLooks := .later }
def IntegerParsesCardSaid : Prop := Claim7.holds Tryd.pinned (.plain (OpenSpec.ofChange integerParsesSpec)) integerParsesCard

/-- THE SECOND FORM's CARD OF 'dominolaw02.IntegerAdds'. -/
def integerAddsUptoCard : Claim7 := { stood := { row := integerAddsUptoRow, standIns := [], harness := (true, "dbb9cfdb4dceb7c91858a2de3db660e77ca248bdcf071eb1514cb7cc34277c5e"), looks := false }, kinds := [], alts := [], laidByText := true, laidKinds := [.data, .pinned], laidTests := true, laidLooks := .later }
def IntegerAddsUptoCardSaid : Prop := Claim7.holds Tryd.pinned (.plain (OpenSpec.upto integerAddsSpec)) integerAddsUptoCard

/-- THE SECOND FORM's CARD OF 'dominolaw02.IntegerExtends'. -/
def integerExtendsUptoCard : Claim7 := { stood := { row := integerExtendsUptoRow, standIns := [], harness := (true, "dbb9cfdb4dceb7c91858a2de3db660e77ca248bdcf071eb1514cb7cc34277c5e"), looks := false }, kinds := [], alts := [], laidByText := true, laidKinds := [.data, .pinned], laidTests := true, laidLooks := .later }
def IntegerExtendsUptoCardSaid : Prop := Claim7.holds Tryd.pinned (.plain (OpenSpec.upto integerExtendsSpec)) integerExtendsUptoCard

/-- THE SECOND FORM's CARD OF 'dominolaw02.IntegerBezout'. -/
def integerBezoutUptoCard : Claim7 := { stood := { row := integerBezoutUptoRow, standIns := [], harness := (true, "dbb9cfdb4dceb7c91858a2de3db660e77ca248bdcf071eb1514cb7cc34277c5e"), looks := false }, kinds := [], alts := [], laidByText := true, laidKinds := [.data, .pinned], laidTests := true, laidLooks := .later }
def IntegerBezoutUptoCardSaid : Prop := Claim7.holds Tryd.pinned (.plain (OpenSpec.upto integerBezoutSpec)) integerBezoutUptoCard

/-- THE SECOND FORM's CARD OF 'dominolaw02.IntegerDivides'. -/
def integerDividesUptoCard : Claim7 := { stood := { row := integerDividesUptoRow, standIns := [], harness := (true, "dbb9cfdb4dceb7c91858a2de3db660e77ca248bdcf071eb1514cb7cc34277c5e"), looks := false }, kinds := [], alts := [], laidByText := true, laidKinds := [.data, .pinned], laidTests := true, laidLooks := .later }
def IntegerDividesUptoCardSaid : Prop := Claim7.holds Tryd.pinned (.plain (OpenSpec.upto integerDividesSpec)) integerDividesUptoCard

/-- THE SECOND FORM's CARD OF 'dominolaw02.IntegerEuclid'. -/
def integerEuclidUptoCard : Claim7 := { stood := { row := integerEuclidUptoRow, standIns := [], harness := (true, "dbb9cfdb4dceb7c91858a2de3db660e77ca248bdcf071eb1514cb7cc34277c5e"), looks := false }, kinds := [], alts := [], laidByText := true, laidKinds := [.data, .pinned], laidTests := true, laidLooks := .later }
def IntegerEuclidUptoCardSaid : Prop := Claim7.holds Tryd.pinned (.plain (OpenSpec.upto integerEuclidSpec)) integerEuclidUptoCard

/-- THE SECOND FORM's CARD OF 'dominolaw02.IntegerRing'. -/
def integerRingUptoCard : Claim7 := { stood := { row := integerRingUptoRow, standIns := [], harness := (true, "dbb9cfdb4dceb7c91858a2de3db660e77ca248bdcf071eb1514cb7cc34277c5e"), looks := false }, kinds := [], alts := [], laidByText := true, laidKinds := [.data, .pinned], laidTests := true, laidLooks := .later }
def IntegerRingUptoCardSaid : Prop := Claim7.holds Tryd.pinned (.plain (OpenSpec.upto integerRingSpec)) integerRingUptoCard

/-- THE SECOND FORM's CARD OF 'dominolaw02.IntegerReads'. -/
def integerReadsUptoCard : Claim7 := { stood := { row := integerReadsUptoRow, standIns := [], harness := (true, "dbb9cfdb4dceb7c91858a2de3db660e77ca248bdcf071eb1514cb7cc34277c5e"), looks := false }, kinds := [], alts := [], laidByText := true, laidKinds := [.data, .pinned], laidTests := true, laidLooks := .later }
def IntegerReadsUptoCardSaid : Prop := Claim7.holds Tryd.pinned (.plain (OpenSpec.upto integerReadsSpec)) integerReadsUptoCard

/-- THE SECOND FORM's CARD OF 'dominolaw02.IntegerTexts'. -/
def integerTextsUptoCard : Claim7 := { stood := { row := integerTextsUptoRow, standIns := [], harness := (true, "dbb9cfdb4dceb7c91858a2de3db660e77ca248bdcf071eb1514cb7cc34277c5e"), looks := false }, kinds := [], alts := [], laidByText := true, laidKinds := [.data, .pinned], laidTests := true, laidLooks := .later }
def IntegerTextsUptoCardSaid : Prop := Claim7.holds Tryd.pinned (.plain (OpenSpec.upto integerTextsSpec)) integerTextsUptoCard

/-- THE SECOND FORM's CARD OF 'dominolaw02.IntegerParses'. -/
def integerParsesUptoCard : Claim7 := { stood := { row := integerParsesUptoRow, standIns := [], harness := (true, "dbb9cfdb4dceb7c91858a2de3db660e77ca248bdcf071eb1514cb7cc34277c5e"), looks := false }, kinds := [], alts := [], laidByText := true, laidKinds := [.data, .pinned], laidTests := true, laidLooks := .later }
def IntegerParsesUptoCardSaid : Prop := Claim7.holds Tryd.pinned (.plain (OpenSpec.upto integerParsesSpec)) integerParsesUptoCard
end Rows
end Go.Proofs.YtlagcdgfmgkooaaDoor
