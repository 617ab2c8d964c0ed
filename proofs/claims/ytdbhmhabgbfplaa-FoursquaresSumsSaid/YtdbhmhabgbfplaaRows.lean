/-
  No cell of these rows narrows 'for every input' (looked for: loops, veiled, ifaces, maps, wideKeys, modest, calm, conditions, laid).
  DERIVED. THE GIVEN ROWS OF THIS SEAT. 7 by the template 'for every input the law returns true; each argument reads behind the call as it read before'; 0 by the template 'total and deterministic' (their statements: YtdbhmhabgbfplaaTotals.lean).
  GIVEN WITH THE SEED: the statements are not yours to turn. If you find one false, say at which input.
  Laid BY PROGRAM, IN A SANDBOX (cutbox-rows.mjs): the forced cells as the released guide's own fill.sh prints them over the translation 579841a91133f248… (all of the seat's roots in one cut). By AI agents, Wed Nov 11 2026. No macro, syntax, notation, axiom, sorry.
-/
import Derived.Test.YtdbhmhabgbfplaaChecked
import GoSem.Claim
import GoSem.ClaimJoined
import GoSem.ClaimMapViews
import Derived.JoinedTies
import Derived.KernelRfl
namespace Go.Proofs.Ytdbhmhabgbfplaa
/- THE CELL 'sum', in the pinned program and in every row, IS THE sha256 OF THE DUMP (.gsa) THAT YtdbhmhabgbfplaaProg.lean LOADS. Nothing in Lean hashes anything: it is a label: what it is worth is what the hold of that sum in a sandbox is worth. -/
noncomputable def Try.pinned : Pinned := { name := "ytdbhmhabgbfplaa", sum := "579841a91133f2489396a07952cdeda16ac21097a33c4467952b8b3eca342fdf", checked := Try.checked }
namespace Rows
def none {H : Type} : Left H := { results := [], args := [] }

/-- 'dominolaw25.FoursquaresPairs': WHATEVER THE INPUT: true; the input reads as it did. -/
def foursquaresPairsSpec : ChangeSpec := { name := "foursquaresPairs", fn := fun _ => fun
  | [d] => { results := [.lit (.bool true)], args := [d] }
  | _ => none }
def foursquaresPairsRow : OpenClaim := { program := "ytdbhmhabgbfplaa", sum := "579841a91133f2489396a07952cdeda16ac21097a33c4467952b8b3eca342fdf", func := "domino/dominolaw25.FoursquaresPairs", spec := "foursquaresPairs", unfollowed := true, recurses := true, apart := false }
def FoursquaresPairsSaid : Prop := foursquaresPairsRow.holds Try.pinned (OpenSpec.ofChange foursquaresPairsSpec)

/-- ITS FALSE NEIGHBOUR: 'it returns false'. Refute it at one input. -/
def foursquaresPairsWrong : ChangeSpec := { name := "foursquaresPairs", fn := fun _ => fun
  | [d] => { results := [.lit (.bool false)], args := [d] }
  | _ => none }
def FoursquaresPairsWrongFalsely : Prop := foursquaresPairsRow.holds Try.pinned (OpenSpec.ofChange foursquaresPairsWrong)

/-- 'dominolaw25.FoursquaresTriples': WHATEVER THE INPUT: true; the input reads as it did. -/
def foursquaresTriplesSpec : ChangeSpec := { name := "foursquaresTriples", fn := fun _ => fun
  | [d] => { results := [.lit (.bool true)], args := [d] }
  | _ => none }
def foursquaresTriplesRow : OpenClaim := { program := "ytdbhmhabgbfplaa", sum := "579841a91133f2489396a07952cdeda16ac21097a33c4467952b8b3eca342fdf", func := "domino/dominolaw25.FoursquaresTriples", spec := "foursquaresTriples", unfollowed := true, recurses := true, apart := false }
def FoursquaresTriplesSaid : Prop := foursquaresTriplesRow.holds Try.pinned (OpenSpec.ofChange foursquaresTriplesSpec)

/-- ITS FALSE NEIGHBOUR: 'it returns false'. Refute it at one input. -/
def foursquaresTriplesWrong : ChangeSpec := { name := "foursquaresTriples", fn := fun _ => fun
  | [d] => { results := [.lit (.bool false)], args := [d] }
  | _ => none }
def FoursquaresTriplesWrongFalsely : Prop := foursquaresTriplesRow.holds Try.pinned (OpenSpec.ofChange foursquaresTriplesWrong)

/-- 'dominolaw25.FoursquaresQuadruples': WHATEVER THE INPUT: true; the input reads as it did. -/
def foursquaresQuadruplesSpec : ChangeSpec := { name := "foursquaresQuadruples", fn := fun _ => fun
  | [d] => { results := [.lit (.bool true)], args := [d] }
  | _ => none }
def foursquaresQuadruplesRow : OpenClaim := { program := "ytdbhmhabgbfplaa", sum := "579841a91133f2489396a07952cdeda16ac21097a33c4467952b8b3eca342fdf", func := "domino/dominolaw25.FoursquaresQuadruples", spec := "foursquaresQuadruples", unfollowed := true, recurses := true, apart := false }
def FoursquaresQuadruplesSaid : Prop := foursquaresQuadruplesRow.holds Try.pinned (OpenSpec.ofChange foursquaresQuadruplesSpec)

/-- ITS FALSE NEIGHBOUR: 'it returns false'. Refute it at one input. -/
def foursquaresQuadruplesWrong : ChangeSpec := { name := "foursquaresQuadruples", fn := fun _ => fun
  | [d] => { results := [.lit (.bool false)], args := [d] }
  | _ => none }
def FoursquaresQuadruplesWrongFalsely : Prop := foursquaresQuadruplesRow.holds Try.pinned (OpenSpec.ofChange foursquaresQuadruplesWrong)

/-- 'dominolaw25.FoursquaresSevens': WHATEVER THE INPUT: true; the input reads as it did. -/
def foursquaresSevensSpec : ChangeSpec := { name := "foursquaresSevens", fn := fun _ => fun
  | [d] => { results := [.lit (.bool true)], args := [d] }
  | _ => none }
def foursquaresSevensRow : OpenClaim := { program := "ytdbhmhabgbfplaa", sum := "579841a91133f2489396a07952cdeda16ac21097a33c4467952b8b3eca342fdf", func := "domino/dominolaw25.FoursquaresSevens", spec := "foursquaresSevens", unfollowed := true, recurses := true, apart := false }
def FoursquaresSevensSaid : Prop := foursquaresSevensRow.holds Try.pinned (OpenSpec.ofChange foursquaresSevensSpec)

/-- ITS FALSE NEIGHBOUR: 'it returns false'. Refute it at one input. -/
def foursquaresSevensWrong : ChangeSpec := { name := "foursquaresSevens", fn := fun _ => fun
  | [d] => { results := [.lit (.bool false)], args := [d] }
  | _ => none }
def FoursquaresSevensWrongFalsely : Prop := foursquaresSevensRow.holds Try.pinned (OpenSpec.ofChange foursquaresSevensWrong)

/-- 'dominolaw25.FoursquaresGreatest': WHATEVER THE INPUT: true; the input reads as it did. -/
def foursquaresGreatestSpec : ChangeSpec := { name := "foursquaresGreatest", fn := fun _ => fun
  | [d] => { results := [.lit (.bool true)], args := [d] }
  | _ => none }
def foursquaresGreatestRow : OpenClaim := { program := "ytdbhmhabgbfplaa", sum := "579841a91133f2489396a07952cdeda16ac21097a33c4467952b8b3eca342fdf", func := "domino/dominolaw25.FoursquaresGreatest", spec := "foursquaresGreatest", inPlace := ["internal/bytealg.abigen_runtime_cmpstring"], unfollowed := true, recurses := true, apart := false }
def FoursquaresGreatestSaid : Prop := foursquaresGreatestRow.holds Try.pinned (OpenSpec.ofChange foursquaresGreatestSpec)

/-- ITS FALSE NEIGHBOUR: 'it returns false'. Refute it at one input. -/
def foursquaresGreatestWrong : ChangeSpec := { name := "foursquaresGreatest", fn := fun _ => fun
  | [d] => { results := [.lit (.bool false)], args := [d] }
  | _ => none }
def FoursquaresGreatestWrongFalsely : Prop := foursquaresGreatestRow.holds Try.pinned (OpenSpec.ofChange foursquaresGreatestWrong)

/-- 'dominolaw25.FoursquaresProducts': WHATEVER THE INPUT: true; the input reads as it did. -/
def foursquaresProductsSpec : ChangeSpec := { name := "foursquaresProducts", fn := fun _ => fun
  | [d1, d2, d3] => { results := [.lit (.bool true)], args := [d1, d2, d3] }
  | _ => none }
def foursquaresProductsRow : OpenClaim := { program := "ytdbhmhabgbfplaa", sum := "579841a91133f2489396a07952cdeda16ac21097a33c4467952b8b3eca342fdf", func := "domino/dominolaw25.FoursquaresProducts", spec := "foursquaresProducts", unfollowed := true, recurses := true, apart := false }
def FoursquaresProductsSaid : Prop := foursquaresProductsRow.holds Try.pinned (OpenSpec.ofChange foursquaresProductsSpec)

/-- ITS FALSE NEIGHBOUR: 'it returns false'. Refute it at one input. -/
def foursquaresProductsWrong : ChangeSpec := { name := "foursquaresProducts", fn := fun _ => fun
  | [d1, d2, d3] => { results := [.lit (.bool false)], args := [d1, d2, d3] }
  | _ => none }
def FoursquaresProductsWrongFalsely : Prop := foursquaresProductsRow.holds Try.pinned (OpenSpec.ofChange foursquaresProductsWrong)

/-- 'dominolaw25.FoursquaresSums': WHATEVER THE INPUT: true; the input reads as it did. -/
def foursquaresSumsSpec : ChangeSpec := { name := "foursquaresSums", fn := fun _ => fun
  | [d] => { results := [.lit (.bool true)], args := [d] }
  | _ => none }
def foursquaresSumsRow : OpenClaim := { program := "ytdbhmhabgbfplaa", sum := "579841a91133f2489396a07952cdeda16ac21097a33c4467952b8b3eca342fdf", func := "domino/dominolaw25.FoursquaresSums", spec := "foursquaresSums", inPlace := ["internal/bytealg.abigen_runtime_cmpstring"], unfollowed := true, recurses := true, apart := false }
def FoursquaresSumsSaid : Prop := foursquaresSumsRow.holds Try.pinned (OpenSpec.ofChange foursquaresSumsSpec)

/-- ITS FALSE NEIGHBOUR: 'it returns false'. Refute it at one input. -/
def foursquaresSumsWrong : ChangeSpec := { name := "foursquaresSums", fn := fun _ => fun
  | [d] => { results := [.lit (.bool false)], args := [d] }
  | _ => none }
def FoursquaresSumsWrongFalsely : Prop := foursquaresSumsRow.holds Try.pinned (OpenSpec.ofChange foursquaresSumsWrong)

/- THE SECOND FORM. 'bulk': how many values and letters a reading holds, each counted each time it is reached (what is shared counts as often as it is met; a slice's spare places count too). A statement '..UptoSaid' is the law's where the arguments, and the package variables that the reading takes, are together of bulk at most 1048576: NARROWER than '..Said'. Prove '..Said' where nothing that the law and all that it calls make is longer than what came in: it says more and counts as full. Else prove '..UptoSaid'. A law counts once. -/
mutual
def uptoBulk {H : Type} : DataW H → Nat
  | .lit (.string bytes) => bytes.length + 1
  | .lit _ => 1
  | .nil => 1
  | .ptr d => uptoBulk d + 1
  | .slice elems spare => uptoBulkAll elems + uptoBulkAll spare + 1
  | .agg parts => uptoBulkAll parts + 1
  | .iface _ d => uptoBulk d + 1
  | .map entries => uptoBulkEntries entries + 1
  | .held _ => 1
def uptoBulkAll {H : Type} : List (DataW H) → Nat
  | [] => 0
  | d :: r => uptoBulk d + uptoBulkAll r
def uptoBulkEntries {H : Type} : List (Lit × DataW H) → Nat
  | [] => 0
  | x :: r => uptoBulkEntry x + uptoBulkEntries r
def uptoBulkEntry {H : Type} : Lit × DataW H → Nat
  | (.string bytes, d) => bytes.length + uptoBulk d + 1
  | (_, d) => uptoBulk d + 1
 end
def uptoSmall : (H : Type) → List (DataW H) → Bool := fun _ ds => decide (uptoBulkAll ds ≤ 1048576)
def OpenSpec.upto (s : _root_.Go.ChangeSpec) : _root_.Go.OpenSpec := { _root_.Go.OpenSpec.ofChange s with cond := some uptoSmall }

/-- 'dominolaw25.FoursquaresPairs', WHERE WHAT IT READS IS OF BULK AT MOST 1048576: true; the input reads as it did. -/
def foursquaresPairsUptoRow : OpenClaim := { program := "ytdbhmhabgbfplaa", sum := "579841a91133f2489396a07952cdeda16ac21097a33c4467952b8b3eca342fdf", func := "domino/dominolaw25.FoursquaresPairs", spec := "foursquaresPairs", unfollowed := true, recurses := true, apart := false, narrowed := true }
def FoursquaresPairsUptoSaid : Prop := foursquaresPairsUptoRow.holds Try.pinned (OpenSpec.upto foursquaresPairsSpec)

/-- 'dominolaw25.FoursquaresTriples', WHERE WHAT IT READS IS OF BULK AT MOST 1048576: true; the input reads as it did. -/
def foursquaresTriplesUptoRow : OpenClaim := { program := "ytdbhmhabgbfplaa", sum := "579841a91133f2489396a07952cdeda16ac21097a33c4467952b8b3eca342fdf", func := "domino/dominolaw25.FoursquaresTriples", spec := "foursquaresTriples", unfollowed := true, recurses := true, apart := false, narrowed := true }
def FoursquaresTriplesUptoSaid : Prop := foursquaresTriplesUptoRow.holds Try.pinned (OpenSpec.upto foursquaresTriplesSpec)

/-- 'dominolaw25.FoursquaresQuadruples', WHERE WHAT IT READS IS OF BULK AT MOST 1048576: true; the input reads as it did. -/
def foursquaresQuadruplesUptoRow : OpenClaim := { program := "ytdbhmhabgbfplaa", sum := "579841a91133f2489396a07952cdeda16ac21097a33c4467952b8b3eca342fdf", func := "domino/dominolaw25.FoursquaresQuadruples", spec := "foursquaresQuadruples", unfollowed := true, recurses := true, apart := false, narrowed := true }
def FoursquaresQuadruplesUptoSaid : Prop := foursquaresQuadruplesUptoRow.holds Try.pinned (OpenSpec.upto foursquaresQuadruplesSpec)

/-- 'dominolaw25.FoursquaresSevens', WHERE WHAT IT READS IS OF BULK AT MOST 1048576: true; the input reads as it did. -/
def foursquaresSevensUptoRow : OpenClaim := { program := "ytdbhmhabgbfplaa", sum := "579841a91133f2489396a07952cdeda16ac21097a33c4467952b8b3eca342fdf", func := "domino/dominolaw25.FoursquaresSevens", spec := "foursquaresSevens", unfollowed := true, recurses := true, apart := false, narrowed := true }
def FoursquaresSevensUptoSaid : Prop := foursquaresSevensUptoRow.holds Try.pinned (OpenSpec.upto foursquaresSevensSpec)

/-- 'dominolaw25.FoursquaresGreatest', WHERE WHAT IT READS IS OF BULK AT MOST 1048576: true; the input reads as it did. -/
def foursquaresGreatestUptoRow : OpenClaim := { program := "ytdbhmhabgbfplaa", sum := "579841a91133f2489396a07952cdeda16ac21097a33c4467952b8b3eca342fdf", func := "domino/dominolaw25.FoursquaresGreatest", spec := "foursquaresGreatest", inPlace := ["internal/bytealg.abigen_runtime_cmpstring"], unfollowed := true, recurses := true, apart := false, narrowed := true }
def FoursquaresGreatestUptoSaid : Prop := foursquaresGreatestUptoRow.holds Try.pinned (OpenSpec.upto foursquaresGreatestSpec)

/-- 'dominolaw25.FoursquaresProducts', WHERE WHAT IT READS IS OF BULK AT MOST 1048576: true; the input reads as it did. -/
def foursquaresProductsUptoRow : OpenClaim := { program := "ytdbhmhabgbfplaa", sum := "579841a91133f2489396a07952cdeda16ac21097a33c4467952b8b3eca342fdf", func := "domino/dominolaw25.FoursquaresProducts", spec := "foursquaresProducts", unfollowed := true, recurses := true, apart := false, narrowed := true }
def FoursquaresProductsUptoSaid : Prop := foursquaresProductsUptoRow.holds Try.pinned (OpenSpec.upto foursquaresProductsSpec)

/-- 'dominolaw25.FoursquaresSums', WHERE WHAT IT READS IS OF BULK AT MOST 1048576: true; the input reads as it did. -/
def foursquaresSumsUptoRow : OpenClaim := { program := "ytdbhmhabgbfplaa", sum := "579841a91133f2489396a07952cdeda16ac21097a33c4467952b8b3eca342fdf", func := "domino/dominolaw25.FoursquaresSums", spec := "foursquaresSums", inPlace := ["internal/bytealg.abigen_runtime_cmpstring"], unfollowed := true, recurses := true, apart := false, narrowed := true }
def FoursquaresSumsUptoSaid : Prop := foursquaresSumsUptoRow.holds Try.pinned (OpenSpec.upto foursquaresSumsSpec)

end Rows
end Go.Proofs.Ytdbhmhabgbfplaa
