/-
  No cell of these rows narrows 'for every input' (looked for: loops, veiled, ifaces, maps, wideKeys, modest, calm, conditions, laid).
  DERIVED. THE GIVEN ROWS OF THIS SEAT. 7 by the template 'for every input the law returns true; each argument reads behind the call as it read before'; 0 by the template 'total and deterministic' (their statements: YtchnjdiolnpabaaTotals.lean).
  GIVEN WITH THE SEED: the statements are not yours to turn. If you find one false, say at which input.
  Laid BY PROGRAM, IN A SANDBOX (cutbox-rows.mjs): the forced cells as the released guide's own fill.sh prints them over the translation 5e9773dd28dd84c3… (all of the seat's roots in one cut). By AI agents, Wed Nov 11 2026. No macro, syntax, notation, axiom, sorry.
-/
import Derived.Test.YtchnjdiolnpabaaChecked
import GoSem.Claim
import GoSem.ClaimJoined
import GoSem.ClaimMapViews
import Derived.JoinedTies
import Derived.KernelRfl
namespace Go.Proofs.Ytchnjdiolnpabaa
/- THE CELL 'sum', in the pinned program and in every row, IS THE sha256 OF THE DUMP (.gsa) THAT YtchnjdiolnpabaaProg.lean LOADS. Nothing in Lean hashes anything: it is a label: what it is worth is what the hold of that sum in a sandbox is worth. -/
noncomputable def Try.pinned : Pinned := { name := "ytchnjdiolnpabaa", sum := "5e9773dd28dd84c303af49d532ed5a518f08130c479cab8033ee13cd7dab5d00", checked := Try.checked }
namespace Rows
def none {H : Type} : Left H := { results := [], args := [] }

/-- 'dominolaw01.NaturalMultiplies': WHATEVER THE INPUT: true; the input reads as it did. -/
def naturalMultipliesSpec : ChangeSpec := { name := "naturalMultiplies", fn := fun _ => fun
  | [d1, d2] => { results := [.lit (.bool true)], args := [d1, d2] }
  | _ => none }
def naturalMultipliesRow : OpenClaim := { program := "ytchnjdiolnpabaa", sum := "5e9773dd28dd84c303af49d532ed5a518f08130c479cab8033ee13cd7dab5d00", func := "domino/dominolaw01.NaturalMultiplies", spec := "naturalMultiplies", inPlace := ["internal/bytealg.abigen_runtime_cmpstring"], apart := false }
def NaturalMultipliesSaid : Prop := naturalMultipliesRow.holds Try.pinned (OpenSpec.ofChange naturalMultipliesSpec)

/-- ITS FALSE NEIGHBOUR: 'it returns false'. Refute it at one input. -/
def naturalMultipliesWrong : ChangeSpec := { name := "naturalMultiplies", fn := fun _ => fun
  | [d1, d2] => { results := [.lit (.bool false)], args := [d1, d2] }
  | _ => none }
def NaturalMultipliesWrongFalsely : Prop := naturalMultipliesRow.holds Try.pinned (OpenSpec.ofChange naturalMultipliesWrong)

/-- 'dominolaw01.NaturalRoots': WHATEVER THE INPUT: true; the input reads as it did. -/
def naturalRootsSpec : ChangeSpec := { name := "naturalRoots", fn := fun _ => fun
  | [d1, d2] => { results := [.lit (.bool true)], args := [d1, d2] }
  | _ => none }
def naturalRootsRow : OpenClaim := { program := "ytchnjdiolnpabaa", sum := "5e9773dd28dd84c303af49d532ed5a518f08130c479cab8033ee13cd7dab5d00", func := "domino/dominolaw01.NaturalRoots", spec := "naturalRoots", inPlace := ["internal/bytealg.abigen_runtime_cmpstring"], apart := false }
def NaturalRootsSaid : Prop := naturalRootsRow.holds Try.pinned (OpenSpec.ofChange naturalRootsSpec)

/-- ITS FALSE NEIGHBOUR: 'it returns false'. Refute it at one input. -/
def naturalRootsWrong : ChangeSpec := { name := "naturalRoots", fn := fun _ => fun
  | [d1, d2] => { results := [.lit (.bool false)], args := [d1, d2] }
  | _ => none }
def NaturalRootsWrongFalsely : Prop := naturalRootsRow.holds Try.pinned (OpenSpec.ofChange naturalRootsWrong)

/-- 'dominolaw01.NaturalField': WHATEVER THE INPUT: true; the input reads as it did. -/
def naturalFieldSpec : ChangeSpec := { name := "naturalField", fn := fun _ => fun
  | [d1, d2, d3] => { results := [.lit (.bool true)], args := [d1, d2, d3] }
  | _ => none }
def naturalFieldRow : OpenClaim := { program := "ytchnjdiolnpabaa", sum := "5e9773dd28dd84c303af49d532ed5a518f08130c479cab8033ee13cd7dab5d00", func := "domino/dominolaw01.NaturalField", spec := "naturalField", inPlace := ["internal/bytealg.abigen_runtime_cmpstring"], apart := false }
def NaturalFieldSaid : Prop := naturalFieldRow.holds Try.pinned (OpenSpec.ofChange naturalFieldSpec)

/-- ITS FALSE NEIGHBOUR: 'it returns false'. Refute it at one input. -/
def naturalFieldWrong : ChangeSpec := { name := "naturalField", fn := fun _ => fun
  | [d1, d2, d3] => { results := [.lit (.bool false)], args := [d1, d2, d3] }
  | _ => none }
def NaturalFieldWrongFalsely : Prop := naturalFieldRow.holds Try.pinned (OpenSpec.ofChange naturalFieldWrong)

/-- 'dominolaw01.NaturalReads': WHATEVER THE INPUT: true; the input reads as it did. -/
def naturalReadsSpec : ChangeSpec := { name := "naturalReads", fn := fun _ => fun
  | [d1, d2] => { results := [.lit (.bool true)], args := [d1, d2] }
  | _ => none }
def naturalReadsRow : OpenClaim := { program := "ytchnjdiolnpabaa", sum := "5e9773dd28dd84c303af49d532ed5a518f08130c479cab8033ee13cd7dab5d00", func := "domino/dominolaw01.NaturalReads", spec := "naturalReads", inPlace := ["internal/bytealg.abigen_runtime_cmpstring"], apart := false }
def NaturalReadsSaid : Prop := naturalReadsRow.holds Try.pinned (OpenSpec.ofChange naturalReadsSpec)

/-- ITS FALSE NEIGHBOUR: 'it returns false'. Refute it at one input. -/
def naturalReadsWrong : ChangeSpec := { name := "naturalReads", fn := fun _ => fun
  | [d1, d2] => { results := [.lit (.bool false)], args := [d1, d2] }
  | _ => none }
def NaturalReadsWrongFalsely : Prop := naturalReadsRow.holds Try.pinned (OpenSpec.ofChange naturalReadsWrong)

/-- 'dominolaw01.NaturalWrites': WHATEVER THE INPUT: true; the input reads as it did. -/
def naturalWritesSpec : ChangeSpec := { name := "naturalWrites", fn := fun _ => fun
  | [d1, d2] => { results := [.lit (.bool true)], args := [d1, d2] }
  | _ => none }
def naturalWritesRow : OpenClaim := { program := "ytchnjdiolnpabaa", sum := "5e9773dd28dd84c303af49d532ed5a518f08130c479cab8033ee13cd7dab5d00", func := "domino/dominolaw01.NaturalWrites", spec := "naturalWrites", inPlace := ["internal/bytealg.abigen_runtime_cmpstring"], apart := false }
def NaturalWritesSaid : Prop := naturalWritesRow.holds Try.pinned (OpenSpec.ofChange naturalWritesSpec)

/-- ITS FALSE NEIGHBOUR: 'it returns false'. Refute it at one input. -/
def naturalWritesWrong : ChangeSpec := { name := "naturalWrites", fn := fun _ => fun
  | [d1, d2] => { results := [.lit (.bool false)], args := [d1, d2] }
  | _ => none }
def NaturalWritesWrongFalsely : Prop := naturalWritesRow.holds Try.pinned (OpenSpec.ofChange naturalWritesWrong)

/-- 'dominolaw01.NaturalAdds': WHATEVER THE INPUT: true; the input reads as it did. -/
def naturalAddsSpec : ChangeSpec := { name := "naturalAdds", fn := fun _ => fun
  | [d1, d2] => { results := [.lit (.bool true)], args := [d1, d2] }
  | _ => none }
def naturalAddsRow : OpenClaim := { program := "ytchnjdiolnpabaa", sum := "5e9773dd28dd84c303af49d532ed5a518f08130c479cab8033ee13cd7dab5d00", func := "domino/dominolaw01.NaturalAdds", spec := "naturalAdds", inPlace := ["internal/bytealg.abigen_runtime_cmpstring"], apart := false }
def NaturalAddsSaid : Prop := naturalAddsRow.holds Try.pinned (OpenSpec.ofChange naturalAddsSpec)

/-- ITS FALSE NEIGHBOUR: 'it returns false'. Refute it at one input. -/
def naturalAddsWrong : ChangeSpec := { name := "naturalAdds", fn := fun _ => fun
  | [d1, d2] => { results := [.lit (.bool false)], args := [d1, d2] }
  | _ => none }
def NaturalAddsWrongFalsely : Prop := naturalAddsRow.holds Try.pinned (OpenSpec.ofChange naturalAddsWrong)

/-- 'dominolaw01.NaturalDivides': WHATEVER THE INPUT: true; the input reads as it did. -/
def naturalDividesSpec : ChangeSpec := { name := "naturalDivides", fn := fun _ => fun
  | [d1, d2] => { results := [.lit (.bool true)], args := [d1, d2] }
  | _ => none }
def naturalDividesRow : OpenClaim := { program := "ytchnjdiolnpabaa", sum := "5e9773dd28dd84c303af49d532ed5a518f08130c479cab8033ee13cd7dab5d00", func := "domino/dominolaw01.NaturalDivides", spec := "naturalDivides", inPlace := ["internal/bytealg.abigen_runtime_cmpstring"], apart := false }
def NaturalDividesSaid : Prop := naturalDividesRow.holds Try.pinned (OpenSpec.ofChange naturalDividesSpec)

/-- ITS FALSE NEIGHBOUR: 'it returns false'. Refute it at one input. -/
def naturalDividesWrong : ChangeSpec := { name := "naturalDivides", fn := fun _ => fun
  | [d1, d2] => { results := [.lit (.bool false)], args := [d1, d2] }
  | _ => none }
def NaturalDividesWrongFalsely : Prop := naturalDividesRow.holds Try.pinned (OpenSpec.ofChange naturalDividesWrong)

/- THE SECOND FORM. 'bulk': how many values and letters a reading holds, each counted each time it is reached (what is shared counts as often as it is met; a slice's spare places count too). A statement '..UptoSaid' is the law's where the arguments, and the package variables that the reading takes, are together of bulk at most 1048576: NARROWER than '..Said'. Prove '..Said' where nothing that the law and all that it calls make is longer than what came in: it says more and counts as full. Else prove '..UptoSaid'. A law counts once. -/
mutual
def uptoBulk {H : Type} : DataW H → Nat
  | .lit (.string bytes) => bytes.length + 1
  | .lit _ => 1
  | .nil => 1
  | .ptr d => uptoBulk d + 1
  | .slice elems spare => uptoBulkAll elems + uptoBulkAll spare + 1
  | .agg parts => uptoBulkAll parts + 1
  | .iface _ d => uptoBulk d + 1
  | .map entries => uptoBulkEntries entries + 1
  | .held _ => 1
def uptoBulkAll {H : Type} : List (DataW H) → Nat
  | [] => 0
  | d :: r => uptoBulk d + uptoBulkAll r
def uptoBulkEntries {H : Type} : List (Lit × DataW H) → Nat
  | [] => 0
  | x :: r => uptoBulkEntry x + uptoBulkEntries r
def uptoBulkEntry {H : Type} : Lit × DataW H → Nat
  | (.string bytes, d) => bytes.length + uptoBulk d + 1
  | (_, d) => uptoBulk d + 1
 end
def uptoSmall : (H : Type) → List (DataW H) → Bool := fun _ ds => decide (uptoBulkAll ds ≤ 1048576)
def OpenSpec.upto (s : _root_.Go.ChangeSpec) : _root_.Go.OpenSpec := { _root_.Go.OpenSpec.ofChange s with cond := some uptoSmall }

/-- 'dominolaw01.NaturalMultiplies', WHERE WHAT IT READS IS OF BULK AT MOST 1048576: true; the input reads as it did. -/
def naturalMultipliesUptoRow : OpenClaim := { program := "ytchnjdiolnpabaa", sum := "5e9773dd28dd84c303af49d532ed5a518f08130c479cab8033ee13cd7dab5d00", func := "domino/dominolaw01.NaturalMultiplies", spec := "naturalMultiplies", inPlace := ["internal/bytealg.abigen_runtime_cmpstring"], apart := false, narrowed := true }
def NaturalMultipliesUptoSaid : Prop := naturalMultipliesUptoRow.holds Try.pinned (OpenSpec.upto naturalMultipliesSpec)

/-- 'dominolaw01.NaturalRoots', WHERE WHAT IT READS IS OF BULK AT MOST 1048576: true; the input reads as it did. -/
def naturalRootsUptoRow : OpenClaim := { program := "ytchnjdiolnpabaa", sum := "5e9773dd28dd84c303af49d532ed5a518f08130c479cab8033ee13cd7dab5d00", func := "domino/dominolaw01.NaturalRoots", spec := "naturalRoots", inPlace := ["internal/bytealg.abigen_runtime_cmpstring"], apart := false, narrowed := true }
def NaturalRootsUptoSaid : Prop := naturalRootsUptoRow.holds Try.pinned (OpenSpec.upto naturalRootsSpec)

/-- 'dominolaw01.NaturalField', WHERE WHAT IT READS IS OF BULK AT MOST 1048576: true; the input reads as it did. -/
def naturalFieldUptoRow : OpenClaim := { program := "ytchnjdiolnpabaa", sum := "5e9773dd28dd84c303af49d532ed5a518f08130c479cab8033ee13cd7dab5d00", func := "domino/dominolaw01.NaturalField", spec := "naturalField", inPlace := ["internal/bytealg.abigen_runtime_cmpstring"], apart := false, narrowed := true }
def NaturalFieldUptoSaid : Prop := naturalFieldUptoRow.holds Try.pinned (OpenSpec.upto naturalFieldSpec)

/-- 'dominolaw01.NaturalReads', WHERE WHAT IT READS IS OF BULK AT MOST 1048576: true; the input reads as it did. -/
def naturalReadsUptoRow : OpenClaim := { program := "ytchnjdiolnpabaa", sum := "5e9773dd28dd84c303af49d532ed5a518f08130c479cab8033ee13cd7dab5d00", func := "domino/dominolaw01.NaturalReads", spec := "naturalReads", inPlace := ["internal/bytealg.abigen_runtime_cmpstring"], apart := false, narrowed := true }
def NaturalReadsUptoSaid : Prop := naturalReadsUptoRow.holds Try.pinned (OpenSpec.upto naturalReadsSpec)

/-- 'dominolaw01.NaturalWrites', WHERE WHAT IT READS IS OF BULK AT MOST 1048576: true; the input reads as it did. -/
def naturalWritesUptoRow : OpenClaim := { program := "ytchnjdiolnpabaa", sum := "5e9773dd28dd84c303af49d532ed5a518f08130c479cab8033ee13cd7dab5d00", func := "domino/dominolaw01.NaturalWrites", spec := "naturalWrites", inPlace := ["internal/bytealg.abigen_runtime_cmpstring"], apart := false, narrowed := true }
def NaturalWritesUptoSaid : Prop := naturalWritesUptoRow.holds Try.pinned (OpenSpec.upto naturalWritesSpec)

/-- 'dominolaw01.NaturalAdds', WHERE WHAT IT READS IS OF BULK AT MOST 1048576: true; the input reads as it did. -/
def naturalAddsUptoRow : OpenClaim := { program := "ytchnjdiolnpabaa", sum := "5e9773dd28dd84c303af49d532ed5a518f08130c479cab8033ee13cd7dab5d00", func := "domino/dominolaw01.NaturalAdds", spec := "naturalAdds", inPlace := ["internal/bytealg.abigen_runtime_cmpstring"], apart := false, narrowed := true }
def NaturalAddsUptoSaid : Prop := naturalAddsUptoRow.holds Try.pinned (OpenSpec.upto naturalAddsSpec)

/-- 'dominolaw01.NaturalDivides', WHERE WHAT IT READS IS OF BULK AT MOST 1048576: true; the input reads as it did. -/
def naturalDividesUptoRow : OpenClaim := { program := "ytchnjdiolnpabaa", sum := "5e9773dd28dd84c303af49d532ed5a518f08130c479cab8033ee13cd7dab5d00", func := "domino/dominolaw01.NaturalDivides", spec := "naturalDivides", inPlace := ["internal/bytealg.abigen_runtime_cmpstring"], apart := false, narrowed := true }
def NaturalDividesUptoSaid : Prop := naturalDividesUptoRow.holds Try.pinned (OpenSpec.upto naturalDividesSpec)

end Rows
end Go.Proofs.Ytchnjdiolnpabaa
