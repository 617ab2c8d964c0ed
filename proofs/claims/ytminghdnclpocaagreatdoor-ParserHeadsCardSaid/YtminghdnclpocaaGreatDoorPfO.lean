/-
  Arrays of four Booleans that come in.
-/
import Derived.Test.YtminghdnclpocaaGreatDoorPeZ
namespace Go.Proofs.YtminghdnclpocaaGreatDoor
open Go.RowKit Go.ChangeShapes Go.WideShapes
set_option linter.unusedVariables false

set_option maxRecDepth 20000 in
theorem cell_bool {W : World} {r : Reach} {b0 : Nat} {v : Value} (h : Cell.okWide Tryz.prog W r b0 4 v) : ∃ b, v = .bool b := by
  simp only [Tryz.underlying4, Cell.okWide] at h
  cases v <;> simp_all [Cell.ok, Tryz.underlying4]
set_option maxRecDepth 20000 in
theorem open_fours {W : World} {r : Reach} {b0 : Nat} {v : Value} (h : Value.okWide Tryz.prog W r b0 48 v) : ∃ a b c d, v = .agg #[.bool a, .bool b, .bool c, .bool d] := by
  simp only [Value.okWide, Tryz.underlying48] at h
  obtain ⟨cs, rfl, hsz, ts, hts, -, hr⟩ := h
  have hc : Tryz.prog.cellsOf 48 = 4 := by kernel_rfl
  have ht : Tryz.prog.cellTypes Tryz.prog.depth 48 = some [4, 4, 4, 4] := by kernel_rfl
  rw [hc] at hsz
  obtain rfl : [4, 4, 4, 4] = ts := Option.some.inj (ht.symm.trans hts)
  obtain ⟨u0, h0, o0⟩ := hr 0 cs[0] (Array.getElem?_eq_getElem (by omega))
  obtain ⟨u1, h1, o1⟩ := hr 1 cs[1] (Array.getElem?_eq_getElem (by omega))
  obtain ⟨u2, h2, o2⟩ := hr 2 cs[2] (Array.getElem?_eq_getElem (by omega))
  obtain ⟨u3, h3, o3⟩ := hr 3 cs[3] (Array.getElem?_eq_getElem (by omega))
  cases h0
  cases h1
  cases h2
  cases h3
  obtain ⟨a, ha⟩ := cell_bool o0
  obtain ⟨b, hb⟩ := cell_bool o1
  obtain ⟨c, hcc⟩ := cell_bool o2
  obtain ⟨d, hd⟩ := cell_bool o3
  refine ⟨a, b, c, d, congrArg Value.agg ?_⟩
  apply Array.ext
  · simpa using hsz
  · intro i hi hj
    rcases (by omega : i = 0 ∨ i = 1 ∨ i = 2 ∨ i = 3) with rfl | rfl | rfl | rfl
    · exact ha
    · exact hb
    · exact hcc
    · exact hd
end Go.Proofs.YtminghdnclpocaaGreatDoor
