/-
  Questions and pairs that come in, as data.
-/
import Derived.Test.YtmdjhakamapngaaDoorSdC
import Derived.Deep.Strs
namespace Go.Proofs.YtmdjhakamapngaaDoor
open Go.RowKit Go.ChangeShapes Go.WideShapes Go.Deep Go.Joins
set_option linter.unusedVariables false
theorem three_of {α : Type} : ∀ {l : List α}, l.length = 3 → ∃ a b c, l = [a, b, c]
  | [a, b, c], _ => ⟨a, b, c, rfl⟩
  | [], h => by cases h
  | [_], h => by cases h
  | [_, _], h => by cases h
  | _ :: _ :: _ :: _ :: _, h => by simp at h
section
variable {H : Type} {enc : TypeId × Value → H} {W : World} {base : Nat} {spare : Nat → Bool} {held : Bool}
set_option maxRecDepth 20000 in
theorem open_question {v : Value} {d : DataW H} {p : List MemPlace} {r : Reach} {b0 : Nat} (hv : Value.okWide Tryd.prog W r b0 34 v) (h : DataW.Trod enc Tryd.prog W base spare held 34 v d p) : ∃ x y t, v = .agg #[.int .i64 x, .int .i64 y, .string t] ∧ True := by
  obtain ⟨cs, rfl, hsz⟩ := okWide_struct Tryd.underlying34 hv
  have hc : Tryd.prog.cellsOf 34 = 3 := by kernel_rfl
  rw [hc] at hsz
  obtain ⟨fuel, hf⟩ := h
  obtain ⟨y0, y1, y2, n, -, -, q0, q1, q2⟩ := trod_struct3 Tryd.underlying34 hf
  obtain ⟨cs⟩ := cs
  obtain ⟨u0, u1, u2, rfl⟩ := three_of (show cs.length = 3 from hsz)
  have e0 : Tryd.prog.cellsOf 3 = 1 := by kernel_rfl
  have e1 : Tryd.prog.cellsOf 9 = 1 := by kernel_rfl
  simp only [Value.cells, e0, e1, List.drop_zero, List.take_succ_cons, List.take_zero, List.drop_succ_cons] at q0 q1 q2
  obtain ⟨z0, r0, -, -⟩ := DataW.trod_int Tryd.underlying3 q0
  obtain ⟨z1, r1, -, -⟩ := DataW.trod_int Tryd.underlying3 q1
  obtain ⟨z2, r2, -, -⟩ := DataW.trod_string Tryd.underlying9 q2
  cases r0
  cases r1
  cases r2
  exact ⟨z0, z1, z2, rfl, trivial⟩
set_option maxRecDepth 20000 in
theorem open_pair {v : Value} {d : DataW H} {p : List MemPlace} {r : Reach} {b0 : Nat} (hv : Value.okWide Tryd.prog W r b0 45 v) (h : DataW.Trod enc Tryd.prog W base spare held 45 v d p) : ∃ x y, v = .agg #[.int .i32 x, .int .i32 y] ∧ (-2147483648 ≤ x ∧ x ≤ 2147483647) ∧ (-2147483648 ≤ y ∧ y ≤ 2147483647) := by
  obtain ⟨cs, rfl, hsz⟩ := okWide_struct Tryd.underlying45 hv
  have hc : Tryd.prog.cellsOf 45 = 2 := by kernel_rfl
  rw [hc] at hsz
  obtain ⟨fuel, hf⟩ := h
  obtain ⟨y0, y1, n, -, -, q0, q1⟩ := trod_struct2 Tryd.underlying45 hf
  obtain ⟨cs⟩ := cs
  obtain ⟨u0, u1, rfl⟩ := two_of (show cs.length = 2 from hsz)
  have e0 : Tryd.prog.cellsOf 21 = 1 := by kernel_rfl
  simp only [Value.cells, e0, List.drop_zero, List.take_succ_cons, List.take_zero, List.drop_succ_cons] at q0 q1
  obtain ⟨z0, r0, -, b0⟩ := DataW.trod_int Tryd.underlying21 q0
  obtain ⟨z1, r1, -, b1⟩ := DataW.trod_int Tryd.underlying21 q1
  cases r0
  cases r1
  exact ⟨z0, z1, rfl, bounds_i32 b0, bounds_i32 b1⟩
end
end Go.Proofs.YtmdjhakamapngaaDoor
