/-
  Slices of formulas that come in, as data.
-/
import Derived.Test.YteaaeaimjbaomaaDoorFmO
import Derived.Test.YteaaeaimjbaomaaDoorFmJ2
namespace Go.Proofs.YteaaeaimjbaomaaDoor
open Go.RowKit Go.ChangeShapes Go.WideShapes Go.Deep Go.Joins
set_option linter.unusedVariables false
section
variable {H : Type} {enc : TypeId × Value → H} {W : World} {base : Nat} {spare : Nat → Bool} {held : Bool}
set_option maxRecDepth 20000 in
theorem open_formulas {v : Value} {d : DataW H} {p : List MemPlace} {r : Reach} {b0 : Nat} (hv : Value.okWide Tryd.prog W r b0 59 v) (h : DataW.Trod enc Tryd.prog W base spare held 59 v d p) : ∃ A c L, v = .slice A L.length c ∧ Forms W A L := by
  obtain ⟨fuel, hf⟩ := h
  obtain ⟨b, n, k, rfl⟩ := okWide_slice Tryd.underlying59 hv
  rcases open_slice Tryd.underlying59 hf with ⟨hs, _⟩ | ⟨a, len, cap, m, n', D, Pl, hs, hb, hl, hm, hmm, hx, hi⟩
  · simp only [Value.cells] at hs
    cases hs
    exact ⟨none, 0, [], rfl, ⟨fun h => absurd rfl h⟩⟩
  · simp only [Value.cells] at hs
    cases hs
    obtain ⟨l, h1, h2⟩ := choose_list (R := fun i (F : List Gt) => ∃ GA c, W.cell? (a.add i) = some (.slice GA F.length c) ∧ Gates W W.heap.size GA F) n (fun i hi' => by
      obtain ⟨cs', hc, ht⟩ := hi i (by rw [hmm]; split <;> omega)
      have hcl : Tryd.prog.cellsOf 24 = 1 := by kernel_rfl
      rw [hcl] at hc
      obtain ⟨_, hlen, hat⟩ := World.cells?_some hc
      obtain ⟨y0, k', -, -, q0⟩ := trod_struct1 Tryd.underlying24 ht
      obtain ⟨u0, rfl⟩ := one_of hlen
      have e1 : Tryd.prog.cellsOf 22 = 1 := by kernel_rfl
      simp only [e1, List.drop_zero, List.take_succ_cons, List.take_zero] at q0
      obtain ⟨GA, gc, F, g1, g2⟩ := open_gates q0
      cases g1
      refine ⟨F, GA, gc, ?_, g2⟩
      have h9 := hat 0 (by omega)
      rw [Nat.mul_one] at h9
      have e : (a.add i).add 0 = a.add i := by simp [Addr.add]
      rw [e] at h9
      exact h9)
    refine ⟨some a, k, l, by rw [h1], ⟨fun hne => ⟨a, rfl, ?_, h2⟩⟩⟩
    obtain ⟨z, hz⟩ : ∃ z, l[0]? = some z := ⟨_, List.getElem?_eq_getElem (List.length_pos_iff.2 hne)⟩
    obtain ⟨GA, gc, g1, -⟩ := h2 0 z hz
    have := cell_lt g1
    rwa [add_block] at this
end
end Go.Proofs.YteaaeaimjbaomaaDoor
