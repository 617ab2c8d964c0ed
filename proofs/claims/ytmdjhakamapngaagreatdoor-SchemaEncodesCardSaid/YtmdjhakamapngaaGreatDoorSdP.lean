/-
  Lists of numbers that come in, as data.
-/
import Derived.Test.YtmdjhakamapngaaGreatDoorSdC
namespace Go.Proofs.YtmdjhakamapngaaGreatDoor
open Go.RowKit Go.ChangeShapes Go.WideShapes Go.Deep Go.Joins
set_option linter.unusedVariables false
section
variable {H : Type} {enc : TypeId × Value → H} {W : World} {base : Nat} {spare : Nat → Bool} {held : Bool}
theorem open_nats {fuel : Nat} {cs : List Value} {x : DataW H × List MemPlace} (h : DataW.trod enc Tryz.prog W base spare held fuel 26 cs = some x) : ∃ A c l, cs = [.slice A l.length c] ∧ Strs W A l := by
  rcases open_slice Tryz.underlying26 h with ⟨rfl, _⟩ | ⟨a, len, cap, m, n, D, Pl, rfl, hb, hl, hm, hmm, hx, hi⟩
  · exact ⟨none, 0, [], rfl, ⟨fun i s hs => by simp at hs⟩⟩
  · obtain ⟨l, h1, h2⟩ := choose_list (R := fun i (z : ByteArray) => W.cell? (a.add i) = some (.string z)) len (fun i hi' => by
      obtain ⟨cs', hc, ht⟩ := hi i (by rw [hmm]; split <;> omega)
      obtain ⟨z, rfl, -, -⟩ := DataW.trod_string Tryz.underlying30 ht
      have hcl : Tryz.prog.cellsOf 30 = 1 := by kernel_rfl
      rw [hcl] at hc
      obtain ⟨_, _, hat⟩ := World.cells?_some hc
      refine ⟨z, ?_⟩
      have h9 := hat 0 (by omega)
      rw [Nat.mul_one] at h9
      have e : (a.add i).add 0 = a.add i := by simp [Addr.add]
      rw [e] at h9
      exact h9)
    exact ⟨some a, cap, l, by rw [h1], ⟨fun i s hs => ⟨a, rfl, h2 i s hs⟩⟩⟩
set_option maxRecDepth 20000 in
theorem open_nats' {v : Value} {d : DataW H} {p : List MemPlace} {r : Reach} {b0 : Nat} (hv : Value.okWide Tryz.prog W r b0 26 v) (h : DataW.Trod enc Tryz.prog W base spare held 26 v d p) : ∃ A c l, v = .slice A l.length c ∧ Strs W A l := by
  obtain ⟨fuel, hf⟩ := h
  obtain ⟨A, c, l, h1, h2⟩ := open_nats hf
  obtain ⟨b, n, k, rfl⟩ := okWide_slice Tryz.underlying26 hv
  simp only [Value.cells] at h1
  cases h1
  exact ⟨A, c, l, rfl, h2⟩
end
end Go.Proofs.YtmdjhakamapngaaGreatDoor
