/-
  make at one-cell elements; stores into a kept block. Over any program.
-/
import Derived.Test.YteaaeaimjbaomaaDoorArr
import Derived.Laws.MakeOwn
namespace Go.Proofs.YteaaeaimjbaomaaDoor
open Go.RowKit
set_option linter.unusedVariables false

theorem madeCells_1 (v : Value) (n : Nat) : madeCells #[v] n = (List.replicate n v).toArray := by
  unfold madeCells
  apply Array.ext
  · simp
  · intro i h1 h2
    simp [Nat.mod_one]
/-- make([]T, n), an element of one cell -/
theorem run_make_cells {P : Program} (t e : TypeId) (ht : P.underlying t = some (.slice e)) (v : Value) (hv : v.cells = #[v]) (b : Nat) (hi : (P.info? e).map (fun i => (i.zero, i.size, i.bytes)) = some (some v, 1, b)) (n : Nat) (hn : b * n ≤ 281474976710656) (hn2 : n ≤ 1073741824) (w : World) :
    (Instr.makeSlice t (.int .i64 (n : Int)) (.int .i64 (n : Int))).run P w = .ok (.slice (some ⟨w.heap.size, 0, none⟩) n n) (w.alloc (.cells (List.replicate n v).toArray e)) := by
  obtain ⟨i, hi', h1, h2, h3⟩ : ∃ i, P.info? e = some i ∧ i.zero = some v ∧ i.size = 1 ∧ i.bytes = b := by
    cases h : P.info? e with
    | none => rw [h] at hi; simp at hi
    | some i => rw [h] at hi; simp at hi; exact ⟨i, rfl, hi.1, hi.2.1, hi.2.2⟩
  have hby : (i.bytes : Int) * (n : Int) ≤ 281474976710656 := by
    rw [h3, ← Int.natCast_mul]; omega
  have hr := run_make (P := P) w t e i v ht hi' h1 .i64 .i64 n n (by omega) (by omega) hby (by omega)
  simp only [Int.toNat_natCast, hv, h2, Nat.mul_one, madeCells_1] at hr
  exact hr
theorem Kp.setHead {w W : World} {g : Nat} {t : TypeId} {cs : List Value} {bl : List (Nat × TypeId × List Value)} (h : Kp w ((g, t, cs) :: bl) W) (hg : w.heap.size ≤ g) (hd : ∀ x ∈ bl, x.1 ≠ g) (i : Nat) (u : Value) : Kp w ((g, t, cs.set i u) :: bl) (W.setCell ⟨g, i, none⟩ u) := by
  refine ⟨fun x hx => ?_, h.below.setCell (by simpa using hg) _⟩
  rcases List.mem_cons.1 hx with rfl | hx'
  · exact (h.blk _ (List.mem_cons_self ..)).set_ i u
  · exact (h.blk x (List.mem_cons_of_mem _ hx')).far (by simp; exact hd x hx') _
theorem Kp.sub {w W : World} {bl bl' : List (Nat × TypeId × List Value)} (h : Kp w bl W) (hs : ∀ x ∈ bl', x ∈ bl) : Kp w bl' W := ⟨fun x hx => h.blk x (hs x hx), h.below⟩
theorem Kp.at_ {w W : World} {g : Nat} {t : TypeId} {cs : List Value} {bl : List (Nat × TypeId × List Value)} (i : Nat) (h : Kp w bl W) (hm : bl[i]? = some (g, t, cs)) : Blk W g t cs := h.blk _ (List.mem_of_getElem? hm)
end Go.Proofs.YteaaeaimjbaomaaDoor
