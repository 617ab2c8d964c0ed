/-
  formula.Leaf.
-/
import Derived.Test.YteaaeaimjbaomaaDoorFmR
namespace Go.Proofs.YteaaeaimjbaomaaDoor
open Go.RowKit
set_option linter.unusedVariables false

set_option maxHeartbeats 2000000 in
theorem leaf_any (w : World) : Calls Tryd.prog 33 #[] w fun e w' => (∃ A c, e = .returned (.agg #[.slice A 1 c]) ∧ Gates w' w'.heap.size A [⟨0, [], 0⟩]) ∧ Below w.heap.size w w' := by
  have hk : Hp [] w [iblk (w.heap.size + 1) 40 [.int .i64 0, .slice none 0 0, .int .i64 0], iblk w.heap.size 24 [.slice (some ⟨w.heap.size + 1, 0, none⟩) 1 1]]
      ((w.alloc (.cells #[.slice (some ⟨w.heap.size + 1, 0, none⟩) 1 1] 24)).alloc (.cells #[.int .i64 0, .slice none 0 0, .int .i64 0] 40)) := by
    have := ((Hp.start w).new 24 [.slice (some ⟨w.heap.size + 1, 0, none⟩) 1 1]).new 40 [.int .i64 0, .slice none 0 0, .int .i64 0]
    have hsz : ∀ (w : World) (o : Obj), (w.alloc o).heap.size = w.heap.size + 1 := fun w o => by simp
    simp only [hsz] at this
    exact this
  have d0 := (hk.blk 1 rfl).cell 0
  have c0 := (hk.blk 0 rfl).cell 0
  have c1 := (hk.blk 0 rfl).cell 1
  have c2 := (hk.blk 0 rfl).cell 2
  have hlt := (hk.blk 0 rfl).lt
  simp only [List.getElem?_cons_zero, List.getElem?_cons_succ] at d0 c0 c1 c2
  have HB := Lib.hid hk.below0
  clear hk
  go_enter Tryd.func33, Tryd.ntmps33
  go_wp2_with fail
  refine bodyPost_ret (v := .agg #[.slice (some ⟨w.heap.size + 1, 0, none⟩) 1 1]) (by simp [results, Tryd.results33, go_sem, d0]) rfl ?_
  refine ⟨⟨some ⟨w.heap.size + 1, 0, none⟩, 1, rfl, ⟨fun _ => ⟨_, rfl, hlt, fun i g hg => ?_⟩⟩⟩, HB.out⟩
  cases i with
  | succ i => simp at hg
  | zero =>
    simp only [List.getElem?_cons_zero, Option.some.injEq] at hg
    subst hg
    have ha : (⟨w.heap.size + 1, 0, none⟩ : Addr).add (0 * 3) = ⟨w.heap.size + 1, 0, none⟩ := rfl
    rw [ha]
    exact ⟨c0, ⟨none, 0, c1, ⟨fun h9 => absurd rfl h9⟩⟩, c2⟩
end Go.Proofs.YteaaeaimjbaomaaDoor
