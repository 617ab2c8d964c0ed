/-
  Whole blocks that are stored. Over any program.
-/
import Derived.Test.YtogmhaihmkcjgaaGreatDoorHp
namespace Go.Proofs.YtogmhaihmkcjgaaGreatDoor
open Go.RowKit
set_option linter.unusedVariables false

theorem blk_row {W : World} {g : Nat} {t : TypeId} {cs : List Value} (h : Blk W g t cs) (ds : List Value) : Blk (W.setRow g ds.toArray) g t ds := setRow_heap W g _ _ _ _ h
theorem Hp.rowAt {o : List Nat} {w W : World} {it : List It} (h : Hp o w it W) (i : Nat) {g : Nat} {t : TypeId} {cs : List Value} (hx : it[i]? = some (iblk g t cs)) (ds : List Value) : Hp o w (it.set i (iblk g t ds)) (W.setRow g ds.toArray) :=
  h.upd i hx (blk_row (h.blk i hx) ds) ⟨⟨rfl, rfl, rfl, by simp [World.setRow], fun k hk => absurd hk (Nat.not_lt_zero _)⟩, fun k hk ho => by
    simp only [World.setRow, Array.getElem?_modify]
    rw [if_neg (by simp [iblk] at ho; omega)], fun b hb => .inl hb⟩ (by simp [iblk])
theorem Blk.get6 {w : World} {g : Nat} {t : TypeId} {a b c d e f : Value} (h : Blk w g t [a, b, c, d, e, f]) : w.cell? ⟨g, 0, none⟩ = some a ∧ w.cell? ⟨g, 1, none⟩ = some b ∧ w.cell? ⟨g, 2, none⟩ = some c ∧ w.cell? ⟨g, 3, none⟩ = some d ∧ w.cell? ⟨g, 4, none⟩ = some e ∧ w.cell? ⟨g, 5, none⟩ = some f := ⟨h.cell 0, h.cell 1, h.cell 2, h.cell 3, h.cell 4, h.cell 5⟩
theorem Blk.get7 {w : World} {g : Nat} {t : TypeId} {a b c d e f i : Value} (h : Blk w g t [a, b, c, d, e, f, i]) : w.cell? ⟨g, 0, none⟩ = some a ∧ w.cell? ⟨g, 1, none⟩ = some b ∧ w.cell? ⟨g, 2, none⟩ = some c ∧ w.cell? ⟨g, 3, none⟩ = some d ∧ w.cell? ⟨g, 4, none⟩ = some e ∧ w.cell? ⟨g, 5, none⟩ = some f ∧ w.cell? ⟨g, 6, none⟩ = some i := ⟨h.cell 0, h.cell 1, h.cell 2, h.cell 3, h.cell 4, h.cell 5, h.cell 6⟩
end Go.Proofs.YtogmhaihmkcjgaaGreatDoor
