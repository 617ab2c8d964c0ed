/-
  Gates as data; a formula in memory. Over any program.
-/
import Derived.Test.YteaaeaimjbaomaaDoorKit
import Derived.Test.YteaaeaimjbaomaaDoorArr
namespace Go.Proofs.YteaaeaimjbaomaaDoor
open Go.RowKit
set_option linter.unusedVariables false

structure Gt where
  need : Int
  kids : List Int
  leaf : Int
deriving DecidableEq

theorem add_block (a : Addr) (n : Nat) : (a.add n).block = a.block := by unfold Addr.add; split <;> rfl
/-- the cells from an address on are the values of a list -/
def Run (W : World) (ad : Addr) (l : List Value) : Prop := ∀ i v, l[i]? = some v → W.cell? (ad.add i) = some v
theorem Run.keep {W W' : World} {ad : Addr} {l : List Value} {B : Nat} (h : Run W ad l) (hb : Below B W W') (ha : ad.block < B) : Run W' ad l := fun i v hv => by
  rw [hb.cell (p := ad.add i) (by rw [add_block]; exact ha)]; exact h i v hv
/-- a slice of numbers below block B -/
structure Ints (W : World) (B : Nat) (A : Option Addr) (l : List Int) : Prop where
  some_ : l ≠ [] → ∃ ad, A = some ad ∧ ad.block < B ∧ Run W ad (l.map (.int .i64 ·))
theorem Ints.keep {W W' : World} {B B' : Nat} {A : Option Addr} {l : List Int} (h : Ints W B A l) (hb : Below B' W W') (hB : B ≤ B') : Ints W' B A l := ⟨fun hl => by
  obtain ⟨ad, h1, h2, h3⟩ := h.some_ hl
  exact ⟨ad, h1, h2, h3.keep hb (by omega)⟩⟩
/-- gate g lies at an address -/
structure GateAt (W : World) (B : Nat) (ad : Addr) (g : Gt) : Prop where
  need : W.cell? ad = some (.int .i64 g.need)
  kids : ∃ A c, W.cell? ⟨ad.block, ad.off + 1, none⟩ = some (.slice A g.kids.length c) ∧ Ints W B A g.kids
  leaf : W.cell? ⟨ad.block, ad.off + 2, none⟩ = some (.int .i64 g.leaf)
theorem GateAt.keep {W W' : World} {B B' : Nat} {ad : Addr} {g : Gt} (h : GateAt W B ad g) (hb : Below B' W W') (hB : B ≤ B') (ha : ad.block < B) : GateAt W' B ad g := by
  obtain ⟨A, c, h1, h2⟩ := h.kids
  refine ⟨?_, ⟨A, c, ?_, h2.keep hb hB⟩, ?_⟩
  · rw [hb.cell (p := ad) (by omega)]; exact h.need
  · rw [hb.cell (p := ⟨ad.block, ad.off + 1, none⟩) (show ad.block < B' by omega)]; exact h1
  · rw [hb.cell (p := ⟨ad.block, ad.off + 2, none⟩) (show ad.block < B' by omega)]; exact h.leaf
/-- a slice of gates below block B -/
structure Gates (W : World) (B : Nat) (A : Option Addr) (F : List Gt) : Prop where
  some_ : F ≠ [] → ∃ ad, A = some ad ∧ ad.block < B ∧ ∀ i g, F[i]? = some g → GateAt W B (ad.add (i * 3)) g
theorem Gates.keep {W W' : World} {B B' : Nat} {A : Option Addr} {F : List Gt} (h : Gates W B A F) (hb : Below B' W W') (hB : B ≤ B') : Gates W' B A F := ⟨fun hl => by
  obtain ⟨ad, h1, h2, h3⟩ := h.some_ hl
  exact ⟨ad, h1, h2, fun i g hg => (h3 i g hg).keep hb hB (by rw [add_block]; exact h2)⟩⟩
end Go.Proofs.YteaaeaimjbaomaaDoor
