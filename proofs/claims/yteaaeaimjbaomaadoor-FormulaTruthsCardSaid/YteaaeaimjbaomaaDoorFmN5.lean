/-
  formula.copied.
-/
import Derived.Test.YteaaeaimjbaomaaDoorFmN2
import Derived.Test.YteaaeaimjbaomaaDoorFmT2
import Derived.Test.YteaaeaimjbaomaaDoorFmR9
namespace Go.Proofs.YteaaeaimjbaomaaDoor
open Go.RowKit
set_option linter.unusedVariables false

theorem add_pos (ad : Addr) (n k : Nat) (hk : 0 < k) : ad.add (n + k) = ⟨(ad.add n).block, (ad.add n).off + k, none⟩ := by
  unfold Addr.add
  rw [if_neg (by omega)]
  by_cases hn : n = 0
  · rw [if_pos hn, hn, Nat.zero_add]
  · rw [if_neg hn, Nat.add_assoc]
/-- the gates of a formula as they come in, with the slices of their kids -/
theorem Gates.vals {w : World} {ad : Addr} {F : List Gt} (h : Gates w w.heap.size (some ad) F) : ∃ P : List GV, gts P = F ∧ (∀ x ∈ P, ∃ KA c, x.2 = .slice KA x.1.kids.length c ∧ Ints w w.heap.size KA x.1.kids) ∧
    (∀ u ∈ gcells P, u.oneCell' = true) ∧ ∀ j u, (gcells P)[j]? = some u → w.cell? (ad.add j) = some u := by
  have hP : ∀ i x, (F.zipIdx.map fun y => ((y.1, (w.cell? (ad.add (y.2 * 3 + 1))).getD undef) : GV))[i]? = some x → F[i]? = some x.1 ∧ (∃ KA c, x.2 = .slice KA x.1.kids.length c ∧ Ints w w.heap.size KA x.1.kids) ∧
      w.cell? (ad.add (i * 3)) = some (.int .i64 x.1.need) ∧ w.cell? (ad.add (i * 3 + 1)) = some x.2 ∧ w.cell? (ad.add (i * 3 + 2)) = some (.int .i64 x.1.leaf) := by
    intro i x hx
    rw [List.getElem?_map, List.getElem?_zipIdx] at hx
    cases hg : F[i]? with
    | none => rw [hg] at hx; cases hx
    | some g =>
      rw [hg] at hx
      simp only [Option.map_some, Nat.zero_add] at hx
      cases hx
      obtain ⟨ad', hA, KA, kc, a, b, c, d⟩ := h.read (Below.refl _ _) hg
      cases hA
      have b' : w.cell? (ad.add (i * 3 + 1)) = some (.slice KA g.kids.length kc) := by rw [add_pos ad (i * 3) 1 (by omega)]; exact b
      have c' : w.cell? (ad.add (i * 3 + 2)) = some (.int .i64 g.leaf) := by rw [add_pos ad (i * 3) 2 (by omega)]; exact c
      refine ⟨rfl, ⟨KA, kc, ?_, d⟩, a, ?_, c'⟩
      · show (w.cell? _).getD undef = _
        rw [b']; rfl
      · show _ = some ((w.cell? _).getD undef)
        rw [b']; rfl
  generalize hPP : (F.zipIdx.map fun y => ((y.1, (w.cell? (ad.add (y.2 * 3 + 1))).getD undef) : GV)) = P at *
  have hlen : P.length = F.length := by rw [← hPP]; simp
  have hall : ∀ j u, (gcells P)[j]? = some u → w.cell? (ad.add j) = some u ∧ u.oneCell' = true := by
    intro j u hu
    have hj : j < P.length * 3 := by
      have := (List.getElem?_eq_some_iff.1 hu).1
      rw [gcells_length] at this; exact this
    obtain ⟨x, hx⟩ : ∃ x, P[j / 3]? = some x := ⟨_, List.getElem?_eq_getElem (by omega)⟩
    obtain ⟨a1, a2, a3⟩ := gcells_at hx
    obtain ⟨_, ⟨KA, kc, hv, _⟩, b1, b2, b3⟩ := hP _ _ hx
    rcases (by omega : j = j / 3 * 3 ∨ j = j / 3 * 3 + 1 ∨ j = j / 3 * 3 + 2) with hh | hh | hh
    · rw [hh, a1] at hu; cases hu; rw [hh]; exact ⟨b1, rfl⟩
    · rw [hh, a2] at hu; cases hu; rw [hh]; exact ⟨b2, by rw [hv]; rfl⟩
    · rw [hh, a3] at hu; cases hu; rw [hh]; exact ⟨b3, rfl⟩
  refine ⟨P, ?_, fun x hx => ?_, fun u hu => ?_, fun j u hu => (hall j u hu).1⟩
  · apply List.ext_getElem?
    intro i
    rw [List.getElem?_map]
    cases hx : P[i]? with
    | none => rw [Option.map_none, List.getElem?_eq_none (by have := List.getElem?_eq_none_iff.1 hx; omega)]
    | some x => rw [Option.map_some, (hP i x hx).1]
  · obtain ⟨i, hi⟩ := List.mem_iff_getElem?.1 hx
    exact (hP i x hi).2.1
  · obtain ⟨i, hi⟩ := List.mem_iff_getElem?.1 hu
    exact (hall i u hi).2
end Go.Proofs.YteaaeaimjbaomaaDoor
