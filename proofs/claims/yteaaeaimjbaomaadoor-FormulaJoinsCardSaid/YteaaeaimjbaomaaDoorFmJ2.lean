/-
  Slices of formulas in memory; what Join computes.
-/
import Derived.Test.YteaaeaimjbaomaaDoorFmJ1
import Derived.Test.YteaaeaimjbaomaaDoorFmH1
namespace Go.Proofs.YteaaeaimjbaomaaDoor
open Go.RowKit
set_option linter.unusedVariables false

/-- formulas lie in memory, one behind the other -/
structure Forms (W : World) (A : Option Addr) (L : List (List Gt)) : Prop where
  some_ : L ≠ [] → ∃ ad, A = some ad ∧ ad.block < W.heap.size ∧ ∀ i F, L[i]? = some F → ∃ GA c, W.cell? (ad.add i) = some (.slice GA F.length c) ∧ Gates W W.heap.size GA F
theorem Forms.up {W W' : World} {A : Option Addr} {L : List (List Gt)} (h : Forms W A L) (hb : Below W.heap.size W W') : Forms W' A L := ⟨fun hl => by
  obtain ⟨ad, h1, h2, h3⟩ := h.some_ hl
  refine ⟨ad, h1, Nat.lt_of_lt_of_le h2 hb.size, fun i F hF => ?_⟩
  obtain ⟨GA, c, h4, h5⟩ := h3 i F hF
  exact ⟨GA, c, (hb.cell (p := ad.add i) (by rw [add_block]; exact h2)).trans h4, h5.keep' hb⟩⟩
theorem Forms.at_ {W : World} {A : Option Addr} {L : List (List Gt)} (h : Forms W A L) {i : Nat} {F : List Gt} (hF : L[i]? = some F) : ∃ ad GA c, A = some ad ∧ W.cell? (ad.add i) = some (.slice GA F.length c) ∧ Gates W W.heap.size GA F := by
  have hl : L ≠ [] := by rintro rfl; simp at hF
  obtain ⟨ad, h1, h2, h3⟩ := h.some_ hl
  obtain ⟨GA, c, h4, h5⟩ := h3 i F hF
  exact ⟨ad, GA, c, h1, h4, h5⟩
/-- the number of leaves of a formula's gates -/
def leafN (F : List Gt) : Nat := (F.filter isLf).length
theorem leafN_append (F : List Gt) (g : Gt) : leafN (F ++ [g]) = leafN F + if g.kids = [] then 1 else 0 := by
  unfold leafN
  rw [List.filter_append, List.length_append, List.filter_cons, List.filter_nil]
  by_cases h : g.kids = [] <;> simp [isLf, h]
theorem leafN_le (F : List Gt) : leafN F ≤ F.length := List.length_filter_le _ _
/-- a formula's gates behind b gates and k leaves -/
def movG (b : Int) : Nat → List Gt → List Gt
  | _, [] => []
  | k, g :: F => ⟨g.need, g.kids.map (· + b), if g.kids = [] then (k : Int) else 0⟩ :: movG b (if g.kids = [] then k + 1 else k) F
theorem movG_length (b : Int) : ∀ (F : List Gt) (k : Nat), (movG b k F).length = F.length
  | [], _ => rfl
  | g :: F, k => by simp [movG, movG_length b F]
theorem movG_append (b : Int) (g : Gt) : ∀ (F : List Gt) (k : Nat), movG b k (F ++ [g]) = movG b k F ++ [⟨g.need, g.kids.map (· + b), if g.kids = [] then ((k + leafN F : Nat) : Int) else 0⟩]
  | [], k => by simp [movG, leafN]
  | h :: F, k => by
    rw [List.cons_append, movG, movG_append b g F, movG, List.cons_append]
    congr 3
    by_cases hh : h.kids = []
    · simp only [if_pos hh, leafN, List.filter_cons, isLf, decide_eq_true hh, if_true, List.length_cons]
      congr 3
      omega
    · simp [hh, leafN, isLf]
theorem take_last {α : Type} {l : List α} {i : Nat} {x : α} (h : l[i]? = some x) : l.take (i + 1) = l.take i ++ [x] := by
  rw [List.take_add_one, h]; rfl
abbrev JS := List Gt × List Int × Nat
/-- one formula more -/
def jstep (s : JS) (F : List Gt) : JS := (s.1 ++ movG ((s.1.length : Int) + 1) s.2.2 F, s.2.1 ++ [(s.1.length : Int) + 1], s.2.2 + leafN F)
def joinF (L : List (List Gt)) : JS := L.foldl jstep ([], [], 0)
theorem joinF_last (L : List (List Gt)) (F : List Gt) : joinF (L ++ [F]) = jstep (joinF L) F := by
  unfold joinF; rw [List.foldl_append]; rfl
def okJ (F : List Gt) : Bool := (leavesP F).2 && decide (F ≠ [])
def joinP (need : Int) (L : List (List Gt)) : List Gt × Int :=
  if L = [] then ([], 6)
  else if (L.all okJ) = false then ([], 3)
  else if need < 1 ∨ (L.length : Int) < need then ([], 2)
  else if 512 < (joinF L).1.length + 1 ∨ 256 < (joinF L).2.2 then ([], 6)
  else (⟨need, (joinF L).2.1, 0⟩ :: (joinF L).1, 0)
/-- few formulas, with few gates -/
structure FewJ (L : List (List Gt)) : Prop where
  len : L.length ≤ 12
  gates : ∀ F ∈ L, F.length ≤ 40
  kids : ∀ F ∈ L, ∀ g ∈ F, g.kids.length ≤ 40
theorem joinF_bd (L : List (List Gt)) (h : ∀ F ∈ L, F.length ≤ 40) : (joinF L).1.length ≤ 40 * L.length ∧ (joinF L).2.1.length = L.length ∧ (joinF L).2.2 ≤ (joinF L).1.length := by
  have key : ∀ (L : List (List Gt)) (s : JS), (∀ F ∈ L, F.length ≤ 40) → s.2.2 ≤ s.1.length → (L.foldl jstep s).1.length ≤ s.1.length + 40 * L.length ∧ (L.foldl jstep s).2.1.length = s.2.1.length + L.length ∧ (L.foldl jstep s).2.2 ≤ (L.foldl jstep s).1.length := by
    intro L
    induction L with
    | nil => intro s _ hs; simpa using hs
    | cons F L ih =>
      intro s hL hs
      have hF := hL F (List.mem_cons_self ..)
      have hl := leafN_le F
      obtain ⟨a, b, c⟩ := ih (jstep s F) (fun G hG => hL G (List.mem_cons_of_mem _ hG)) (by
        simp only [jstep, List.length_append, movG_length]; omega)
      rw [List.foldl_cons]
      simp only [jstep, List.length_append, movG_length, List.length_cons, List.length_nil] at a b ⊢
      refine ⟨by omega, by omega, c⟩
  obtain ⟨a, b, c⟩ := key L ([], [], 0) h (Nat.le_refl _)
  exact ⟨by simpa [joinF] using a, by simpa [joinF] using b, c⟩
/-- a leaf's number is the number of leaves ahead of it -/
theorem leaf_rank {F : List Gt} (hF : F.length ≤ 40) (hK : ∀ g ∈ F, g.kids.length ≤ 40) (h : okJ F = true) {i : Nat} {g : Gt} (hg : F[i]? = some g) (hk : g.kids = []) : g.leaf = (leafN (F.take i) : Int) := by
  unfold okJ at h
  rw [Bool.and_eq_true, decide_eq_true_eq] at h
  obtain ⟨hv, hz⟩ := h
  have hlv : ∃ c, visitP F (F.length + 1) 0 (0, 0) = (true, (F.length : Int), c) := by
    unfold leavesP at hv
    rw [if_neg hz] at hv
    simp only [Bool.and_eq_true, decide_eq_true_eq] at hv
    exact ⟨(visitP F (F.length + 1) 0 (0, 0)).2.2, Prod.ext hv.1.1 (Prod.ext hv.1.2 rfl)⟩
  obtain ⟨c, hc⟩ := hlv
  obtain ⟨p1, p2, p3⟩ := visit_perm hF hK (F.length + 1) 0 (0, 0) ((F.length : Int), c) hc (Int.le_refl _) (Int.le_refl _) (Int.le_refl _)
  have hseg : seg F 0 (F.length : Int) = F := by
    unfold seg
    simp
  simp only at p3
  rw [hseg] at p3
  obtain ⟨hi, hgi⟩ := List.getElem?_eq_some_iff.1 hg
  have e : F = F.take i ++ g :: F.drop (i + 1) := by rw [← hgi, ← List.drop_eq_getElem_cons hi, List.take_append_drop]
  have hat : ((F.filter isLf).map Gt.leaf)[leafN (F.take i)]? = some g.leaf := by
    have e2 : F.filter isLf = (F.take i).filter isLf ++ g :: (F.drop (i + 1)).filter isLf := by
      conv => lhs; rw [e]
      rw [List.filter_append, List.filter_cons, if_pos (by simpa [isLf] using hk)]
    rw [e2, List.map_append, List.getElem?_append_right (by simp [leafN])]
    simp [leafN]
  rw [p3] at hat
  unfold rng at hat
  rw [List.getElem?_map] at hat
  obtain ⟨k, hk1, hk2⟩ := Option.map_eq_some_iff.1 hat
  obtain ⟨h5, h6⟩ := List.getElem?_eq_some_iff.1 hk1
  rw [List.getElem_range] at h6
  rw [← hk2, ← h6]; simp
/-- the kids of an accepted formula -/
theorem kid_bd {F : List Gt} (h : okJ F = true) : ∀ g ∈ F, ∀ x ∈ g.kids, 0 ≤ x ∧ x < F.length := by
  intro g hg x hx
  unfold okJ at h
  rw [Bool.and_eq_true] at h
  obtain ⟨i, hi⟩ := List.mem_iff_getElem?.1 hg
  have := (valid_gates (n := (leavesP F).1) (Prod.ext rfl h.1) i g hi).2.2 x hx
  omega
end Go.Proofs.YteaaeaimjbaomaaDoor
