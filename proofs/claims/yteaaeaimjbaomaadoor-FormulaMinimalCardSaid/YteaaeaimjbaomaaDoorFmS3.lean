/-
  A formula holds exactly if a minimal set is in the leaves that hold, plain.
-/
import Derived.Test.YteaaeaimjbaomaaDoorFmN8
namespace Go.Proofs.YteaaeaimjbaomaaDoor
set_option linter.unusedVariables false

def inM (s : List Int) (L : List Bool) : Bool := s.all fun k => gb L k.toNat
def tr : List Bool → Nat
  | [] => 0
  | b :: l => (if b then 1 else 0) + tr l
theorem tr_set : ∀ (c : List Bool) (i : Nat), gb c i = true → tr (c.set i false) + 1 = tr c
  | [], i, h => by simp [gb] at h
  | b :: l, 0, h => by
    have hb : b = true := h
    subst hb
    simp [tr]; omega
  | b :: l, i + 1, h => by
    have := tr_set l i h
    simp only [List.set_cons_succ, tr]
    omega
theorem minimal_in {H : List Bool → Bool} {n : Nat} : ∀ (k : Nat) (L : List Bool), tr L ≤ k → L.length = n → H L = true → ∃ M, goodM H n M ∧ (∀ i, gb M i = true → gb L i = true)
  | k, L, hk, hn, hh => by
    cases hm : minM H L with
    | true => exact ⟨L, ⟨hn, hh, hm⟩, fun _ h => h⟩
    | false =>
      have : ¬ ∀ i, gb L i = true → H (L.set i false) = false := fun h => by
        rw [(minM_iff H L).2 h] at hm; cases hm
      obtain ⟨i, hi⟩ := Classical.not_forall.1 this
      obtain ⟨h1, h2⟩ := Classical.not_imp.1 hi
      have ht := tr_set L i h1
      cases k with
      | zero => omega
      | succ k =>
        obtain ⟨M, g, hM⟩ := minimal_in (n := n) k (L.set i false) (by omega) (by rw [List.length_set]; exact hn) (by simpa using h2)
        refine ⟨M, g, fun j hj => ?_⟩
        have := hM j hj
        rw [gb_set _ _ _ _ (gb_lt h1)] at this
        split at this
        · cases this
        · exact this
theorem idx_mem {c : List Bool} {k : Int} : k ∈ idxM c ↔ ∃ j : Nat, k = j ∧ gb c j = true := by
  unfold idxM
  constructor
  · intro h
    obtain ⟨j, hj, rfl⟩ := List.mem_map.1 h
    exact ⟨j, rfl, (List.mem_filter.1 hj).2⟩
  · rintro ⟨j, rfl, hj⟩
    exact List.mem_map.2 ⟨j, List.mem_filter.2 ⟨List.mem_range.2 (gb_lt hj), hj⟩, rfl⟩
theorem inM_iff {c L : List Bool} : inM (idxM c) L = true ↔ ∀ i, gb c i = true → gb L i = true := by
  unfold inM
  rw [List.all_eq_true]
  constructor
  · intro h i hi
    exact h (i : Int) (idx_mem.2 ⟨i, rfl, hi⟩)
  · intro h k hk
    obtain ⟨j, rfl, hj⟩ := idx_mem.1 hk
    exact h j hj
theorem zero_gb (n i : Nat) : gb (List.replicate n false) i = false := by
  unfold gb
  rw [List.getD_eq_getElem?_getD, List.getElem?_replicate]
  split <;> simp
theorem mins_mem {F : List Gt} {n : Nat} (hck : checkP F n = 0) (s : List Int) : s ∈ minsP F n ↔ ∃ M, goodM (holdsP F) n M ∧ s = idxM M := by
  rw [minsP, if_pos hck, Int.toNat_natCast, List.mem_map]
  have hs := srch_mem (holdsP_mono F n) n (Nat.le_refl _) (List.replicate n false) (by simp) (fun j _ => zero_gb n j)
  constructor
  · rintro ⟨M, hM, rfl⟩
    exact ⟨M, ((hs M).1 hM).1, rfl⟩
  · rintro ⟨M, hM, rfl⟩
    refine ⟨M, (hs M).2 ⟨hM, fun j hj => ?_⟩, rfl⟩
    rw [Nat.sub_self] at hj
    omega
theorem sets_plain {F : List Gt} {L : List Bool} (hck : checkP F L.length = 0) : (minsP F L.length).any (fun s => inM s L) = holdsP F L := by
  rw [Bool.eq_iff_iff, List.any_eq_true]
  constructor
  · rintro ⟨s, hs, hi⟩
    obtain ⟨M, ⟨g1, g2, g3⟩, rfl⟩ := (mins_mem hck s).1 hs
    exact holdsP_mono F L.length M L g1 rfl (inM_iff.1 hi) g2
  · intro h
    obtain ⟨M, g, hM⟩ := minimal_in (tr L) L (Nat.le_refl _) rfl h
    exact ⟨idxM M, (mins_mem hck _).2 ⟨M, g, rfl⟩, inM_iff.2 hM⟩
theorem mins_in {F : List Gt} {n : Nat} (hck : checkP F n = 0) {s : List Int} (hs : s ∈ minsP F n) : s.length ≤ n ∧ ∀ k ∈ s, 0 ≤ k ∧ k < n := by
  obtain ⟨M, ⟨g1, _, _⟩, rfl⟩ := (mins_mem hck s).1 hs
  refine ⟨g1 ▸ idx_length M, fun k hk => ?_⟩
  obtain ⟨j, rfl, hj⟩ := idx_mem.1 hk
  have := gb_lt hj
  omega
theorem mins_length (F : List Gt) (n : Nat) (hn : n ≤ 9) : (minsP F n).length ≤ 600 := by
  unfold minsP
  split
  · rw [List.length_map, Int.toNat_natCast]
    have h1 := srch_length (holdsP F) n n (List.replicate n false)
    have h2 : 2 ^ n ≤ 2 ^ 9 := Nat.pow_le_pow_right (by omega) hn
    omega
  · simp
end Go.Proofs.YteaaeaimjbaomaaDoor
