/-
  The leaves of a mask, and how many sets a search finds, plain.
-/
import Derived.Test.YteaaeaimjbaomaaDoorFmS1
namespace Go.Proofs.YteaaeaimjbaomaaDoor
set_option linter.unusedVariables false

/-- the numbers of the leaves that are in -/
def idxM (c : List Bool) : List Int := ((List.range c.length).filter fun i => gb c i).map fun (i : Nat) => (i : Int)
theorem filter_none (c : List Bool) (i k : Nat) (h : ∀ j, i ≤ j → gb c j = false) : ((List.range k).map (i + ·)).filter (fun j => gb c j) = [] := by
  rw [List.filter_eq_nil_iff]
  intro j hj
  obtain ⟨x, _, rfl⟩ := List.mem_map.1 hj
  rw [h _ (Nat.le_add_right _ _)]; simp
theorem idx_set {c : List Bool} {i : Nat} (hi : i < c.length) (h : ∀ j, i ≤ j → gb c j = false) : idxM (c.set i true) = idxM c ++ [(i : Int)] := by
  have e : c.length = i + (c.length - i) := by omega
  have e2 : c.length - i = (c.length - i - 1) + 1 := by omega
  have h2 : ∀ j, i + 1 ≤ j → gb (c.set i true) j = false := fun j hj => by
    rw [gb_set _ _ _ _ hi, if_neg (by omega)]; exact h j (by omega)
  have hfirst : (List.range i).filter (fun j => gb (c.set i true) j) = (List.range i).filter (fun j => gb c j) := by
    refine List.filter_congr fun j hj => ?_
    have := List.mem_range.1 hj
    rw [gb_set _ _ _ _ hi, if_neg (by omega)]
  have hmid : gb (c.set i true) i = true := by rw [gb_set _ _ _ _ hi, if_pos rfl]
  unfold idxM
  rw [List.length_set, e, List.range_add, List.filter_append, List.filter_append, filter_none c i _ h, hfirst, e2, List.range_succ_eq_map, List.map_cons, List.filter_cons]
  have hm : (List.map (i + ·) (List.map Nat.succ (List.range (c.length - i - 1)))) = (List.range (c.length - i - 1)).map ((i + 1) + ·) := by
    rw [List.map_map]
    refine List.map_congr_left fun j _ => ?_
    simp; omega
  rw [Nat.add_zero, hmid, if_pos rfl, hm, filter_none _ (i + 1) _ h2]
  simp
theorem idx_length (c : List Bool) : (idxM c).length ≤ c.length := by
  unfold idxM
  rw [List.length_map]
  have := List.length_filter_le (fun i => gb c i) (List.range c.length)
  simpa using this
theorem idx_zero (n : Nat) : idxM (List.replicate n false) = [] := by
  unfold idxM
  rw [List.map_eq_nil_iff, List.filter_eq_nil_iff]
  intro i _
  unfold gb
  rw [List.getD_eq_getElem?_getD, List.getElem?_replicate]
  split <;> simp
theorem lp_length (H : List Bool → Bool) (n : Nat) : ∀ (m : Nat) (c : List Bool), (lpM H n m c).length + 1 ≤ 2 ^ m
  | 0, c => by simp [lpM]
  | m + 1, c => by
    rw [lpM_succ]
    have h1 := lp_length H n m c
    have h2 := lp_length H n m (c.set (n - (m + 1)) true)
    have h3 : (srchM H n m (c.set (n - (m + 1)) true)).length ≤ 2 ^ m := by
      unfold srchM
      have : 1 ≤ 2 ^ m := Nat.one_le_two_pow
      split
      · split
        · simpa using this
        · simp
      · omega
    split
    · rw [List.length_append, Nat.pow_succ]; omega
    · rw [List.length_nil, Nat.pow_succ]; have : 1 ≤ 2 ^ m := Nat.one_le_two_pow; omega
theorem srch_length (H : List Bool → Bool) (n m : Nat) (c : List Bool) : (srchM H n m c).length ≤ 2 ^ m := by
  unfold srchM
  have h1 := lp_length H n m c
  have : 1 ≤ 2 ^ m := Nat.one_le_two_pow
  split
  · split
    · simpa using this
    · simp
  · omega
end Go.Proofs.YteaaeaimjbaomaaDoor
