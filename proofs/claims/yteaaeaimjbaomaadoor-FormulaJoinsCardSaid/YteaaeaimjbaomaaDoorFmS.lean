import Derived.Test.YteaaeaimjbaomaaDoorNum
/-
  Minimal sets of a monotone predicate, plain: the search in lexicographic order.
-/
namespace Go.Proofs.YteaaeaimjbaomaaDoor
set_option linter.unusedVariables false

abbrev gb (c : List Bool) (i : Nat) : Bool := c.getD i false
theorem gb_set (c : List Bool) (i j : Nat) (b : Bool) (hi : i < c.length) : gb (c.set i b) j = if j = i then b else gb c j := by
  unfold gb
  rw [List.getD_eq_getElem?_getD, List.getD_eq_getElem?_getD, List.getElem?_set]
  by_cases h : i = j
  · subst h; simp [hi]
  · rw [if_neg h, if_neg (fun h9 => h h9.symm)]
theorem gb_lt {c : List Bool} {i : Nat} (h : gb c i = true) : i < c.length := by
  rcases Nat.lt_or_ge i c.length with h1 | h1
  · exact h1
  · unfold gb at h
    rw [List.getD_eq_getElem?_getD, List.getElem?_eq_none h1] at h
    cases h
theorem mask_ext {c d : List Bool} (hl : c.length = d.length) (h : ∀ i, i < c.length → gb c i = gb d i) : c = d := by
  apply List.ext_getElem hl
  intro i h1 h2
  have := h i h1
  unfold gb at this
  rw [List.getD_eq_getElem?_getD, List.getD_eq_getElem?_getD, List.getElem?_eq_getElem h1, List.getElem?_eq_getElem h2] at this
  simpa using this
def Mono (H : List Bool → Bool) (n : Nat) : Prop := ∀ c d, c.length = n → d.length = n → (∀ i, gb c i = true → gb d i = true) → H c = true → H d = true
def minM (H : List Bool → Bool) (c : List Bool) : Bool := (List.range c.length).all fun i => !gb c i || !H (c.set i false)
theorem minM_iff (H : List Bool → Bool) (c : List Bool) : minM H c = true ↔ ∀ i, gb c i = true → H (c.set i false) = false := by
  unfold minM
  rw [List.all_eq_true]
  constructor
  · intro h i hi
    have := h i (List.mem_range.2 (gb_lt hi))
    rw [hi] at this
    simpa using this
  · intro h i hi
    cases hb : gb c i with
    | false => rfl
    | true => simp [h i hb]
def goodM (H : List Bool → Bool) (n : Nat) (c : List Bool) : Prop := c.length = n ∧ H c = true ∧ minM H c = true
def fillM (c : List Bool) (i : Nat) : List Bool := c.take i ++ List.replicate (c.length - i) true
theorem fillM_length (c : List Bool) (i : Nat) (h : i ≤ c.length) : (fillM c i).length = c.length := by
  unfold fillM; simp; omega
theorem gb_fill (c : List Bool) (i j : Nat) (h : i ≤ c.length) (hj : j < c.length) : gb (fillM c i) j = if j < i then gb c j else true := by
  unfold gb fillM
  rw [List.getD_eq_getElem?_getD]
  by_cases h1 : j < i
  · rw [if_pos h1, List.getElem?_append_left (by simp; omega), List.getElem?_take_of_lt h1, List.getD_eq_getElem?_getD]
  · have h2 : j - (c.take i).length < c.length - i := by simp; omega
    rw [if_neg h1, List.getElem?_append_right (by simp; omega), List.getElem?_replicate, if_pos h2]
    rfl
/-- the sets that agree with c below n - m, where c alone does not hold -/
def lpM (H : List Bool → Bool) (n : Nat) : Nat → List Bool → List (List Bool)
  | 0, _ => []
  | m + 1, c => if H (fillM c (n - (m + 1))) then (if H (c.set (n - (m + 1)) true) then (if minM H (c.set (n - (m + 1)) true) then [c.set (n - (m + 1)) true] else []) else lpM H n m (c.set (n - (m + 1)) true)) ++ lpM H n m c else []
def srchM (H : List Bool → Bool) (n m : Nat) (c : List Bool) : List (List Bool) := if H c then (if minM H c then [c] else []) else lpM H n m c
theorem lpM_succ (H : List Bool → Bool) (n m : Nat) (c : List Bool) : lpM H n (m + 1) c = if H (fillM c (n - (m + 1))) then srchM H n m (c.set (n - (m + 1)) true) ++ lpM H n m c else [] := rfl
/-- M agrees with c below i -/
def agr (M c : List Bool) (i : Nat) : Prop := ∀ j, j < i → gb M j = gb c j
theorem srch_of_lp {H : List Bool → Bool} {n : Nat} (hM : Mono H n) {m : Nat} {c : List Bool} (hc : c.length = n) (hz : ∀ j, n - m ≤ j → gb c j = false)
    (hl : H c = false → ∀ M, M ∈ lpM H n m c ↔ goodM H n M ∧ agr M c (n - m)) (M : List Bool) : M ∈ srchM H n m c ↔ goodM H n M ∧ agr M c (n - m) := by
  unfold srchM
  cases hh : H c with
  | false => simpa using hl hh M
  | true =>
    have huniq : goodM H n M → agr M c (n - m) → M = c := by
      rintro ⟨g1, g2, g3⟩ ha
      refine mask_ext (by omega) fun j hj => ?_
      cases hcj : gb c j with
      | true =>
        have : j < n - m := by
          rcases Nat.lt_or_ge j (n - m) with h | h
          · exact h
          · rw [hz j h] at hcj; cases hcj
        rw [ha j this, hcj]
      | false =>
        cases hMj : gb M j with
        | false => rfl
        | true =>
          have h1 := (minM_iff H M).1 g3 j hMj
          have h2 : H (M.set j false) = true := hM c (M.set j false) hc (by simp [g1]) (fun i hi => by
            rw [gb_set _ _ _ _ hj]
            by_cases hij : i = j
            · subst hij; rw [hi] at hcj; cases hcj
            · rw [if_neg hij]
              rcases Nat.lt_or_ge i (n - m) with h | h
              · rw [ha i h]; exact hi
              · rw [hz i h] at hi; cases hi) hh
          rw [h1] at h2; cases h2
    rw [if_pos rfl]
    by_cases hm : minM H c = true
    · rw [if_pos hm, List.mem_singleton]
      constructor
      · rintro rfl; exact ⟨⟨hc, hh, hm⟩, fun _ _ => rfl⟩
      · rintro ⟨h1, h2⟩; exact huniq h1 h2
    · rw [if_neg hm]
      constructor
      · intro h; cases h
      · rintro ⟨h1, h2⟩
        have := huniq h1 h2
        subst this
        exact absurd h1.2.2 hm
theorem lp_mem {H : List Bool → Bool} {n : Nat} (hM : Mono H n) : ∀ (m : Nat), m ≤ n → ∀ c : List Bool, c.length = n → (∀ j, n - m ≤ j → gb c j = false) → H c = false → ∀ M, M ∈ lpM H n m c ↔ goodM H n M ∧ agr M c (n - m)
  | 0, _, c, hc, hz, hh, M => by
    rw [lpM]
    constructor
    · intro h; cases h
    · rintro ⟨⟨g1, g2, _⟩, h⟩
      have : M = c := mask_ext (by omega) fun j hj => h j (by omega)
      rw [this, hh] at g2; cases g2
  | m + 1, hm, c, hc, hz, hh, M => by
    have e1 : n - m = (n - (m + 1)) + 1 := by omega
    have hi : n - (m + 1) < c.length := by omega
    generalize hii : n - (m + 1) = i at *
    rw [lpM_succ, hii]
    have hz2 : ∀ j, n - m ≤ j → gb c j = false := fun j hj => hz j (by omega)
    have hz3 : ∀ j, n - m ≤ j → gb (c.set i true) j = false := fun j hj => by
      rw [gb_set _ _ _ _ hi, if_neg (by omega)]; exact hz j (by omega)
    have q1 := srch_of_lp hM (m := m) (c := c.set i true) (by simp [hc]) hz3 (fun h9 => lp_mem hM m (by omega) _ (by simp [hc]) hz3 h9) M
    have q2 := lp_mem hM m (by omega) c hc hz2 hh M
    cases hf : H (fillM c i) with
    | false =>
      rw [if_neg (by simp)]
      constructor
      · intro h; cases h
      · rintro ⟨⟨g1, g2, _⟩, h⟩
        have : H (fillM c i) = true := hM M _ g1 (by rw [fillM_length _ _ (by omega)]; exact hc) (fun j hj => by
          have hjl := gb_lt hj
          rw [gb_fill _ _ _ (by omega) (by omega)]
          by_cases h1 : j < i
          · rw [if_pos h1, ← h j h1]; exact hj
          · rw [if_neg h1]) g2
        rw [hf] at this; cases this
    | true =>
      rw [if_pos rfl, List.mem_append, q1, q2, e1]
      constructor
      · rintro (⟨g, h⟩ | ⟨g, h⟩)
        · refine ⟨g, fun j hj => ?_⟩
          rw [h j (by omega), gb_set _ _ _ _ hi, if_neg (by omega)]
        · exact ⟨g, fun j hj => h j (by omega)⟩
      · rintro ⟨g, h⟩
        cases hb : gb M i with
        | true =>
          refine .inl ⟨g, fun j hj => ?_⟩
          rw [gb_set _ _ _ _ hi]
          by_cases h1 : j = i
          · rw [if_pos h1, h1, hb]
          · rw [if_neg h1]; exact h j (by omega)
        | false =>
          refine .inr ⟨g, fun j hj => ?_⟩
          by_cases h1 : j = i
          · rw [h1, hb, hz i (Nat.le_refl _)]
          · exact h j (by omega)
theorem srch_mem {H : List Bool → Bool} {n : Nat} (hM : Mono H n) (m : Nat) (hm : m ≤ n) (c : List Bool) (hc : c.length = n) (hz : ∀ j, n - m ≤ j → gb c j = false) (M : List Bool) : M ∈ srchM H n m c ↔ goodM H n M ∧ agr M c (n - m) :=
  srch_of_lp hM hc hz (fun h => lp_mem hM m hm c hc hz h) M
/-- the order of the masks: at the first place where they part, the first has the leaf -/
def mlt (M N : List Bool) : Prop := ∃ i, (∀ j, j < i → gb M j = gb N j) ∧ gb M i = true ∧ gb N i = false
theorem srch_sorted_of {H : List Bool → Bool} {n m : Nat} {c : List Bool} (h : (lpM H n m c).Pairwise mlt) : (srchM H n m c).Pairwise mlt := by
  unfold srchM
  split
  · split
    · exact List.pairwise_singleton _ _
    · exact List.Pairwise.nil
  · exact h
theorem lp_sub {H : List Bool → Bool} {n : Nat} (hM : Mono H n) (m : Nat) (hm : m ≤ n) (c : List Bool) (hc : c.length = n) (hz : ∀ j, n - m ≤ j → gb c j = false) (hh : H c = false) {M : List Bool} (h : M ∈ lpM H n m c) : agr M c (n - m) := ((lp_mem hM m hm c hc hz hh M).1 h).2
theorem lp_sorted {H : List Bool → Bool} {n : Nat} (hM : Mono H n) : ∀ (m : Nat), m ≤ n → ∀ c : List Bool, c.length = n → (∀ j, n - m ≤ j → gb c j = false) → H c = false → (lpM H n m c).Pairwise mlt
  | 0, _, c, hc, hz, _ => List.Pairwise.nil
  | m + 1, hm, c, hc, hz, hh => by
    have e1 : n - m = (n - (m + 1)) + 1 := by omega
    have hi : n - (m + 1) < c.length := by omega
    generalize hii : n - (m + 1) = i at *
    rw [lpM_succ, hii]
    have hz2 : ∀ j, n - m ≤ j → gb c j = false := fun j hj => hz j (by omega)
    have hz3 : ∀ j, n - m ≤ j → gb (c.set i true) j = false := fun j hj => by
      rw [gb_set _ _ _ _ hi, if_neg (by omega)]; exact hz j (by omega)
    cases hf : H (fillM c i) with
    | false => rw [if_neg (by simp)]; exact List.Pairwise.nil
    | true =>
      rw [if_pos rfl]
      have hs : (srchM H n m (c.set i true)).Pairwise mlt := by
        unfold srchM
        split
        · split
          · exact List.pairwise_singleton _ _
          · exact List.Pairwise.nil
        · rename_i h9
          exact lp_sorted hM m (by omega) _ (by simp [hc]) hz3 (by simpa using h9)
      refine List.pairwise_append.2 ⟨hs, lp_sorted hM m (by omega) c hc hz2 hh, fun M hMm N hN => ?_⟩
      have a1 := ((srch_mem hM m (by omega) (c.set i true) (by simp [hc]) hz3 M).1 hMm).2
      have a2 := lp_sub hM m (by omega) c hc hz2 hh hN
      refine ⟨i, fun j hj => ?_, ?_, ?_⟩
      · rw [a1 j (by omega), a2 j (by omega), gb_set _ _ _ _ hi, if_neg (by omega)]
      · rw [a1 i (by omega), gb_set _ _ _ _ hi, if_pos rfl]
      · rw [a2 i (by omega)]; exact hz i (Nat.le_refl _)
theorem srch_sorted {H : List Bool → Bool} {n : Nat} (hM : Mono H n) (m : Nat) (hm : m ≤ n) (c : List Bool) (hc : c.length = n) (hz : ∀ j, n - m ≤ j → gb c j = false) : (srchM H n m c).Pairwise mlt := by
  unfold srchM
  split
  · split
    · exact List.pairwise_singleton _ _
    · exact List.Pairwise.nil
  · rename_i h9
    exact lp_sorted hM m hm c hc hz (by simpa using h9)
theorem mlt_irrefl (M : List Bool) : ¬ mlt M M := by
  rintro ⟨i, _, h1, h2⟩; rw [h1] at h2; cases h2
theorem mlt_trans {A B C : List Bool} (h1 : mlt A B) (h2 : mlt B C) : mlt A C := by
  obtain ⟨i, a1, a2, a3⟩ := h1
  obtain ⟨k, b1, b2, b3⟩ := h2
  rcases Nat.lt_trichotomy i k with h | h | h
  · exact ⟨i, fun j hj => (a1 j hj).trans (b1 j (by omega)), a2, by rw [← b1 i h]; exact a3⟩
  · subst h; rw [a3] at b2; cases b2
  · exact ⟨k, fun j hj => (a1 j (by omega)).trans (b1 j hj), by rw [a1 k h]; exact b2, b3⟩
theorem mlt_total : ∀ {A B : List Bool}, A.length = B.length → A = B ∨ mlt A B ∨ mlt B A
  | [], [], _ => .inl rfl
  | a :: A, b :: B, h => by
    by_cases hab : a = b
    · subst hab
      rcases mlt_total (A := A) (B := B) (by simpa using h) with h1 | ⟨i, h1, h2, h3⟩ | ⟨i, h1, h2, h3⟩
      · exact .inl (by rw [h1])
      · exact .inr (.inl ⟨i + 1, fun j hj => by cases j with | zero => rfl | succ j => exact h1 j (by omega), h2, h3⟩)
      · exact .inr (.inr ⟨i + 1, fun j hj => by cases j with | zero => rfl | succ j => exact h1 j (by omega), h2, h3⟩)
    · cases a with
      | true =>
        cases b with
        | true => exact absurd rfl hab
        | false => exact .inr (.inl ⟨0, fun j hj => absurd hj (by omega), rfl, rfl⟩)
      | false =>
        cases b with
        | true => exact .inr (.inr ⟨0, fun j hj => absurd hj (by omega), rfl, rfl⟩)
        | false => exact absurd rfl hab
theorem sorted_unique : ∀ {A B : List (List Bool)}, A.Pairwise mlt → B.Pairwise mlt → (∀ M, M ∈ A ↔ M ∈ B) → A = B
  | [], [], _, _, _ => rfl
  | [], b :: B, _, _, h => absurd ((h b).2 (List.mem_cons_self ..)) (by simp)
  | a :: A, [], _, _, h => absurd ((h a).1 (List.mem_cons_self ..)) (by simp)
  | a :: A, b :: B, h1, h2, h => by
    obtain ⟨p1, p2⟩ := List.pairwise_cons.1 h1
    obtain ⟨q1, q2⟩ := List.pairwise_cons.1 h2
    have hab : a = b := by
      rcases List.mem_cons.1 ((h a).1 (List.mem_cons_self ..)) with h3 | h3
      · exact h3
      · rcases List.mem_cons.1 ((h b).2 (List.mem_cons_self ..)) with h4 | h4
        · exact h4.symm
        · exact absurd (mlt_trans (p1 b h4) (q1 a h3)) (mlt_irrefl _)
    subst hab
    congr 1
    refine sorted_unique p2 q2 fun M => ?_
    constructor
    · intro hM
      rcases List.mem_cons.1 ((h M).1 (List.mem_cons_of_mem _ hM)) with h3 | h3
      · subst h3; exact absurd (p1 M hM) (mlt_irrefl _)
      · exact h3
    · intro hM
      rcases List.mem_cons.1 ((h M).2 (List.mem_cons_of_mem _ hM)) with h3 | h3
      · subst h3; exact absurd (q1 M hM) (mlt_irrefl _)
      · exact h3
end Go.Proofs.YteaaeaimjbaomaaDoor

/-
  The leaves of a mask, and how many sets a search finds, plain.
-/
namespace Go.Proofs.YteaaeaimjbaomaaDoor
set_option linter.unusedVariables false

/-- the numbers of the leaves that are in -/
def idxM (c : List Bool) : List Int := ((List.range c.length).filter fun i => gb c i).map fun (i : Nat) => (i : Int)
theorem filter_none (c : List Bool) (i k : Nat) (h : ∀ j, i ≤ j → gb c j = false) : ((List.range k).map (i + ·)).filter (fun j => gb c j) = [] := by
  rw [List.filter_eq_nil_iff]
  intro j hj
  obtain ⟨x, _, rfl⟩ := List.mem_map.1 hj
  rw [h _ (Nat.le_add_right _ _)]; simp
theorem idx_set {c : List Bool} {i : Nat} (hi : i < c.length) (h : ∀ j, i ≤ j → gb c j = false) : idxM (c.set i true) = idxM c ++ [(i : Int)] := by
  have e : c.length = i + (c.length - i) := by omega
  have e2 : c.length - i = (c.length - i - 1) + 1 := by omega
  have h2 : ∀ j, i + 1 ≤ j → gb (c.set i true) j = false := fun j hj => by
    rw [gb_set _ _ _ _ hi, if_neg (by omega)]; exact h j (by omega)
  have hfirst : (List.range i).filter (fun j => gb (c.set i true) j) = (List.range i).filter (fun j => gb c j) := by
    refine List.filter_congr fun j hj => ?_
    have := List.mem_range.1 hj
    rw [gb_set _ _ _ _ hi, if_neg (by omega)]
  have hmid : gb (c.set i true) i = true := by rw [gb_set _ _ _ _ hi, if_pos rfl]
  unfold idxM
  rw [List.length_set, e, List.range_add, List.filter_append, List.filter_append, filter_none c i _ h, hfirst, e2, List.range_succ_eq_map, List.map_cons, List.filter_cons]
  have hm : (List.map (i + ·) (List.map Nat.succ (List.range (c.length - i - 1)))) = (List.range (c.length - i - 1)).map ((i + 1) + ·) := by
    rw [List.map_map]
    refine List.map_congr_left fun j _ => ?_
    simp; omega
  rw [Nat.add_zero, hmid, if_pos rfl, hm, filter_none _ (i + 1) _ h2]
  simp
theorem idx_length (c : List Bool) : (idxM c).length ≤ c.length := by
  unfold idxM
  rw [List.length_map]
  have := List.length_filter_le (fun i => gb c i) (List.range c.length)
  simpa using this
theorem idx_zero (n : Nat) : idxM (List.replicate n false) = [] := by
  unfold idxM
  rw [List.map_eq_nil_iff, List.filter_eq_nil_iff]
  intro i _
  unfold gb
  rw [List.getD_eq_getElem?_getD, List.getElem?_replicate]
  split <;> simp
theorem lp_length (H : List Bool → Bool) (n : Nat) : ∀ (m : Nat) (c : List Bool), (lpM H n m c).length + 1 ≤ 2 ^ m
  | 0, c => by simp [lpM]
  | m + 1, c => by
    rw [lpM_succ]
    have h1 := lp_length H n m c
    have h2 := lp_length H n m (c.set (n - (m + 1)) true)
    have h3 : (srchM H n m (c.set (n - (m + 1)) true)).length ≤ 2 ^ m := by
      unfold srchM
      have : 1 ≤ 2 ^ m := Nat.one_le_two_pow
      split
      · split
        · simpa using this
        · simp
      · omega
    split
    · rw [List.length_append, Nat.pow_succ]; omega
    · rw [List.length_nil, Nat.pow_succ]; have : 1 ≤ 2 ^ m := Nat.one_le_two_pow; omega
theorem srch_length (H : List Bool → Bool) (n m : Nat) (c : List Bool) : (srchM H n m c).length ≤ 2 ^ m := by
  unfold srchM
  have h1 := lp_length H n m c
  have : 1 ≤ 2 ^ m := Nat.one_le_two_pow
  split
  · split
    · simpa using this
    · simp
  · omega
end Go.Proofs.YteaaeaimjbaomaaDoor
