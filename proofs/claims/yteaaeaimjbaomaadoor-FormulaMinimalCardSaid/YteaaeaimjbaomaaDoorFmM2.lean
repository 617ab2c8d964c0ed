/-
  The lexicographic order of the minimal sets; insertion; masks of numbers: plain.
-/
import Derived.Test.YteaaeaimjbaomaaDoorFmS3
import Derived.Test.YteaaeaimjbaomaaDoorFmM1
namespace Go.Proofs.YteaaeaimjbaomaaDoor
set_option linter.unusedVariables false

theorem lexI_irrefl : ∀ x : List Int, lexI x x = false
  | [] => rfl
  | a :: x => by rw [lexI, if_pos rfl]; exact lexI_irrefl x
theorem lexI_trans : ∀ x y z : List Int, lexI x y = true → lexI y z = true → lexI x z = true
  | [], [], [], _, h2 => by simp [lexI] at h2
  | [], _ :: _, [], _, h2 => by simp [lexI] at h2
  | [], _, _ :: _, _, _ => by simp [lexI]
  | a :: x, [], _, h1, _ => by cases h1
  | a :: x, b :: y, [], _, h2 => by cases h2
  | a :: x, b :: y, c :: z, h1, h2 => by
    rw [lexI] at h1 h2 ⊢
    by_cases hab : a = b
    · subst hab
      rw [if_pos rfl] at h1
      by_cases hbc : a = c
      · subst hbc
        rw [if_pos rfl] at h2 ⊢
        exact lexI_trans x y z h1 h2
      · rw [if_neg hbc] at h2 ⊢; exact h2
    · rw [if_neg hab] at h1
      have h1' := of_decide_eq_true h1
      by_cases hbc : b = c
      · subst hbc; rw [if_neg hab]; exact h1
      · rw [if_neg hbc] at h2
        have h2' := of_decide_eq_true h2
        rw [if_neg (by omega)]
        exact decide_eq_true (by omega)
theorem lexI_total : ∀ x y : List Int, x = y ∨ lexI x y = true ∨ lexI y x = true
  | [], [] => .inl rfl
  | [], _ :: _ => .inr (.inl (by simp [lexI]))
  | _ :: _, [] => .inr (.inr (by simp [lexI]))
  | a :: x, b :: y => by
    by_cases hab : a = b
    · subst hab
      rw [lexI, if_pos rfl, lexI, if_pos rfl]
      rcases lexI_total x y with h | h | h
      · exact .inl (by rw [h])
      · exact .inr (.inl h)
      · exact .inr (.inr h)
    · rw [lexI, if_neg hab, lexI, if_neg (fun h => hab h.symm)]
      rcases Int.lt_or_gt_of_ne hab with h | h
      · exact .inr (.inl (decide_eq_true h))
      · exact .inr (.inr (decide_eq_true h))
def ltI (x y : List Int) : Prop := lexI x y = true
theorem sorted_uniqueI : ∀ {A B : List (List Int)}, A.Pairwise ltI → B.Pairwise ltI → (∀ M, M ∈ A ↔ M ∈ B) → A = B
  | [], [], _, _, _ => rfl
  | [], b :: B, _, _, h => absurd ((h b).2 (List.mem_cons_self ..)) (by simp)
  | a :: A, [], _, _, h => absurd ((h a).1 (List.mem_cons_self ..)) (by simp)
  | a :: A, b :: B, h1, h2, h => by
    obtain ⟨p1, p2⟩ := List.pairwise_cons.1 h1
    obtain ⟨q1, q2⟩ := List.pairwise_cons.1 h2
    have irr : ∀ x, ¬ ltI x x := fun x h => by unfold ltI at h; rw [lexI_irrefl] at h; cases h
    have hab : a = b := by
      rcases List.mem_cons.1 ((h a).1 (List.mem_cons_self ..)) with h3 | h3
      · exact h3
      · rcases List.mem_cons.1 ((h b).2 (List.mem_cons_self ..)) with h4 | h4
        · exact h4.symm
        · exact absurd (lexI_trans _ _ _ (p1 b h4) (q1 a h3)) (irr _)
    subst hab
    congr 1
    refine sorted_uniqueI p2 q2 fun M => ?_
    constructor
    · intro hM
      rcases List.mem_cons.1 ((h M).1 (List.mem_cons_of_mem _ hM)) with h3 | h3
      · subst h3; exact absurd (p1 M hM) (irr _)
      · exact h3
    · intro hM
      rcases List.mem_cons.1 ((h M).2 (List.mem_cons_of_mem _ hM)) with h3 | h3
      · subst h3; exact absurd (q1 M hM) (irr _)
      · exact h3
/-- the place of an insertion: what lies behind is greater, what lies just ahead is not -/
structure InsAt (l : List Int) (out : List (List Int)) (a : Nat) : Prop where
  le : a ≤ out.length
  gt : ∀ j x, a ≤ j → out[j]? = some x → lexI l x = true
  ng : ∀ k x, a = k + 1 → out[k]? = some x → lexI l x = false
def insL (l : List Int) (out : List (List Int)) (a : Nat) : List (List Int) := out.take a ++ l :: out.drop a
theorem insL_mem {l : List Int} {out : List (List Int)} {a : Nat} {x : List Int} : x ∈ insL l out a ↔ x = l ∨ x ∈ out := by
  unfold insL
  conv => rhs; rw [← List.take_append_drop a out]
  simp only [List.mem_append, List.mem_cons]
  constructor
  · rintro (h | h | h)
    · exact .inr (.inl h)
    · exact .inl h
    · exact .inr (.inr h)
  · rintro (h | h | h)
    · exact .inr (.inl h)
    · exact .inl h
    · exact .inr (.inr h)
theorem insL_length {l : List Int} {out : List (List Int)} {a : Nat} : (insL l out a).length = out.length + 1 := by
  unfold insL
  rw [List.length_append, List.length_cons, List.length_take, List.length_drop]; omega
theorem insL_sorted {l : List Int} {out : List (List Int)} {a : Nat} (h : InsAt l out a) (hs : out.Pairwise ltI) (hl : l ∉ out) : (insL l out a).Pairwise ltI := by
  unfold insL
  have hs' := hs
  rw [← List.take_append_drop a out] at hs'
  obtain ⟨s1, s2, s3⟩ := List.pairwise_append.1 hs'
  have hb : ∀ x ∈ out.take a, ltI x l := by
    intro x hx
    cases a with
    | zero => simp at hx
    | succ k =>
      have hk : k < out.length := h.le
      have hkx : out[k]? = some out[k] := List.getElem?_eq_getElem hk
      have h1 := h.ng k _ rfl hkx
      have hne : out[k] ≠ l := fun e => hl (e ▸ List.getElem_mem hk)
      have h2 : ltI out[k] l := by
        rcases lexI_total out[k] l with h3 | h3 | h3
        · exact absurd h3 hne
        · exact h3
        · rw [h1] at h3; cases h3
      rw [List.take_add_one, hkx] at hx
      rcases List.mem_append.1 hx with h3 | h3
      · have h4 : ltI x out[k] := by
          rw [List.take_add_one, hkx] at s1
          exact (List.pairwise_append.1 s1).2.2 x h3 out[k] (by simp)
        exact lexI_trans _ _ _ h4 h2
      · have : x = out[k] := by simpa using h3
        rw [this]; exact h2
  have ha : ∀ x ∈ out.drop a, ltI l x := by
    intro x hx
    obtain ⟨j, hj⟩ := List.mem_iff_getElem?.1 hx
    rw [List.getElem?_drop] at hj
    exact h.gt _ x (by omega) hj
  refine List.pairwise_append.2 ⟨s1, List.pairwise_cons.2 ⟨ha, s2⟩, fun x hx y hy => ?_⟩
  rcases List.mem_cons.1 hy with h3 | h3
  · rw [h3]; exact hb x hx
  · exact s3 x hx y h3
theorem lexI_pre : ∀ (p x y : List Int), lexI (p ++ x) (p ++ y) = lexI x y
  | [], _, _ => rfl
  | a :: p, x, y => by rw [List.cons_append, List.cons_append, lexI, if_pos rfl]; exact lexI_pre p x y
theorem idx_split (c : List Bool) (i : Nat) (hi : i ≤ c.length) : idxM c = (((List.range i).filter fun j => gb c j).map fun (j : Nat) => (j : Int)) ++ ((((List.range (c.length - i)).map (i + ·)).filter fun j => gb c j).map fun (j : Nat) => (j : Int)) := by
  unfold idxM
  have e : List.range c.length = List.range i ++ (List.range (c.length - i)).map (i + ·) := by
    rw [← List.range_add]; congr 1; omega
  rw [e, List.filter_append, List.map_append]
theorem idx_lt {H : List Bool → Bool} {n : Nat} (hM : Mono H n) {M N : List Bool} (hm : goodM H n M) (hn : goodM H n N) (h : mlt M N) : ltI (idxM M) (idxM N) := by
  obtain ⟨i, h1, h2, h3⟩ := h
  have hi := gb_lt h2
  have el : M.length = N.length := by rw [hm.1, hn.1]
  unfold ltI
  rw [idx_split M i (by omega), idx_split N i (by omega)]
  have hp : (List.range i).filter (fun j => gb M j) = (List.range i).filter (fun j => gb N j) := List.filter_congr fun j hj => by rw [h1 j (List.mem_range.1 hj)]
  rw [hp, lexI_pre]
  have e1 : M.length - i = (M.length - i - 1) + 1 := by omega
  have e2 : N.length - i = (M.length - i - 1) + 1 := by omega
  rw [e1, e2, List.range_succ_eq_map, List.map_cons, List.filter_cons, Nat.add_zero, h2, if_pos rfl, List.filter_cons, h3, if_neg (by simp), List.map_cons]
  generalize hr : ((List.map (i + ·) (List.map Nat.succ (List.range (M.length - i - 1)))).filter fun j => gb N j) = r
  cases r with
  | nil =>
    exfalso
    have hz : ∀ j, i ≤ j → gb N j = true → False := by
      intro j hj hg
      have hjl := gb_lt hg
      by_cases hji : j = i
      · subst hji; rw [h3] at hg; cases hg
      · have : j ∈ ((List.map (i + ·) (List.map Nat.succ (List.range (M.length - i - 1)))).filter fun j => gb N j) := by
          refine List.mem_filter.2 ⟨?_, hg⟩
          rw [List.map_map]
          exact List.mem_map.2 ⟨j - i - 1, List.mem_range.2 (by omega), by simp; omega⟩
        rw [hr] at this; cases this
    have h4 := (minM_iff H M).1 hm.2.2 i h2
    have h5 : H (M.set i false) = true := hM N (M.set i false) hn.1 (by simp [hm.1]) (fun j hj => by
      rw [gb_set _ _ _ _ hi]
      by_cases hji : j = i
      · subst hji; exact (hz j (Nat.le_refl _) hj).elim
      · rw [if_neg hji]
        rcases Nat.lt_or_ge j i with h6 | h6
        · rw [h1 j h6]; exact hj
        · exact (hz j h6 hj).elim) hn.2.1
    rw [h4] at h5; cases h5
  | cons k r =>
    have hk : k ∈ ((List.map (i + ·) (List.map Nat.succ (List.range (M.length - i - 1)))).filter fun j => gb N j) := by rw [hr]; exact List.mem_cons_self ..
    have hki : i < k := by
      have h6 := (List.mem_filter.1 hk).1
      rw [List.map_map] at h6
      obtain ⟨x, _, hx⟩ := List.mem_map.1 h6
      simp at hx; omega
    rw [List.map_cons, lexI, if_neg (by omega)]
    exact decide_eq_true (by omega)
theorem mins_sorted (F : List Gt) (n : Nat) (hck : checkP F n = 0) : (minsP F n).Pairwise ltI := by
  rw [minsP, if_pos hck, Int.toNat_natCast, List.pairwise_map]
  have hs := srch_mem (holdsP_mono F n) n (Nat.le_refl _) (List.replicate n false) (by simp) (fun j _ => zero_gb n j)
  refine (srch_sorted (holdsP_mono F n) n (Nat.le_refl _) (List.replicate n false) (by simp) (fun j _ => zero_gb n j)).imp_of_mem ?_
  intro M N hM hN h
  exact idx_lt (holdsP_mono F n) ((hs M).1 hM).1 ((hs N).1 hN).1 h
/-- the mask of a number -/
def maskN (n s : Nat) : List Bool := (List.range n).map fun i => s.testBit i
theorem maskN_length (n s : Nat) : (maskN n s).length = n := by simp [maskN]
theorem maskN_gb (n s i : Nat) (hi : i < n) : gb (maskN n s) i = s.testBit i := by
  unfold gb maskN
  rw [List.getD_eq_getElem?_getD, List.getElem?_map, List.getElem?_range hi]; rfl
theorem maskN_inj {n s t : Nat} (hs : s < 2 ^ n) (ht : t < 2 ^ n) (h : maskN n s = maskN n t) : s = t := by
  refine Nat.eq_of_testBit_eq fun i => ?_
  rcases Nat.lt_or_ge i n with hi | hi
  · rw [← maskN_gb n s i hi, ← maskN_gb n t i hi, h]
  · rw [Nat.testBit_lt_two_pow (Nat.lt_of_lt_of_le hs (Nat.pow_le_pow_right (by omega) hi)), Nat.testBit_lt_two_pow (Nat.lt_of_lt_of_le ht (Nat.pow_le_pow_right (by omega) hi))]
theorem maskN_sur : ∀ M : List Bool, ∃ t, t < 2 ^ M.length ∧ ∀ i, i < M.length → t.testBit i = gb M i
  | [] => ⟨0, by simp, fun i hi => absurd hi (by simp)⟩
  | b :: M => by
    obtain ⟨t, h1, h2⟩ := maskN_sur M
    refine ⟨2 * t + b.toNat, ?_, fun i hi => ?_⟩
    · rw [List.length_cons, Nat.pow_succ]
      have : b.toNat ≤ 1 := Bool.toNat_le b
      omega
    · cases i with
      | zero =>
        rw [Nat.testBit_zero]
        have : (2 * t + b.toNat) % 2 = b.toNat := by
          have : b.toNat ≤ 1 := Bool.toNat_le b
          omega
        rw [this]
        cases b <;> rfl
      | succ i =>
        rw [Nat.testBit_succ]
        have : (2 * t + b.toNat) / 2 = t := by
          have : b.toNat ≤ 1 := Bool.toNat_le b
          omega
        rw [this]
        have hi' : i < M.length := by simpa using hi
        exact h2 i hi'
theorem mask_of (M : List Bool) : ∃ t, t < 2 ^ M.length ∧ maskN M.length t = M := by
  obtain ⟨t, h1, h2⟩ := maskN_sur M
  exact ⟨t, h1, mask_ext (maskN_length _ _) fun i hi => by rw [maskN_length] at hi; rw [maskN_gb _ _ _ hi, h2 i hi]⟩
theorem idx_inj {c d : List Bool} (hl : c.length = d.length) (h : idxM c = idxM d) : c = d := by
  refine mask_ext hl fun i _ => ?_
  have h1 : gb c i = true ↔ gb d i = true := by
    have h2 : (i : Int) ∈ idxM c ↔ (i : Int) ∈ idxM d := by rw [h]
    constructor
    · intro hc
      obtain ⟨j, e, hj⟩ := idx_mem.1 (h2.1 (idx_mem.2 ⟨i, rfl, hc⟩))
      have : i = j := by omega
      rw [this]; exact hj
    · intro hc
      obtain ⟨j, e, hj⟩ := idx_mem.1 (h2.2 (idx_mem.2 ⟨i, rfl, hc⟩))
      have : i = j := by omega
      rw [this]; exact hj
  cases hc : gb c i <;> cases hd : gb d i <;> simp_all
/-- what lies in the list once the sets below s have been tried -/
structure Tried (H : List Bool → Bool) (n s : Nat) (out : List (List Int)) : Prop where
  sorted : out.Pairwise ltI
  mem : ∀ x, x ∈ out ↔ ∃ t, t < s ∧ goodM H n (maskN n t) ∧ x = idxM (maskN n t)
  len : out.length ≤ s
theorem Tried.zero (H : List Bool → Bool) (n : Nat) : Tried H n 0 [] := ⟨List.Pairwise.nil, fun x => ⟨fun h => (by cases h), fun ⟨t, ht, _⟩ => (by omega)⟩, Nat.le_refl _⟩
theorem Tried.skip {H : List Bool → Bool} {n s : Nat} {out : List (List Int)} (h : Tried H n s out) (hg : ¬ (H (maskN n s) = true ∧ minM H (maskN n s) = true)) : Tried H n (s + 1) out := by
  refine ⟨h.sorted, fun x => ?_, by have := h.len; omega⟩
  rw [h.mem]
  constructor
  · rintro ⟨t, h1, h2⟩; exact ⟨t, by omega, h2⟩
  · rintro ⟨t, h1, h2, h3⟩
    by_cases hts : t = s
    · subst hts; exact absurd h2.2 hg
    · exact ⟨t, by omega, h2, h3⟩
theorem Tried.put {H : List Bool → Bool} {n s a : Nat} {out : List (List Int)} (h : Tried H n s out) (hs : s < 2 ^ n) (hg : H (maskN n s) = true ∧ minM H (maskN n s) = true) (ha : InsAt (idxM (maskN n s)) out a) : Tried H n (s + 1) (insL (idxM (maskN n s)) out a) := by
  have hn : idxM (maskN n s) ∉ out := by
    intro hm
    obtain ⟨t, h1, h2, h3⟩ := (h.mem _).1 hm
    have := maskN_inj (n := n) hs (by omega) (idx_inj (by rw [maskN_length, maskN_length]) h3)
    omega
  refine ⟨insL_sorted ha h.sorted hn, fun x => ?_, by rw [insL_length]; have := h.len; omega⟩
  rw [insL_mem, h.mem]
  constructor
  · rintro (h1 | ⟨t, h1, h2⟩)
    · exact ⟨s, by omega, ⟨maskN_length _ _, hg⟩, h1⟩
    · exact ⟨t, by omega, h2⟩
  · rintro ⟨t, h1, h2, h3⟩
    by_cases hts : t = s
    · subst hts; exact .inl h3
    · exact .inr ⟨t, by omega, h2, h3⟩
theorem Tried.all {F : List Gt} {n : Nat} {out : List (List Int)} (hck : checkP F n = 0) (h : Tried (holdsP F) n (2 ^ n) out) : out = minsP F n := by
  refine sorted_uniqueI h.sorted (mins_sorted F n hck) fun x => ?_
  rw [h.mem, mins_mem hck]
  constructor
  · rintro ⟨t, _, h2, h3⟩; exact ⟨_, h2, h3⟩
  · rintro ⟨M, h2, h3⟩
    obtain ⟨t, h4, h5⟩ := mask_of M
    rw [h2.1] at h4 h5
    exact ⟨t, h4, by rw [h5]; exact h2, by rw [h5]; exact h3⟩
end Go.Proofs.YteaaeaimjbaomaaDoor
