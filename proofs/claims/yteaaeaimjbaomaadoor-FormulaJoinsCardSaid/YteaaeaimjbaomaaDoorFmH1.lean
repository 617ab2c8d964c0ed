/-
  The honest gates of a formula, plain.
-/
import Derived.Test.YteaaeaimjbaomaaDoorFmT5
import Derived.Test.YteaaeaimjbaomaaDoorFmN
namespace Go.Proofs.YteaaeaimjbaomaaDoor
open Go.RowKit
set_option linter.unusedVariables false

def rng (i j : Int) : List Int := (List.range (j - i).toNat).map fun (k : Nat) => i + (k : Int)
theorem rng_self (i : Int) : rng i i = [] := by simp [rng]
theorem rng_one (i : Int) : rng i (i + 1) = [i] := by
  unfold rng
  rw [show (i + 1 - i).toNat = 1 by omega]; simp
theorem rng_append {i j k : Int} (h1 : i ≤ j) (h2 : j ≤ k) : rng i j ++ rng j k = rng i k := by
  unfold rng
  rw [show (k - i).toNat = (j - i).toNat + (k - j).toNat by omega, List.range_add, List.map_append, List.map_map]
  congr 1
  refine List.map_congr_left fun x _ => ?_
  simp only [Function.comp]
  omega
theorem rng_nodup (i j : Int) : (rng i j).Nodup := by
  unfold rng
  rw [List.nodup_iff_pairwise_ne, List.pairwise_map]
  exact List.Pairwise.imp (fun h h9 => h (by omega)) (List.nodup_iff_pairwise_ne.1 List.nodup_range)
theorem seg_self (F : List Gt) (i : Int) : seg F i i = [] := by simp [seg]
abbrev isLf (g : Gt) : Bool := decide (g.kids = [])
theorem kids_perm {F : List Gt} {f : Nat} (hb : ∀ a s r, visitP F f a s = (true, r) → 0 ≤ s.1 → 0 ≤ s.2 → s.2 ≤ s.1 → s.1 < r.1 ∧ r.1 ≤ F.length ∧ r.2 ≤ r.1 ∧ 0 ≤ r.2 ∧ a = s.1)
    (hg : ∀ a s r, visitP F f a s = (true, r) → 0 ≤ s.1 → 0 ≤ s.2 → s.2 ≤ s.1 → (s.1 :: (seg F s.1 r.1).flatMap Gt.kids).Perm (rng s.1 r.1) ∧ s.2 ≤ r.2 ∧ ((seg F s.1 r.1).filter isLf).map Gt.leaf = rng s.2 r.2) :
    ∀ (ks : List Int) (s r : Int × Int), kidsP (visitP F f) ks s = (true, r) → 0 ≤ s.1 → 0 ≤ s.2 → s.2 ≤ s.1 → s.1 ≤ r.1 ∧ (ks ++ (seg F s.1 r.1).flatMap Gt.kids).Perm (rng s.1 r.1) ∧ s.2 ≤ r.2 ∧ ((seg F s.1 r.1).filter isLf).map Gt.leaf = rng s.2 r.2
  | [], s, r, h, _, _, _ => by
    have h9 : s = r := by simpa [kidsP] using h
    subst h9
    rw [seg_self, rng_self, rng_self]
    exact ⟨Int.le_refl _, .refl _, Int.le_refl _, rfl⟩
  | k :: ks, s, r, h, h1, h2, h3 => by
    obtain ⟨t, ht, hr⟩ := kids_cons h
    obtain ⟨b1, b2, b3, b4, rfl⟩ := hb _ s t ht h1 h2 h3
    obtain ⟨q1, q2, q3⟩ := hg _ s t ht h1 h2 h3
    obtain ⟨p0, p1, p2, p3⟩ := kids_perm hb hg ks t r hr (by omega) b4 b3
    refine ⟨by omega, ?_, by omega, ?_⟩
    · rw [← seg_append h1 (by omega) p0, ← rng_append (by omega) p0, List.flatMap_append]
      refine List.Perm.trans ?_ (q1.append p1)
      simp only [List.cons_append]
      refine List.Perm.cons _ ?_
      rw [← List.append_assoc, ← List.append_assoc]
      exact List.perm_append_comm.append_right _
    · rw [← seg_append h1 (by omega) p0, ← rng_append q2 p2, List.filter_append, List.map_append, q3, p3]
theorem visit_perm {F : List Gt} (hF : F.length ≤ 40) (hK : ∀ g ∈ F, g.kids.length ≤ 40) : ∀ (f : Nat) (a : Int) (s r : Int × Int), visitP F f a s = (true, r) → 0 ≤ s.1 → 0 ≤ s.2 → s.2 ≤ s.1 →
    (s.1 :: (seg F s.1 r.1).flatMap Gt.kids).Perm (rng s.1 r.1) ∧ s.2 ≤ r.2 ∧ ((seg F s.1 r.1).filter isLf).map Gt.leaf = rng s.2 r.2
  | 0, _, _, _, h, _, _, _ => by simp [visitP] at h
  | f + 1, a, s, r, h, h1, h2, h3 => by
    obtain ⟨nx, c'⟩ := r
    obtain ⟨rfl, hal, g, hg, hcase⟩ := visit_some h
    rcases hcase with ⟨k1, k2, k3, k4, k5⟩ | ⟨k1, k2, k3, k4, k5⟩
    · simp only [k4, k5]
      rw [seg_one h1 hg, rng_one, rng_one]
      simp [isLf, k1, k3]
      omega
    · obtain ⟨p0, p1, p2, p3⟩ := kids_perm (F := F) (f := f) (fun a s r h h1 h2 h3 => visit_bounds hF hK h h1 h2 h3) (fun a s r h h1 h2 h3 => visit_perm hF hK f a s r h h1 h2 h3) g.kids (s.1 + 1, s.2) (nx, c') k5 (by show 0 ≤ s.1 + 1; omega) h2 (by show s.2 ≤ s.1 + 1; omega)
      simp only at p0 p1 p2 p3 ⊢
      rw [← seg_append (j := s.1 + 1) h1 (by omega) p0, seg_one h1 hg, ← rng_append (j := s.1 + 1) (by omega) p0, rng_one]
      refine ⟨?_, p2, ?_⟩
      · simp only [List.flatMap_cons, List.singleton_append]
        exact p1.cons _
      · rw [List.filter_append, List.map_append, p3]
        simp [isLf, k1]
/-- no gate is a kid twice, no leaf stands twice -/
theorem valid_tree {F : List Gt} (hF : F.length ≤ 40) (hK : ∀ g ∈ F, g.kids.length ≤ 40) {n : Nat} (h : checkP F n = 0) : (F.flatMap Gt.kids).Nodup ∧ ((F.filter isLf).map Gt.leaf).Nodup := by
  by_cases hz : F = []
  · subst hz; exact ⟨List.nodup_nil, List.nodup_nil⟩
  · have hv : (leavesP F).2 = true := by
      unfold checkP at h
      split at h
      · cases h
      · split at h
        · cases h
        · rename_i h9; simpa using h9
    have hlv : ∃ c, visitP F (F.length + 1) 0 (0, 0) = (true, (F.length : Int), c) := by
      unfold leavesP at hv
      rw [if_neg hz] at hv
      simp only [Bool.and_eq_true, decide_eq_true_eq] at hv
      exact ⟨(visitP F (F.length + 1) 0 (0, 0)).2.2, Prod.ext hv.1.1 (Prod.ext hv.1.2 rfl)⟩
    obtain ⟨c, hc⟩ := hlv
    obtain ⟨p1, p2, p3⟩ := visit_perm hF hK (F.length + 1) 0 (0, 0) ((F.length : Int), c) hc (Int.le_refl _) (Int.le_refl _) (Int.le_refl _)
    have hseg : seg F 0 (F.length : Int) = F := by
      unfold seg
      simp
    simp only at p1 p3
    rw [hseg] at p1 p3
    refine ⟨(List.nodup_cons.1 (p1.nodup_iff.2 (rng_nodup _ _))).2, ?_⟩
    rw [p3]
    exact rng_nodup _ _
theorem cntK_congr {a b : List Bool} : ∀ {ks : List Int}, (∀ x ∈ ks, gb a x.toNat = gb b x.toNat) → cntK a ks = cntK b ks
  | [], _ => rfl
  | x :: xs, h => by
    rw [cntK, cntK, cntK_congr fun y hy => h y (List.mem_cons_of_mem _ hy)]
    have := h x (List.mem_cons_self ..)
    unfold gb at this
    rw [this]
theorem cntK_le {a b : List Bool} : ∀ {ks : List Int}, (∀ x ∈ ks, gb a x.toNat = true → gb b x.toNat = true) → cntK a ks ≤ cntK b ks
  | [], _ => Int.le_refl _
  | x :: xs, h => by
    have h1 := cntK_le (a := a) (b := b) fun y hy => h y (List.mem_cons_of_mem _ hy)
    have h2 := h x (List.mem_cons_self ..)
    rw [cntK, cntK]
    unfold gb at h2
    by_cases ha : a.getD x.toNat false = true
    · rw [if_pos ha, if_pos (h2 ha)]; omega
    · rw [if_neg ha]; split <;> omega
theorem cntK_zero {a : List Bool} : ∀ {ks : List Int}, (∀ x ∈ ks, gb a x.toNat = false) → cntK a ks = 0
  | [], _ => rfl
  | x :: xs, h => by
    have h2 := h x (List.mem_cons_self ..)
    unfold gb at h2
    rw [cntK, h2, cntK_zero fun y hy => h y (List.mem_cons_of_mem _ hy)]; rfl
theorem cntK_nonneg (a : List Bool) : ∀ ks : List Int, 0 ≤ cntK a ks
  | [] => Int.le_refl _
  | x :: xs => by
    have := cntK_nonneg a xs
    rw [cntK]; split <;> omega
theorem truthRun_spec {F : List Gt} {L : List Bool} (hk : ∀ (i : Nat) g, F[i]? = some g → ∀ x ∈ g.kids, (i : Int) < x) : ∀ (k : Nat) (out : List Bool), k ≤ F.length → out.length = F.length →
    (∀ j, k ≤ j → gb (truthRun F L k out) j = gb out j) ∧ ∀ (i : Nat) g, i < k → F[i]? = some g → gb (truthRun F L k out) i = truthAt L (truthRun F L k out) g
  | 0, out, _, _ => ⟨fun _ _ => rfl, fun _ _ h => absurd h (Nat.not_lt_zero _)⟩
  | k + 1, out, hkl, ho => by
    have hol : k < out.length := by omega
    obtain ⟨g, hg⟩ : ∃ g, F[k]? = some g := ⟨_, List.getElem?_eq_getElem (by omega)⟩
    have hst : truthStep F L out k = out.set k (truthAt L out g) := by unfold truthStep; rw [hg]
    obtain ⟨q1, q2⟩ := truthRun_spec (L := L) hk k (truthStep F L out k) (by omega) (by rw [truthStep_length]; exact ho)
    rw [truthRun]
    refine ⟨fun j hj => ?_, fun i g' hi hg' => ?_⟩
    · rw [q1 j (by omega), hst, gb_set _ _ _ _ hol, if_neg (by omega)]
    · by_cases hik : i = k
      · subst hik
        rw [hg] at hg'
        cases hg'
        have hSv : gb (truthStep F L out i) i = truthAt L out g := by rw [hst, gb_set _ _ _ _ hol, if_pos rfl]
        have hSo : ∀ j, j ≠ i → gb (truthStep F L out i) j = gb out j := fun j hj => by rw [hst, gb_set _ _ _ _ hol, if_neg hj]
        clear hst
        generalize truthStep F L out i = S at *
        have e : cntK out g.kids = cntK (truthRun F L i S) g.kids := cntK_congr fun x hx => by
          have h1 := hk i g hg x hx
          rw [q1 x.toNat (by omega), hSo _ (by omega)]
        rw [q1 i (Nat.le_refl _), hSv]
        unfold truthAt
        split
        · rfl
        · rw [e]
      · exact q2 i g' (by omega) hg'
theorem truthP_spec {F : List Gt} {L : List Bool} (hk : ∀ (i : Nat) g, F[i]? = some g → ∀ x ∈ g.kids, (i : Int) < x) {i : Nat} {g : Gt} (hg : F[i]? = some g) : gb (truthP F L) i = truthAt L (truthP F L) g :=
  (truthRun_spec hk F.length (List.replicate F.length false) (Nat.le_refl _) (by simp)).2 i g (List.getElem?_eq_some_iff.1 hg).1 hg
/-- the kids of a gate that is honest -/
theorem honKids_spec (T : List Bool) : ∀ (ks : List Int) (left : Int) (out : List Bool), ks.Nodup → (∀ x ∈ ks, 0 ≤ x ∧ x < out.length) → (∀ x ∈ ks, gb out x.toNat = false) → 0 ≤ left →
    (∀ j : Nat, (j : Int) ∉ ks → gb (honKidsP T ks left out) j = gb out j) ∧ (∀ x ∈ ks, gb (honKidsP T ks left out) x.toNat = true → gb T x.toNat = true) ∧ cntK (honKidsP T ks left out) ks = min left (cntK T ks)
  | [], left, out, _, _, _, hl => ⟨fun _ _ => rfl, fun x h => by simp at h, by rw [cntK, cntK, Int.min_eq_right hl]⟩
  | x :: xs, left, out, hn, hr, hf, hl => by
    obtain ⟨hx, hn'⟩ := List.nodup_cons.1 hn
    obtain ⟨hx0, hxl⟩ := hr x (List.mem_cons_self ..)
    have hxn : ((x.toNat : Nat) : Int) = x := by omega
    have hc := cntK_nonneg T xs
    by_cases hcond : T.getD x.toNat false = true ∧ 0 < left
    · have hset : ∀ j : Nat, gb (out.set x.toNat true) j = if j = x.toNat then true else gb out j := fun j => gb_set _ _ _ _ (by omega)
      obtain ⟨q1, q2, q3⟩ := honKids_spec T xs (left - 1) (out.set x.toNat true) hn' (fun y hy => by rw [List.length_set]; exact hr y (List.mem_cons_of_mem _ hy)) (fun y hy => by
        rw [hset, if_neg ?_]
        · exact hf y (List.mem_cons_of_mem _ hy)
        · intro h9
          have := (hr y (List.mem_cons_of_mem _ hy)).1
          exact hx (by rw [show x = y by omega]; exact hy)) (by omega)
      have hxx : gb (honKidsP T xs (left - 1) (out.set x.toNat true)) x.toNat = true := by
        rw [q1 x.toNat (by rw [hxn]; exact hx), hset, if_pos rfl]
      rw [honKidsP, if_pos hcond]
      refine ⟨fun j hj => ?_, fun y hy h => ?_, ?_⟩
      · rw [q1 j (fun h => hj (List.mem_cons_of_mem _ h)), hset, if_neg (fun h => hj (by rw [h, hxn]; exact List.mem_cons_self ..))]
      · rcases List.mem_cons.1 hy with rfl | hy
        · exact hcond.1
        · exact q2 y hy h
      · rw [cntK, cntK, q3, if_pos hcond.1]
        unfold gb at hxx
        rw [if_pos hxx]
        omega
    · obtain ⟨q1, q2, q3⟩ := honKids_spec T xs left out hn' (fun y hy => hr y (List.mem_cons_of_mem _ hy)) (fun y hy => hf y (List.mem_cons_of_mem _ hy)) hl
      have hxx : gb (honKidsP T xs left out) x.toNat = false := by
        rw [q1 x.toNat (by rw [hxn]; exact hx)]
        exact hf x (List.mem_cons_self ..)
      rw [honKidsP, if_neg hcond]
      refine ⟨fun j hj => q1 j (fun h => hj (List.mem_cons_of_mem _ h)), fun y hy h => ?_, ?_⟩
      · rcases List.mem_cons.1 hy with rfl | hy
        · rw [hxx] at h; cases h
        · exact q2 y hy h
      · rw [cntK, cntK, q3]
        unfold gb at hxx
        rw [hxx, if_neg (by simp)]
        by_cases hT : T.getD x.toNat false = true
        · have : ¬ 0 < left := fun h => hcond ⟨hT, h⟩
          rw [if_pos hT]; omega
        · rw [if_neg hT]; omega
def HInv (F : List Gt) (T : List Bool) (i : Nat) (out : List Bool) : Prop :=
  out.length = F.length ∧ gb out 0 = gb T 0 ∧ (∀ j, gb out j = true → gb T j = true) ∧
  (∀ (p : Nat) g, p < i → F[p]? = some g → (gb out p = true → cntK out g.kids = g.need) ∧ (gb out p = false → cntK out g.kids = 0)) ∧
  (∀ (p : Nat) g, i ≤ p → F[p]? = some g → ∀ x ∈ g.kids, gb out x.toNat = false)
theorem flat_apart {F : List Gt} (hn : (F.flatMap Gt.kids).Nodup) {p q : Nat} {g h : Gt} (hg : F[p]? = some g) (hh : F[q]? = some h) (hpq : p ≠ q) : ∀ x ∈ g.kids, x ∉ h.kids := by
  rw [List.nodup_iff_pairwise_ne, List.pairwise_flatMap] at hn
  have hp := List.pairwise_iff_getElem.1 hn.2
  obtain ⟨hpl, hpe⟩ := List.getElem?_eq_some_iff.1 hg
  obtain ⟨hql, hqe⟩ := List.getElem?_eq_some_iff.1 hh
  intro x hx hx'
  rcases Nat.lt_or_gt_of_ne hpq with h1 | h1
  · exact hp p q hpl hql h1 x (by rw [hpe]; exact hx) x (by rw [hqe]; exact hx') rfl
  · exact hp q p hql hpl h1 x (by rw [hqe]; exact hx') x (by rw [hpe]; exact hx) rfl
theorem honRun_inv {F : List Gt} {L : List Bool} (hV : ∀ (i : Nat) g, F[i]? = some g → GOk F.length 0 L.length i g) (hn : (F.flatMap Gt.kids).Nodup) : ∀ (m i : Nat) (out : List Bool), i + m = F.length → HInv F (truthP F L) i out → HInv F (truthP F L) F.length (honRun F (truthP F L) m i out)
  | 0, i, out, hi, h => by rw [honRun, ← hi, Nat.add_zero]; exact h
  | m + 1, i, out, hi, ⟨h0, h1, h2, h3, h4⟩ => by
    have hil : i < F.length := by omega
    obtain ⟨g, hg⟩ : ∃ g, F[i]? = some g := ⟨_, List.getElem?_eq_getElem hil⟩
    obtain ⟨v1, v2, v3⟩ := hV i g hg
    have hkn : g.kids.Nodup := by
      rw [List.nodup_iff_pairwise_ne, List.pairwise_flatMap] at hn
      exact List.nodup_iff_pairwise_ne.2 (hn.1 g (List.mem_of_getElem? hg))
    rw [honRun]
    refine honRun_inv hV hn m (i + 1) _ (by omega) ?_
    have hst : honStep F (truthP F L) out i = if out.getD i false then honKidsP (truthP F L) g.kids g.need out else out := by unfold honStep; rw [hg]
    rw [hst]
    by_cases hoi : out.getD i false = true
    · rw [if_pos hoi]
      have hneed : 0 ≤ g.need := by
        by_cases hz : g.kids = []
        · have := (v1 hz).1; omega
        · have := (v2 hz).1; omega
      obtain ⟨q1, q2, q3⟩ := honKids_spec (truthP F L) g.kids g.need out hkn (fun x hx => by have := v3 x hx; omega) (h4 i g (Nat.le_refl _) hg) hneed
      have hT : gb (truthP F L) i = true := h2 i hoi
      rw [truthP_spec (fun i g hg x hx => ((hV i g hg).2.2 x hx).1) hg] at hT
      have hcnt : cntK (honKidsP (truthP F L) g.kids g.need out) g.kids = g.need := by
        rw [q3]
        unfold truthAt at hT
        by_cases hz : g.kids = []
        · rw [hz]; have := (v1 hz).1; simp only [cntK]; omega
        · rw [if_neg hz] at hT
          have := of_decide_eq_true hT
          omega
      have hnk : ∀ j : Nat, j ≤ i → (j : Int) ∉ g.kids := fun j hj hx => by have := (v3 _ hx).1; omega
      refine ⟨by rw [honKidsP_length]; exact h0, ?_, fun j hj => ?_, fun p g' hp hg' => ?_, fun p g' hp hg' x hx => ?_⟩
      · rw [q1 0 (hnk 0 (by omega))]; exact h1
      · by_cases hjk : (j : Int) ∈ g.kids
        · exact q2 _ hjk (by simpa using hj)
        · rw [q1 j hjk] at hj; exact h2 j hj
      · by_cases hpi : p = i
        · subst hpi
          rw [hg] at hg'
          cases hg'
          refine ⟨fun _ => hcnt, fun h9 => ?_⟩
          rw [q1 p (hnk p (Nat.le_refl _))] at h9
          unfold gb at h9
          rw [hoi] at h9; cases h9
        · have hapart := flat_apart hn hg' hg hpi
          have hpv := (hV p g' hg').2.2
          have e : cntK (honKidsP (truthP F L) g.kids g.need out) g'.kids = cntK out g'.kids := cntK_congr fun x hx => q1 _ (by
            have := hpv x hx
            rw [show ((x.toNat : Nat) : Int) = x by omega]; exact hapart x hx)
          rw [e, q1 p (hnk p (by omega))]
          exact h3 p g' (by omega) hg'
      · have hapart := flat_apart hn hg' hg (by omega)
        have hpv := (hV p g' hg').2.2 x hx
        rw [q1 _ (by rw [show ((x.toNat : Nat) : Int) = x by omega]; exact hapart x hx)]
        exact h4 p g' (by omega) hg' x hx
    · rw [if_neg hoi]
      refine ⟨h0, h1, h2, fun p g' hp hg' => ?_, fun p g' hp hg' => h4 p g' (by omega) hg'⟩
      by_cases hpi : p = i
      · subst hpi
        rw [hg] at hg'
        cases hg'
        refine ⟨fun h9 => absurd h9 hoi, fun _ => cntK_zero (h4 p g (Nat.le_refl _) hg)⟩
      · exact h3 p g' (by omega) hg'
theorem honest_inv {F : List Gt} {L : List Bool} (hV : ∀ (i : Nat) g, F[i]? = some g → GOk F.length 0 L.length i g) (hn : (F.flatMap Gt.kids).Nodup) (hne : F ≠ []) : HInv F (truthP F L) F.length (honestP F (truthP F L)) := by
  have hpos : 0 < F.length := List.length_pos_iff.2 hne
  refine honRun_inv hV hn F.length 0 _ (by omega) ⟨by simp, ?_, fun j hj => ?_, fun p g hp => absurd hp (Nat.not_lt_zero _), fun p g _ hg x hx => ?_⟩
  · rw [gb_set _ _ _ _ (by simpa using hpos), if_pos rfl]
  · rw [gb_set _ _ _ _ (by simpa using hpos)] at hj
    split at hj
    · rename_i h9; subst h9; exact hj
    · have : gb (List.replicate F.length false) j = false := by
        unfold gb
        rw [List.getD_eq_getElem?_getD, List.getElem?_replicate]
        split <;> simp
      rw [this] at hj; cases hj
  · have := (hV p g hg).2.2 x hx
    rw [gb_set _ _ _ _ (by simpa using hpos), if_neg (by omega)]
    unfold gb
    rw [List.getD_eq_getElem?_getD, List.getElem?_replicate]
    split <;> simp
/-- the honest leaves alone satisfy the formula -/
theorem alone_holds {F : List Gt} {L al : List Bool} (hV : ∀ (i : Nat) g, F[i]? = some g → GOk F.length 0 L.length i g) {H : List Bool} (hI : HInv F (truthP F L) F.length H)
    (hA1 : ∀ (p : Nat) g, F[p]? = some g → g.kids = [] → gb al g.leaf.toNat = gb H p) (hA2 : ∀ l, gb al l = true → ∃ (p : Nat) (g : Gt), F[p]? = some g ∧ g.kids = [] ∧ g.leaf.toNat = l ∧ gb H p = true) : gb (truthP F al) 0 = gb (truthP F L) 0 := by
  have hk : ∀ (i : Nat) g, F[i]? = some g → ∀ x ∈ g.kids, (i : Int) < x := fun i g hg x hx => ((hV i g hg).2.2 x hx).1
  obtain ⟨h0, h1, h2, h3, -⟩ := hI
  have hup : ∀ (d i : Nat), F.length - i = d → gb H i = true → gb (truthP F al) i = true := by
    intro d
    induction d using Nat.strongRecOn with
    | _ d ih =>
    intro i hd hi
    have hil : i < F.length := by have := gb_lt hi; omega
    obtain ⟨g, hg⟩ : ∃ g, F[i]? = some g := ⟨_, List.getElem?_eq_getElem hil⟩
    rw [truthP_spec hk hg]
    unfold truthAt
    by_cases hz : g.kids = []
    · rw [if_pos hz]
      have := hA1 i g hg hz
      unfold gb at this hi
      rw [this]; exact hi
    · rw [if_neg hz]
      have hc := (h3 i g hil hg).1 hi
      have : cntK H g.kids ≤ cntK (truthP F al) g.kids := cntK_le fun x hx hxh => by
        have := hk i g hg x hx
        exact ih (F.length - x.toNat) (by have := gb_lt hxh; omega) x.toNat rfl hxh
      exact decide_eq_true (by omega)
  have hle : leB al L := fun l hl => by
    obtain ⟨p, g, hg, hz, rfl, hp⟩ := hA2 l hl
    have ht := h2 p hp
    rw [truthP_spec hk hg] at ht
    unfold truthAt at ht
    rw [if_pos hz] at ht
    exact ht
  have hdn := truthP_mono (F := F) hle 0
  cases ht : gb (truthP F L) 0 with
  | true => exact hup _ 0 rfl (by rw [h1]; exact ht)
  | false =>
    cases ha : gb (truthP F al) 0 with
    | false => rfl
    | true => rw [hdn ha] at ht; cases ht
end Go.Proofs.YteaaeaimjbaomaaDoor
