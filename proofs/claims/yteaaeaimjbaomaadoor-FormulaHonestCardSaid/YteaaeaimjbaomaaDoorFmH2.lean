/-
  The leaves that the honest gates name, plain.
-/
import Derived.Test.YteaaeaimjbaomaaDoorFmH1
import Derived.Test.YteaaeaimjbaomaaDoorFmS3
namespace Go.Proofs.YteaaeaimjbaomaaDoor
open Go.RowKit
set_option linter.unusedVariables false

/-- the leaves that are honest among the first gates -/
def alI (F : List Gt) (H : List Bool) (n : Nat) : Nat → List Bool
  | 0 => List.replicate n false
  | i + 1 => match F[i]? with
    | some g => if g.kids = [] then (alI F H n i).set g.leaf.toNat (gb H i) else alI F H n i
    | none => alI F H n i
theorem alI_length (F : List Gt) (H : List Bool) (n : Nat) : ∀ i, (alI F H n i).length = n
  | 0 => by simp [alI]
  | i + 1 => by
    rw [alI]
    split
    · split
      · rw [List.length_set]; exact alI_length F H n i
      · exact alI_length F H n i
    · exact alI_length F H n i
theorem alI_succ {F : List Gt} {H : List Bool} {n i : Nat} {g : Gt} (hg : F[i]? = some g) : alI F H n (i + 1) = if g.kids = [] then (alI F H n i).set g.leaf.toNat (gb H i) else alI F H n i := by
  rw [alI, hg]
theorem leaf_apart {F : List Gt} (hn : ((F.filter isLf).map Gt.leaf).Nodup) {p q : Nat} {g h : Gt} (hg : F[p]? = some g) (hh : F[q]? = some h) (hgk : g.kids = []) (hhk : h.kids = []) (hpq : p ≠ q) : g.leaf ≠ h.leaf := by
  rw [List.nodup_iff_pairwise_ne, List.pairwise_map, List.pairwise_filter] at hn
  have hp := List.pairwise_iff_getElem.1 hn
  obtain ⟨hpl, hpe⟩ := List.getElem?_eq_some_iff.1 hg
  obtain ⟨hql, hqe⟩ := List.getElem?_eq_some_iff.1 hh
  have lf : ∀ x : Gt, x.kids = [] → isLf x = true := fun x hx => decide_eq_true hx
  rcases Nat.lt_or_gt_of_ne hpq with h1 | h1
  · have := hp p q hpl hql h1 (by rw [hpe]; exact lf g hgk) (by rw [hqe]; exact lf h hhk)
    rw [hpe, hqe] at this; exact this
  · have := hp q p hql hpl h1 (by rw [hqe]; exact lf h hhk) (by rw [hpe]; exact lf g hgk)
    rw [hpe, hqe] at this; exact fun e => this e.symm
theorem alI_spec {F : List Gt} {L H : List Bool} (hV : ∀ (i : Nat) g, F[i]? = some g → GOk F.length 0 L.length i g) (hn : ((F.filter isLf).map Gt.leaf).Nodup) : ∀ i, i ≤ F.length →
    (∀ (p : Nat) g, p < i → F[p]? = some g → g.kids = [] → gb (alI F H L.length i) g.leaf.toNat = gb H p) ∧ (∀ l, gb (alI F H L.length i) l = true → ∃ (p : Nat) (g : Gt), F[p]? = some g ∧ g.kids = [] ∧ g.leaf.toNat = l ∧ gb H p = true)
  | 0, _ => ⟨fun _ _ h => absurd h (Nat.not_lt_zero _), fun l h => by rw [alI, zero_gb] at h; cases h⟩
  | i + 1, hi => by
    obtain ⟨q1, q2⟩ := alI_spec (H := H) hV hn i (by omega)
    obtain ⟨g, hg⟩ : ∃ g, F[i]? = some g := ⟨_, List.getElem?_eq_getElem (by omega)⟩
    rw [alI_succ hg]
    by_cases hz : g.kids = []
    · rw [if_pos hz]
      obtain ⟨-, v1, v2⟩ := (hV i g hg).1 hz
      have hb : g.leaf.toNat < (alI F H L.length i).length := by rw [alI_length]; omega
      refine ⟨fun p g' hp hg' hz' => ?_, fun l hl => ?_⟩
      · rw [gb_set _ _ _ _ hb]
        by_cases hpi : p = i
        · subst hpi
          rw [hg] at hg'; cases hg'
          rw [if_pos rfl]
        · have h1 := leaf_apart hn hg' hg hz' hz hpi
          have h2 := ((hV p g' hg').1 hz').2
          rw [if_neg (by omega)]
          exact q1 p g' (by omega) hg' hz'
      · rw [gb_set _ _ _ _ hb] at hl
        split at hl
        · rename_i h9
          exact ⟨i, g, hg, hz, h9.symm, hl⟩
        · exact q2 l hl
    · rw [if_neg hz]
      refine ⟨fun p g' hp hg' hz' => ?_, q2⟩
      by_cases hpi : p = i
      · subst hpi
        rw [hg] at hg'; cases hg'
        exact absurd hz' hz
      · exact q1 p g' (by omega) hg' hz'
/-- all that the law asks of the honest gates -/
structure HonOk (F : List Gt) (L H : List Bool) : Prop where
  hold : ∀ j, gb H j = true → gb (truthP F L) j = true
  cnt : ∀ (p : Nat) g, F[p]? = some g → (gb H p = true → cntK H g.kids = g.need) ∧ (gb H p = false → cntK H g.kids = 0)
  zero : gb H 0 = gb (truthP F L) 0
  again : gb (truthP F (alI F H L.length F.length)) 0 = gb (truthP F L) 0
theorem honest_ok {F : List Gt} {L : List Bool} (hF : F.length ≤ 40) (hK : ∀ g ∈ F, g.kids.length ≤ 40) (h0 : checkP F L.length = 0) (hne : F ≠ []) : HonOk F L (honestP F (truthP F L)) := by
  have hV : ∀ (i : Nat) g, F[i]? = some g → GOk F.length 0 L.length i g := (check_valid h0).1
  obtain ⟨hn1, hn2⟩ := valid_tree hF hK h0
  have hI := honest_inv hV hn1 hne
  obtain ⟨a1, a2⟩ := alI_spec (H := honestP F (truthP F L)) hV hn2 F.length (Nat.le_refl _)
  refine ⟨hI.2.2.1, fun p g hg => hI.2.2.2.1 p g (List.getElem?_eq_some_iff.1 hg).1 hg, hI.2.1, alone_holds hV hI (fun p g hg hz => a1 p g (List.getElem?_eq_some_iff.1 hg).1 hg hz) a2⟩
theorem cntK_snoc (out : List Bool) (x : Int) : ∀ ks : List Int, cntK out (ks ++ [x]) = cntK out ks + (if gb out x.toNat = true then 1 else 0)
  | [] => by simp [cntK, gb]
  | y :: ys => by
    rw [List.cons_append, cntK, cntK, cntK_snoc out x ys]; omega
end Go.Proofs.YteaaeaimjbaomaaDoor
