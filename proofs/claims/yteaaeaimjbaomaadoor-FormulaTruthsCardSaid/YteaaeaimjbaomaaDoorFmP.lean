/-
  Plain facts about valid formulas: every gate is in order.
-/
import Derived.Test.YteaaeaimjbaomaaDoorFm3
namespace Go.Proofs.YteaaeaimjbaomaaDoor
open Go.RowKit
set_option linter.unusedVariables false

/-- gate i of a part [.., hi) of a formula with leaves [lo, up) is in order -/
def GOk (hi lo up : Int) (i : Nat) (g : Gt) : Prop := (g.kids = [] → g.need = 0 ∧ lo ≤ g.leaf ∧ g.leaf < up) ∧ (g.kids ≠ [] → 1 ≤ g.need ∧ g.need ≤ g.kids.length) ∧ ∀ x ∈ g.kids, (i : Int) < x ∧ x < hi
theorem GOk.mono {hi lo up hi' lo' up' : Int} {i : Nat} {g : Gt} (h : GOk hi lo up i g) (h1 : hi ≤ hi') (h2 : lo' ≤ lo) (h3 : up ≤ up') : GOk hi' lo' up' i g := by
  obtain ⟨a, b, c⟩ := h
  exact ⟨fun h9 => by obtain ⟨p, q, r⟩ := a h9; exact ⟨p, by omega, by omega⟩, b, fun x hx => by obtain ⟨p, q⟩ := c x hx; exact ⟨p, by omega⟩⟩
/-- all gates from n1 to n2 are in order -/
def Part (F : List Gt) (n1 n2 c1 c2 : Int) : Prop := n1 ≤ n2 ∧ c1 ≤ c2 ∧ ∀ (i : Nat) g, F[i]? = some g → n1 ≤ i → (i : Int) < n2 → GOk n2 c1 c2 i g
theorem Part.join {F : List Gt} {n1 n2 n3 c1 c2 c3 : Int} (h : Part F n1 n2 c1 c2) (h' : Part F n2 n3 c2 c3) : Part F n1 n3 c1 c3 := by
  obtain ⟨a, b, c⟩ := h
  obtain ⟨a', b', c'⟩ := h'
  refine ⟨by omega, by omega, fun i g hg h1 h2 => ?_⟩
  by_cases hi : (i : Int) < n2
  · exact (c i g hg h1 hi).mono a' (Int.le_refl _) b'
  · exact (c' i g hg (by omega) h2).mono (Int.le_refl _) b (Int.le_refl _)
theorem kids_part {F : List Gt} {v : Int → Int × Int → Bool × Int × Int} (hv : ∀ k s, 0 ≤ s.1 → (v k s).1 = true → k = s.1 ∧ s.1 < (v k s).2.1 ∧ Part F s.1 (v k s).2.1 s.2 (v k s).2.2) :
    ∀ (ks : List Int) (s : Int × Int), 0 ≤ s.1 → (kidsP v ks s).1 = true → Part F s.1 (kidsP v ks s).2.1 s.2 (kidsP v ks s).2.2 ∧ ∀ x ∈ ks, s.1 ≤ x ∧ x < (kidsP v ks s).2.1
  | [], s, h0, h => ⟨⟨Int.le_refl _, Int.le_refl _, fun i g hg h1 h2 => by simp [kidsP] at h2; omega⟩, fun x hx => by cases hx⟩
  | k :: ks, s, h0, h => by
    rw [kidsP] at h ⊢
    by_cases hb : (v k s).1 = true
    · rw [if_pos hb] at h ⊢
      obtain ⟨e, hlt, hp⟩ := hv k s h0 hb
      obtain ⟨q1, q2⟩ := kids_part hv ks (v k s).2 (by omega) h
      refine ⟨hp.join q1, fun x hx => ?_⟩
      rcases List.mem_cons.1 hx with rfl | hx
      · have := q1.1; omega
      · have := q2 x hx; omega
    · rw [if_neg hb] at h; cases h
theorem visit_part (F : List Gt) (f : Nat) : ∀ (k : Int) (s : Int × Int), 0 ≤ s.1 → (visitP F f k s).1 = true → k = s.1 ∧ s.1 < (visitP F f k s).2.1 ∧ Part F s.1 (visitP F f k s).2.1 s.2 (visitP F f k s).2.2 := by
  induction f with
  | zero => intro k s h0 h; cases h
  | succ f ih =>
    intro k s h0 h
    rw [visitP] at h ⊢
    by_cases hc : k ≠ s.1 ∨ (F.length : Int) ≤ k
    · rw [if_pos hc] at h; cases h
    · rw [if_neg hc] at h ⊢
      have hk : k = s.1 := Classical.byContradiction fun h9 => hc (.inl h9)
      have hlt : k < F.length := by
        have : ¬ (F.length : Int) ≤ k := fun h9 => hc (.inr h9)
        omega
      cases hg : F[k.toNat]? with
      | none => rw [hg] at h; cases h
      | some g =>
        rw [hg] at h
        simp only at h ⊢
        have hme : ∀ (i : Nat) g', F[i]? = some g' → (i : Int) = s.1 → g' = g := by
          intro i g' h1 h2
          have : i = k.toNat := by omega
          rw [this, hg] at h1
          exact (Option.some.inj h1).symm
        by_cases hz : g.kids = []
        · rw [if_pos hz] at h ⊢
          rw [Bool.and_eq_true] at h
          refine ⟨hk, by show s.1 < s.1 + 1; omega, by show s.1 ≤ s.1 + 1; omega, by show s.2 ≤ s.2 + 1; omega, fun i g' hi h1 h2 => ?_⟩
          obtain rfl := hme i g' hi (by simp only at h2; omega)
          have e1 : g'.need = 0 := of_decide_eq_true h.1
          have e2 : g'.leaf = s.2 := of_decide_eq_true h.2
          exact ⟨fun _ => ⟨e1, by omega, by show g'.leaf < s.2 + 1; omega⟩, fun h9 => absurd hz h9, fun x hx => by rw [hz] at hx; cases hx⟩
        · rw [if_neg hz] at h ⊢
          by_cases hb : g.need < 1 ∨ (g.kids.length : Int) < g.need ∨ g.leaf ≠ 0
          · rw [if_pos hb] at h; cases h
          · rw [if_neg hb] at h ⊢
            obtain ⟨q1, q2⟩ := kids_part (fun k s h0 => ih k s h0) g.kids (s.1 + 1, s.2) (by show 0 ≤ s.1 + 1; omega) h
            have q3 := q1.1
            have q4 := q1.2.1
            simp only at q3 q4
            refine ⟨hk, by omega, by omega, q4, fun i g' hi h1 h2 => ?_⟩
            by_cases he : (i : Int) = s.1
            · obtain rfl := hme i g' hi he
              have n1 : ¬ g'.need < 1 := fun h9 => hb (.inl h9)
              have n2 : ¬ (g'.kids.length : Int) < g'.need := fun h9 => hb (.inr (.inl h9))
              refine ⟨fun h9 => absurd h9 hz, fun _ => ⟨by omega, by omega⟩, fun x hx => ?_⟩
              have := q2 x hx
              simp only at this
              omega
            · exact (q1.2.2 i g' hi (by show s.1 + 1 ≤ _; omega) h2)
/-- a formula that is valid for n leaves -/
theorem valid_gates {F : List Gt} {n : Int} (h : leavesP F = (n, true)) : ∀ (i : Nat) g, F[i]? = some g → GOk F.length 0 n i g := by
  intro i g hg
  unfold leavesP at h
  by_cases hz : F = []
  · rw [hz] at hg; simp at hg
  · rw [if_neg hz] at h
    have h1 : (visitP F (F.length + 1) 0 (0, 0)).2.2 = n := congrArg Prod.fst h
    have h2 := congrArg Prod.snd h
    simp only [Bool.and_eq_true] at h2
    obtain ⟨⟨e1, e2⟩, e3⟩ := h2
    have h3 := visit_part F (F.length + 1) 0 (0, 0) (Int.le_refl _) e1
    have e4 := of_decide_eq_true e2
    have hi : i < F.length := (List.getElem?_eq_some_iff.1 hg).1
    have := h3.2.2.2.2 i g hg (by show (0 : Int) ≤ _; omega) (by rw [e4]; omega)
    rw [e4, h1] at this
    exact this
end Go.Proofs.YteaaeaimjbaomaaDoor
