/-
  The text of a formula, plain.
-/
import Derived.Test.YteaaeaimjbaomaaDoorFmP
import Derived.Lib.ItoaNum
namespace Go.Proofs.YteaaeaimjbaomaaDoor
set_option linter.unusedVariables false

/-- the texts of kids, from kid i on, each behind its sign -/
def textKs (t : Int → List UInt8) : Nat → List Int → List UInt8
  | _, [] => []
  | i, k :: ks => (if i = 0 then 40 else 44) :: (t k ++ textKs t (i + 1) ks)
def textP (F : List Gt) : Nat → Int → List UInt8
  | 0, _ => []
  | f + 1, a => match F[a.toNat]? with
    | none => []
    | some g => if g.kids = [] then Lib.decDigits g.leaf.toNat else Lib.decDigits g.need.toNat ++ textKs (textP F f) 0 g.kids ++ [41]
theorem textKs_append (t : Int → List UInt8) (k : Int) : ∀ (ks : List Int) (i : Nat), textKs t i (ks ++ [k]) = textKs t i ks ++ (if i + ks.length = 0 then 40 else 44) :: t k
  | [], i => by simp [textKs]
  | x :: xs, i => by
    rw [List.cons_append, textKs, textKs, textKs_append t k xs (i + 1), List.length_cons]
    simp only [List.cons_append, List.append_assoc]
    congr 4
    rw [if_neg (by omega), if_neg (by omega)]
/-- what a visit that succeeds says of its gate -/
theorem visit_some {F : List Gt} {f : Nat} {a nx c' : Int} {s : Int × Int} (h : visitP F (f + 1) a s = (true, nx, c')) : a = s.1 ∧ a < F.length ∧ ∃ g, F[a.toNat]? = some g ∧
    ((g.kids = [] ∧ g.need = 0 ∧ g.leaf = s.2 ∧ nx = s.1 + 1 ∧ c' = s.2 + 1) ∨ (g.kids ≠ [] ∧ 1 ≤ g.need ∧ g.need ≤ g.kids.length ∧ g.leaf = 0 ∧ kidsP (visitP F f) g.kids (s.1 + 1, s.2) = (true, nx, c'))) := by
  rw [visitP] at h
  by_cases hc : a ≠ s.1 ∨ (F.length : Int) ≤ a
  · rw [if_pos hc] at h; cases h
  · rw [if_neg hc] at h
    have hk : a = s.1 := Classical.byContradiction fun h9 => hc (.inl h9)
    have hlt : a < F.length := by
      have : ¬ (F.length : Int) ≤ a := fun h9 => hc (.inr h9)
      omega
    refine ⟨hk, hlt, ?_⟩
    cases hg : F[a.toNat]? with
    | none => rw [hg] at h; cases h
    | some g =>
      rw [hg] at h
      simp only at h
      refine ⟨g, rfl, ?_⟩
      by_cases hz : g.kids = []
      · rw [if_pos hz] at h
        have h1 := congrArg Prod.fst h
        have h2 := congrArg (fun p => p.2.1) h
        have h3 := congrArg (fun p => p.2.2) h
        simp only [Bool.and_eq_true, decide_eq_true_eq] at h1 h2 h3
        exact .inl ⟨hz, h1.1, h1.2, h2.symm, h3.symm⟩
      · rw [if_neg hz] at h
        by_cases hb : g.need < 1 ∨ (g.kids.length : Int) < g.need ∨ g.leaf ≠ 0
        · rw [if_pos hb] at h; cases h
        · rw [if_neg hb] at h
          have n1 : ¬ g.need < 1 := fun h9 => hb (.inl h9)
          have n2 : ¬ (g.kids.length : Int) < g.need := fun h9 => hb (.inr (.inl h9))
          have n3 : g.leaf = 0 := Classical.byContradiction fun h9 => hb (.inr (.inr h9))
          exact .inr ⟨hz, by omega, by omega, n3, h⟩
theorem kids_cons {v : Int → Int × Int → Bool × Int × Int} {k : Int} {ks : List Int} {s : Int × Int} {r : Int × Int} (h : kidsP v (k :: ks) s = (true, r)) : ∃ m, v k s = (true, m) ∧ kidsP v ks m = (true, r) := by
  rw [kidsP] at h
  by_cases hb : (v k s).1 = true
  · rw [if_pos hb] at h
    exact ⟨(v k s).2, Prod.ext hb rfl, h⟩
  · rw [if_neg hb] at h; cases h
theorem dec_len (n : Nat) (h : n < 100) : (Lib.decDigits n).length ≤ 2 := by
  rw [Lib.decDigits]
  split
  · simp
  · rw [Lib.decDigits, dif_pos (by omega)]; simp
theorem textP_len {F : List Gt} (hF : F.length ≤ 40) (hK : ∀ g ∈ F, g.kids.length ≤ 40) : ∀ (f : Nat) (a : Int) (s r : Int × Int), visitP F f a s = (true, r) → 0 ≤ s.1 → 0 ≤ s.2 → s.2 ≤ s.1 → s.1 < r.1 ∧ ((textP F f a).length : Int) + 1 ≤ 4 * (r.1 - s.1)
  | 0, a, s, r, h, _, _, _ => by rw [visitP] at h; cases h
  | f + 1, a, s, r, h, h0, h1, h2 => by
    obtain ⟨e, hl, g, hg, hc⟩ := visit_some (nx := r.1) (c' := r.2) h
    rw [textP, hg]
    simp only
    rcases hc with ⟨c1, c2, c3, c4, c5⟩ | ⟨c1, c2, c3, c4, c5⟩
    · rw [if_pos c1]
      have := dec_len g.leaf.toNat (by omega)
      omega
    · rw [if_neg c1]
      have hb := hK g (List.mem_of_getElem? hg)
      have hd := dec_len g.need.toNat (by omega)
      -- the kids' counts stay in order
      have hkk : ∀ (ks : List Int) (i : Nat) (s r : Int × Int), kidsP (visitP F f) ks s = (true, r) → 0 ≤ s.1 → 0 ≤ s.2 → s.2 ≤ s.1 → s.1 ≤ F.length → s.1 ≤ r.1 ∧ ((textKs (textP F f) i ks).length : Int) ≤ 4 * (r.1 - s.1) := by
        intro ks
        induction ks with
        | nil =>
          intro i s r h h0 h1 h2 h3
          have h9 : s = r := by rw [kidsP] at h; exact congrArg Prod.snd h
          subst h9
          exact ⟨Int.le_refl _, by rw [textKs]; simp⟩
        | cons k ks ih =>
          intro i s r h h0 h1 h2 h3
          obtain ⟨m, e1, e2⟩ := kids_cons h
          obtain ⟨a1, a2⟩ := textP_len hF hK f k s m e1 h0 h1 h2
          have hbd := visitP_bd F f k s h1 h2 h3
          rw [e1] at hbd
          simp only at hbd
          obtain ⟨b1, b2⟩ := ih (i + 1) m r e2 (by omega) hbd.2.2.1 hbd.2.2.2 hbd.2.1
          refine ⟨by omega, ?_⟩
          rw [textKs, List.length_cons, List.length_append]
          omega
      obtain ⟨q1, q2⟩ := hkk g.kids 0 (s.1 + 1, s.2) (r.1, r.2) c5 (by show 0 ≤ s.1 + 1; omega) h1 (by show s.2 ≤ s.1 + 1; omega) (by show s.1 + 1 ≤ _; omega)
      simp only at q1 q2
      simp only [List.length_append, List.length_cons, List.length_nil]
      omega
end Go.Proofs.YteaaeaimjbaomaaDoor
