/-
  Sizes of what is read. No program in sight.
-/
import Derived.Test.YtminghdnclpocaaGreatDoorPaD
import Derived.Test.YtminghdnclpocaaGreatDoorPaC
namespace Go.Proofs.YtminghdnclpocaaGreatDoor.Pa
open Lx (Tok)
set_option linter.unusedVariables false

/-- every node has a property -/
def F.Ev (p : Nd → Prop) : F → Prop
  | .nil => True
  | .cons n k r => p n ∧ k.Ev p ∧ r.Ev p
theorem F.ev_app {p : Nd → Prop} {f g : F} (hf : f.Ev p) (hg : g.Ev p) : (f.app g).Ev p := by
  induction f with
  | nil => exact hg
  | cons n k r _ ih => exact ⟨hf.1, hf.2.1, ih hf.2.2⟩
theorem F.ev_cat {p : Nd → Prop} : ∀ {l : List F}, (∀ f ∈ l, f.Ev p) → (F.cat l).Ev p
  | [], _ => trivial
  | f :: l, h => F.ev_app (h f (List.mem_cons_self ..)) (F.ev_cat fun g hg => h g (List.mem_cons_of_mem _ hg))
theorem F.ev_num {p : Nd → Prop} (f : F) : ∀ a, f.Ev p → ∀ x ∈ f.num a, p x.1 := by
  induction f with
  | nil => intro a _ x hx; cases hx
  | cons n k r ih1 ih2 =>
    intro a h x hx
    rw [F.num] at hx
    rcases List.mem_cons.1 hx with rfl | hx
    · exact h.1
    · rcases List.mem_append.1 hx with hx | hx
      · exact ih1 _ h.2.1 x hx
      · exact ih2 _ h.2.2 x hx
theorem F.len_size (f : F) : f.len ≤ f.size := by
  induction f with
  | nil => exact Nat.le_refl 0
  | cons n k r _ ih => rw [F.len, F.size]; omega
theorem F.num_kids (f : F) : ∀ a, ∀ x ∈ f.num a, x.2.length ≤ f.size := by
  induction f with
  | nil => intro a x hx; cases hx
  | cons n k r ih1 ih2 =>
    intro a x hx
    rw [F.num] at hx
    rw [F.size]
    rcases List.mem_cons.1 hx with rfl | hx
    · show (k.idx (a + 1)).length ≤ _
      rw [F.idx_len]
      have := k.len_size
      omega
    · rcases List.mem_append.1 hx with hx | hx
      · have := ih1 _ x hx; omega
      · have := ih2 _ x hx; omega
def NdB (n : Nd) : Prop := n.name.length ≤ 32 ∧ n.attr.length ≤ 32
/-- what a reading returns has a property, and what it leaves is good -/
def Gd {α : Type} (rd : List Tok → Rd α) (Q : α → Prop) : Prop := ∀ ts q a, Good ts → rd ts = (some a, q) → Q a ∧ Good q
theorem name_gd : Gd nameR fun a => a.length ≤ 32 := by
  intro ts q a hg h
  have hk := (name_keeps ts hg).2
  rw [h] at hk
  refine ⟨?_, hk⟩
  unfold nameR at h
  split at h
  · rename_i h1
    cases h
    cases ts with
    | nil => cases h1
    | cons t r =>
      have h2 : t.kind = 0 ∧ isW (t :: r) = false := by simpa [isN] using h1
      cases hg.fine t (List.mem_cons_self ..) with
      | word w hk h =>
        exfalso
        have := h2.2
        rw [isW, hk, h.eq] at this
        simp at this
      | name hk h => exact h.le
      | num neg d hk h => omega
      | sign hk h => omega
      | end_ hk h => omega
  · cases h
theorem word_gd : Gd wordR fun a => a.length ≤ 32 := by
  intro ts q a hg h
  have hk := (word_keeps ts hg).2
  rw [h] at hk
  refine ⟨?_, hk⟩
  unfold wordR at h
  split at h
  · rename_i h1
    cases h
    cases ts with
    | nil => cases h1
    | cons t r =>
      have h2 : t.kind = 0 ∧ t.text.head? = some 39 := by simpa [isW] using h1
      cases hg.fine t (List.mem_cons_self ..) with
      | word w hk h =>
        show t.text.tail.dropLast.length ≤ 32
        rw [h.eq]
        have := h.le
        simp; omega
      | name hk h =>
        exfalso
        obtain ⟨c, m, h3, h4⟩ := h.fst
        have h5 := h2.2
        rw [h3] at h5
        simp at h5
        subst h5
        exact absurd h4 (by decide)
      | num neg d hk h => omega
      | sign hk h => omega
      | end_ hk h => omega
  · cases h
theorem num_gd : Gd numR fun a => -2147483648 ≤ a ∧ a ≤ 2147483647 := by
  intro ts q a hg h
  have hk := (num_keeps ts hg).2
  rw [h] at hk
  refine ⟨?_, hk⟩
  unfold numR at h
  split at h
  · rename_i h1
    cases h
    cases ts with
    | nil => cases h1
    | cons t r =>
      have h2 : t.kind = 1 := by simpa [isM] using h1
      cases hg.fine t (List.mem_cons_self ..) with
      | num neg d hk h => exact num_bound h
      | word w hk h => omega
      | name hk h => omega
      | sign hk h => omega
      | end_ hk h => omega
  · cases h
theorem need_gd (s : Tx) : Gd (needR s) fun _ => True := by
  intro ts q a hg h
  have hk := (need_keeps s ts hg).2
  rw [h] at hk
  exact ⟨trivial, hk⟩
theorem pair_gd (s : Tx) : Gd (pairR s) fun x => x.1.length ≤ 32 ∧ x.2.length ≤ 32 := by
  intro ts q x hg h
  obtain ⟨a, p, h1, h⟩ := then_inv h
  obtain ⟨u, p2, h2, h⟩ := then_inv h
  obtain ⟨b, p3, h3, h⟩ := then_inv h
  cases h
  have g1 := name_gd _ _ _ hg h1
  have g2 := need_gd s _ _ _ g1.2 h2
  have g3 := name_gd _ _ _ g2.2 h3
  exact ⟨⟨g1.1, g3.1⟩, g3.2⟩
theorem list_gd {α : Type} {rd : List Tok → Rd α} {Q : α → Prop} (h : Gd rd Q) : ∀ k, Gd (listR rd k) fun l => l.length ≤ k ∧ ∀ a ∈ l, Q a
  | 0 => fun ts q l hg h => by cases h
  | k + 1 => fun ts q l hg hl => by
    obtain ⟨a, p, h1, hl⟩ := then_inv hl
    have g1 := h _ _ _ hg h1
    split at hl
    · rename_i hc
      obtain ⟨m, p2, h2, hl⟩ := then_inv hl
      cases hl
      have g2 := list_gd h k _ _ _ (g1.2.isT hc) h2
      refine ⟨⟨by simpa using g2.1.1, fun x hx => ?_⟩, g2.2⟩
      rcases List.mem_cons.1 hx with rfl | hx
      · exact g1.1
      · exact g2.1.2 x hx
    · cases hl
      refine ⟨⟨by simp, fun x hx => ?_⟩, g1.2⟩
      rw [List.mem_singleton.1 hx]; exact g1.1
theorem value_gd : Gd valueR NdB := by
  intro ts q n hg h
  unfold valueR at h
  split at h
  · obtain ⟨x, p, h1, h⟩ := then_inv h
    have g1 := pair_gd _ _ _ _ hg h1
    cases h
    exact ⟨g1.1, g1.2⟩
  · split at h
    · obtain ⟨x, p, h1, h⟩ := then_inv h
      have g1 := word_gd _ _ _ hg h1
      cases h
      exact ⟨⟨g1.1, Nat.zero_le _⟩, g1.2⟩
    · split at h
      · obtain ⟨x, p, h1, h⟩ := then_inv h
        have g1 := num_gd _ _ _ hg h1
        cases h
        exact ⟨⟨Nat.zero_le _, Nat.zero_le _⟩, g1.2⟩
      · cases h
theorem leaf_ev {p : Nd → Prop} {n : Nd} (h : p n) : (leaf n).Ev p := ⟨h, trivial, trivial⟩
theorem leaf_gd : Gd leafR (F.Ev NdB) := by
  intro ts q f hg h
  obtain ⟨x, p, h1, h⟩ := then_inv h
  have g1 := value_gd _ _ _ hg h1
  cases h
  exact ⟨leaf_ev g1.1, g1.2⟩
theorem ndb0 (k : Nat) (m : Int) (a : Nat) : NdB ⟨k, m, [], [], a⟩ := ⟨Nat.zero_le _, Nat.zero_le _⟩
theorem cond_gd : Gd condR (F.Ev NdB) := by
  intro ts q f hg h
  obtain ⟨x, p, h1, h⟩ := then_inv h
  have g1 := value_gd _ _ _ hg h1
  split at h
  · rename_i k hk
    obtain ⟨b, p2, h2, h⟩ := then_inv h
    have g2 := value_gd _ _ _ (g1.2.cmp hk) h2
    cases h
    exact ⟨⟨ndb0 _ _ _, F.ev_app (leaf_ev g1.1) (leaf_ev g2.1), trivial⟩, g2.2⟩
  · split at h
    · rename_i hk
      obtain ⟨b, p2, h2, h⟩ := then_inv h
      have g2 := value_gd _ _ _ (g1.2.isT hk) h2
      obtain ⟨u, p3, h3, h⟩ := then_inv h
      have g3 := need_gd _ _ _ _ g2.2 h3
      obtain ⟨c, p4, h4, h⟩ := then_inv h
      have g4 := value_gd _ _ _ g3.2 h4
      cases h
      exact ⟨⟨ndb0 _ _ _, F.ev_app (leaf_ev g1.1) (F.ev_app (leaf_ev g2.1) (leaf_ev g4.1)), trivial⟩, g4.2⟩
    · split at h
      · rename_i hk
        obtain ⟨u, p2, h2, h⟩ := then_inv h
        have g2 := need_gd _ _ _ _ (g1.2.isT hk) h2
        obtain ⟨l, p3, h3, h⟩ := then_inv h
        have g3 := list_gd leaf_gd _ _ _ _ g2.2 h3
        obtain ⟨v, p4, h4, h⟩ := then_inv h
        have g4 := need_gd _ _ _ _ g3.2 h4
        cases h
        exact ⟨⟨ndb0 _ _ _, F.ev_app (leaf_ev g1.1) (F.ev_cat g3.1.2), trivial⟩, g4.2⟩
      · cases h
theorem kids_gd {rd : List Tok → Rd F} (h : Gd rd (F.Ev NdB)) (k : Nat) (m : Int) (a : Nat) : Gd (kidsR rd ⟨k, m, [], [], a⟩) (F.Ev NdB) := by
  intro ts q f hg hf
  obtain ⟨u, p2, h2, hf⟩ := then_inv hf
  have g2 := need_gd _ _ _ _ hg h2
  obtain ⟨l, p3, h3, hf⟩ := then_inv hf
  have g3 := list_gd h _ _ _ _ g2.2 h3
  obtain ⟨v, p4, h4, hf⟩ := then_inv hf
  have g4 := need_gd _ _ _ _ g3.2 h4
  cases hf
  exact ⟨⟨ndb0 _ _ _, F.ev_cat g3.1.2, trivial⟩, g4.2⟩
theorem expr_gd : ∀ k, Gd (exprR k) (F.Ev NdB)
  | 0 => fun ts q f hg h => by cases h
  | k + 1 => by
    have ih := expr_gd k
    intro ts q f hg h
    rw [exprR] at h
    split at h
    · rename_i h1; exact kids_gd ih _ _ _ _ _ _ (hg.isT h1) h
    · split at h
      · rename_i h1; exact kids_gd ih _ _ _ _ _ _ (hg.isT h1) h
      · split at h
        · rename_i h1
          obtain ⟨m, p, h2, h⟩ := then_inv h
          exact kids_gd ih _ _ _ _ _ _ (num_gd _ _ _ (hg.isT h1) h2).2 h
        · split at h
          · rename_i h1
            obtain ⟨g, p, h2, h⟩ := then_inv h
            have g2 := ih _ _ _ (hg.isT h1) h2
            cases h
            exact ⟨⟨ndb0 _ _ _, g2.1, trivial⟩, g2.2⟩
          · split at h
            · rename_i h1; cases h; exact ⟨leaf_ev (ndb0 _ _ _), hg.isT h1⟩
            · split at h
              · rename_i h1; cases h; exact ⟨leaf_ev (ndb0 _ _ _), hg.isT h1⟩
              · split at h
                · rename_i h1
                  obtain ⟨g, p, h2, h⟩ := then_inv h
                  have g2 := ih _ _ _ (hg.isT h1) h2
                  obtain ⟨u, p3, h3, h⟩ := then_inv h
                  have g3 := need_gd _ _ _ _ g2.2 h3
                  cases h
                  exact ⟨g2.1, g3.2⟩
                · exact cond_gd _ _ _ hg h
structure PlB (n : Nat) (p : Pl) : Prop where
  name : p.name.length ≤ 32
  scope : p.scope.length ≤ 32
  escrow : p.escrow.length ≤ 32
  ul : p.uses.length ≤ n
  rl : p.reveal.length ≤ n
  us : ∀ x ∈ p.uses, x.1.length ≤ 32 ∧ x.2.length ≤ 32
  rv : ∀ x ∈ p.reveal, x.1.length ≤ 32 ∧ x.2.length ≤ 32
  sz : p.root.size ≤ n
  ev : p.root.Ev NdB
theorem reveal_gd (n : Nat) : ∀ ts q l, Good ts → ts.length ≤ n → revealR ts = (some l, q) → (l.length ≤ n ∧ ∀ x ∈ l, x.1.length ≤ 32 ∧ x.2.length ≤ 32) ∧ Good q := by
  intro ts q l hg hn h
  unfold revealR at h
  split at h
  · rename_i h1
    have g := list_gd (pair_gd sDot) _ _ _ _ (hg.isT h1) h
    exact ⟨⟨Nat.le_trans g.1.1 hn, g.1.2⟩, g.2⟩
  · cases h
    exact ⟨⟨Nat.zero_le _, fun x hx => by cases hx⟩, hg⟩
theorem prove_gd : ∀ ts q f, Good ts → proveR ts = (some f, q) → f.size ≤ ts.length ∧ f.Ev NdB ∧ Good q := by
  intro ts q f hg h
  unfold proveR at h
  split at h
  · rename_i h1
    have g := expr_gd _ _ _ _ (hg.isT h1) h
    have h2 := expr_size _ _ _ _ h
    have h3 := isT_len h1
    exact ⟨by omega, g⟩
  · cases h
    have := List.length_pos_iff.2 hg.ne
    exact ⟨by rw [leaf1]; omega, leaf_ev (ndb0 _ _ _), hg⟩
theorem scope_gd : Gd scopeR fun s => s.1.length ≤ 32 := by
  intro ts q s hg h
  unfold scopeR at h
  split at h
  · rename_i h1
    obtain ⟨w, p, h2, h⟩ := then_inv h
    have g2 := word_gd _ _ _ (hg.isT h1) h2
    split at h
    · rename_i h3
      obtain ⟨m, p3, h4, h⟩ := then_inv h
      have g4 := num_gd _ _ _ (g2.2.isT h3) h4
      cases h
      exact ⟨g2.1, g4.2⟩
    · cases h
      exact g2
  · cases h
    exact ⟨Nat.zero_le _, hg⟩
theorem escrow_gd : Gd escrowR fun s => s.length ≤ 32 := by
  intro ts q s hg h
  unfold escrowR at h
  split at h
  · rename_i h1; exact name_gd _ _ _ (hg.isT h1) h
  · cases h
    exact ⟨Nat.zero_le _, hg⟩
theorem suf_len {α : Type} {rd : List Tok → Rd α} (hk : Keeps rd) {ts q : List Tok} {o : Option α} (hg : Good ts) (h : rd ts = (o, q)) : q.length ≤ ts.length := by
  have := (hk ts hg).1.length_le
  rw [h] at this
  exact this
theorem reveal_keeps : Keeps revealR := by
  intro ts h
  unfold revealR
  split
  · rename_i h1; exact lift (list_keeps (pair_keeps sDot) _ ts.tail (h.isT h1))
  · exact ⟨List.suffix_refl _, h⟩
theorem policy_gd {ts q : List Tok} {p : Pl} (hg : Good ts) (h : policyR ts = (some p, q)) : PlB ts.length p ∧ Good q := by
  obtain ⟨u1, q1, h1, h⟩ := then_inv h
  have g1 := need_gd _ _ _ _ hg h1
  have l1 := suf_len (need_keeps _) hg h1
  obtain ⟨nm, q2, h2, h⟩ := then_inv h
  have g2 := name_gd _ _ _ g1.2 h2
  have l2 := suf_len name_keeps g1.2 h2
  obtain ⟨u3, q3, h3, h⟩ := then_inv h
  have g3 := need_gd _ _ _ _ g2.2 h3
  have l3 := suf_len (need_keeps _) g2.2 h3
  obtain ⟨us, q4, h4, h⟩ := then_inv h
  have g4 := list_gd (pair_gd sColon) _ _ _ _ g3.2 h4
  have l4 := suf_len (list_keeps (pair_keeps sColon) _) g3.2 h4
  obtain ⟨rv, q5, h5, h⟩ := then_inv h
  have g5 := reveal_gd q4.length _ _ _ g4.2 (Nat.le_refl _) h5
  have l5 := suf_len reveal_keeps g4.2 h5
  obtain ⟨f, q6, h6, h⟩ := then_inv h
  have g6 := prove_gd _ _ _ g5.2 h6
  obtain ⟨s, q7, h7, h⟩ := then_inv h
  have g7 := scope_gd _ _ _ g6.2.2 h7
  obtain ⟨x, q8, h8, h⟩ := then_inv h
  have g8 := escrow_gd _ _ _ g7.2 h8
  obtain ⟨u9, q9, h9, h⟩ := then_inv h
  have g9 := need_gd _ _ _ _ g8.2 h9
  split at h
  · cases h
    exact ⟨⟨g2.1, g7.1, g8.1, Nat.le_trans g4.1.1 (by omega), Nat.le_trans g5.1.1 (by omega), g4.1.2, g5.1.2, Nat.le_trans g6.1 (by omega), g6.2.1⟩, g9.2⟩
  · cases h
end Go.Proofs.YtminghdnclpocaaGreatDoor.Pa
