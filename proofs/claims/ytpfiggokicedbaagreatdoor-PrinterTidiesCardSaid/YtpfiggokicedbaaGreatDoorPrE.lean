/-
  The tidy policy of a checked policy is the same, and has the same text. Plain; the laws of Tidies and Sources. No program in sight.
-/
import Derived.Test.YtpfiggokicedbaaGreatDoorPrX
namespace Go.Proofs.YtpfiggokicedbaaGreatDoor
open Go.RowKit Go.Shelf
set_option linter.unusedVariables false

theorem loop_pre {v : Int → List Int → Int × List Int} (hv : ∀ k S, ∃ T, (v k S).2 = S ++ T) : ∀ l S, ∃ T, (loopP v l S).2 = S ++ T
  | [], S => ⟨[], by rw [List.append_nil]; rfl⟩
  | k :: r, S => by
    rw [loopP]
    split
    · exact hv k S
    · obtain ⟨T, hT⟩ := hv k S
      obtain ⟨U, hU⟩ := loop_pre hv r (v k S).2
      exact ⟨T ++ U, by rw [hU, hT, List.append_assoc]⟩
theorem visit_pre (ns : List Nk) : ∀ f a c S, ∃ T, (visitP ns f a c S).2 = S ++ T
  | 0, a, c, S => by
    by_cases hb : a < 0 ∨ (ns.length : Int) ≤ a ∨ a ∈ S
    · rw [visitP_out hb]; exact ⟨[], by simp⟩
    · rw [visitP_deep hb]; exact ⟨[], by simp⟩
  | f + 1, a, c, S => by
    by_cases hb : a < 0 ∨ (ns.length : Int) ≤ a ∨ a ∈ S
    · rw [visitP_out hb]; exact ⟨[], by simp⟩
    · obtain ⟨n, hn⟩ : ∃ n, ns[a.toNat]? = some n := ⟨_, List.getElem?_eq_getElem (by omega)⟩
      rw [visitP_in hb hn]
      split
      · exact ⟨[a], rfl⟩
      · obtain ⟨T, hT⟩ := loop_pre (v := fun k S => visitP ns f k (decide (n.kind ≤ 5)) S) (fun k S => visit_pre ns f k _ S) n.kids (S ++ [a])
        exact ⟨a :: T, by rw [hT]; simp⟩
/-- what was visited without an error is reached -/
theorem loop_reach {ns : List Nk} {f g : Nat} {c : Bool} (ih : ∀ a S, (visitP ns f a c S).1 = 0 → (visitP ns f a c S).2.length ≤ 512 → reachP ns g a S = (true, (visitP ns f a c S).2)) : ∀ l S, (loopP (fun k S => visitP ns f k c S) l S).1 = 0 → (loopP (fun k S => visitP ns f k c S) l S).2.length ≤ 512 → loopB (fun k S => reachP ns g k S) l S = (true, (loopP (fun k S => visitP ns f k c S) l S).2)
  | [], S, _, _ => rfl
  | k :: r, S, h, hl => by
    rw [loopP] at h hl ⊢
    by_cases h1 : (visitP ns f k c S).1 ≠ 0
    · rw [if_pos h1] at h; exact absurd h h1
    · rw [if_neg h1] at h hl ⊢
      obtain ⟨T, hT⟩ := loop_pre (v := fun k S => visitP ns f k c S) (fun k S => visit_pre ns f k c S) r (visitP ns f k c S).2
      have h2 := ih k S (Decidable.not_not.1 h1) (by
        have := congrArg List.length hT
        rw [List.length_append] at this; omega)
      rw [loopB, h2, if_neg (by simp)]
      exact loop_reach ih r _ h hl
theorem visit_reach (ns : List Nk) : ∀ f g a c S, f ≤ g → (visitP ns f a c S).1 = 0 → (visitP ns f a c S).2.length ≤ 512 → reachP ns g a S = (true, (visitP ns f a c S).2)
  | 0, g, a, c, S, _, h, _ => by
    by_cases hb : a < 0 ∨ (ns.length : Int) ≤ a ∨ a ∈ S
    · rw [visitP_out hb] at h; cases h
    · rw [visitP_deep hb] at h; cases h
  | f + 1, g, a, c, S, hg, h, hl => by
    by_cases hb : a < 0 ∨ (ns.length : Int) ≤ a ∨ a ∈ S
    · rw [visitP_out hb] at h; cases h
    · obtain ⟨n, hn⟩ : ∃ n, ns[a.toNat]? = some n := ⟨_, List.getElem?_eq_getElem (by omega)⟩
      obtain ⟨g, rfl⟩ : ∃ j, g = j + 1 := ⟨g - 1, by omega⟩
      have hvi := visitP_in (f := f) (c := c) hb hn
      rw [hvi] at h hl
      split at h
      · rename_i h1; exact absurd h h1
      · rename_i h1
        rw [if_neg h1] at hl
        obtain ⟨T, hT⟩ := loop_pre (v := fun k S => visitP ns f k (decide (n.kind ≤ 5)) S) (fun k S => visit_pre ns f k _ S) n.kids (S ++ [a])
        have hS : S.length ≠ 512 := by
          have := congrArg List.length hT
          rw [List.length_append, List.length_append, List.length_singleton] at this
          omega
        rw [reachP_in (by rintro (q | q | q | q)
                          · exact hb (.inl q)
                          · exact hb (.inr (.inl q))
                          · exact hb (.inr (.inr q))
                          · exact hS q) hn, hvi, if_neg h1]
        exact loop_reach (fun a S h hl => visit_reach ns f g a _ S (by omega) h hl) n.kids _ h hl
/-- places in a list -/
theorem posD_at {l : List Int} {x : Int} (h : x ∈ l) : ∃ i : Nat, l[i]? = some x ∧ posD l x = (i : Int) ∧ i < l.length := by
  have h1 : l.idxOf x < l.length := List.idxOf_lt_length_of_mem h
  refine ⟨l.idxOf x, ?_, ?_, h1⟩
  · rw [List.getElem?_eq_getElem h1, List.getElem_idxOf h1]
  · unfold posD; rw [if_pos h]
theorem posD_inj {l : List Int} {x y : Int} (hx : x ∈ l) (hy : y ∈ l) (h : posD l x = posD l y) : x = y := by
  obtain ⟨i, a1, a2, _⟩ := posD_at hx
  obtain ⟨j, b1, b2, _⟩ := posD_at hy
  have : i = j := by omega
  subst this
  rw [a1] at b1
  exact Option.some.inj b1
theorem pick_at {d : Po} {S : List Int} {x : Int} {n : Nk} (h : x ∈ S) (hn : d.nodes[x.toNat]? = some n) : (d.pick S).nodes[(posD S x).toNat]? = some (n.at_pos S) := by
  obtain ⟨i, a1, a2, a3⟩ := posD_at h
  rw [a2, Int.toNat_natCast]
  show (S.map _)[i]? = _
  rw [List.getElem?_map, a1, Option.map_some, hn]; rfl
theorem pick_same {d : Po} {S : List Int} (hcl : ∀ b ∈ S, ∀ n, d.nodes[b.toNat]? = some n → ∀ k ∈ n.kids, k ∈ S) : ∀ f a, WfP d.nodes f a → a ∈ S → sameN d.nodes (d.pick S).nodes f a (posD S a) = true
  | 0, a, hw, _ => hw.elim
  | f + 1, a, hw, ha => by
    obtain ⟨_, n, hn, hk⟩ := hw
    rw [sameN, hn, pick_at ha hn]
    show (eqN n (n.at_pos S) && eachP (sameN d.nodes (d.pick S).nodes f) n.kids (n.kids.map (posD S))) = true
    have h1 : eqN n (n.at_pos S) = true := by simp [eqN, Nk.at_pos]
    rw [h1, Bool.true_and]
    have : ∀ l : List Int, (∀ k ∈ l, WfP d.nodes f k ∧ k ∈ S) → eachP (sameN d.nodes (d.pick S).nodes f) l (l.map (posD S)) = true := by
      intro l
      induction l with
      | nil => intro _; rfl
      | cons k l ih =>
        intro h
        rw [List.map_cons, eachP, pick_same hcl f k (h k (by simp)).1 (h k (by simp)).2, ih fun j hj => h j (List.mem_cons_of_mem _ hj)]; rfl
    exact this n.kids fun k hk' => ⟨hk k hk', hcl a ha n hn k hk'⟩
theorem form_pick (n : Nk) (S : List Int) (c : Bool) : formP (n.at_pos S) c = formP n c := form_cong rfl rfl rfl rfl (List.length_map _)
theorem loop_pick {d : Po} {S : List Int} {f : Nat} {c : Bool} (ih : ∀ a T, a ∈ S → (∀ x ∈ T, x ∈ S) → (visitP d.nodes f a c T).1 = 0 → visitP (d.pick S).nodes f (posD S a) c (T.map (posD S)) = (0, (visitP d.nodes f a c T).2.map (posD S)) ∧ ∀ x ∈ (visitP d.nodes f a c T).2, x ∈ S) :
    ∀ l T, (∀ k ∈ l, k ∈ S) → (∀ x ∈ T, x ∈ S) → (loopP (fun k T => visitP d.nodes f k c T) l T).1 = 0 → loopP (fun k T => visitP (d.pick S).nodes f k c T) (l.map (posD S)) (T.map (posD S)) = (0, (loopP (fun k T => visitP d.nodes f k c T) l T).2.map (posD S)) ∧ ∀ x ∈ (loopP (fun k T => visitP d.nodes f k c T) l T).2, x ∈ S
  | [], T, _, hT, _ => ⟨rfl, hT⟩
  | k :: r, T, hl, hT, h => by
    rw [loopP] at h
    by_cases h1 : (visitP d.nodes f k c T).1 ≠ 0
    · rw [if_pos h1] at h; exact absurd h h1
    · rw [if_neg h1] at h
      obtain ⟨h2, h3⟩ := ih k T (hl k (by simp)) hT (Decidable.not_not.1 h1)
      have h4 := loop_pick ih r _ (fun j hj => hl j (List.mem_cons_of_mem _ hj)) h3 h
      rw [List.map_cons, loopP, loopP, h2, if_neg (by simp), if_neg h1]
      exact h4
theorem visit_pick {d : Po} {S : List Int} (hcl : ∀ b ∈ S, ∀ n, d.nodes[b.toNat]? = some n → ∀ k ∈ n.kids, k ∈ S) : ∀ f a c T, a ∈ S → (∀ x ∈ T, x ∈ S) → (visitP d.nodes f a c T).1 = 0 → visitP (d.pick S).nodes f (posD S a) c (T.map (posD S)) = (0, (visitP d.nodes f a c T).2.map (posD S)) ∧ ∀ x ∈ (visitP d.nodes f a c T).2, x ∈ S
  | 0, a, c, T, _, _, h => by
    by_cases hb : a < 0 ∨ (d.nodes.length : Int) ≤ a ∨ a ∈ T
    · rw [visitP_out hb] at h; cases h
    · rw [visitP_deep hb] at h; cases h
  | f + 1, a, c, T, ha, hT, h => by
    by_cases hb : a < 0 ∨ (d.nodes.length : Int) ≤ a ∨ a ∈ T
    · rw [visitP_out hb] at h; cases h
    · obtain ⟨n, hn⟩ : ∃ n, d.nodes[a.toNat]? = some n := ⟨_, List.getElem?_eq_getElem (by omega)⟩
      have hvi := visitP_in (f := f) (c := c) hb hn
      rw [hvi] at h ⊢
      split at h
      · rename_i h1; exact absurd h h1
      · rename_i h1
        rw [if_neg h1]
        obtain ⟨i, a1, a2, a3⟩ := posD_at ha
        have hb' : ¬ (posD S a < 0 ∨ ((d.pick S).nodes.length : Int) ≤ posD S a ∨ posD S a ∈ T.map (posD S)) := by
          rintro (q | q | q)
          · omega
          · have : (d.pick S).nodes.length = S.length := List.length_map _
            omega
          · obtain ⟨y, hy, e⟩ := List.mem_map.1 q
            have := posD_inj (hT y hy) ha e
            rw [this] at hy
            exact hb (.inr (.inr hy))
        rw [visitP_in hb' (pick_at ha hn), form_pick, if_neg h1]
        have h5 := loop_pick (fun a T ha hT h => visit_pick hcl f a (decide (n.kind ≤ 5)) T ha hT h) n.kids (T ++ [a]) (fun k hk => hcl a ha n hn k hk) (fun x hx => by
          rcases List.mem_append.1 hx with hx | hx
          · exact hT x hx
          · rw [List.mem_singleton.1 hx]; exact ha) h
        rw [List.map_append] at h5
        exact h5
/-- the law of Tidies -/
theorem tidies_law {d : Po} (h : checkP d = 0) : ∃ q, tidyP d = (q, 0) ∧ checkP q = 0 ∧ sameP d q = true ∧ Pa.printP q = Pa.printP d ∧ q.nodes ≠ [] ∧ q.root = 0 := by
  have hc := Pa.check_ck h
  have ht := check_tree h
  have hwf := tree_wf ht
  unfold treeP at ht
  split at ht
  · rename_i h1; exact absurd ht h1
  rename_i h1
  split at ht
  · cases ht
  rename_i h2
  have h1 := Decidable.not_not.1 h1
  have h2 := Decidable.not_not.1 h2
  have hr := visit_reach d.nodes 32 513 d.root true [] (by omega) h1 (by rw [h2]; exact hc.nodes)
  generalize hS : (visitP d.nodes 32 d.root true []).2 = S at *
  have hcl0 := reachP_clo d.nodes 513 d.root [] (by rw [hr])
  rw [hr] at hcl0
  have hroot : d.root ∈ S := hcl0.2
  have hcl : ∀ b ∈ S, ∀ n, d.nodes[b.toNat]? = some n → ∀ k ∈ n.kids, k ∈ S := fun b hb n hn k hk => hcl0.1.kids b hb List.not_mem_nil n hn k hk
  have hv := visit_pick hcl 32 d.root true [] hroot (fun x hx => (List.not_mem_nil hx).elim) h1
  rw [hS] at hv
  have hp0 : posD S d.root = 0 := by
    obtain ⟨n, hn, -⟩ := Pa.tree_vn h
    have hb : ¬ (d.root < 0 ∨ (d.nodes.length : Int) ≤ d.root ∨ d.root ∈ ([] : List Int)) := by
      intro hb
      rw [visitP_out hb] at h1; cases h1
    have hvi := visitP_in (f := 31) (c := true) hb hn
    have hS2 : ∃ T, S = d.root :: T := by
      rw [hvi] at hS
      split at hS
      · exact ⟨[], hS.symm⟩
      · obtain ⟨T, hT⟩ := loop_pre (v := fun k S => visitP d.nodes 31 k (decide (n.kind ≤ 5)) S) (fun k S => visit_pre d.nodes 31 k _ S) n.kids ([] ++ [d.root])
        exact ⟨T, by rw [← hS, hT]; rfl⟩
    obtain ⟨T, rfl⟩ := hS2
    unfold posD
    rw [if_pos (by simp)]
    simp
  rw [hp0] at hv
  have hsm := pick_same hcl 32 d.root hwf hroot
  rw [hp0] at hsm
  have hql : (d.pick S).nodes.length = S.length := List.length_map _
  have htq : treeP (d.pick S) = 0 := by
    unfold treeP
    have hv1 : visitP (d.pick S).nodes 32 (d.pick S).root true [] = (0, S.map (posD S)) := hv.1
    rw [hv1, if_neg (by simp), if_neg]
    rw [Decidable.not_not, List.length_map, hql]
  have hns : ∀ y ∈ (d.pick S).nodes, ∃ n ∈ d.nodes, y.kind = n.kind ∧ y.name = n.name := fun y hy => by
    obtain ⟨a, ha, rfl⟩ := List.mem_map.1 (show y ∈ S.map _ from hy)
    have hm : Met d.nodes S := by
      rw [← hS]
      exact visitP_met d.nodes 32 d.root true [] ⟨List.nodup_nil, fun x hx => absurd hx List.not_mem_nil⟩
    obtain ⟨r1, r2⟩ := hm.rg a ha
    obtain ⟨n, hn⟩ : ∃ n, d.nodes[a.toNat]? = some n := ⟨_, List.getElem?_eq_getElem (by omega)⟩
    refine ⟨n, List.mem_of_getElem? hn, ?_⟩
    rw [hn]
    exact ⟨rfl, rfl⟩
  have hck : checkP (d.pick S) = 0 := by
    have h0 := h
    unfold checkP at h0 ⊢
    rw [htq, hql]
    rw [check_tree h] at h0
    have e1 : namesP (d.pick S) = namesP d := rfl
    have e2 : (d.pick S).uses = d.uses := rfl
    have e3 : (d.pick S).reveal = d.reveal := rfl
    have e4 : (d.pick S).limit = d.limit := rfl
    have e5 : (d.pick S).scope = d.scope := rfl
    have e6 : (d.pick S).al = d.al := rfl
    rw [e1, e2, e3, e4, e5, e6, h2]
    by_cases q1 : 512 < d.nodes.length ∨ d.uses.length < 1 ∨ 4 < d.uses.length ∨ 64 < d.reveal.length
    · rw [if_pos q1] at h0; cases h0
    · rw [if_neg q1] at h0 ⊢
      by_cases q2 : namesP d = false
      · rw [if_pos q2] at h0; cases h0
      · rw [if_neg q2] at h0 ⊢
        by_cases q3 : d.limit < 0 ∨ 65536 < d.limit ∨ (0 < d.limit ∧ d.scope.size = 0)
        · rw [if_pos q3] at h0; cases h0
        · rw [if_neg q3] at h0 ⊢
          rw [if_neg (by simp)] at h0 ⊢
          by_cases q4 : twiceP [] d.al = true ∨ twiceP [] d.reveal = true
          · rw [if_pos q4] at h0; cases h0
          · rw [if_neg q4] at h0 ⊢
            by_cases q5 : d.reveal.all (fun x => memD x.1 d.al) = false
            · rw [if_pos q5] at h0; cases h0
            · rw [if_neg q5] at h0 ⊢
              by_cases q6 : d.nodes.all (fun n => !decide (n.kind = 9) || memD n.name d.al) = false
              · rw [if_pos q6] at h0; cases h0
              · have q7 := eq_true_of_ne_false q6
                rw [if_neg]
                rw [Bool.not_eq_false, List.all_eq_true]
                intro y hy
                obtain ⟨n, hn, k1, k2⟩ := hns y hy
                rw [k1, k2]
                exact List.all_eq_true.1 q7 n hn
  have hsame : sameP d (d.pick S) = true := by
    unfold sameP
    rw [hck, h]
    show (decide ((0 : Int) = 0) && decide ((0 : Int) = 0) && decide (d.name = d.name) && decide (d.scope = d.scope) && decide (d.limit = d.limit) && decide (d.escrow = d.escrow) && decide (d.uses = d.uses) && decide (d.reveal = d.reveal) && sameN d.nodes (d.pick S).nodes 32 d.root 0) = true
    rw [hsm]; simp
  refine ⟨d.pick S, ?_, hck, hsame, (same_print hsame).symm, ?_, rfl⟩
  · unfold tidyP
    rw [hr]
    simp only [hck]
    simp
  · intro h9
    have h10 := congrArg List.length h9
    rw [hql] at h10
    have h11 := List.length_pos_of_mem hroot
    rw [h10] at h11
    exact absurd h11 (by decide)
end Go.Proofs.YtpfiggokicedbaaGreatDoor
