/-
  Which nodes are reached, and the tidy policy, in plain words. No program in sight.
-/
import Derived.Test.YtminghdnclpocaaGreatDoorPcA
namespace Go.Proofs.YtminghdnclpocaaGreatDoor
set_option linter.unusedVariables false

/-- kids one after the other, as long as all goes well -/
def loopB (v : Int → List Int → Bool × List Int) : List Int → List Int → Bool × List Int
  | [], S => (true, S)
  | k :: r, S => if (v k S).1 = false then v k S else loopB v r (v k S).2
/-- the nodes that are reached from a node, in preorder; false if that is not a tree -/
def reachP (ns : List Nk) : Nat → Int → List Int → Bool × List Int
  | 0, _, S => (false, S)
  | f + 1, a, S =>
    if a < 0 ∨ (ns.length : Int) ≤ a ∨ a ∈ S ∨ S.length = 512 then (false, S)
    else match ns[a.toNat]? with
      | none => (false, S)
      | some n => loopB (fun k S => reachP ns f k S) n.kids (S ++ [a])
theorem reachP_out {ns : List Nk} {f : Nat} {a : Int} {S : List Int} (h : a < 0 ∨ (ns.length : Int) ≤ a ∨ a ∈ S ∨ S.length = 512) : reachP ns (f + 1) a S = (false, S) := by
  rw [reachP, if_pos h]
theorem reachP_in {ns : List Nk} {f : Nat} {a : Int} {S : List Int} {n : Nk} (h : ¬ (a < 0 ∨ (ns.length : Int) ≤ a ∨ a ∈ S ∨ S.length = 512)) (hn : ns[a.toNat]? = some n) : reachP ns (f + 1) a S = loopB (fun k S => reachP ns f k S) n.kids (S ++ [a]) := by
  rw [reachP, if_neg h, hn]
/-- what was reached: once each, in range, not too many -/
structure Rch (ns : List Nk) (S : List Int) : Prop where
  met : Met ns S
  len : S.length ≤ 512
theorem Rch.snoc {ns : List Nk} {S : List Int} {a : Int} (h : Rch ns S) (h2 : ¬ (a < 0 ∨ (ns.length : Int) ≤ a ∨ a ∈ S ∨ S.length = 512)) : Rch ns (S ++ [a]) := by
  refine ⟨h.met.snoc fun h9 => h2 (by rcases h9 with h | h | h; exact .inl h; exact .inr (.inl h); exact .inr (.inr (.inl h))), ?_⟩
  have h3 := h.len
  have h4 : S.length ≠ 512 := fun h9 => h2 (.inr (.inr (.inr h9)))
  rw [List.length_append, List.length_singleton]; omega
theorem loopB_rch {ns : List Nk} {v : Int → List Int → Bool × List Int} (hv : ∀ k S, Rch ns S → Rch ns (v k S).2 ∧ S.length ≤ (v k S).2.length) : ∀ l S, Rch ns S → Rch ns (loopB v l S).2 ∧ S.length ≤ (loopB v l S).2.length
  | [], S, h => ⟨h, Nat.le_refl _⟩
  | k :: r, S, h => by
    have h1 := hv k S h
    rw [loopB]
    split
    · exact h1
    · have h2 := loopB_rch hv r _ h1.1
      exact ⟨h2.1, Nat.le_trans h1.2 h2.2⟩
theorem reachP_rch (ns : List Nk) : ∀ f a S, Rch ns S → Rch ns (reachP ns f a S).2 ∧ S.length ≤ (reachP ns f a S).2.length
  | 0, a, S, h => ⟨h, Nat.le_refl _⟩
  | f + 1, a, S, h => by
    by_cases hb : a < 0 ∨ (ns.length : Int) ≤ a ∨ a ∈ S ∨ S.length = 512
    · rw [reachP_out hb]; exact ⟨h, Nat.le_refl _⟩
    · obtain ⟨n, hn⟩ : ∃ n, ns[a.toNat]? = some n := ⟨_, List.getElem?_eq_getElem (by
        have h1 : ¬ a < 0 := fun h => hb (.inl h)
        have h2 : ¬ (ns.length : Int) ≤ a := fun h => hb (.inr (.inl h))
        omega)⟩
      rw [reachP_in hb hn]
      have h2 := loopB_rch (fun k S h => reachP_rch ns f k S h) n.kids _ (h.snoc hb)
      exact ⟨h2.1, Nat.le_trans (by rw [List.length_append]; omega) h2.2⟩
/-- what was reached, if all went well, holds the kids of what is new -/
structure Clo (ns : List Nk) (S T : List Int) : Prop where
  sub : ∀ x ∈ S, x ∈ T
  kids : ∀ b ∈ T, b ∉ S → ∀ n, ns[b.toNat]? = some n → ∀ k ∈ n.kids, k ∈ T
theorem Clo.trans {ns : List Nk} {A B C : List Int} (h : Clo ns A B) (g : Clo ns B C) : Clo ns A C :=
  ⟨fun x hx => g.sub x (h.sub x hx), fun b hb ha n hn k hk => by
    by_cases hB : b ∈ B
    · exact g.sub k (h.kids b hB ha n hn k hk)
    · exact g.kids b hb hB n hn k hk⟩
theorem loopB_clo {ns : List Nk} {v : Int → List Int → Bool × List Int} (hv : ∀ k S, (v k S).1 = true → Clo ns S (v k S).2 ∧ k ∈ (v k S).2) : ∀ l S, (loopB v l S).1 = true → Clo ns S (loopB v l S).2 ∧ ∀ k ∈ l, k ∈ (loopB v l S).2
  | [], S, h => ⟨⟨fun _ h => h, fun b hb hn => absurd hb hn⟩, fun k hk => (List.not_mem_nil hk).elim⟩
  | k :: r, S, h => by
    rw [loopB] at h ⊢
    split at h
    · rename_i h1; rw [h1] at h; cases h
    · rename_i h1
      rw [if_neg h1]
      have h2 := hv k S (by simpa using h1)
      have h3 := loopB_clo hv r _ h
      refine ⟨h2.1.trans h3.1, fun j hj => ?_⟩
      rcases List.mem_cons.1 hj with rfl | hj
      · exact h3.1.sub _ h2.2
      · exact h3.2 j hj
theorem reachP_clo (ns : List Nk) : ∀ f a S, (reachP ns f a S).1 = true → Clo ns S (reachP ns f a S).2 ∧ a ∈ (reachP ns f a S).2
  | 0, a, S, h => by cases h
  | f + 1, a, S, h => by
    by_cases hb : a < 0 ∨ (ns.length : Int) ≤ a ∨ a ∈ S ∨ S.length = 512
    · rw [reachP_out hb] at h; cases h
    · obtain ⟨n, hn⟩ : ∃ n, ns[a.toNat]? = some n := ⟨_, List.getElem?_eq_getElem (by omega)⟩
      rw [reachP_in hb hn] at h ⊢
      obtain ⟨h1, h2⟩ := loopB_clo (fun k S h => reachP_clo ns f k S h) n.kids _ h
      have ha := h1.sub a (by simp)
      refine ⟨⟨fun x hx => h1.sub x (List.mem_append_left _ hx), fun b hb' hS m hm k hk => ?_⟩, ha⟩
      by_cases hba : b = a
      · subst hba
        rw [hn] at hm
        cases hm
        exact h2 k hk
      · exact h1.kids b hb' (by simp [hS, hba]) m hm k hk
/-- where an element stands in a list, or 0 -/
def posD (l : List Int) (k : Int) : Int := if k ∈ l then ((l.idxOf k : Nat) : Int) else 0
/-- a node whose kids are numbered as they stand in a list -/
def Nk.at_pos (l : List Int) (n : Nk) : Nk := ⟨n.kind, n.num, n.name, n.attr, n.kids.map (posD l), n.at_⟩
/-- the policy with these nodes -/
def Po.pick (d : Po) (l : List Int) : Po := ⟨d.name, d.uses, d.reveal, l.map fun a => ((d.nodes[a.toNat]?).getD ⟨0, 0, ⟨#[]⟩, ⟨#[]⟩, [], 0⟩).at_pos l, 0, d.scope, d.limit, d.escrow⟩
def noPo : Po := ⟨⟨#[]⟩, [], [], [], 0, ⟨#[]⟩, 0, ⟨#[]⟩⟩
/-- what Tidy returns -/
def tidyP (d : Po) : Po × Int :=
  if (reachP d.nodes 513 d.root []).1 = false then (noPo, 3)
  else if checkP (d.pick (reachP d.nodes 513 d.root []).2) ≠ 0 then (noPo, checkP (d.pick (reachP d.nodes 513 d.root []).2)) else (d.pick (reachP d.nodes 513 d.root []).2, 0)
end Go.Proofs.YtminghdnclpocaaGreatDoor
