/-
  A tree has at most as many nodes as tokens were read. No program in sight.
-/
import Derived.Test.YtminghdnclpocaaGreatDoorPaB
namespace Go.Proofs.YtminghdnclpocaaGreatDoor.Pa
open Lx (Tok)
set_option linter.unusedVariables false

theorem need_eats {s : Tx} {ts q : List Tok} {u : Unit} (h : needR s ts = (some u, q)) : q.length + 1 ≤ ts.length := by
  unfold needR at h
  split at h
  · rename_i h1
    cases h
    cases ts with
    | nil => cases h1
    | cons t r => simp
  · cases h
theorem name_eats {ts q : List Tok} {a : Tx} (h : nameR ts = (some a, q)) : q.length + 1 ≤ ts.length := by
  unfold nameR at h
  split at h
  · rename_i h1
    cases h
    cases ts with
    | nil => cases h1
    | cons t r => simp
  · cases h
theorem word_eats {ts q : List Tok} {a : Tx} (h : wordR ts = (some a, q)) : q.length + 1 ≤ ts.length := by
  unfold wordR at h
  split at h
  · rename_i h1
    cases h
    cases ts with
    | nil => cases h1
    | cons t r => simp
  · cases h
theorem num_eats {ts q : List Tok} {a : Int} (h : numR ts = (some a, q)) : q.length + 1 ≤ ts.length := by
  unfold numR at h
  split at h
  · rename_i h1
    cases h
    cases ts with
    | nil => cases h1
    | cons t r => simp
  · cases h
theorem then_inv {α β : Type} {r : Rd α} {f : α → List Tok → Rd β} {b : β} {q : List Tok} (h : r.then f = (some b, q)) : ∃ a p, r = (some a, p) ∧ f a p = (some b, q) := by
  obtain ⟨o, p⟩ := r
  cases o with
  | none => cases h
  | some a => exact ⟨a, p, rfl, h⟩
theorem pair_eats {s : Tx} {ts q : List Tok} {x : Tx × Tx} (h : pairR s ts = (some x, q)) : q.length + 1 ≤ ts.length := by
  obtain ⟨a, p, h1, h⟩ := then_inv h
  obtain ⟨u, p2, h2, h⟩ := then_inv h
  obtain ⟨b, p3, h3, h⟩ := then_inv h
  cases h
  have := name_eats h1
  have := need_eats h2
  have := name_eats h3
  omega
theorem value_eats {ts q : List Tok} {n : Nd} (h : valueR ts = (some n, q)) : q.length + 1 ≤ ts.length := by
  unfold valueR at h
  split at h
  · obtain ⟨x, p, h1, h⟩ := then_inv h
    cases h
    exact pair_eats h1
  · split at h
    · obtain ⟨x, p, h1, h⟩ := then_inv h
      cases h
      exact word_eats h1
    · split at h
      · obtain ⟨x, p, h1, h⟩ := then_inv h
        cases h
        exact num_eats h1
      · cases h
theorem isT_len {s : Tx} {ts : List Tok} (h : isT s ts = true) : ts.tail.length + 1 = ts.length := by
  cases ts with
  | nil => cases h
  | cons t r => simp
theorem cmp_len {ts : List Tok} {k : Nat} (h : cmpOf ts = some k) : ts.tail.length + 1 = ts.length := by
  cases ts with
  | nil => cases h
  | cons t r => simp
theorem list_size {rd : List Tok → Rd F} (hr : ∀ ts q f, rd ts = (some f, q) → f.size + q.length ≤ ts.length) : ∀ k ts q l, listR rd k ts = (some l, q) → (F.cat l).size + q.length ≤ ts.length
  | 0, ts, q, l, h => by cases h
  | k + 1, ts, q, l, h => by
    rw [listR] at h
    obtain ⟨a, p, h1, h⟩ := then_inv h
    have h2 := hr _ _ _ h1
    split at h
    · rename_i hc
      obtain ⟨l2, p2, h3, h⟩ := then_inv h
      have h4 := list_size hr k _ _ _ h3
      have h5 := isT_len hc
      cases h
      rw [F.cat, F.size_app]
      omega
    · cases h
      rw [F.cat, F.cat, F.app_nil]
      exact h2
theorem leaf_size {ts q : List Tok} {f : F} (h : leafR ts = (some f, q)) : f.size + q.length ≤ ts.length := by
  obtain ⟨n, p, h1, h⟩ := then_inv h
  cases h
  have := value_eats h1
  show 0 + 0 + 1 + _ ≤ _
  omega
theorem leaf1 (n : Nd) : (leaf n).size = 1 := rfl
theorem cond_size {ts q : List Tok} {f : F} (h : condR ts = (some f, q)) : f.size + q.length ≤ ts.length := by
  obtain ⟨a, p, h1, h⟩ := then_inv h
  have e1 := value_eats h1
  split at h
  · rename_i k hk
    obtain ⟨b, p2, h2, h⟩ := then_inv h
    cases h
    have e2 := value_eats h2
    have e3 := cmp_len hk
    rw [F.size, F.size_app, leaf1, leaf1, F.size]
    omega
  · split at h
    · rename_i hb
      obtain ⟨b, p2, h2, h⟩ := then_inv h
      obtain ⟨u, p3, h3, h⟩ := then_inv h
      obtain ⟨c, p4, h4, h⟩ := then_inv h
      cases h
      have e2 := value_eats h2
      have e3 := need_eats h3
      have e4 := value_eats h4
      have e5 := isT_len hb
      rw [F.size, F.size_app, F.size_app, leaf1, leaf1, leaf1, F.size]
      omega
    · split at h
      · rename_i hb
        obtain ⟨u, p2, h2, h⟩ := then_inv h
        obtain ⟨l, p3, h3, h⟩ := then_inv h
        obtain ⟨u2, p4, h4, h⟩ := then_inv h
        cases h
        have e2 := need_eats h2
        have e3 := list_size (fun _ _ _ => leaf_size) _ _ _ _ h3
        have e4 := need_eats h4
        have e5 := isT_len hb
        rw [F.size, F.size_app, leaf1, F.size]
        omega
      · cases h
theorem kids_size {rd : List Tok → Rd F} (hr : ∀ ts q f, rd ts = (some f, q) → f.size + q.length ≤ ts.length) {n : Nd} {ts q : List Tok} {f : F} (h : kidsR rd n ts = (some f, q)) : f.size + q.length ≤ ts.length := by
  obtain ⟨u, p2, h2, h⟩ := then_inv h
  obtain ⟨l, p3, h3, h⟩ := then_inv h
  obtain ⟨u2, p4, h4, h⟩ := then_inv h
  cases h
  have e2 := need_eats h2
  have e3 := list_size hr _ _ _ _ h3
  have e4 := need_eats h4
  rw [F.size, F.size]
  omega
theorem expr_size : ∀ k ts q f, exprR k ts = (some f, q) → f.size + q.length ≤ ts.length
  | 0, ts, q, f, h => by cases h
  | k + 1, ts, q, f, h => by
    have ih := expr_size k
    rw [exprR] at h
    split at h
    · rename_i h1; have := kids_size ih h; have := isT_len h1; omega
    · split at h
      · rename_i h1; have := kids_size ih h; have := isT_len h1; omega
      · split at h
        · rename_i h1
          obtain ⟨m, p, h2, h⟩ := then_inv h
          have := kids_size ih h; have := isT_len h1; have := num_eats h2; omega
        · split at h
          · rename_i h1
            obtain ⟨g, p, h2, h⟩ := then_inv h
            have := ih _ _ _ h2
            have := isT_len h1
            cases h
            rw [F.size, F.size]
            omega
          · split at h
            · rename_i h1
              have := isT_len h1
              cases h
              rw [leaf1]
              omega
            · split at h
              · rename_i h1
                have := isT_len h1
                cases h
                rw [leaf1]
                omega
              · split at h
                · rename_i h1
                  obtain ⟨g, p, h2, h⟩ := then_inv h
                  obtain ⟨u, p2, h3, h⟩ := then_inv h
                  have := ih _ _ _ h2
                  have := isT_len h1
                  have := need_eats h3
                  cases h
                  omega
                · exact cond_size h
end Go.Proofs.YtminghdnclpocaaGreatDoor.Pa
