/-
  Laws of the plain lexer: steps of the scan; what may stand behind a token; white space between tokens. No program in sight.
-/
import Derived.Test.YtminghdnclpocaaGreatDoorLex
namespace Go.Proofs.YtminghdnclpocaaGreatDoor.Lx

theorem sg_le (m : List UInt8) : sg m ≤ m.length ∧ sg m ≤ 2 := by
  match m with
  | [] => exact ⟨Nat.le_refl 0, by decide⟩
  | [a] => rw [sg]; split <;> simp
  | a :: b :: r =>
    rw [sg]
    split
    · simp
    · split <;> simp
theorem tkName_len {m : List UInt8} {k n : Nat} (h : tkName m = .inr (k, n)) : n = sp isNm m ∧ n ≤ 32 ∧ k = (if kw (m.take n) then 2 else 0) := by
  unfold tkName at h
  split at h
  · cases h
  · simp only [Sum.inr.injEq, Prod.mk.injEq] at h
    obtain ⟨h1, h2⟩ := h
    exact ⟨h2.symm, by omega, by rw [← h1, ← h2]⟩
theorem tkWord_len {m : List UInt8} {k n : Nat} (h : tkWord m = .inr (k, n)) : k = 0 ∧ n = sp isWd m + 2 ∧ sp isWd m ≤ 32 ∧ sp isWd m ≠ 0 ∧ m[sp isWd m]? = some 39 := by
  unfold tkWord at h
  split at h
  · cases h
  · split at h
    · cases h
    · rename_i h1 h2
      simp only [Sum.inr.injEq, Prod.mk.injEq] at h
      have h3 : ¬ sp isWd m = 0 := fun h4 => h2 (.inl h4)
      have h4 : m[sp isWd m]? = some 39 := Classical.byContradiction fun h4 => h2 (.inr h4)
      exact ⟨h.1.symm, h.2.symm, by omega, h3, h4⟩
theorem tkSign_len {m : List UInt8} {k n : Nat} (h : tkSign m = .inr (k, n)) : k = 2 ∧ n = sg m ∧ n ≠ 0 := by
  unfold tkSign at h
  split at h
  · cases h
  · simp only [Sum.inr.injEq, Prod.mk.injEq] at h
    exact ⟨h.1.symm, h.2.symm, by omega⟩
/-- the ways in which a token can be read -/
inductive Way : List UInt8 → Nat → Nat → Prop
  | name (c : UInt8) (m : List UInt8) (hc : isLet c = true) (h : sp isNm (c :: m) ≤ 32) : Way (c :: m) (if kw ((c :: m).take (sp isNm (c :: m))) then 2 else 0) (sp isNm (c :: m))
  | word (m : List UInt8) (h0 : sp isWd m ≠ 0) (h : sp isWd m ≤ 32) (hq : m[sp isWd m]? = some 39) : Way (39 :: m) 0 (sp isWd m + 2)
  | minus (m : List UInt8) (h0 : sp isDig m ≠ 0) (h : dv (m.take (sp isDig m)) ≤ 2147483648) : Way (45 :: m) 1 (sp isDig m + 1)
  | digits (c : UInt8) (m : List UInt8) (hl : isLet c = false) (h1 : (c == 39) = false) (h2 : (c == 45) = false) (h0 : sp isDig (c :: m) ≠ 0) (h : dv ((c :: m).take (sp isDig (c :: m))) ≤ 2147483647) : Way (c :: m) 1 (sp isDig (c :: m))
  | sign (c : UInt8) (m : List UInt8) (hl : isLet c = false) (h1 : (c == 39) = false) (h2 : (c == 45) = true → sp isDig m = 0) (h3 : (c == 45) = false → sp isDig (c :: m) = 0) (h : sg (c :: m) ≠ 0) : Way (c :: m) 2 (sg (c :: m))
theorem way_of {m : List UInt8} {k n : Nat} (h : tk m = .inr (k, n)) : Way m k n := by
  cases m with
  | nil => cases h
  | cons c m =>
    rw [tk] at h
    by_cases hl : isLet c = true
    · rw [if_pos hl] at h
      obtain ⟨rfl, h2, rfl⟩ := tkName_len h
      exact .name c m hl h2
    · have hl' : isLet c = false := by simpa using hl
      rw [if_neg hl] at h
      by_cases h1 : (c == 39) = true
      · rw [if_pos h1] at h
        have : c = 39 := by simpa using h1
        subst this
        obtain ⟨rfl, rfl, h2, h3, h4⟩ := tkWord_len h
        exact .word m h3 h2 h4
      · have h1' : (c == 39) = false := by simpa using h1
        rw [if_neg h1] at h
        by_cases h2 : (c == 45) = true
        · rw [if_pos h2] at h
          have : c = 45 := by simpa using h2
          subst this
          by_cases h3 : sp isDig m = 0
          · rw [if_pos h3] at h
            obtain ⟨rfl, rfl, h4⟩ := tkSign_len h
            exact .sign 45 m hl' h1' (fun _ => h3) (fun h5 => by cases h5) h4
          · rw [if_neg h3] at h
            by_cases h4 : dv (m.take (sp isDig m)) ≤ 2147483648
            · rw [if_pos h4] at h
              simp only [Sum.inr.injEq, Prod.mk.injEq] at h
              obtain ⟨rfl, rfl⟩ := h
              exact .minus m h3 h4
            · rw [if_neg h4] at h
              cases h
        · have h2' : (c == 45) = false := by simpa using h2
          rw [if_neg h2] at h
          by_cases h3 : sp isDig (c :: m) = 0
          · rw [if_pos h3] at h
            obtain ⟨rfl, rfl, h4⟩ := tkSign_len h
            exact .sign c m hl' h1' (fun h5 => by rw [h2'] at h5; cases h5) (fun _ => h3) h4
          · rw [if_neg h3] at h
            by_cases h4 : dv ((c :: m).take (sp isDig (c :: m))) ≤ 2147483647
            · rw [if_pos h4] at h
              simp only [Sum.inr.injEq, Prod.mk.injEq] at h
              obtain ⟨rfl, rfl⟩ := h
              exact .digits c m hl' h1' h2' h3 h4
            · rw [if_neg h4] at h
              cases h
theorem Way.tk {m : List UInt8} {k n : Nat} (h : Way m k n) : tk m = .inr (k, n) := by
  cases h with
  | name c m hc h => rw [Lx.tk, if_pos hc, tkName, if_neg (by omega)]
  | word m h0 h hq =>
    rw [Lx.tk, if_neg (by decide), if_pos (by decide), tkWord, if_neg (by omega), if_neg (by intro h5; rcases h5 with h5 | h5; exact h0 h5; exact h5 hq)]
  | minus m h0 h => rw [Lx.tk, if_neg (by decide), if_neg (by decide), if_pos (by decide), if_neg h0, if_pos h]
  | digits c m hl h1 h2 h0 h => rw [Lx.tk, if_neg (by simp [hl]), if_neg (by simp [h1]), if_neg (by simp [h2]), if_neg h0, if_pos h]
  | sign c m hl h1 h2 h3 h =>
    rw [Lx.tk, if_neg (by simp [hl]), if_neg (by simp [h1])]
    by_cases h5 : (c == 45) = true
    · rw [if_pos h5, if_pos (h2 h5), tkSign, if_neg h]
    · rw [if_neg h5, if_pos (h3 (by simpa using h5)), tkSign, if_neg h]
theorem tk_len {m : List UInt8} {k n : Nat} (h : tk m = .inr (k, n)) : 0 < n ∧ n ≤ m.length := by
  cases way_of h with
  | name c m hc h =>
    have h1 : isNm c = true := by simp [isNm, hc]
    have h2 := sp_le isNm (c :: m)
    rw [sp_succ h1] at h2 ⊢
    exact ⟨by omega, h2⟩
  | word m h0 h hq =>
    obtain ⟨h1, h2⟩ := List.getElem?_eq_some_iff.1 hq
    simp only [List.length_cons]
    omega
  | minus m h0 h =>
    have := sp_le isDig m
    simp only [List.length_cons]
    omega
  | digits c m hl h1 h2 h0 h =>
    have := sp_le isDig (c :: m)
    omega
  | sign c m hl h1 h2 h3 h =>
    have := (sg_le (c :: m)).1
    omega
theorem tk_kind {m : List UInt8} {k n : Nat} (h : tk m = .inr (k, n)) : k ≤ 2 := by
  cases way_of h with
  | name c m hc h => split <;> omega
  | word m h0 h hq => omega
  | minus m h0 h => omega
  | digits c m hl h1 h2 h0 h => omega
  | sign c m hl h1 h2 h3 h => omega

/-- what the scan still has to do, from an offset on -/
structure SI (l : List UInt8) (a : Nat) (out : List Tok) : Prop where
  le : a ≤ l.length
  ex : ∃ f, l.length - a < f ∧ sc l = (scF f a (l.drop a)).pre out
theorem SI.start (l : List UInt8) : SI l 0 [] := ⟨Nat.zero_le _, l.length + 1, by omega, by rw [Res.pre_nil]; rfl⟩
theorem skip_le (l : List UInt8) {a : Nat} (h : a ≤ l.length) : a + sk false (l.drop a) ≤ l.length := by
  have := sk_le false (l.drop a)
  simp at this
  omega
/-- white space or comments change nothing -/
theorem scF_skip {f a j : Nat} {l : List UInt8} (h : sk false l = j + sk false (l.drop j)) : scF f a l = scF f (a + j) (l.drop j) := by
  cases f with
  | zero => rfl
  | succ f =>
    unfold scF
    rw [List.drop_drop, ← h, Nat.add_assoc, ← h]
theorem SI.skip {l : List UInt8} {a : Nat} {out : List Tok} (h : SI l a out) {j : Nat} (hj : a + j ≤ l.length) (hs : sk false (l.drop a) = j + sk false (l.drop (a + j))) : SI l (a + j) out := by
  obtain ⟨f, h1, h2⟩ := h.ex
  refine ⟨hj, f, by omega, ?_⟩
  rw [h2, scF_skip (j := j) (by rw [List.drop_drop]; exact hs), List.drop_drop]
theorem SI.skipAll {l : List UInt8} {a : Nat} {out : List Tok} (h : SI l a out) : SI l (a + sk false (l.drop a)) out := by
  refine h.skip (skip_le l h.le) ?_
  have : ∀ (b : Bool) (l : List UInt8), sk false (l.drop (sk b l)) = 0 := by
    intro b l
    induction l generalizing b with
    | nil => cases b <;> rfl
    | cons c m ih =>
      cases b with
      | false =>
        by_cases h1 : isSp c = true
        · rw [sk_sp h1, List.drop_succ_cons]; exact ih false
        · by_cases h2 : (c == 35) = true
          · have : c = 35 := by simpa using h2
            subst this
            rw [sk_hash, List.drop_succ_cons]; exact ih true
          · have h1' : isSp c = false := by simpa using h1
            have h2' : (c == 35) = false := by simpa using h2
            rw [sk_stop h1' h2', List.drop_zero, sk_stop h1' h2']
      | true =>
        by_cases h2 : (c == 10) = true
        · have : c = 10 := by simpa using h2
          subst this
          rw [sk_nl, List.drop_succ_cons]; exact ih false
        · have h2' : (c == 10) = false := by simpa using h2
          rw [sk_in h2', List.drop_succ_cons]; exact ih true
  rw [← List.drop_drop, this]; rfl
theorem SI.space {l : List UInt8} {a : Nat} {out : List Tok} (h : SI l a out) (ha : a < l.length) (hs : isSp l[a] = true) : SI l (a + 1) out := by
  refine h.skip (by omega) ?_
  rw [List.drop_eq_getElem_cons ha, sk_sp hs]; omega
theorem SI.comment {l : List UInt8} {a : Nat} {out : List Tok} (h : SI l a out) (ha : a < l.length) (hs : l[a] = 35) : SI l (a + sp (fun c => c != 10) (l.drop a)) out := by
  have e : l.drop a = 35 :: l.drop (a + 1) := by rw [List.drop_eq_getElem_cons ha, hs]
  have h3 := sp_le (fun c => c != 10) (l.drop a)
  simp at h3
  refine h.skip (by omega) ?_
  rw [← List.drop_drop, e, sk_hash, sp_succ (by decide), List.drop_succ_cons, sk_line]; omega
theorem SI.atEnd {l : List UInt8} {a : Nat} {out : List Tok} (h : SI l a out) (ha : a = l.length) : sc l = .ok (out ++ [⟨3, [], a⟩]) := by
  subst ha
  obtain ⟨f, h1, h2⟩ := h.ex
  cases f with
  | zero => omega
  | succ f =>
    rw [h2]
    simp [scF, st, sk, Res.pre]
theorem SI.unfold {l : List UInt8} {a : Nat} {out : List Tok} (h : SI l a out) (_ : a < l.length) (hs : sk false (l.drop a) = 0) : ∃ f, l.length - a < f + 1 ∧ sc l = (st (scF f) a (l.drop a)).pre out := by
  obtain ⟨f, h1, h2⟩ := h.ex
  cases f with
  | zero => omega
  | succ f =>
    refine ⟨f, h1, ?_⟩
    rw [h2]
    unfold scF
    rw [hs]
    rfl
theorem SI.error {l : List UInt8} {a : Nat} {out : List Tok} (h : SI l a out) (ha : a < l.length) (hs : sk false (l.drop a) = 0) {e : Nat} (ht : tk (l.drop a) = .inl e) : sc l = .err a e := by
  obtain ⟨f, h1, h2⟩ := h.unfold ha hs
  rw [h2]
  have e1 : l.drop a = l[a] :: l.drop (a + 1) := List.drop_eq_getElem_cons ha
  unfold st
  rw [ht]
  rw [e1]
  rfl
theorem SI.glued {l : List UInt8} {a : Nat} {out : List Tok} (h : SI l a out) (ha : a < l.length) (hs : sk false (l.drop a) = 0) {n : Nat} (ht : tk (l.drop a) = .inr (1, n)) (hl : luAt (l.drop (a + n)) = true) : sc l = .err (a + n) 4 := by
  obtain ⟨f, h1, h2⟩ := h.unfold ha hs
  rw [h2]
  have e1 : l.drop a = l[a] :: l.drop (a + 1) := List.drop_eq_getElem_cons ha
  unfold st
  rw [ht]
  rw [e1]
  simp only []
  rw [← e1, List.drop_drop, if_pos ⟨trivial, hl⟩]
  rfl
theorem SI.token {l : List UInt8} {a : Nat} {out : List Tok} (h : SI l a out) (ha : a < l.length) (hs : sk false (l.drop a) = 0) {k n : Nat} (ht : tk (l.drop a) = .inr (k, n)) (hl : ¬ (k = 1 ∧ luAt (l.drop (a + n)) = true)) : SI l (a + n) (out ++ [⟨k, (l.drop a).take n, a⟩]) := by
  obtain ⟨f, h1, h2⟩ := h.unfold ha hs
  have h3 := tk_len ht
  simp at h3
  refine ⟨by omega, f, by omega, ?_⟩
  rw [h2]
  have e1 : l.drop a = l[a] :: l.drop (a + 1) := List.drop_eq_getElem_cons ha
  unfold st
  rw [ht]
  rw [e1]
  simp only []
  rw [← e1, List.drop_drop, if_neg hl, Res.pre_pre]
end Go.Proofs.YtminghdnclpocaaGreatDoor.Lx
