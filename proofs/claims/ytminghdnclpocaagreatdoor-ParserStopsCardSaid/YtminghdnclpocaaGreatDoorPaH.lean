/-
  What is read depends on the tokens that are read, and on the next one. No program in sight.
-/
import Derived.Test.YtminghdnclpocaaGreatDoorPaE
namespace Go.Proofs.YtminghdnclpocaaGreatDoor.Pa
open Lx (Tok)
set_option linter.unusedVariables false

/-- a reading that stops at or ahead of t is the same whatever stands behind t -/
def Lc (t : Tok) (r r' : List Tok) {α : Type} (x x' : Rd α) : Prop := ∀ o vs, x = (o, vs ++ t :: r) → x' = (o, vs ++ t :: r')
section
variable {t : Tok} {r r' : List Tok} {α β : Type}
theorem isT_hd (s : Tx) (us : List Tok) (t : Tok) (r : List Tok) : isT s (us ++ t :: r) = isT s (us ++ [t]) := by cases us <;> rfl
theorem isW_hd (us : List Tok) (t : Tok) (r : List Tok) : isW (us ++ t :: r) = isW (us ++ [t]) := by cases us <;> rfl
theorem isN_hd (us : List Tok) (t : Tok) (r : List Tok) : isN (us ++ t :: r) = isN (us ++ [t]) := by cases us <;> rfl
theorem isM_hd (us : List Tok) (t : Tok) (r : List Tok) : isM (us ++ t :: r) = isM (us ++ [t]) := by cases us <;> rfl
theorem isE_hd (us : List Tok) (t : Tok) (r : List Tok) : isE (us ++ t :: r) = isE (us ++ [t]) := by cases us <;> rfl
theorem cmpOf_hd (us : List Tok) (t : Tok) (r : List Tok) : cmpOf (us ++ t :: r) = cmpOf (us ++ [t]) := by cases us <;> rfl
theorem headX_hd (us : List Tok) (t : Tok) (r : List Tok) : headX (us ++ t :: r) = headX (us ++ [t]) := by cases us <;> rfl
theorem atT_hd (us : List Tok) (t : Tok) (r : List Tok) : atT (us ++ t :: r) = atT (us ++ [t]) := by cases us <;> rfl
theorem lc_here (o : Option α) (us : List Tok) : Lc t r r' (o, us ++ t :: r) (o, us ++ t :: r') := by
  intro o2 vs h
  simp only [Prod.mk.injEq] at h
  obtain ⟨rfl, h2⟩ := h
  rw [List.append_cancel_right h2]
theorem Lc.then {x x' : Rd α} {f f' : α → List Tok → Rd β} (h : Lc t r r' x x') (hg : Good x.2) (hf : ∀ a q, Good q → (f a q).2 <:+ q) (h2 : ∀ a w, x = (some a, w ++ t :: r) → Good (w ++ t :: r) → Lc t r r' (f a (w ++ t :: r)) (f' a (w ++ t :: r'))) : Lc t r r' (x.then f) (x'.then f') := by
  intro o vs hx
  obtain ⟨o1, q1⟩ := x
  cases o1 with
  | none =>
    rw [then_none] at hx
    simp only [Prod.mk.injEq] at hx
    obtain ⟨rfl, rfl⟩ := hx
    rw [h none vs rfl, then_none]
  | some a =>
    rw [then_some] at hx
    have h3 := hf a q1 hg
    rw [hx] at h3
    obtain ⟨w, hw⟩ := h3
    have hw : q1 = (w ++ vs) ++ t :: r := by rw [← hw, List.append_assoc]
    subst hw
    rw [h (some a) (w ++ vs) rfl, then_some]
    exact h2 a (w ++ vs) rfl hg o vs hx
theorem lc_eat (c : Bool) (v : α) (us : List Tok) : Lc t r r' (if c then (some v, (us ++ t :: r).tail) else (none, us ++ t :: r)) (if c then (some v, (us ++ t :: r').tail) else (none, us ++ t :: r')) := by
  cases c with
  | false => exact lc_here none us
  | true =>
    cases us with
    | nil =>
      intro o vs h
      simp only [if_true, Prod.mk.injEq] at h
      have := congrArg List.length h.2
      simp at this
      omega
    | cons u us => exact lc_here (some v) us
theorem Lc.tail {rd rd' : List Tok → Rd α} (us : List Tok) (hk : Keeps rd) (hg : Good (us ++ t :: r).tail) (h : ∀ u w, us = u :: w → Lc t r r' (rd (w ++ t :: r)) (rd' (w ++ t :: r'))) : Lc t r r' (rd (us ++ t :: r).tail) (rd' (us ++ t :: r').tail) := by
  cases us with
  | nil =>
    intro o vs h1
    have h2 := (hk _ hg).1
    rw [h1] at h2
    have := h2.length_le
    simp at this
    omega
  | cons u us => exact h u us rfl
theorem name_lc (us : List Tok) : Lc t r r' (nameR (us ++ t :: r)) (nameR (us ++ t :: r')) := by
  unfold nameR
  rw [isN_hd us t r, isN_hd us t r', headX_hd us t r, headX_hd us t r']
  exact lc_eat _ _ us
theorem word_lc (us : List Tok) : Lc t r r' (wordR (us ++ t :: r)) (wordR (us ++ t :: r')) := by
  unfold wordR
  rw [isW_hd us t r, isW_hd us t r', headX_hd us t r, headX_hd us t r']
  exact lc_eat _ _ us
theorem num_lc (us : List Tok) : Lc t r r' (numR (us ++ t :: r)) (numR (us ++ t :: r')) := by
  unfold numR
  rw [isM_hd us t r, isM_hd us t r', headX_hd us t r, headX_hd us t r']
  exact lc_eat _ _ us
theorem need_lc (s : Tx) (us : List Tok) : Lc t r r' (needR s (us ++ t :: r)) (needR s (us ++ t :: r')) := by
  unfold needR
  rw [isT_hd s us t r, isT_hd s us t r']
  exact lc_eat _ _ us
theorem kp {rd : List Tok → Rd α} (h : Keeps rd) {q : List Tok} (hg : Good q) : (rd q).2 <:+ q := (h q hg).1
theorem pair_lc (s : Tx) (us : List Tok) (hg : Good (us ++ t :: r)) : Lc t r r' (pairR s (us ++ t :: r)) (pairR s (us ++ t :: r')) :=
  (name_lc us).then (name_keeps _ hg).2 (fun a q hq => (then_at (need_keeps s q hq) fun _ q hq => then_at (name_keeps q hq) fun b q hq => ⟨List.suffix_refl _, hq⟩).1) fun a w _ hw =>
    (need_lc s w).then (need_keeps _ _ hw).2 (fun _ q hq => (then_at (name_keeps q hq) fun b q hq => ⟨List.suffix_refl _, hq⟩).1) fun _ w _ hw =>
      (name_lc w).then (name_keeps _ hw).2 (fun b q hq => List.suffix_refl _) fun b w _ hw => lc_here _ w
theorem lenr {us w : List Tok} {u : Tok} (h : us = u :: w) (r : List Tok) : (w ++ t :: r).length + 1 = (us ++ t :: r).length := by subst h; simp
theorem list_lc {rd rd' : List Tok → Rd α} {n n' : Nat} (hk : Keeps rd) (h : ∀ us, Good (us ++ t :: r) → (us ++ t :: r).length ≤ n → (us ++ t :: r').length ≤ n' → Lc t r r' (rd (us ++ t :: r)) (rd' (us ++ t :: r'))) :
    ∀ k k' us, Good (us ++ t :: r) → (us ++ t :: r).length ≤ k → (us ++ t :: r').length ≤ k' → (us ++ t :: r).length ≤ n → (us ++ t :: r').length ≤ n' → Lc t r r' (listR rd k (us ++ t :: r)) (listR rd' k' (us ++ t :: r'))
  | 0, k', us, hg, h1, h2, h3, h4 => by simp at h1
  | k + 1, 0, us, hg, h1, h2, h3, h4 => by simp at h2
  | k + 1, k' + 1, us, hg, h1, h2, h3, h4 => by
    rw [listR, listR]
    refine (h us hg h3 h4).then (hk _ hg).2 (fun a q hq => ?_) fun a w hx hw => ?_
    · split
      · rename_i hc
        exact (then_at (list_keeps hk k q.tail (hq.isT hc)) fun l q hq => ⟨List.suffix_refl _, hq⟩).1.trans (List.tail_suffix _)
      · exact List.suffix_refl _
    · have hl := (hk _ hg).1.length_le
      rw [hx] at hl
      simp only [List.length_append, List.length_cons] at hl h1 h2 h3 h4
      rw [isT_hd sComma w t r, isT_hd sComma w t r']
      cases hc : isT sComma (w ++ [t]) with
      | false =>
        exact lc_here _ w
      | true =>
        simp only [if_true]
        have hct : isT sComma (w ++ t :: r) = true := by rw [isT_hd]; exact hc
        refine Lc.tail (rd := fun q => (listR rd k q).then fun l q => (some (a :: l), q)) (rd' := fun q => (listR rd' k' q).then fun l q => (some (a :: l), q)) w (fun q hq => then_at (list_keeps hk k q hq) fun l q hq => ⟨List.suffix_refl _, hq⟩) (hw.isT hct) fun u w2 e => ?_
        have hl2 := lenr (t := t) e r
        have hl3 := lenr (t := t) e r'
        simp only [List.length_append, List.length_cons] at hl2 hl3
        have hg2 : Good (w2 ++ t :: r) := by have := hw.isT hct; rw [e] at this; exact this
        refine (list_lc hk h k k' w2 hg2 ?_ ?_ ?_ ?_).then (list_keeps hk k _ hg2).2 (fun l q hq => List.suffix_refl _) fun l w _ _ => lc_here _ w
        all_goals (simp only [List.length_append, List.length_cons]; omega)
theorem value_lc (us : List Tok) (hg : Good (us ++ t :: r)) : Lc t r r' (valueR (us ++ t :: r)) (valueR (us ++ t :: r')) := by
  unfold valueR
  rw [isN_hd us t r, isN_hd us t r', isW_hd us t r, isW_hd us t r', isM_hd us t r, isM_hd us t r', atT_hd us t r, atT_hd us t r']
  split
  · exact (pair_lc _ us hg).then (pair_keeps _ _ hg).2 (fun a q hq => List.suffix_refl _) fun a w _ _ => lc_here _ w
  · split
    · exact (word_lc us).then (word_keeps _ hg).2 (fun a q hq => List.suffix_refl _) fun a w _ _ => lc_here _ w
    · split
      · exact (num_lc us).then (num_keeps _ hg).2 (fun a q hq => List.suffix_refl _) fun a w _ _ => lc_here _ w
      · exact lc_here _ us
theorem leaf_lc (us : List Tok) (hg : Good (us ++ t :: r)) : Lc t r r' (leafR (us ++ t :: r)) (leafR (us ++ t :: r')) :=
  (value_lc us hg).then (value_keeps _ hg).2 (fun a q hq => List.suffix_refl _) fun a w _ _ => lc_here _ w
theorem good_tl {w w2 : List Tok} {u : Tok} (e : w = u :: w2) (h : Good (w ++ t :: r).tail) : Good (w2 ++ t :: r) := by subst e; exact h
theorem cond_lc (us : List Tok) (hg : Good (us ++ t :: r)) : Lc t r r' (condR (us ++ t :: r)) (condR (us ++ t :: r')) := by
  unfold condR
  rw [atT_hd us t r, atT_hd us t r']
  refine (value_lc us hg).then (value_keeps _ hg).2 (fun a q hq => ?_) fun a w _ hw => ?_
  · split
    · rename_i k hk
      exact (then_at (value_keeps q.tail (hq.cmp hk)) fun b q hq => ⟨List.suffix_refl _, hq⟩).1.trans (List.tail_suffix _)
    · split
      · rename_i hk
        exact (then_at (value_keeps q.tail (hq.isT hk)) fun b q hq => then_at (need_keeps _ q hq) fun _ q hq => then_at (value_keeps q hq) fun c q hq => ⟨List.suffix_refl _, hq⟩).1.trans (List.tail_suffix _)
      · split
        · rename_i hk
          exact (then_at (need_keeps sBra q.tail (hq.isT hk)) fun _ q hq => then_at (list_keeps leaf_keeps _ q hq) fun l q hq => then_at (need_keeps _ q hq) fun _ q hq => ⟨List.suffix_refl _, hq⟩).1.trans (List.tail_suffix _)
        · exact List.suffix_refl _
  · rw [cmpOf_hd w t r', ← cmpOf_hd w t r]
    split
    · rename_i k hk
      have hg1 := hw.cmp hk
      refine Lc.tail (rd := fun q => (valueR q).then _) (rd' := fun q => (valueR q).then _) w (fun q hq => then_at (value_keeps q hq) fun b q hq => ⟨List.suffix_refl _, hq⟩) hg1 fun u w2 e => ?_
      have hg2 := good_tl e hg1
      exact (value_lc w2 hg2).then (value_keeps _ hg2).2 (fun a q hq => List.suffix_refl _) fun a w _ _ => lc_here _ w
    · rw [isT_hd kBetween w t r', ← isT_hd kBetween w t r]
      split
      · rename_i hk
        have hg1 := hw.isT hk
        refine Lc.tail (rd := fun q => (valueR q).then _) (rd' := fun q => (valueR q).then _) w (fun q hq => then_at (value_keeps q hq) fun b q hq => then_at (need_keeps _ q hq) fun _ q hq => then_at (value_keeps q hq) fun c q hq => ⟨List.suffix_refl _, hq⟩) hg1 fun u w2 e => ?_
        have hg2 := good_tl e hg1
        refine (value_lc w2 hg2).then (value_keeps _ hg2).2 (fun b q hq => (then_at (need_keeps _ q hq) fun _ q hq => then_at (value_keeps q hq) fun c q hq => ⟨List.suffix_refl _, hq⟩).1) fun b w _ hw => ?_
        refine (need_lc _ w).then (need_keeps _ _ hw).2 (fun b q hq => (then_at (value_keeps q hq) fun c q hq => ⟨List.suffix_refl _, hq⟩).1) fun _ w _ hw => ?_
        exact (value_lc w hw).then (value_keeps _ hw).2 (fun a q hq => List.suffix_refl _) fun a w _ _ => lc_here _ w
      · rw [isT_hd kIn w t r', ← isT_hd kIn w t r]
        split
        · rename_i hk
          have hg1 := hw.isT hk
          refine Lc.tail (rd := fun q => (needR sBra q).then _) (rd' := fun q => (needR sBra q).then _) w (fun q hq => then_at (need_keeps _ q hq) fun _ q hq => then_at (list_keeps leaf_keeps _ q hq) fun l q hq => then_at (need_keeps _ q hq) fun _ q hq => ⟨List.suffix_refl _, hq⟩) hg1 fun u w2 e => ?_
          have hg2 := good_tl e hg1
          refine (need_lc _ w2).then (need_keeps _ _ hg2).2 (fun b q hq => (then_at (list_keeps leaf_keeps _ q hq) fun l q hq => then_at (need_keeps _ q hq) fun _ q hq => ⟨List.suffix_refl _, hq⟩).1) fun _ w _ hw => ?_
          refine (list_lc (n := (w ++ t :: r).length) (n' := (w ++ t :: r').length) leaf_keeps (fun us hg _ _ => leaf_lc us hg) _ _ w hw (Nat.le_refl _) (Nat.le_refl _) (Nat.le_refl _) (Nat.le_refl _)).then (list_keeps leaf_keeps _ _ hw).2 (fun b q hq => (then_at (need_keeps _ q hq) fun _ q hq => ⟨List.suffix_refl _, hq⟩).1) fun l w _ hw => ?_
          exact (need_lc _ w).then (need_keeps _ _ hw).2 (fun b q hq => List.suffix_refl _) fun _ w _ _ => lc_here _ w
        · exact lc_here _ w
theorem kids_lc {rd rd' : List Tok → Rd F} {n n' : Nat} (hk : Keeps rd) (h : ∀ us, Good (us ++ t :: r) → (us ++ t :: r).length ≤ n → (us ++ t :: r').length ≤ n' → Lc t r r' (rd (us ++ t :: r)) (rd' (us ++ t :: r'))) (m : Nd) (us : List Tok) (hg : Good (us ++ t :: r)) (h3 : (us ++ t :: r).length ≤ n) (h4 : (us ++ t :: r').length ≤ n') :
    Lc t r r' (kidsR rd m (us ++ t :: r)) (kidsR rd' m (us ++ t :: r')) := by
  unfold kidsR
  refine (need_lc _ us).then (need_keeps _ _ hg).2 (fun b q hq => (then_at (list_keeps hk _ q hq) fun l q hq => then_at (need_keeps _ q hq) fun _ q hq => ⟨List.suffix_refl _, hq⟩).1) fun _ w hx hw => ?_
  have hl := (need_keeps sOpen _ hg).1.length_le
  rw [hx] at hl
  simp only [List.length_append, List.length_cons] at hl h3 h4
  refine (list_lc hk h _ _ w hw (Nat.le_refl _) (Nat.le_refl _) ?_ ?_).then (list_keeps hk _ _ hw).2 (fun b q hq => (then_at (need_keeps _ q hq) fun _ q hq => ⟨List.suffix_refl _, hq⟩).1) fun l w _ hw => ?_
  · simp only [List.length_append, List.length_cons]; omega
  · simp only [List.length_append, List.length_cons]; omega
  · exact (need_lc _ w).then (need_keeps _ _ hw).2 (fun b q hq => List.suffix_refl _) fun _ w _ _ => lc_here _ w
theorem expr_lc : ∀ k k' us, Good (us ++ t :: r) → (us ++ t :: r).length ≤ k → (us ++ t :: r').length ≤ k' → Lc t r r' (exprR k (us ++ t :: r)) (exprR k' (us ++ t :: r'))
  | 0, k', us, hg, h1, h2 => by simp at h1
  | k + 1, 0, us, hg, h1, h2 => by simp at h2
  | k + 1, k' + 1, us, hg, h1, h2 => by
    have ih : ∀ us, Good (us ++ t :: r) → (us ++ t :: r).length ≤ k → (us ++ t :: r').length ≤ k' → Lc t r r' (exprR k (us ++ t :: r)) (exprR k' (us ++ t :: r')) := fun us => expr_lc k k' us
    have hle : ∀ {u w}, us = u :: w → (w ++ t :: r).length ≤ k ∧ (w ++ t :: r').length ≤ k' := fun {u w} e => by
      have := lenr (t := t) e r
      have := lenr (t := t) e r'
      omega
    rw [exprR, exprR]
    rw [atT_hd us t r, atT_hd us t r', isT_hd kAll us t r', ← isT_hd kAll us t r, isT_hd kAny us t r', ← isT_hd kAny us t r, isT_hd kAtleast us t r', ← isT_hd kAtleast us t r, isT_hd kNot us t r', ← isT_hd kNot us t r, isT_hd kTrue us t r', ← isT_hd kTrue us t r, isT_hd kFalse us t r', ← isT_hd kFalse us t r, isT_hd sOpen us t r', ← isT_hd sOpen us t r]
    split
    · rename_i hc
      exact Lc.tail us (kids_keeps (expr_keeps k) _) (hg.isT hc) fun u w e => kids_lc (expr_keeps k) ih _ w (good_tl e (hg.isT hc)) (hle e).1 (hle e).2
    · split
      · rename_i hc
        exact Lc.tail us (kids_keeps (expr_keeps k) _) (hg.isT hc) fun u w e => kids_lc (expr_keeps k) ih _ w (good_tl e (hg.isT hc)) (hle e).1 (hle e).2
      · split
        · rename_i hc
          refine Lc.tail (rd := fun q => (numR q).then _) (rd' := fun q => (numR q).then _) us (fun q hq => then_at (num_keeps q hq) fun m q hq => kids_keeps (expr_keeps k) _ q hq) (hg.isT hc) fun u w e => ?_
          have hg2 := good_tl e (hg.isT hc)
          refine (num_lc w).then (num_keeps _ hg2).2 (fun m q hq => (kids_keeps (expr_keeps k) _ q hq).1) fun m w2 hx hw => ?_
          have hl := (num_keeps _ hg2).1.length_le
          rw [hx] at hl
          have hl2 := hle e
          simp only [List.length_append, List.length_cons] at hl hl2
          refine kids_lc (expr_keeps k) ih _ w2 hw ?_ ?_
          all_goals (simp only [List.length_append, List.length_cons]; omega)
        · split
          · rename_i hc
            refine Lc.tail (rd := fun q => (exprR k q).then _) (rd' := fun q => (exprR k' q).then _) us (fun q hq => then_at (expr_keeps k q hq) fun m q hq => ⟨List.suffix_refl _, hq⟩) (hg.isT hc) fun u w e => ?_
            have hg2 := good_tl e (hg.isT hc)
            exact (ih w hg2 (hle e).1 (hle e).2).then (expr_keeps k _ hg2).2 (fun m q hq => List.suffix_refl _) fun m w _ _ => lc_here _ w
          · split
            · rename_i hc
              exact Lc.tail (rd := fun q => (some (leaf _), q)) (rd' := fun q => (some (leaf _), q)) us (fun q hq => ⟨List.suffix_refl _, hq⟩) (hg.isT hc) fun u w e => lc_here _ w
            · split
              · rename_i hc
                exact Lc.tail (rd := fun q => (some (leaf _), q)) (rd' := fun q => (some (leaf _), q)) us (fun q hq => ⟨List.suffix_refl _, hq⟩) (hg.isT hc) fun u w e => lc_here _ w
              · split
                · rename_i hc
                  refine Lc.tail (rd := fun q => (exprR k q).then _) (rd' := fun q => (exprR k' q).then _) us (fun q hq => then_at (expr_keeps k q hq) fun m q hq => then_at (need_keeps _ q hq) fun _ q hq => ⟨List.suffix_refl _, hq⟩) (hg.isT hc) fun u w e => ?_
                  have hg2 := good_tl e (hg.isT hc)
                  refine (ih w hg2 (hle e).1 (hle e).2).then (expr_keeps k _ hg2).2 (fun m q hq => (then_at (need_keeps _ q hq) fun _ q hq => ⟨List.suffix_refl _, hq⟩).1) fun m w _ hw => ?_
                  exact (need_lc _ w).then (need_keeps _ _ hw).2 (fun b q hq => List.suffix_refl _) fun _ w _ _ => lc_here _ w
                · exact cond_lc us hg
theorem reveal_lc (us : List Tok) (hg : Good (us ++ t :: r)) : Lc t r r' (revealR (us ++ t :: r)) (revealR (us ++ t :: r')) := by
  unfold revealR
  rw [isT_hd kReveal us t r', ← isT_hd kReveal us t r]
  split
  · rename_i hc
    refine Lc.tail (rd := listR refR _) (rd' := listR refR _) us (list_keeps (pair_keeps sDot) _) (hg.isT hc) fun u w e => ?_
    have hl1 := lenr (t := t) e r
    have hl2 := lenr (t := t) e r'
    exact list_lc (n := (w ++ t :: r).length) (n' := (w ++ t :: r').length) (pair_keeps sDot) (fun us hg _ _ => pair_lc _ us hg) _ _ w (good_tl e (hg.isT hc)) (by omega) (by omega) (Nat.le_refl _) (Nat.le_refl _)
  · exact lc_here _ us
theorem prove_lc (us : List Tok) (hg : Good (us ++ t :: r)) : Lc t r r' (proveR (us ++ t :: r)) (proveR (us ++ t :: r')) := by
  unfold proveR
  rw [isT_hd kProve us t r', ← isT_hd kProve us t r, atT_hd us t r, atT_hd us t r']
  split
  · rename_i hc
    refine Lc.tail (rd := exprR _) (rd' := exprR _) us (expr_keeps _) (hg.isT hc) fun u w e => ?_
    have hl1 := lenr (t := t) e r
    have hl2 := lenr (t := t) e r'
    exact expr_lc _ _ w (good_tl e (hg.isT hc)) (by omega) (by omega)
  · exact lc_here _ us
theorem prove_keeps : Keeps proveR := by
  intro ts h
  unfold proveR
  split
  · rename_i h1; exact lift (expr_keeps _ ts.tail (h.isT h1))
  · exact ⟨List.suffix_refl _, h⟩
theorem scope_keeps : Keeps scopeR := by
  intro ts h
  unfold scopeR
  split
  · rename_i h1
    refine lift (then_at (word_keeps ts.tail (h.isT h1)) fun s q hq => ?_)
    split
    · rename_i h2
      have h3 := then_at (num_keeps q.tail (hq.isT h2)) (f := fun n q => (some (s, n), q)) fun n q hq => ⟨List.suffix_refl _, hq⟩
      exact ⟨h3.1.trans (List.tail_suffix _), h3.2⟩
    · exact ⟨List.suffix_refl _, hq⟩
  · exact ⟨List.suffix_refl _, h⟩
theorem escrow_keeps : Keeps escrowR := by
  intro ts h
  unfold escrowR
  split
  · rename_i h1; exact lift (name_keeps ts.tail (h.isT h1))
  · exact ⟨List.suffix_refl _, h⟩
theorem scope_lc (us : List Tok) (hg : Good (us ++ t :: r)) : Lc t r r' (scopeR (us ++ t :: r)) (scopeR (us ++ t :: r')) := by
  unfold scopeR
  rw [isT_hd kScope us t r', ← isT_hd kScope us t r]
  split
  · rename_i hc
    have hkf : ∀ (s : Tx) q, Good q → (if isT kLimit q then (numR q.tail).then fun n q => (some (s, n), q) else (some (s, 0), q) : Rd (Tx × Int)).2 <:+ q ∧ Good (if isT kLimit q then (numR q.tail).then fun n q => (some (s, n), q) else (some (s, 0), q) : Rd (Tx × Int)).2 := by
      intro s q hq
      split
      · rename_i h2
        have h3 := then_at (num_keeps q.tail (hq.isT h2)) (f := fun n q => (some (s, n), q)) fun n q hq => ⟨List.suffix_refl _, hq⟩
        exact ⟨h3.1.trans (List.tail_suffix _), h3.2⟩
      · exact ⟨List.suffix_refl _, hq⟩
    refine Lc.tail (rd := fun q => (wordR q).then _) (rd' := fun q => (wordR q).then _) us (fun q hq => then_at (word_keeps q hq) fun s q hq => hkf s q hq) (hg.isT hc) fun u w e => ?_
    have hg2 := good_tl e (hg.isT hc)
    refine (word_lc w).then (word_keeps _ hg2).2 (fun s q hq => (hkf s q hq).1) fun s w _ hw => ?_
    rw [isT_hd kLimit w t r', ← isT_hd kLimit w t r]
    split
    · rename_i h2
      refine Lc.tail (rd := fun q => (numR q).then _) (rd' := fun q => (numR q).then _) w (fun q hq => then_at (num_keeps q hq) fun m q hq => ⟨List.suffix_refl _, hq⟩) (hw.isT h2) fun u w2 e => ?_
      have hg3 := good_tl e (hw.isT h2)
      exact (num_lc w2).then (num_keeps _ hg3).2 (fun b q hq => List.suffix_refl _) fun _ w _ _ => lc_here _ w
    · exact lc_here _ w
  · exact lc_here _ us
theorem escrow_lc (us : List Tok) (hg : Good (us ++ t :: r)) : Lc t r r' (escrowR (us ++ t :: r)) (escrowR (us ++ t :: r')) := by
  unfold escrowR
  rw [isT_hd kEscrow us t r', ← isT_hd kEscrow us t r]
  split
  · rename_i hc
    exact Lc.tail (rd := nameR) (rd' := nameR) us name_keeps (hg.isT hc) fun u w e => name_lc w
  · exact lc_here _ us
/-- the last part of a policy's reading keeps -/
def endR (p : Pl) (q : List Tok) : Rd Pl := if isE q then (some p, q) else (none, q)
theorem end_keeps (p : Pl) : Keeps (endR p) := by
  intro q hq
  unfold endR
  split <;> exact ⟨List.suffix_refl _, hq⟩
theorem end_lc (p : Pl) (us : List Tok) : Lc t r r' (endR p (us ++ t :: r)) (endR p (us ++ t :: r')) := by
  unfold endR
  rw [isE_hd us t r', ← isE_hd us t r]
  split <;> exact lc_here _ us
def p6 (nm : Tx) (us : List (Tx × Tx)) (rv : List (Tx × Tx)) (f : F) (s : Tx × Int) (x : Tx) (q : List Tok) : Rd Pl := (needR kEnd q).then fun _ q => endR ⟨nm, us, rv, s.1, s.2, x, f⟩ q
def p5 (nm : Tx) (us : List (Tx × Tx)) (rv : List (Tx × Tx)) (f : F) (s : Tx × Int) (q : List Tok) : Rd Pl := (escrowR q).then fun x q => p6 nm us rv f s x q
def p4 (nm : Tx) (us : List (Tx × Tx)) (rv : List (Tx × Tx)) (f : F) (q : List Tok) : Rd Pl := (scopeR q).then fun s q => p5 nm us rv f s q
def p3 (nm : Tx) (us : List (Tx × Tx)) (rv : List (Tx × Tx)) (q : List Tok) : Rd Pl := (proveR q).then fun f q => p4 nm us rv f q
def p2 (nm : Tx) (us : List (Tx × Tx)) (q : List Tok) : Rd Pl := (revealR q).then fun rv q => p3 nm us rv q
def p1 (nm : Tx) (q : List Tok) : Rd Pl := (listR (pairR sColon) q.length q).then fun us q => p2 nm us q
def p0 (nm : Tx) (q : List Tok) : Rd Pl := (needR kUses q).then fun _ q => p1 nm q
theorem policy_p (ts : List Tok) : policyR ts = (needR kPolicy ts).then fun _ q => (nameR q).then fun nm q => p0 nm q := rfl
theorem p6_keeps (nm us rv f s x) : Keeps (p6 nm us rv f s x) := fun q hq => then_at (need_keeps _ q hq) fun _ q hq => end_keeps _ q hq
theorem p5_keeps (nm us rv f s) : Keeps (p5 nm us rv f s) := fun q hq => then_at (escrow_keeps q hq) fun x q hq => p6_keeps _ _ _ _ _ _ q hq
theorem p4_keeps (nm us rv f) : Keeps (p4 nm us rv f) := fun q hq => then_at (scope_keeps q hq) fun x q hq => p5_keeps _ _ _ _ _ q hq
theorem p3_keeps (nm us rv) : Keeps (p3 nm us rv) := fun q hq => then_at (prove_keeps q hq) fun x q hq => p4_keeps _ _ _ _ q hq
theorem p2_keeps (nm us) : Keeps (p2 nm us) := fun q hq => then_at (reveal_keeps q hq) fun x q hq => p3_keeps _ _ _ q hq
theorem p1_keeps (nm) : Keeps (p1 nm) := fun q hq => then_at (list_keeps (pair_keeps sColon) _ q hq) fun x q hq => p2_keeps _ _ q hq
theorem p0_keeps (nm) : Keeps (p0 nm) := fun q hq => then_at (need_keeps _ q hq) fun x q hq => p1_keeps _ q hq
theorem policy_keeps : Keeps policyR := fun q hq => then_at (need_keeps _ q hq) fun _ q hq => then_at (name_keeps q hq) fun nm q hq => p0_keeps _ q hq
/-- what a policy's reading does at a token that is not allowed does not depend on what follows -/
theorem policy_lc (us : List Tok) (hg : Good (us ++ t :: r)) : Lc t r r' (policyR (us ++ t :: r)) (policyR (us ++ t :: r')) := by
  rw [policy_p, policy_p]
  refine (need_lc _ us).then (need_keeps _ _ hg).2 (fun _ q hq => (then_at (name_keeps q hq) fun nm q hq => p0_keeps _ q hq).1) fun _ w _ hg => ?_
  refine (name_lc w).then (name_keeps _ hg).2 (fun _ q hq => (p0_keeps _ q hq).1) fun nm w _ hg => ?_
  refine (need_lc _ w).then (need_keeps _ _ hg).2 (fun _ q hq => (p1_keeps _ q hq).1) fun _ w _ hg => ?_
  refine (list_lc (n := (w ++ t :: r).length) (n' := (w ++ t :: r').length) (pair_keeps sColon) (fun us hg _ _ => pair_lc _ us hg) _ _ w hg (Nat.le_refl _) (Nat.le_refl _) (Nat.le_refl _) (Nat.le_refl _)).then (list_keeps (pair_keeps sColon) _ _ hg).2 (fun _ q hq => (p2_keeps _ _ q hq).1) fun us w _ hg => ?_
  refine (reveal_lc w hg).then (reveal_keeps _ hg).2 (fun _ q hq => (p3_keeps _ _ _ q hq).1) fun rv w _ hg => ?_
  refine (prove_lc w hg).then (prove_keeps _ hg).2 (fun _ q hq => (p4_keeps _ _ _ _ q hq).1) fun f w _ hg => ?_
  refine (scope_lc w hg).then (scope_keeps _ hg).2 (fun _ q hq => (p5_keeps _ _ _ _ _ q hq).1) fun s w _ hg => ?_
  refine (escrow_lc w hg).then (escrow_keeps _ hg).2 (fun _ q hq => (p6_keeps _ _ _ _ _ _ q hq).1) fun x w _ hg => ?_
  refine (need_lc _ w).then (need_keeps _ _ hg).2 (fun _ q hq => (end_keeps _ q hq).1) fun _ w _ hg => ?_
  exact end_lc _ w
end
end Go.Proofs.YtminghdnclpocaaGreatDoor.Pa
