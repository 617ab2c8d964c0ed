/-
  The grammar of the policy language: which tokens make which tree. What is read is derived, and what is derived is read. No program in sight.
-/
import Derived.Test.YtminghdnclpocaaGreatDoorPaV
namespace Go.Proofs.YtminghdnclpocaaGreatDoor.Pa
open Lx (Tok)
set_option linter.unusedVariables false

/-- a value -/
inductive Vl : List Tok → Nd → Prop
  | ref (a d b : Tok) : isN [a] = true → isT sDot [d] = true → isN [b] = true → Vl [a, d, b] ⟨9, 0, a.text, b.text, a.at_⟩
  | word (a : Tok) : isW [a] = true → Vl [a] ⟨11, 0, a.text.tail.dropLast, [], a.at_⟩
  | num (a : Tok) : isM [a] = true → Vl [a] ⟨10, numV a.text, [], [], a.at_⟩
/-- values, separated by commas -/
inductive Vs : List Tok → F → Prop
  | one (us : List Tok) (n : Nd) : Vl us n → Vs us (leaf n)
  | more (us : List Tok) (n : Nd) (c : Tok) (vs : List Tok) (g : F) : Vl us n → isT sComma [c] = true → Vs vs g → Vs (us ++ c :: vs) ((leaf n).app g)
/-- an expression (false), or expressions separated by commas (true) -/
inductive Ex : Bool → List Tok → F → Prop
  | one (us : List Tok) (f : F) : Ex false us f → Ex true us f
  | more (us : List Tok) (f : F) (c : Tok) (vs : List Tok) (g : F) : Ex false us f → isT sComma [c] = true → Ex true vs g → Ex true (us ++ c :: vs) (f.app g)
  | all (a o c : Tok) (vs : List Tok) (g : F) : isT kAll [a] = true → isT sOpen [o] = true → Ex true vs g → isT sClose [c] = true → Ex false (a :: o :: (vs ++ [c])) (.cons ⟨3, 0, [], [], a.at_⟩ g .nil)
  | any (a o c : Tok) (vs : List Tok) (g : F) : isT kAny [a] = true → isT sOpen [o] = true → Ex true vs g → isT sClose [c] = true → Ex false (a :: o :: (vs ++ [c])) (.cons ⟨4, 0, [], [], a.at_⟩ g .nil)
  | atleast (a m o c : Tok) (vs : List Tok) (g : F) : isT kAtleast [a] = true → isM [m] = true → isT sOpen [o] = true → Ex true vs g → isT sClose [c] = true → Ex false (a :: m :: o :: (vs ++ [c])) (.cons ⟨5, numV m.text, [], [], a.at_⟩ g .nil)
  | not (a : Tok) (us : List Tok) (f : F) : isT kNot [a] = true → Ex false us f → Ex false (a :: us) (.cons ⟨2, 0, [], [], a.at_⟩ f .nil)
  | true (a : Tok) : isT kTrue [a] = true → Ex false [a] (leaf ⟨0, 0, [], [], a.at_⟩)
  | false (a : Tok) : isT kFalse [a] = true → Ex false [a] (leaf ⟨1, 0, [], [], a.at_⟩)
  | paren (o c : Tok) (us : List Tok) (f : F) : isT sOpen [o] = true → Ex false us f → isT sClose [c] = true → Ex false (o :: (us ++ [c])) f
  | cmp (us vs : List Tok) (c : Tok) (k : Nat) (a b : Nd) : Vl us a → cmpOf [c] = some k → Vl vs b → Ex false (us ++ c :: vs) (.cons ⟨6, k, [], [], atT us⟩ ((leaf a).app (leaf b)) .nil)
  | between (us vs ws : List Tok) (c d : Tok) (a b e : Nd) : Vl us a → isT kBetween [c] = true → Vl vs b → isT kAnd [d] = true → Vl ws e → Ex false (us ++ c :: (vs ++ d :: ws)) (.cons ⟨7, 0, [], [], atT us⟩ ((leaf a).app ((leaf b).app (leaf e))) .nil)
  | in_ (us vs : List Tok) (c o d : Tok) (a : Nd) (g : F) : Vl us a → isT kIn [c] = true → isT sBra [o] = true → Vs vs g → isT sKet [d] = true → Ex false (us ++ c :: o :: (vs ++ [d])) (.cons ⟨8, 0, [], [], atT us⟩ ((leaf a).app g) .nil)
theorem isT_eq {s : Tx} {ts : List Tok} (h : isT s ts = Bool.true) : ∃ a q, ts = a :: q ∧ isT s [a] = Bool.true := by
  cases ts with
  | nil => cases h
  | cons a q => exact ⟨a, q, rfl, h⟩
theorem isN_eq {ts : List Tok} (h : isN ts = Bool.true) : ∃ a q, ts = a :: q ∧ isN [a] = Bool.true := by
  cases ts with
  | nil => cases h
  | cons a q => exact ⟨a, q, rfl, h⟩
theorem isW_eq {ts : List Tok} (h : isW ts = Bool.true) : ∃ a q, ts = a :: q ∧ isW [a] = Bool.true := by
  cases ts with
  | nil => cases h
  | cons a q => exact ⟨a, q, rfl, h⟩
theorem isM_eq {ts : List Tok} (h : isM ts = Bool.true) : ∃ a q, ts = a :: q ∧ isM [a] = Bool.true := by
  cases ts with
  | nil => cases h
  | cons a q => exact ⟨a, q, rfl, h⟩
theorem cmp_eq {ts : List Tok} {k : Nat} (h : cmpOf ts = some k) : ∃ a q, ts = a :: q ∧ cmpOf [a] = some k := by
  cases ts with
  | nil => cases h
  | cons a q => exact ⟨a, q, rfl, h⟩
theorem need_inv {s : Tx} {ts q : List Tok} {u : Unit} (h : needR s ts = (some u, q)) : ∃ a, ts = a :: q ∧ isT s [a] = Bool.true := by
  unfold needR at h
  split at h
  · rename_i h1
    obtain ⟨a, p, rfl, h2⟩ := isT_eq h1
    simp only [Prod.mk.injEq, List.tail_cons] at h
    exact ⟨a, by rw [h.2], h2⟩
  · cases h
theorem name_inv {ts q : List Tok} {x : Tx} (h : nameR ts = (some x, q)) : ∃ a, ts = a :: q ∧ isN [a] = Bool.true ∧ x = a.text := by
  unfold nameR at h
  split at h
  · rename_i h1
    obtain ⟨a, p, rfl, h2⟩ := isN_eq h1
    simp only [Prod.mk.injEq, List.tail_cons, Option.some.injEq] at h
    exact ⟨a, by rw [h.2], h2, h.1.symm⟩
  · cases h
theorem word_inv {ts q : List Tok} {x : Tx} (h : wordR ts = (some x, q)) : ∃ a, ts = a :: q ∧ isW [a] = Bool.true ∧ x = a.text.tail.dropLast := by
  unfold wordR at h
  split at h
  · rename_i h1
    obtain ⟨a, p, rfl, h2⟩ := isW_eq h1
    simp only [Prod.mk.injEq, List.tail_cons, Option.some.injEq] at h
    exact ⟨a, by rw [h.2], h2, h.1.symm⟩
  · cases h
theorem num_inv {ts q : List Tok} {x : Int} (h : numR ts = (some x, q)) : ∃ a, ts = a :: q ∧ isM [a] = Bool.true ∧ x = numV a.text := by
  unfold numR at h
  split at h
  · rename_i h1
    obtain ⟨a, p, rfl, h2⟩ := isM_eq h1
    simp only [Prod.mk.injEq, List.tail_cons, Option.some.injEq] at h
    exact ⟨a, by rw [h.2], h2, h.1.symm⟩
  · cases h
theorem pair_inv {s : Tx} {ts q : List Tok} {x : Tx × Tx} (h : pairR s ts = (some x, q)) : ∃ a d b, ts = a :: d :: b :: q ∧ isN [a] = Bool.true ∧ isT s [d] = Bool.true ∧ isN [b] = Bool.true ∧ x = (a.text, b.text) := by
  unfold pairR at h
  obtain ⟨x1, p1, h1, hh⟩ := then_inv h; replace h := hh; clear hh
  obtain ⟨u, p2, h2, hh⟩ := then_inv h; replace h := hh; clear hh
  obtain ⟨x2, p3, h3, hh⟩ := then_inv h; replace h := hh; clear hh
  obtain ⟨a, rfl, ha, rfl⟩ := name_inv h1
  obtain ⟨d, rfl, hd⟩ := need_inv h2
  obtain ⟨b, rfl, hb, rfl⟩ := name_inv h3
  simp only [Prod.mk.injEq, Option.some.injEq] at h
  obtain ⟨rfl, rfl⟩ := h
  exact ⟨a, d, b, rfl, ha, hd, hb, rfl⟩
theorem value_inv {ts q : List Tok} {n : Nd} (h : valueR ts = (some n, q)) : ∃ us, ts = us ++ q ∧ Vl us n := by
  unfold valueR at h
  split at h
  · obtain ⟨x, p, h1, hh⟩ := then_inv h; replace h := hh; clear hh
    obtain ⟨a, d, b, rfl, ha, hd, hb, rfl⟩ := pair_inv h1
    simp only [Prod.mk.injEq, Option.some.injEq] at h
    obtain ⟨rfl, rfl⟩ := h
    exact ⟨_, rfl, Vl.ref a d b ha hd hb⟩
  · split at h
    · obtain ⟨x, p, h1, hh⟩ := then_inv h; replace h := hh; clear hh
      obtain ⟨a, rfl, ha, rfl⟩ := word_inv h1
      simp only [Prod.mk.injEq, Option.some.injEq] at h
      obtain ⟨rfl, rfl⟩ := h
      exact ⟨[a], rfl, Vl.word a ha⟩
    · split at h
      · obtain ⟨x, p, h1, hh⟩ := then_inv h; replace h := hh; clear hh
        obtain ⟨a, rfl, ha, rfl⟩ := num_inv h1
        simp only [Prod.mk.injEq, Option.some.injEq] at h
        obtain ⟨rfl, rfl⟩ := h
        exact ⟨[a], rfl, Vl.num a ha⟩
      · cases h
theorem leaf_inv {ts q : List Tok} {f : F} (h : leafR ts = (some f, q)) : ∃ us n, ts = us ++ q ∧ Vl us n ∧ f = leaf n := by
  unfold leafR at h
  obtain ⟨n, p, h1, hh⟩ := then_inv h; replace h := hh; clear hh
  obtain ⟨us, rfl, hv⟩ := value_inv h1
  simp only [Prod.mk.injEq, Option.some.injEq] at h
  obtain ⟨rfl, rfl⟩ := h
  exact ⟨us, n, rfl, hv, rfl⟩
theorem vals_inv : ∀ k ts q l, listR leafR k ts = (some l, q) → ∃ us, ts = us ++ q ∧ Vs us (F.cat l)
  | 0, ts, q, l, h => by cases h
  | k + 1, ts, q, l, h => by
    rw [listR] at h
    obtain ⟨f, p, h1, hh⟩ := then_inv h; replace h := hh; clear hh
    obtain ⟨us, n, rfl, hv, rfl⟩ := leaf_inv h1
    split at h
    · rename_i hc
      obtain ⟨l', p', h2, hh⟩ := then_inv h; replace h := hh; clear hh
      obtain ⟨c, p2, rfl, hc2⟩ := isT_eq hc
      obtain ⟨vs, e, hvs⟩ := vals_inv k _ _ _ h2
      simp only [Prod.mk.injEq, Option.some.injEq] at h
      obtain ⟨rfl, rfl⟩ := h
      rw [List.tail_cons] at e
      subst e
      exact ⟨us ++ c :: vs, by simp, Vs.more us n c vs _ hv hc2 hvs⟩
    · simp only [Prod.mk.injEq, Option.some.injEq] at h
      obtain ⟨rfl, rfl⟩ := h
      refine ⟨us, rfl, ?_⟩
      rw [F.cat, F.cat, F.app_nil]
      exact Vs.one us n hv
theorem atT_app {us : List Tok} {n : Nd} (h : Vl us n) (q : List Tok) : atT (us ++ q) = atT us := by cases h <;> rfl
theorem cond_inv {ts q : List Tok} {f : F} (h : condR ts = (some f, q)) : ∃ us, ts = us ++ q ∧ Ex false us f := by
  unfold condR at h
  obtain ⟨a, p, h1, hh⟩ := then_inv h; replace h := hh; clear hh
  obtain ⟨us, rfl, hv⟩ := value_inv h1
  rw [atT_app hv] at h
  split at h
  · rename_i k hk
    obtain ⟨b, p2, h2, hh⟩ := then_inv h; replace h := hh; clear hh
    obtain ⟨c, p3, rfl, hc⟩ := cmp_eq hk
    obtain ⟨vs, e, hb⟩ := value_inv h2
    simp only [Prod.mk.injEq, Option.some.injEq] at h
    obtain ⟨rfl, rfl⟩ := h
    rw [List.tail_cons] at e
    subst e
    exact ⟨us ++ c :: vs, by simp, Ex.cmp us vs c k a b hv hc hb⟩
  · split at h
    · rename_i hk
      obtain ⟨b, p2, h2, hh⟩ := then_inv h; replace h := hh; clear hh
      obtain ⟨u, p4, h4, hh⟩ := then_inv h; replace h := hh; clear hh
      obtain ⟨e, p5, h5, hh⟩ := then_inv h; replace h := hh; clear hh
      obtain ⟨c, p3, rfl, hc⟩ := isT_eq hk
      obtain ⟨vs, e1, hb⟩ := value_inv h2
      obtain ⟨d, rfl, hd⟩ := need_inv h4
      obtain ⟨ws, rfl, he⟩ := value_inv h5
      simp only [Prod.mk.injEq, Option.some.injEq] at h
      obtain ⟨rfl, rfl⟩ := h
      rw [List.tail_cons] at e1
      subst e1
      exact ⟨us ++ c :: (vs ++ d :: ws), by simp, Ex.between us vs ws c d a b e hv hc hb hd he⟩
    · split at h
      · rename_i hk
        obtain ⟨c, p3, rfl, hc⟩ := isT_eq hk
        obtain ⟨u, p4, h4, hh⟩ := then_inv h; replace h := hh; clear hh
        obtain ⟨l, p5, h5, hh⟩ := then_inv h; replace h := hh; clear hh
        obtain ⟨u, p6, h6, hh⟩ := then_inv h; replace h := hh; clear hh
        obtain ⟨o, e4, ho⟩ := need_inv h4
        obtain ⟨vs, rfl, hvs⟩ := vals_inv _ _ _ _ h5
        obtain ⟨d, rfl, hd⟩ := need_inv h6
        simp only [Prod.mk.injEq, Option.some.injEq] at h
        obtain ⟨rfl, rfl⟩ := h
        rw [List.tail_cons] at e4
        subst e4
        exact ⟨us ++ c :: o :: (vs ++ [d]), by simp, Ex.in_ us vs c o d a _ hv hc ho hvs hd⟩
      · cases h
theorem exprs_inv {rd : List Tok → Rd F} (hr : ∀ ts q f, rd ts = (some f, q) → ∃ us, ts = us ++ q ∧ Ex false us f) : ∀ k ts q l, listR rd k ts = (some l, q) → ∃ us, ts = us ++ q ∧ Ex true us (F.cat l)
  | 0, ts, q, l, h => by cases h
  | k + 1, ts, q, l, h => by
    rw [listR] at h
    obtain ⟨f, p, h1, hh⟩ := then_inv h; replace h := hh; clear hh
    obtain ⟨us, rfl, hv⟩ := hr _ _ _ h1
    split at h
    · rename_i hc
      obtain ⟨l', p', h2, hh⟩ := then_inv h; replace h := hh; clear hh
      obtain ⟨c, p2, rfl, hc2⟩ := isT_eq hc
      obtain ⟨vs, e, hvs⟩ := exprs_inv hr k _ _ _ h2
      simp only [Prod.mk.injEq, Option.some.injEq] at h
      obtain ⟨rfl, rfl⟩ := h
      rw [List.tail_cons] at e
      subst e
      exact ⟨us ++ c :: vs, by simp, Ex.more us f c vs _ hv hc2 hvs⟩
    · simp only [Prod.mk.injEq, Option.some.injEq] at h
      obtain ⟨rfl, rfl⟩ := h
      refine ⟨us, rfl, ?_⟩
      rw [F.cat, F.cat, F.app_nil]
      exact Ex.one us f hv
theorem kids_inv {rd : List Tok → Rd F} (hr : ∀ ts q f, rd ts = (some f, q) → ∃ us, ts = us ++ q ∧ Ex false us f) {n : Nd} {ts q : List Tok} {f : F} (h : kidsR rd n ts = (some f, q)) :
    ∃ o c vs g, ts = o :: (vs ++ c :: q) ∧ isT sOpen [o] = Bool.true ∧ Ex true vs g ∧ isT sClose [c] = Bool.true ∧ f = .cons n g .nil := by
  unfold kidsR at h
  obtain ⟨u, p, h1, hh⟩ := then_inv h; replace h := hh; clear hh
  obtain ⟨l, p2, h2, hh⟩ := then_inv h; replace h := hh; clear hh
  obtain ⟨u, p3, h3, hh⟩ := then_inv h; replace h := hh; clear hh
  obtain ⟨o, rfl, ho⟩ := need_inv h1
  obtain ⟨vs, rfl, hvs⟩ := exprs_inv hr _ _ _ _ h2
  obtain ⟨c, rfl, hc⟩ := need_inv h3
  simp only [Prod.mk.injEq, Option.some.injEq] at h
  obtain ⟨rfl, rfl⟩ := h
  exact ⟨o, c, vs, _, rfl, ho, hvs, hc, rfl⟩
/-- what is read is derived -/
theorem expr_inv : ∀ k ts q f, exprR k ts = (some f, q) → ∃ us, ts = us ++ q ∧ Ex false us f
  | 0, ts, q, f, h => by cases h
  | k + 1, ts, q, f, h => by
    have ih := expr_inv k
    rw [exprR] at h
    split at h
    · rename_i hk
      obtain ⟨a, p, rfl, ha⟩ := isT_eq hk
      rw [List.tail_cons] at h
      obtain ⟨o, c, vs, g, rfl, ho, hvs, hc, rfl⟩ := kids_inv ih h
      exact ⟨a :: o :: (vs ++ [c]), by simp, Ex.all a o c vs g ha ho hvs hc⟩
    · split at h
      · rename_i hk
        obtain ⟨a, p, rfl, ha⟩ := isT_eq hk
        rw [List.tail_cons] at h
        obtain ⟨o, c, vs, g, rfl, ho, hvs, hc, rfl⟩ := kids_inv ih h
        exact ⟨a :: o :: (vs ++ [c]), by simp, Ex.any a o c vs g ha ho hvs hc⟩
      · split at h
        · rename_i hk
          obtain ⟨a, p, rfl, ha⟩ := isT_eq hk
          rw [List.tail_cons] at h
          obtain ⟨m, p2, h2, hh⟩ := then_inv h; replace h := hh; clear hh
          obtain ⟨b, rfl, hb, rfl⟩ := num_inv h2
          obtain ⟨o, c, vs, g, rfl, ho, hvs, hc, rfl⟩ := kids_inv ih h
          exact ⟨a :: b :: o :: (vs ++ [c]), by simp, Ex.atleast a b o c vs g ha hb ho hvs hc⟩
        · split at h
          · rename_i hk
            obtain ⟨a, p, rfl, ha⟩ := isT_eq hk
            rw [List.tail_cons] at h
            obtain ⟨g, p2, h2, hh⟩ := then_inv h; replace h := hh; clear hh
            obtain ⟨us, rfl, hu⟩ := ih _ _ _ h2
            simp only [Prod.mk.injEq, Option.some.injEq] at h
            obtain ⟨rfl, rfl⟩ := h
            exact ⟨a :: us, rfl, Ex.not a us g ha hu⟩
          · split at h
            · rename_i hk
              obtain ⟨a, p, rfl, ha⟩ := isT_eq hk
              simp only [Prod.mk.injEq, Option.some.injEq, List.tail_cons] at h
              obtain ⟨rfl, rfl⟩ := h
              exact ⟨[a], rfl, Ex.true a ha⟩
            · split at h
              · rename_i hk
                obtain ⟨a, p, rfl, ha⟩ := isT_eq hk
                simp only [Prod.mk.injEq, Option.some.injEq, List.tail_cons] at h
                obtain ⟨rfl, rfl⟩ := h
                exact ⟨[a], rfl, Ex.false a ha⟩
              · split at h
                · rename_i hk
                  obtain ⟨a, p, rfl, ha⟩ := isT_eq hk
                  rw [List.tail_cons] at h
                  obtain ⟨g, p2, h2, hh⟩ := then_inv h; replace h := hh; clear hh
                  obtain ⟨u, p3, h3, hh⟩ := then_inv h; replace h := hh; clear hh
                  obtain ⟨us, rfl, hu⟩ := ih _ _ _ h2
                  obtain ⟨c, rfl, hc⟩ := need_inv h3
                  simp only [Prod.mk.injEq, Option.some.injEq] at h
                  obtain ⟨rfl, rfl⟩ := h
                  exact ⟨a :: (us ++ [c]), by simp, Ex.paren a c us g ha hu hc⟩
                · exact cond_inv h
/-! what is derived is read -/
theorem isT_app {s : Tx} {a : Tok} (h : isT s [a] = Bool.true) (q : List Tok) : isT s (a :: q) = Bool.true := h
theorem need_ok {s : Tx} {a : Tok} (h : isT s [a] = Bool.true) (q : List Tok) : needR s (a :: q) = (some (), q) := by
  unfold needR; rw [if_pos (isT_app h q)]; rfl
theorem isT_text {s : Tx} {a : Tok} (h : isT s [a] = Bool.true) : a.kind = 2 ∧ a.text = s := by
  simp only [isT, Bool.and_eq_true, beq_iff_eq] at h; exact h
theorem isT_other {s s' : Tx} {a : Tok} {q : List Tok} (h : isT s [a] = Bool.true) (hs : (s == s') = Bool.false) : isT s' (a :: q) = Bool.false := by
  obtain ⟨h1, h2⟩ := isT_text h
  rw [isT, h1, h2, hs]; rfl
theorem isT_kind {s : Tx} {a : Tok} {q : List Tok} (h : a.kind ≠ 2) : isT s (a :: q) = Bool.false := by
  rw [isT, beq_eq_false_iff_ne.2 h]; rfl
theorem name_ok {a : Tok} (h : isN [a] = Bool.true) (q : List Tok) : nameR (a :: q) = (some a.text, q) := by
  unfold nameR; rw [if_pos (show isN (a :: q) = Bool.true from h)]; rfl
theorem isN_kind {a : Tok} (h : isN [a] = Bool.true) : a.kind = 0 ∧ isW [a] = Bool.false := by
  simp only [isN, Bool.and_eq_true, beq_iff_eq, Bool.not_eq_true'] at h; exact h
theorem isW_kind {a : Tok} (h : isW [a] = Bool.true) : a.kind = 0 := by
  simp only [isW, Bool.and_eq_true, beq_iff_eq] at h; exact h.1
theorem isM_kind {a : Tok} (h : isM [a] = Bool.true) : a.kind = 1 := by
  simp only [isM, beq_iff_eq] at h; exact h
theorem word_ok {a : Tok} (h : isW [a] = Bool.true) (q : List Tok) : wordR (a :: q) = (some a.text.tail.dropLast, q) := by
  unfold wordR; rw [if_pos (show isW (a :: q) = Bool.true from h)]; rfl
theorem num_ok {a : Tok} (h : isM [a] = Bool.true) (q : List Tok) : numR (a :: q) = (some (numV a.text), q) := by
  unfold numR; rw [if_pos (show isM (a :: q) = Bool.true from h)]; rfl
theorem pair_ok {s : Tx} {a d b : Tok} (ha : isN [a] = Bool.true) (hd : isT s [d] = Bool.true) (hb : isN [b] = Bool.true) (q : List Tok) : pairR s (a :: d :: b :: q) = (some (a.text, b.text), q) := by
  unfold pairR; rw [name_ok ha, then_some, need_ok hd, then_some, name_ok hb, then_some]
theorem value_ok {us : List Tok} {n : Nd} (h : Vl us n) (q : List Tok) : valueR (us ++ q) = (some n, q) := by
  cases h with
  | ref a d b ha hd hb =>
    have e : refR (a :: d :: b :: q) = (some (a.text, b.text), q) := pair_ok ha hd hb q
    show valueR (a :: d :: b :: q) = _
    unfold valueR
    rw [if_pos (show isN (a :: d :: b :: q) = Bool.true from ha), e]; rfl
  | word a ha =>
    show valueR (a :: q) = _
    unfold valueR
    have hN : isN (a :: q) = Bool.false := by
      rw [isN, show isW (a :: q) = Bool.true from ha]; simp
    rw [if_neg (by rw [hN]; decide), if_pos (show isW (a :: q) = Bool.true from ha), word_ok ha]; rfl
  | num a ha =>
    show valueR (a :: q) = _
    unfold valueR
    have hk := isM_kind ha
    have hW : isW (a :: q) = Bool.false := by rw [isW, hk]; rfl
    have hN : isN (a :: q) = Bool.false := by rw [isN, hk]; rfl
    rw [if_neg (by rw [hN]; decide), if_neg (by rw [hW]; decide), if_pos (show isM (a :: q) = Bool.true from ha), num_ok ha]; rfl
theorem Vl.first {us : List Tok} {n : Nd} (h : Vl us n) : ∃ a p, us = a :: p ∧ a.kind ≠ 2 ∧ a.kind ≠ 3 := by
  cases h with
  | ref a d b ha hd hb => exact ⟨a, _, rfl, by rw [(isN_kind ha).1]; decide, by rw [(isN_kind ha).1]; decide⟩
  | word a ha => exact ⟨a, _, rfl, by rw [isW_kind ha]; decide, by rw [isW_kind ha]; decide⟩
  | num a ha => exact ⟨a, _, rfl, by rw [isM_kind ha]; decide, by rw [isM_kind ha]; decide⟩
theorem leaf_ok {us : List Tok} {n : Nd} (h : Vl us n) (q : List Tok) : leafR (us ++ q) = (some (leaf n), q) := by
  unfold leafR; rw [value_ok h, then_some]
theorem Vl.len {us : List Tok} {n : Nd} (h : Vl us n) : 0 < us.length := by obtain ⟨a, p, rfl, _⟩ := h.first; simp
theorem vals_ok {us : List Tok} {g : F} (h : Vs us g) : ∀ k q, us.length ≤ k → isT sComma q = Bool.false → ∃ l, F.cat l = g ∧ listR leafR k (us ++ q) = (some l, q) := by
  induction h with
  | one us n hv =>
    intro k q hk hq
    have := hv.len
    obtain ⟨k, rfl⟩ : ∃ j, k = j + 1 := ⟨k - 1, by omega⟩
    refine ⟨[leaf n], by rw [F.cat, F.cat, F.app_nil], ?_⟩
    rw [listR, leaf_ok hv, then_some, hq]; rfl
  | more us n c vs g hv hc _ ih =>
    intro k q hk hq
    have := hv.len
    simp only [List.length_append, List.length_cons] at hk
    obtain ⟨k, rfl⟩ : ∃ j, k = j + 1 := ⟨k - 1, by omega⟩
    obtain ⟨l, hl, h2⟩ := ih k q (by omega) hq
    refine ⟨leaf n :: l, by rw [F.cat, hl], ?_⟩
    rw [List.append_assoc, List.cons_append, listR, leaf_ok hv, then_some, if_pos (isT_app hc _), List.tail_cons, h2, then_some]
theorem cmp_kind {a : Tok} {k : Nat} (h : cmpOf [a] = some k) : a.kind = 2 ∧ k < 6 ∧ cmps[k]? = some a.text := cmpOf_kind h
theorem isT_comma_close {a : Tok} (h : isT sClose [a] = Bool.true) (q : List Tok) : isT sComma (a :: q) = Bool.false := isT_other h (by decide)
theorem cmp_no {s : Tx} {a : Tok} {q : List Tok} (h : isT s [a] = Bool.true) (hs : (cmps.findIdx? (fun x => x == s)) = none) : cmpOf (a :: q) = none := by
  obtain ⟨h1, h2⟩ := isT_text h
  show (if (a.kind == 2) = Bool.true then cmps.findIdx? (fun s => s == a.text) else none) = none
  rw [h1, h2, hs]; rfl
theorem Ex.len {b : Bool} {us : List Tok} {f : F} (h : Ex b us f) : 0 < us.length := by
  induction h with
  | one _ _ _ ih => exact ih
  | more _ _ _ _ _ _ _ _ ih _ => rw [List.length_append]; omega
  | cmp us vs c k a b hv hc hb => rw [List.length_append]; have := hv.len; omega
  | between us vs ws c d a b e hv _ _ _ _ => rw [List.length_append]; have := hv.len; omega
  | in_ us vs c o d a g hv _ _ _ _ => rw [List.length_append]; have := hv.len; omega
  | _ => simp
theorem cond_way {us : List Tok} {n : Nd} (h : Vl us n) (k : Nat) (q : List Tok) : exprR (k + 1) (us ++ q) = condR (us ++ q) := by
  obtain ⟨a, p, rfl, h2, _⟩ := h.first
  rw [List.cons_append, exprR]
  simp only [isT_kind (q := p ++ q) h2, Bool.false_eq_true, if_false]
/-- what is derived is read -/
theorem expr_ok {b : Bool} {us : List Tok} {f : F} (h : Ex b us f) : match b with
    | .false => ∀ k q, us.length ≤ k → exprR k (us ++ q) = (some f, q)
    | .true => ∀ k n q, us.length ≤ k → us.length ≤ n → isT sComma q = Bool.false → ∃ l, F.cat l = f ∧ listR (exprR n) k (us ++ q) = (some l, q) := by
  induction h with
  | one us f h ih =>
    intro k n q hk hn hq
    have := h.len
    obtain ⟨k, rfl⟩ : ∃ j, k = j + 1 := ⟨k - 1, by omega⟩
    refine ⟨[f], by rw [F.cat, F.cat, F.app_nil], ?_⟩
    rw [listR, ih n q hn, then_some, hq]; rfl
  | more us f c vs g h hc hg ih ih2 =>
    intro k n q hk hn hq
    have := h.len
    simp only [List.length_append, List.length_cons] at hk hn
    obtain ⟨k, rfl⟩ : ∃ j, k = j + 1 := ⟨k - 1, by omega⟩
    obtain ⟨l, hl, h2⟩ := ih2 k n q (by omega) (by omega) hq
    refine ⟨f :: l, by rw [F.cat, hl], ?_⟩
    rw [List.append_assoc, List.cons_append, listR, ih n _ (by omega), then_some, if_pos (isT_app hc _), List.tail_cons, h2, then_some]
  | all a o c vs g ha ho hg hc ih =>
    intro k q hk
    simp only [List.length_cons, List.length_append, List.length_nil] at hk
    obtain ⟨k, rfl⟩ : ∃ j, k = j + 1 := ⟨k - 1, by omega⟩
    obtain ⟨l, hl, h2⟩ := ih (vs ++ c :: q).length k (c :: q) (by simp) (by omega) (isT_comma_close hc q)
    have e : a :: o :: (vs ++ [c]) ++ q = a :: o :: (vs ++ c :: q) := by simp
    rw [e, exprR, if_pos (isT_app ha _)]
    unfold kidsR
    rw [List.tail_cons, need_ok ho, then_some, h2, then_some, need_ok hc, then_some, hl]; rfl
  | any a o c vs g ha ho hg hc ih =>
    intro k q hk
    simp only [List.length_cons, List.length_append, List.length_nil] at hk
    obtain ⟨k, rfl⟩ : ∃ j, k = j + 1 := ⟨k - 1, by omega⟩
    obtain ⟨l, hl, h2⟩ := ih (vs ++ c :: q).length k (c :: q) (by simp) (by omega) (isT_comma_close hc q)
    have e : a :: o :: (vs ++ [c]) ++ q = a :: o :: (vs ++ c :: q) := by simp
    rw [e, exprR, isT_other ha (s' := kAll) (by decide), if_neg Bool.false_ne_true, if_pos (isT_app ha _)]
    unfold kidsR
    rw [List.tail_cons, need_ok ho, then_some, h2, then_some, need_ok hc, then_some, hl]; rfl
  | atleast a m o c vs g ha hm ho hg hc ih =>
    intro k q hk
    simp only [List.length_cons, List.length_append, List.length_nil] at hk
    obtain ⟨k, rfl⟩ : ∃ j, k = j + 1 := ⟨k - 1, by omega⟩
    obtain ⟨l, hl, h2⟩ := ih (vs ++ c :: q).length k (c :: q) (by simp) (by omega) (isT_comma_close hc q)
    have e : a :: m :: o :: (vs ++ [c]) ++ q = a :: m :: o :: (vs ++ c :: q) := by simp
    rw [e, exprR, isT_other ha (s' := kAll) (by decide), if_neg Bool.false_ne_true, isT_other ha (s' := kAny) (by decide), if_neg Bool.false_ne_true, if_pos (isT_app ha _), List.tail_cons, num_ok hm, then_some]
    unfold kidsR
    rw [need_ok ho, then_some, h2, then_some, need_ok hc, then_some, hl]; rfl
  | not a us f ha hf ih =>
    intro k q hk
    simp only [List.length_cons] at hk
    obtain ⟨k, rfl⟩ : ∃ j, k = j + 1 := ⟨k - 1, by omega⟩
    rw [List.cons_append, exprR, isT_other ha (s' := kAll) (by decide), if_neg Bool.false_ne_true, isT_other ha (s' := kAny) (by decide), if_neg Bool.false_ne_true, isT_other ha (s' := kAtleast) (by decide), if_neg Bool.false_ne_true, if_pos (isT_app ha _), List.tail_cons, ih k q (by omega), then_some]; rfl
  | true a ha =>
    intro k q hk
    simp only [List.length_cons] at hk
    obtain ⟨k, rfl⟩ : ∃ j, k = j + 1 := ⟨k - 1, by omega⟩
    show exprR (k + 1) (a :: q) = _
    rw [exprR, isT_other ha (s' := kAll) (by decide), if_neg Bool.false_ne_true, isT_other ha (s' := kAny) (by decide), if_neg Bool.false_ne_true, isT_other ha (s' := kAtleast) (by decide), if_neg Bool.false_ne_true, isT_other ha (s' := kNot) (by decide), if_neg Bool.false_ne_true, if_pos (isT_app ha _)]; rfl
  | false a ha =>
    intro k q hk
    simp only [List.length_cons] at hk
    obtain ⟨k, rfl⟩ : ∃ j, k = j + 1 := ⟨k - 1, by omega⟩
    show exprR (k + 1) (a :: q) = _
    rw [exprR, isT_other ha (s' := kAll) (by decide), if_neg Bool.false_ne_true, isT_other ha (s' := kAny) (by decide), if_neg Bool.false_ne_true, isT_other ha (s' := kAtleast) (by decide), if_neg Bool.false_ne_true, isT_other ha (s' := kNot) (by decide), if_neg Bool.false_ne_true, isT_other ha (s' := kTrue) (by decide), if_neg Bool.false_ne_true, if_pos (isT_app ha _)]; rfl
  | paren o c us f ha hf hc ih =>
    intro k q hk
    simp only [List.length_cons, List.length_append, List.length_nil] at hk
    obtain ⟨k, rfl⟩ : ∃ j, k = j + 1 := ⟨k - 1, by omega⟩
    have e : o :: (us ++ [c]) ++ q = o :: (us ++ c :: q) := by simp
    rw [e, exprR, isT_other ha (s' := kAll) (by decide), if_neg Bool.false_ne_true, isT_other ha (s' := kAny) (by decide), if_neg Bool.false_ne_true, isT_other ha (s' := kAtleast) (by decide), if_neg Bool.false_ne_true, isT_other ha (s' := kNot) (by decide), if_neg Bool.false_ne_true, isT_other ha (s' := kTrue) (by decide), if_neg Bool.false_ne_true, isT_other ha (s' := kFalse) (by decide), if_neg Bool.false_ne_true, if_pos (isT_app ha _), List.tail_cons, ih k _ (by omega), then_some, need_ok hc, then_some]
  | cmp us vs c j a b hv hc hb =>
    intro k q hk
    have := hv.len
    simp only [List.length_cons, List.length_append] at hk
    obtain ⟨k, rfl⟩ : ∃ j, k = j + 1 := ⟨k - 1, by omega⟩
    rw [List.append_assoc, cond_way hv]
    unfold condR
    rw [value_ok hv, then_some, List.cons_append, show cmpOf (c :: (vs ++ q)) = some j from hc, atT_app hv]
    dsimp only
    rw [List.tail_cons, value_ok hb, then_some]
  | between us vs ws c d a b e hv hc hb hd he =>
    intro k q hk
    have := hv.len
    simp only [List.length_cons, List.length_append] at hk
    obtain ⟨k, rfl⟩ : ∃ j, k = j + 1 := ⟨k - 1, by omega⟩
    rw [List.append_assoc, cond_way hv]
    unfold condR
    rw [value_ok hv, then_some, List.cons_append, cmp_no hc (by decide), atT_app hv]
    dsimp only
    rw [if_pos (isT_app hc _), List.tail_cons, List.append_assoc, value_ok hb, then_some, List.cons_append, need_ok hd, then_some, value_ok he, then_some]
  | in_ us vs c o d a g hv hc ho hg hd =>
    intro k q hk
    have := hv.len
    simp only [List.length_cons, List.length_append] at hk
    obtain ⟨k, rfl⟩ : ∃ j, k = j + 1 := ⟨k - 1, by omega⟩
    obtain ⟨l, hl, h2⟩ := vals_ok hg (vs ++ d :: q).length (d :: q) (by simp) (isT_other hd (by decide))
    have e : us ++ c :: o :: (vs ++ [d]) ++ q = us ++ (c :: o :: (vs ++ d :: q)) := by simp
    rw [e, cond_way hv]
    unfold condR
    rw [value_ok hv, then_some, cmp_no hc (by decide), atT_app hv]
    dsimp only
    rw [isT_other hc (s' := kBetween) (by decide), if_neg Bool.false_ne_true, if_pos (isT_app hc _), List.tail_cons, need_ok ho, then_some, h2, then_some, need_ok hd, then_some, hl]
end Go.Proofs.YtminghdnclpocaaGreatDoor.Pa
