import Derived.Test.YtogmhaihmkcjgaaGreatDoorPaV
import Derived.Test.YtogmhaihmkcjgaaGreatDoorPcA
import Derived.Test.YtogmhaihmkcjgaaGreatDoorPbZ
import Derived.Test.YtogmhaihmkcjgaaGreatDoorPdM
import Derived.Lib.ItoaNum
import Derived.Deep.RegionHeld3
/-
 The grammar of the policy language: which tokens make which tree. What is read is derived, and what is derived is read. No program in sight.
-/
namespace Go.Proofs.YtogmhaihmkcjgaaGreatDoor.Pa
open Lx (Tok)
set_option linter.unusedVariables false

/-- a value -/
inductive Vl : List Tok → Nd → Prop
 | ref (a d b : Tok) : isN [a] = true → isT sDot [d] = true → isN [b] = true → Vl [a, d, b] ⟨9, 0, a.text, b.text, a.at_⟩
 | word (a : Tok) : isW [a] = true → Vl [a] ⟨11, 0, a.text.tail.dropLast, [], a.at_⟩
 | num (a : Tok) : isM [a] = true → Vl [a] ⟨10, numV a.text, [], [], a.at_⟩
/-- values, separated by commas -/
inductive Vs : List Tok → F → Prop
 | one (us : List Tok) (n : Nd) : Vl us n → Vs us (leaf n)
 | more (us : List Tok) (n : Nd) (c : Tok) (vs : List Tok) (g : F) : Vl us n → isT sComma [c] = true → Vs vs g → Vs (us ++ c :: vs) ((leaf n).app g)
/-- an expression (false), or expressions separated by commas (true) -/
inductive Ex : Bool → List Tok → F → Prop
 | one (us : List Tok) (f : F) : Ex false us f → Ex true us f
 | more (us : List Tok) (f : F) (c : Tok) (vs : List Tok) (g : F) : Ex false us f → isT sComma [c] = true → Ex true vs g → Ex true (us ++ c :: vs) (f.app g)
 | all (a o c : Tok) (vs : List Tok) (g : F) : isT kAll [a] = true → isT sOpen [o] = true → Ex true vs g → isT sClose [c] = true → Ex false (a :: o :: (vs ++ [c])) (.cons ⟨3, 0, [], [], a.at_⟩ g .nil)
 | any (a o c : Tok) (vs : List Tok) (g : F) : isT kAny [a] = true → isT sOpen [o] = true → Ex true vs g → isT sClose [c] = true → Ex false (a :: o :: (vs ++ [c])) (.cons ⟨4, 0, [], [], a.at_⟩ g .nil)
 | atleast (a m o c : Tok) (vs : List Tok) (g : F) : isT kAtleast [a] = true → isM [m] = true → isT sOpen [o] = true → Ex true vs g → isT sClose [c] = true → Ex false (a :: m :: o :: (vs ++ [c])) (.cons ⟨5, numV m.text, [], [], a.at_⟩ g .nil)
 | not (a : Tok) (us : List Tok) (f : F) : isT kNot [a] = true → Ex false us f → Ex false (a :: us) (.cons ⟨2, 0, [], [], a.at_⟩ f .nil)
 | true (a : Tok) : isT kTrue [a] = true → Ex false [a] (leaf ⟨0, 0, [], [], a.at_⟩)
 | false (a : Tok) : isT kFalse [a] = true → Ex false [a] (leaf ⟨1, 0, [], [], a.at_⟩)
 | paren (o c : Tok) (us : List Tok) (f : F) : isT sOpen [o] = true → Ex false us f → isT sClose [c] = true → Ex false (o :: (us ++ [c])) f
 | cmp (us vs : List Tok) (c : Tok) (k : Nat) (a b : Nd) : Vl us a → cmpOf [c] = some k → Vl vs b → Ex false (us ++ c :: vs) (.cons ⟨6, k, [], [], atT us⟩ ((leaf a).app (leaf b)) .nil)
 | between (us vs ws : List Tok) (c d : Tok) (a b e : Nd) : Vl us a → isT kBetween [c] = true → Vl vs b → isT kAnd [d] = true → Vl ws e → Ex false (us ++ c :: (vs ++ d :: ws)) (.cons ⟨7, 0, [], [], atT us⟩ ((leaf a).app ((leaf b).app (leaf e))) .nil)
 | in_ (us vs : List Tok) (c o d : Tok) (a : Nd) (g : F) : Vl us a → isT kIn [c] = true → isT sBra [o] = true → Vs vs g → isT sKet [d] = true → Ex false (us ++ c :: o :: (vs ++ [d])) (.cons ⟨8, 0, [], [], atT us⟩ ((leaf a).app g) .nil)
theorem isT_eq {s : Tx} {ts : List Tok} (h : isT s ts = Bool.true) : ∃ a q, ts = a :: q ∧ isT s [a] = Bool.true := by
 cases ts with
 | nil => cases h
 | cons a q => exact ⟨a, q, rfl, h⟩
theorem isN_eq {ts : List Tok} (h : isN ts = Bool.true) : ∃ a q, ts = a :: q ∧ isN [a] = Bool.true := by
 cases ts with
 | nil => cases h
 | cons a q => exact ⟨a, q, rfl, h⟩
theorem isW_eq {ts : List Tok} (h : isW ts = Bool.true) : ∃ a q, ts = a :: q ∧ isW [a] = Bool.true := by
 cases ts with
 | nil => cases h
 | cons a q => exact ⟨a, q, rfl, h⟩
theorem isM_eq {ts : List Tok} (h : isM ts = Bool.true) : ∃ a q, ts = a :: q ∧ isM [a] = Bool.true := by
 cases ts with
 | nil => cases h
 | cons a q => exact ⟨a, q, rfl, h⟩
theorem cmp_eq {ts : List Tok} {k : Nat} (h : cmpOf ts = some k) : ∃ a q, ts = a :: q ∧ cmpOf [a] = some k := by
 cases ts with
 | nil => cases h
 | cons a q => exact ⟨a, q, rfl, h⟩
theorem need_inv {s : Tx} {ts q : List Tok} {u : Unit} (h : needR s ts = (some u, q)) : ∃ a, ts = a :: q ∧ isT s [a] = Bool.true := by
 unfold needR at h
 split at h
 ·rename_i h1
  obtain ⟨a, p, rfl, h2⟩ := isT_eq h1
  simp only [Prod.mk.injEq, List.tail_cons] at h
  exact ⟨a, by rw [h.2], h2⟩
 ·cases h
theorem name_inv {ts q : List Tok} {x : Tx} (h : nameR ts = (some x, q)) : ∃ a, ts = a :: q ∧ isN [a] = Bool.true ∧ x = a.text := by
 unfold nameR at h
 split at h
 ·rename_i h1
  obtain ⟨a, p, rfl, h2⟩ := isN_eq h1
  simp only [Prod.mk.injEq, List.tail_cons, Option.some.injEq] at h
  exact ⟨a, by rw [h.2], h2, h.1.symm⟩
 ·cases h
theorem word_inv {ts q : List Tok} {x : Tx} (h : wordR ts = (some x, q)) : ∃ a, ts = a :: q ∧ isW [a] = Bool.true ∧ x = a.text.tail.dropLast := by
 unfold wordR at h
 split at h
 ·rename_i h1
  obtain ⟨a, p, rfl, h2⟩ := isW_eq h1
  simp only [Prod.mk.injEq, List.tail_cons, Option.some.injEq] at h
  exact ⟨a, by rw [h.2], h2, h.1.symm⟩
 ·cases h
theorem num_inv {ts q : List Tok} {x : Int} (h : numR ts = (some x, q)) : ∃ a, ts = a :: q ∧ isM [a] = Bool.true ∧ x = numV a.text := by
 unfold numR at h
 split at h
 ·rename_i h1
  obtain ⟨a, p, rfl, h2⟩ := isM_eq h1
  simp only [Prod.mk.injEq, List.tail_cons, Option.some.injEq] at h
  exact ⟨a, by rw [h.2], h2, h.1.symm⟩
 ·cases h
theorem pair_inv {s : Tx} {ts q : List Tok} {x : Tx × Tx} (h : pairR s ts = (some x, q)) : ∃ a d b, ts = a :: d :: b :: q ∧ isN [a] = Bool.true ∧ isT s [d] = Bool.true ∧ isN [b] = Bool.true ∧ x = (a.text, b.text) := by
 unfold pairR at h
 obtain ⟨x1, p1, h1, hh⟩ := then_inv h; replace h := hh; clear hh
 obtain ⟨u, p2, h2, hh⟩ := then_inv h; replace h := hh; clear hh
 obtain ⟨x2, p3, h3, hh⟩ := then_inv h; replace h := hh; clear hh
 obtain ⟨a, rfl, ha, rfl⟩ := name_inv h1
 obtain ⟨d, rfl, hd⟩ := need_inv h2
 obtain ⟨b, rfl, hb, rfl⟩ := name_inv h3
 simp only [Prod.mk.injEq, Option.some.injEq] at h
 obtain ⟨rfl, rfl⟩ := h
 exact ⟨a, d, b, rfl, ha, hd, hb, rfl⟩
theorem value_inv {ts q : List Tok} {n : Nd} (h : valueR ts = (some n, q)) : ∃ us, ts = us ++ q ∧ Vl us n := by
 unfold valueR at h
 split at h
 ·obtain ⟨x, p, h1, hh⟩ := then_inv h; replace h := hh; clear hh
  obtain ⟨a, d, b, rfl, ha, hd, hb, rfl⟩ := pair_inv h1
  simp only [Prod.mk.injEq, Option.some.injEq] at h
  obtain ⟨rfl, rfl⟩ := h
  exact ⟨_, rfl, Vl.ref a d b ha hd hb⟩
 ·split at h
  ·obtain ⟨x, p, h1, hh⟩ := then_inv h; replace h := hh; clear hh
   obtain ⟨a, rfl, ha, rfl⟩ := word_inv h1
   simp only [Prod.mk.injEq, Option.some.injEq] at h
   obtain ⟨rfl, rfl⟩ := h
   exact ⟨[a], rfl, Vl.word a ha⟩
  ·split at h
   ·obtain ⟨x, p, h1, hh⟩ := then_inv h; replace h := hh; clear hh
    obtain ⟨a, rfl, ha, rfl⟩ := num_inv h1
    simp only [Prod.mk.injEq, Option.some.injEq] at h
    obtain ⟨rfl, rfl⟩ := h
    exact ⟨[a], rfl, Vl.num a ha⟩
   ·cases h
theorem leaf_inv {ts q : List Tok} {f : F} (h : leafR ts = (some f, q)) : ∃ us n, ts = us ++ q ∧ Vl us n ∧ f = leaf n := by
 unfold leafR at h
 obtain ⟨n, p, h1, hh⟩ := then_inv h; replace h := hh; clear hh
 obtain ⟨us, rfl, hv⟩ := value_inv h1
 simp only [Prod.mk.injEq, Option.some.injEq] at h
 obtain ⟨rfl, rfl⟩ := h
 exact ⟨us, n, rfl, hv, rfl⟩
theorem vals_inv : ∀ k ts q l, listR leafR k ts = (some l, q) → ∃ us, ts = us ++ q ∧ Vs us (F.cat l)
 | 0, ts, q, l, h => by cases h
 | k + 1, ts, q, l, h => by
  rw [listR] at h
  obtain ⟨f, p, h1, hh⟩ := then_inv h; replace h := hh; clear hh
  obtain ⟨us, n, rfl, hv, rfl⟩ := leaf_inv h1
  split at h
  ·rename_i hc
   obtain ⟨l', p', h2, hh⟩ := then_inv h; replace h := hh; clear hh
   obtain ⟨c, p2, rfl, hc2⟩ := isT_eq hc
   obtain ⟨vs, e, hvs⟩ := vals_inv k _ _ _ h2
   simp only [Prod.mk.injEq, Option.some.injEq] at h
   obtain ⟨rfl, rfl⟩ := h
   rw [List.tail_cons] at e
   subst e
   exact ⟨us ++ c :: vs, by simp, Vs.more us n c vs _ hv hc2 hvs⟩
  ·simp only [Prod.mk.injEq, Option.some.injEq] at h
   obtain ⟨rfl, rfl⟩ := h
   refine ⟨us, rfl, ?_⟩
   rw [F.cat, F.cat, F.app_nil]
   exact Vs.one us n hv
theorem atT_app {us : List Tok} {n : Nd} (h : Vl us n) (q : List Tok) : atT (us ++ q) = atT us := by cases h <;> rfl
theorem cond_inv {ts q : List Tok} {f : F} (h : condR ts = (some f, q)) : ∃ us, ts = us ++ q ∧ Ex false us f := by
 unfold condR at h
 obtain ⟨a, p, h1, hh⟩ := then_inv h; replace h := hh; clear hh
 obtain ⟨us, rfl, hv⟩ := value_inv h1
 rw [atT_app hv] at h
 split at h
 ·rename_i k hk
  obtain ⟨b, p2, h2, hh⟩ := then_inv h; replace h := hh; clear hh
  obtain ⟨c, p3, rfl, hc⟩ := cmp_eq hk
  obtain ⟨vs, e, hb⟩ := value_inv h2
  simp only [Prod.mk.injEq, Option.some.injEq] at h
  obtain ⟨rfl, rfl⟩ := h
  rw [List.tail_cons] at e
  subst e
  exact ⟨us ++ c :: vs, by simp, Ex.cmp us vs c k a b hv hc hb⟩
 ·split at h
  ·rename_i hk
   obtain ⟨b, p2, h2, hh⟩ := then_inv h; replace h := hh; clear hh
   obtain ⟨u, p4, h4, hh⟩ := then_inv h; replace h := hh; clear hh
   obtain ⟨e, p5, h5, hh⟩ := then_inv h; replace h := hh; clear hh
   obtain ⟨c, p3, rfl, hc⟩ := isT_eq hk
   obtain ⟨vs, e1, hb⟩ := value_inv h2
   obtain ⟨d, rfl, hd⟩ := need_inv h4
   obtain ⟨ws, rfl, he⟩ := value_inv h5
   simp only [Prod.mk.injEq, Option.some.injEq] at h
   obtain ⟨rfl, rfl⟩ := h
   rw [List.tail_cons] at e1
   subst e1
   exact ⟨us ++ c :: (vs ++ d :: ws), by simp, Ex.between us vs ws c d a b e hv hc hb hd he⟩
  ·split at h
   ·rename_i hk
    obtain ⟨c, p3, rfl, hc⟩ := isT_eq hk
    obtain ⟨u, p4, h4, hh⟩ := then_inv h; replace h := hh; clear hh
    obtain ⟨l, p5, h5, hh⟩ := then_inv h; replace h := hh; clear hh
    obtain ⟨u, p6, h6, hh⟩ := then_inv h; replace h := hh; clear hh
    obtain ⟨o, e4, ho⟩ := need_inv h4
    obtain ⟨vs, rfl, hvs⟩ := vals_inv _ _ _ _ h5
    obtain ⟨d, rfl, hd⟩ := need_inv h6
    simp only [Prod.mk.injEq, Option.some.injEq] at h
    obtain ⟨rfl, rfl⟩ := h
    rw [List.tail_cons] at e4
    subst e4
    exact ⟨us ++ c :: o :: (vs ++ [d]), by simp, Ex.in_ us vs c o d a _ hv hc ho hvs hd⟩
   ·cases h
theorem exprs_inv {rd : List Tok → Rd F} (hr : ∀ ts q f, rd ts = (some f, q) → ∃ us, ts = us ++ q ∧ Ex false us f) : ∀ k ts q l, listR rd k ts = (some l, q) → ∃ us, ts = us ++ q ∧ Ex true us (F.cat l)
 | 0, ts, q, l, h => by cases h
 | k + 1, ts, q, l, h => by
  rw [listR] at h
  obtain ⟨f, p, h1, hh⟩ := then_inv h; replace h := hh; clear hh
  obtain ⟨us, rfl, hv⟩ := hr _ _ _ h1
  split at h
  ·rename_i hc
   obtain ⟨l', p', h2, hh⟩ := then_inv h; replace h := hh; clear hh
   obtain ⟨c, p2, rfl, hc2⟩ := isT_eq hc
   obtain ⟨vs, e, hvs⟩ := exprs_inv hr k _ _ _ h2
   simp only [Prod.mk.injEq, Option.some.injEq] at h
   obtain ⟨rfl, rfl⟩ := h
   rw [List.tail_cons] at e
   subst e
   exact ⟨us ++ c :: vs, by simp, Ex.more us f c vs _ hv hc2 hvs⟩
  ·simp only [Prod.mk.injEq, Option.some.injEq] at h
   obtain ⟨rfl, rfl⟩ := h
   refine ⟨us, rfl, ?_⟩
   rw [F.cat, F.cat, F.app_nil]
   exact Ex.one us f hv
theorem kids_inv {rd : List Tok → Rd F} (hr : ∀ ts q f, rd ts = (some f, q) → ∃ us, ts = us ++ q ∧ Ex false us f) {n : Nd} {ts q : List Tok} {f : F} (h : kidsR rd n ts = (some f, q)) :
  ∃ o c vs g, ts = o :: (vs ++ c :: q) ∧ isT sOpen [o] = Bool.true ∧ Ex true vs g ∧ isT sClose [c] = Bool.true ∧ f = .cons n g .nil := by
 unfold kidsR at h
 obtain ⟨u, p, h1, hh⟩ := then_inv h; replace h := hh; clear hh
 obtain ⟨l, p2, h2, hh⟩ := then_inv h; replace h := hh; clear hh
 obtain ⟨u, p3, h3, hh⟩ := then_inv h; replace h := hh; clear hh
 obtain ⟨o, rfl, ho⟩ := need_inv h1
 obtain ⟨vs, rfl, hvs⟩ := exprs_inv hr _ _ _ _ h2
 obtain ⟨c, rfl, hc⟩ := need_inv h3
 simp only [Prod.mk.injEq, Option.some.injEq] at h
 obtain ⟨rfl, rfl⟩ := h
 exact ⟨o, c, vs, _, rfl, ho, hvs, hc, rfl⟩
/-- what is read is derived -/
theorem expr_inv : ∀ k ts q f, exprR k ts = (some f, q) → ∃ us, ts = us ++ q ∧ Ex false us f
 | 0, ts, q, f, h => by cases h
 | k + 1, ts, q, f, h => by
  have ih := expr_inv k
  rw [exprR] at h
  split at h
  ·rename_i hk
   obtain ⟨a, p, rfl, ha⟩ := isT_eq hk
   rw [List.tail_cons] at h
   obtain ⟨o, c, vs, g, rfl, ho, hvs, hc, rfl⟩ := kids_inv ih h
   exact ⟨a :: o :: (vs ++ [c]), by simp, Ex.all a o c vs g ha ho hvs hc⟩
  ·split at h
   ·rename_i hk
    obtain ⟨a, p, rfl, ha⟩ := isT_eq hk
    rw [List.tail_cons] at h
    obtain ⟨o, c, vs, g, rfl, ho, hvs, hc, rfl⟩ := kids_inv ih h
    exact ⟨a :: o :: (vs ++ [c]), by simp, Ex.any a o c vs g ha ho hvs hc⟩
   ·split at h
    ·rename_i hk
     obtain ⟨a, p, rfl, ha⟩ := isT_eq hk
     rw [List.tail_cons] at h
     obtain ⟨m, p2, h2, hh⟩ := then_inv h; replace h := hh; clear hh
     obtain ⟨b, rfl, hb, rfl⟩ := num_inv h2
     obtain ⟨o, c, vs, g, rfl, ho, hvs, hc, rfl⟩ := kids_inv ih h
     exact ⟨a :: b :: o :: (vs ++ [c]), by simp, Ex.atleast a b o c vs g ha hb ho hvs hc⟩
    ·split at h
     ·rename_i hk
      obtain ⟨a, p, rfl, ha⟩ := isT_eq hk
      rw [List.tail_cons] at h
      obtain ⟨g, p2, h2, hh⟩ := then_inv h; replace h := hh; clear hh
      obtain ⟨us, rfl, hu⟩ := ih _ _ _ h2
      simp only [Prod.mk.injEq, Option.some.injEq] at h
      obtain ⟨rfl, rfl⟩ := h
      exact ⟨a :: us, rfl, Ex.not a us g ha hu⟩
     ·split at h
      ·rename_i hk
       obtain ⟨a, p, rfl, ha⟩ := isT_eq hk
       simp only [Prod.mk.injEq, Option.some.injEq, List.tail_cons] at h
       obtain ⟨rfl, rfl⟩ := h
       exact ⟨[a], rfl, Ex.true a ha⟩
      ·split at h
       ·rename_i hk
        obtain ⟨a, p, rfl, ha⟩ := isT_eq hk
        simp only [Prod.mk.injEq, Option.some.injEq, List.tail_cons] at h
        obtain ⟨rfl, rfl⟩ := h
        exact ⟨[a], rfl, Ex.false a ha⟩
       ·split at h
        ·rename_i hk
         obtain ⟨a, p, rfl, ha⟩ := isT_eq hk
         rw [List.tail_cons] at h
         obtain ⟨g, p2, h2, hh⟩ := then_inv h; replace h := hh; clear hh
         obtain ⟨u, p3, h3, hh⟩ := then_inv h; replace h := hh; clear hh
         obtain ⟨us, rfl, hu⟩ := ih _ _ _ h2
         obtain ⟨c, rfl, hc⟩ := need_inv h3
         simp only [Prod.mk.injEq, Option.some.injEq] at h
         obtain ⟨rfl, rfl⟩ := h
         exact ⟨a :: (us ++ [c]), by simp, Ex.paren a c us g ha hu hc⟩
        ·exact cond_inv h
/-! what is derived is read -/
theorem isT_app {s : Tx} {a : Tok} (h : isT s [a] = Bool.true) (q : List Tok) : isT s (a :: q) = Bool.true := h
theorem need_ok {s : Tx} {a : Tok} (h : isT s [a] = Bool.true) (q : List Tok) : needR s (a :: q) = (some (), q) := by
 unfold needR; rw [if_pos (isT_app h q)]; rfl
theorem isT_text {s : Tx} {a : Tok} (h : isT s [a] = Bool.true) : a.kind = 2 ∧ a.text = s := by
 simp only [isT, Bool.and_eq_true, beq_iff_eq] at h; exact h
theorem isT_other {s s' : Tx} {a : Tok} {q : List Tok} (h : isT s [a] = Bool.true) (hs : (s == s') = Bool.false) : isT s' (a :: q) = Bool.false := by
 obtain ⟨h1, h2⟩ := isT_text h
 rw [isT, h1, h2, hs]; rfl
theorem isT_kind {s : Tx} {a : Tok} {q : List Tok} (h : a.kind ≠ 2) : isT s (a :: q) = Bool.false := by
 rw [isT, beq_eq_false_iff_ne.2 h]; rfl
theorem name_ok {a : Tok} (h : isN [a] = Bool.true) (q : List Tok) : nameR (a :: q) = (some a.text, q) := by
 unfold nameR; rw [if_pos (show isN (a :: q) = Bool.true from h)]; rfl
theorem isN_kind {a : Tok} (h : isN [a] = Bool.true) : a.kind = 0 ∧ isW [a] = Bool.false := by
 simp only [isN, Bool.and_eq_true, beq_iff_eq, Bool.not_eq_true'] at h; exact h
theorem isW_kind {a : Tok} (h : isW [a] = Bool.true) : a.kind = 0 := by
 simp only [isW, Bool.and_eq_true, beq_iff_eq] at h; exact h.1
theorem isM_kind {a : Tok} (h : isM [a] = Bool.true) : a.kind = 1 := by
 simp only [isM, beq_iff_eq] at h; exact h
theorem word_ok {a : Tok} (h : isW [a] = Bool.true) (q : List Tok) : wordR (a :: q) = (some a.text.tail.dropLast, q) := by
 unfold wordR; rw [if_pos (show isW (a :: q) = Bool.true from h)]; rfl
theorem num_ok {a : Tok} (h : isM [a] = Bool.true) (q : List Tok) : numR (a :: q) = (some (numV a.text), q) := by
 unfold numR; rw [if_pos (show isM (a :: q) = Bool.true from h)]; rfl
theorem pair_ok {s : Tx} {a d b : Tok} (ha : isN [a] = Bool.true) (hd : isT s [d] = Bool.true) (hb : isN [b] = Bool.true) (q : List Tok) : pairR s (a :: d :: b :: q) = (some (a.text, b.text), q) := by
 unfold pairR; rw [name_ok ha, then_some, need_ok hd, then_some, name_ok hb, then_some]
theorem value_ok {us : List Tok} {n : Nd} (h : Vl us n) (q : List Tok) : valueR (us ++ q) = (some n, q) := by
 cases h with
 | ref a d b ha hd hb =>
  have e : refR (a :: d :: b :: q) = (some (a.text, b.text), q) := pair_ok ha hd hb q
  show valueR (a :: d :: b :: q) = _
  unfold valueR
  rw [if_pos (show isN (a :: d :: b :: q) = Bool.true from ha), e]; rfl
 | word a ha =>
  show valueR (a :: q) = _
  unfold valueR
  have hN : isN (a :: q) = Bool.false := by
   rw [isN, show isW (a :: q) = Bool.true from ha]; simp
  rw [if_neg (by rw [hN]; decide), if_pos (show isW (a :: q) = Bool.true from ha), word_ok ha]; rfl
 | num a ha =>
  show valueR (a :: q) = _
  unfold valueR
  have hk := isM_kind ha
  have hW : isW (a :: q) = Bool.false := by rw [isW, hk]; rfl
  have hN : isN (a :: q) = Bool.false := by rw [isN, hk]; rfl
  rw [if_neg (by rw [hN]; decide), if_neg (by rw [hW]; decide), if_pos (show isM (a :: q) = Bool.true from ha), num_ok ha]; rfl
theorem Vl.first {us : List Tok} {n : Nd} (h : Vl us n) : ∃ a p, us = a :: p ∧ a.kind ≠ 2 ∧ a.kind ≠ 3 := by
 cases h with
 | ref a d b ha hd hb => exact ⟨a, _, rfl, by rw [(isN_kind ha).1]; decide, by rw [(isN_kind ha).1]; decide⟩
 | word a ha => exact ⟨a, _, rfl, by rw [isW_kind ha]; decide, by rw [isW_kind ha]; decide⟩
 | num a ha => exact ⟨a, _, rfl, by rw [isM_kind ha]; decide, by rw [isM_kind ha]; decide⟩
theorem leaf_ok {us : List Tok} {n : Nd} (h : Vl us n) (q : List Tok) : leafR (us ++ q) = (some (leaf n), q) := by
 unfold leafR; rw [value_ok h, then_some]
theorem Vl.len {us : List Tok} {n : Nd} (h : Vl us n) : 0 < us.length := by obtain ⟨a, p, rfl, _⟩ := h.first; simp
theorem vals_ok {us : List Tok} {g : F} (h : Vs us g) : ∀ k q, us.length ≤ k → isT sComma q = Bool.false → ∃ l, F.cat l = g ∧ listR leafR k (us ++ q) = (some l, q) := by
 induction h with
 | one us n hv =>
  intro k q hk hq
  have := hv.len
  obtain ⟨k, rfl⟩ : ∃ j, k = j + 1 := ⟨k - 1, by omega⟩
  refine ⟨[leaf n], by rw [F.cat, F.cat, F.app_nil], ?_⟩
  rw [listR, leaf_ok hv, then_some, hq]; rfl
 | more us n c vs g hv hc _ ih =>
  intro k q hk hq
  have := hv.len
  simp only [List.length_append, List.length_cons] at hk
  obtain ⟨k, rfl⟩ : ∃ j, k = j + 1 := ⟨k - 1, by omega⟩
  obtain ⟨l, hl, h2⟩ := ih k q (by omega) hq
  refine ⟨leaf n :: l, by rw [F.cat, hl], ?_⟩
  rw [List.append_assoc, List.cons_append, listR, leaf_ok hv, then_some, if_pos (isT_app hc _), List.tail_cons, h2, then_some]
theorem cmp_kind {a : Tok} {k : Nat} (h : cmpOf [a] = some k) : a.kind = 2 ∧ k < 6 ∧ cmps[k]? = some a.text := cmpOf_kind h
theorem isT_comma_close {a : Tok} (h : isT sClose [a] = Bool.true) (q : List Tok) : isT sComma (a :: q) = Bool.false := isT_other h (by decide)
theorem cmp_no {s : Tx} {a : Tok} {q : List Tok} (h : isT s [a] = Bool.true) (hs : (cmps.findIdx? (fun x => x == s)) = none) : cmpOf (a :: q) = none := by
 obtain ⟨h1, h2⟩ := isT_text h
 show (if (a.kind == 2) = Bool.true then cmps.findIdx? (fun s => s == a.text) else none) = none
 rw [h1, h2, hs]; rfl
theorem Ex.len {b : Bool} {us : List Tok} {f : F} (h : Ex b us f) : 0 < us.length := by
 induction h with
 | one _ _ _ ih => exact ih
 | more _ _ _ _ _ _ _ _ ih _ => rw [List.length_append]; omega
 | cmp us vs c k a b hv hc hb => rw [List.length_append]; have := hv.len; omega
 | between us vs ws c d a b e hv _ _ _ _ => rw [List.length_append]; have := hv.len; omega
 | in_ us vs c o d a g hv _ _ _ _ => rw [List.length_append]; have := hv.len; omega
 | _ => simp
theorem cond_way {us : List Tok} {n : Nd} (h : Vl us n) (k : Nat) (q : List Tok) : exprR (k + 1) (us ++ q) = condR (us ++ q) := by
 obtain ⟨a, p, rfl, h2, _⟩ := h.first
 rw [List.cons_append, exprR]
 simp only [isT_kind (q := p ++ q) h2, Bool.false_eq_true, if_false]
/-- what is derived is read -/
theorem expr_ok {b : Bool} {us : List Tok} {f : F} (h : Ex b us f) : match b with
  | .false => ∀ k q, us.length ≤ k → exprR k (us ++ q) = (some f, q)
  | .true => ∀ k n q, us.length ≤ k → us.length ≤ n → isT sComma q = Bool.false → ∃ l, F.cat l = f ∧ listR (exprR n) k (us ++ q) = (some l, q) := by
 induction h with
 | one us f h ih =>
  intro k n q hk hn hq
  have := h.len
  obtain ⟨k, rfl⟩ : ∃ j, k = j + 1 := ⟨k - 1, by omega⟩
  refine ⟨[f], by rw [F.cat, F.cat, F.app_nil], ?_⟩
  rw [listR, ih n q hn, then_some, hq]; rfl
 | more us f c vs g h hc hg ih ih2 =>
  intro k n q hk hn hq
  have := h.len
  simp only [List.length_append, List.length_cons] at hk hn
  obtain ⟨k, rfl⟩ : ∃ j, k = j + 1 := ⟨k - 1, by omega⟩
  obtain ⟨l, hl, h2⟩ := ih2 k n q (by omega) (by omega) hq
  refine ⟨f :: l, by rw [F.cat, hl], ?_⟩
  rw [List.append_assoc, List.cons_append, listR, ih n _ (by omega), then_some, if_pos (isT_app hc _), List.tail_cons, h2, then_some]
 | all a o c vs g ha ho hg hc ih =>
  intro k q hk
  simp only [List.length_cons, List.length_append, List.length_nil] at hk
  obtain ⟨k, rfl⟩ : ∃ j, k = j + 1 := ⟨k - 1, by omega⟩
  obtain ⟨l, hl, h2⟩ := ih (vs ++ c :: q).length k (c :: q) (by simp) (by omega) (isT_comma_close hc q)
  have e : a :: o :: (vs ++ [c]) ++ q = a :: o :: (vs ++ c :: q) := by simp
  rw [e, exprR, if_pos (isT_app ha _)]
  unfold kidsR
  rw [List.tail_cons, need_ok ho, then_some, h2, then_some, need_ok hc, then_some, hl]; rfl
 | any a o c vs g ha ho hg hc ih =>
  intro k q hk
  simp only [List.length_cons, List.length_append, List.length_nil] at hk
  obtain ⟨k, rfl⟩ : ∃ j, k = j + 1 := ⟨k - 1, by omega⟩
  obtain ⟨l, hl, h2⟩ := ih (vs ++ c :: q).length k (c :: q) (by simp) (by omega) (isT_comma_close hc q)
  have e : a :: o :: (vs ++ [c]) ++ q = a :: o :: (vs ++ c :: q) := by simp
  rw [e, exprR, isT_other ha (s' := kAll) (by decide), if_neg Bool.false_ne_true, if_pos (isT_app ha _)]
  unfold kidsR
  rw [List.tail_cons, need_ok ho, then_some, h2, then_some, need_ok hc, then_some, hl]; rfl
 | atleast a m o c vs g ha hm ho hg hc ih =>
  intro k q hk
  simp only [List.length_cons, List.length_append, List.length_nil] at hk
  obtain ⟨k, rfl⟩ : ∃ j, k = j + 1 := ⟨k - 1, by omega⟩
  obtain ⟨l, hl, h2⟩ := ih (vs ++ c :: q).length k (c :: q) (by simp) (by omega) (isT_comma_close hc q)
  have e : a :: m :: o :: (vs ++ [c]) ++ q = a :: m :: o :: (vs ++ c :: q) := by simp
  rw [e, exprR, isT_other ha (s' := kAll) (by decide), if_neg Bool.false_ne_true, isT_other ha (s' := kAny) (by decide), if_neg Bool.false_ne_true, if_pos (isT_app ha _), List.tail_cons, num_ok hm, then_some]
  unfold kidsR
  rw [need_ok ho, then_some, h2, then_some, need_ok hc, then_some, hl]; rfl
 | not a us f ha hf ih =>
  intro k q hk
  simp only [List.length_cons] at hk
  obtain ⟨k, rfl⟩ : ∃ j, k = j + 1 := ⟨k - 1, by omega⟩
  rw [List.cons_append, exprR, isT_other ha (s' := kAll) (by decide), if_neg Bool.false_ne_true, isT_other ha (s' := kAny) (by decide), if_neg Bool.false_ne_true, isT_other ha (s' := kAtleast) (by decide), if_neg Bool.false_ne_true, if_pos (isT_app ha _), List.tail_cons, ih k q (by omega), then_some]; rfl
 | true a ha =>
  intro k q hk
  simp only [List.length_cons] at hk
  obtain ⟨k, rfl⟩ : ∃ j, k = j + 1 := ⟨k - 1, by omega⟩
  show exprR (k + 1) (a :: q) = _
  rw [exprR, isT_other ha (s' := kAll) (by decide), if_neg Bool.false_ne_true, isT_other ha (s' := kAny) (by decide), if_neg Bool.false_ne_true, isT_other ha (s' := kAtleast) (by decide), if_neg Bool.false_ne_true, isT_other ha (s' := kNot) (by decide), if_neg Bool.false_ne_true, if_pos (isT_app ha _)]; rfl
 | false a ha =>
  intro k q hk
  simp only [List.length_cons] at hk
  obtain ⟨k, rfl⟩ : ∃ j, k = j + 1 := ⟨k - 1, by omega⟩
  show exprR (k + 1) (a :: q) = _
  rw [exprR, isT_other ha (s' := kAll) (by decide), if_neg Bool.false_ne_true, isT_other ha (s' := kAny) (by decide), if_neg Bool.false_ne_true, isT_other ha (s' := kAtleast) (by decide), if_neg Bool.false_ne_true, isT_other ha (s' := kNot) (by decide), if_neg Bool.false_ne_true, isT_other ha (s' := kTrue) (by decide), if_neg Bool.false_ne_true, if_pos (isT_app ha _)]; rfl
 | paren o c us f ha hf hc ih =>
  intro k q hk
  simp only [List.length_cons, List.length_append, List.length_nil] at hk
  obtain ⟨k, rfl⟩ : ∃ j, k = j + 1 := ⟨k - 1, by omega⟩
  have e : o :: (us ++ [c]) ++ q = o :: (us ++ c :: q) := by simp
  rw [e, exprR, isT_other ha (s' := kAll) (by decide), if_neg Bool.false_ne_true, isT_other ha (s' := kAny) (by decide), if_neg Bool.false_ne_true, isT_other ha (s' := kAtleast) (by decide), if_neg Bool.false_ne_true, isT_other ha (s' := kNot) (by decide), if_neg Bool.false_ne_true, isT_other ha (s' := kTrue) (by decide), if_neg Bool.false_ne_true, isT_other ha (s' := kFalse) (by decide), if_neg Bool.false_ne_true, if_pos (isT_app ha _), List.tail_cons, ih k _ (by omega), then_some, need_ok hc, then_some]
 | cmp us vs c j a b hv hc hb =>
  intro k q hk
  have := hv.len
  simp only [List.length_cons, List.length_append] at hk
  obtain ⟨k, rfl⟩ : ∃ j, k = j + 1 := ⟨k - 1, by omega⟩
  rw [List.append_assoc, cond_way hv]
  unfold condR
  rw [value_ok hv, then_some, List.cons_append, show cmpOf (c :: (vs ++ q)) = some j from hc, atT_app hv]
  dsimp only
  rw [List.tail_cons, value_ok hb, then_some]
 | between us vs ws c d a b e hv hc hb hd he =>
  intro k q hk
  have := hv.len
  simp only [List.length_cons, List.length_append] at hk
  obtain ⟨k, rfl⟩ : ∃ j, k = j + 1 := ⟨k - 1, by omega⟩
  rw [List.append_assoc, cond_way hv]
  unfold condR
  rw [value_ok hv, then_some, List.cons_append, cmp_no hc (by decide), atT_app hv]
  dsimp only
  rw [if_pos (isT_app hc _), List.tail_cons, List.append_assoc, value_ok hb, then_some, List.cons_append, need_ok hd, then_some, value_ok he, then_some]
 | in_ us vs c o d a g hv hc ho hg hd =>
  intro k q hk
  have := hv.len
  simp only [List.length_cons, List.length_append] at hk
  obtain ⟨k, rfl⟩ : ∃ j, k = j + 1 := ⟨k - 1, by omega⟩
  obtain ⟨l, hl, h2⟩ := vals_ok hg (vs ++ d :: q).length (d :: q) (by simp) (isT_other hd (by decide))
  have e : us ++ c :: o :: (vs ++ [d]) ++ q = us ++ (c :: o :: (vs ++ d :: q)) := by simp
  rw [e, cond_way hv]
  unfold condR
  rw [value_ok hv, then_some, cmp_no hc (by decide), atT_app hv]
  dsimp only
  rw [isT_other hc (s' := kBetween) (by decide), if_neg Bool.false_ne_true, if_pos (isT_app hc _), List.tail_cons, need_ok ho, then_some, h2, then_some, need_ok hd, then_some, hl]
end Go.Proofs.YtogmhaihmkcjgaaGreatDoor.Pa

/-
 The grammar of whole policies; a source that goes on behind white space. No program in sight.
-/
namespace Go.Proofs.YtogmhaihmkcjgaaGreatDoor.Lx
set_option linter.unusedVariables false

/-- white space or comments in front, at this place -/
theorem Sc.gapx {g : List UInt8} {a : Nat} {l : List UInt8} {ts : List Tok} (hg : sk false (g ++ l) = g.length + sk false l) (h : Sc (a + g.length) l ts) : Sc a (g ++ l) ts := by
 have hd : (g ++ l).drop (sk false (g ++ l)) = l.drop (sk false l) := by rw [hg, List.drop_append]; simp
 generalize ha : a + g.length = b at h
 cases h with
 | done _ _ h1 =>
  have := Sc.done a (g ++ l) (by rw [hd]; exact h1)
  rw [hg] at this
  rw [← ha, Nat.add_assoc]; exact this
 | step _ _ k n ts ht hl h =>
  have := Sc.step a (g ++ l) k n ts (by rw [hd]; exact ht) (by rw [hd]; exact hl) (by rw [hd, hg, ← Nat.add_assoc, ha]; exact h)
  rw [hd, hg, ← Nat.add_assoc, ha] at this
  exact this
theorem sk_line_all : ∀ (r : List UInt8), (∀ x ∈ r, x ≠ 10) → sk true r = r.length
 | [], _ => rfl
 | c :: r, h => by
  rw [sk_in (by rw [beq_eq_false_iff_ne]; exact h c (List.mem_cons_self ..)), sk_line_all r fun x hx => h x (List.mem_cons_of_mem _ hx)]; rfl
/-- a token, and what goes on behind it -/
theorem Sc.stepx {a k n : Nat} {l : List UInt8} (ht : tk (l.drop (sk false l)) = .inr (k, n)) (hl : ¬ (k = 1 ∧ luAt ((l.drop (sk false l)).drop n) = true)) {c : UInt8} {r : List UInt8} (hc : isSp c = true) {T : List Tok}
  (h : Sc (a + sk false l + n) ((l.drop (sk false l)).drop n ++ c :: r) T) : Sc a (l ++ c :: r) (⟨k, (l.drop (sk false l)).take n, a + sk false l⟩ :: T) := by
 have hlen := tk_len ht
 have hne := tk_ne ht
 have hsk := sk_le false l
 obtain ⟨b', g1, g2⟩ := sk_own l
 have hb : b' = false := by
  cases b' with
  | false => rfl
  | true => exact (hne (sk_true_pos g2)).elim
 subst hb
 have hs0 : sk false (l.drop (sk false l) ++ c :: r) = 0 := by
  cases hm : l.drop (sk false l) with
  | nil => exact absurd hm hne
  | cons d p =>
   rw [hm] at g2
   rw [List.cons_append]
   exact sk_same g2
 have hs : sk false (l ++ c :: r) = sk false l := by
  have e : l ++ c :: r = l.take (sk false l) ++ (l.drop (sk false l) ++ c :: r) := by rw [← List.append_assoc, List.take_append_drop]
  rw [e, g1, hs0]; rfl
 have hd : (l ++ c :: r).drop (sk false l) = l.drop (sk false l) ++ c :: r := List.drop_append_of_le_length hsk
 generalize l.drop (sk false l) = m at *
 have hlk : Look (m.drop n) (m.drop n ++ c :: r) := by
  cases hm : m.drop n with
  | nil => exact .inr (.inr ⟨c, r, rfl, .inl hc⟩)
  | cons d q => exact .inl rfl
 have htk := tk_look ht hlk
 rw [← List.append_assoc, List.take_append_drop] at htk
 have e1 : (m ++ c :: r).drop n = m.drop n ++ c :: r := List.drop_append_of_le_length hlen.2
 have e2 : (m ++ c :: r).take n = m.take n := List.take_append_of_le_length hlen.2
 have hnl : ¬ (k = 1 ∧ luAt (m.drop n ++ c :: r) = true) := by
  rintro ⟨h1, h2⟩
  cases hm : m.drop n with
  | nil =>
   rw [hm] at h2
   have := (sep_not c (.inl hc)).2.2.1
   rw [show luAt ([] ++ c :: r) = isLU c from rfl, this] at h2
   cases h2
  | cons d q =>
   rw [hm] at h2 hl
   exact hl ⟨h1, h2⟩
 have h4 := Sc.step a (l ++ c :: r) k n T (by rw [hs, hd]; exact htk) (by rw [hs, hd, e1]; exact hnl) (by rw [hs, hd, e1]; exact h)
 rw [hs, hd, e2] at h4
 exact h4
/-- what goes on behind a source: either its last bytes are a comment, which swallows all up to the next newline, or they are not -/
theorem Sc.ext {a : Nat} {l : List UInt8} {ts : List Tok} (h : Sc a l ts) : ∃ us b, ts = us ++ [⟨3, [], a + l.length⟩] ∧
  (∀ c r ts', (b = true → c = 10) → isSp c = true → Sc (a + l.length) (c :: r) ts' → Sc a (l ++ c :: r) (us ++ ts')) ∧
  (b = true → ∀ c r, isSp c = true → (∀ x ∈ c :: r, x ≠ 10) → Sc a (l ++ c :: r) (us ++ [⟨3, [], a + l.length + (c :: r).length⟩])) := by
 induction h with
 | done a l h =>
  have hs : sk false l = l.length := by
   have := sk_le false l
   have h1 := congrArg List.length h
   rw [List.length_drop, List.length_nil] at h1
   omega
  obtain ⟨b', g1, g2⟩ := sk_gap (b := false) (g := l) (r := []) (by rw [List.append_nil]; exact hs)
  refine ⟨[], b', by rw [hs]; rfl, fun c r ts' hb hc h' => ?_, fun hb c r hc hr => ?_⟩
  ·rw [List.nil_append]
   refine Sc.gapx ?_ h'
   rw [g1]
   cases b' with
   | false => rfl
   | true =>
    obtain rfl := hb rfl
    rw [sk_nl, sk_sp (by decide)]
  ·subst hb
   have e : sk false (l ++ c :: r) = l.length + (c :: r).length := by rw [g1, sk_line_all _ hr]
   have := Sc.done a (l ++ c :: r) (by rw [e, List.drop_of_length_le (by simp)])
   rw [e, ← Nat.add_assoc] at this
   exact this
 | step a l k n ts ht hl h ih =>
  obtain ⟨us, b, rfl, h1, h2⟩ := ih
  have hlen := tk_len ht
  have hsk := sk_le false l
  have e : a + sk false l + n + ((l.drop (sk false l)).drop n).length = a + l.length := by
   rw [List.length_drop] at hlen ⊢
   rw [List.length_drop]
   omega
  rw [e] at h1 h2 ⊢
  exact ⟨⟨k, (l.drop (sk false l)).take n, a + sk false l⟩ :: us, b, rfl, fun c r ts' hb hc h' => Sc.stepx ht hl hc (h1 c r ts' hb hc h'), fun hb c r hc hr => Sc.stepx ht hl hc (h2 hb c r hc hr)⟩
end Go.Proofs.YtogmhaihmkcjgaaGreatDoor.Lx
namespace Go.Proofs.YtogmhaihmkcjgaaGreatDoor.Pa
open Lx (Tok)
set_option linter.unusedVariables false

/-- pairs of names, separated by commas -/
inductive Ps (s : Tx) : List Tok → List (Tx × Tx) → Prop
 | one (a d b : Tok) : isN [a] = true → isT s [d] = true → isN [b] = true → Ps s [a, d, b] [(a.text, b.text)]
 | more (a d b c : Tok) (vs : List Tok) (l : List (Tx × Tx)) : isN [a] = true → isT s [d] = true → isN [b] = true → isT sComma [c] = true → Ps s vs l → Ps s (a :: d :: b :: c :: vs) ((a.text, b.text) :: l)
/-- the part 'reveal' -/
inductive Rv : List Tok → List (Tx × Tx) → Prop
 | none : Rv [] []
 | some (r : Tok) (vs : List Tok) (l : List (Tx × Tx)) : isT kReveal [r] = true → Ps sDot vs l → Rv (r :: vs) l
/-- the part 'prove'; the offset of the token behind it -/
inductive Pv (at_ : Nat) : List Tok → F → Prop
 | none : Pv at_ [] (leaf ⟨0, 0, [], [], at_⟩)
 | some (r : Tok) (vs : List Tok) (f : F) : isT kProve [r] = true → Ex false vs f → Pv at_ (r :: vs) f
/-- the part 'scope' -/
inductive So : List Tok → Tx × Int → Prop
 | none : So [] ([], 0)
 | one (s w : Tok) : isT kScope [s] = true → isW [w] = true → So [s, w] (w.text.tail.dropLast, 0)
 | both (s w l n : Tok) : isT kScope [s] = true → isW [w] = true → isT kLimit [l] = true → isM [n] = true → So [s, w, l, n] (w.text.tail.dropLast, numV n.text)
/-- the part 'escrow' -/
inductive Eo : List Tok → Tx → Prop
 | none : Eo [] []
 | some (s n : Tok) : isT kEscrow [s] = true → isN [n] = true → Eo [s, n] n.text
theorem pairs_inv (s : Tx) : ∀ k ts q l, listR (pairR s) k ts = (some l, q) → ∃ us, ts = us ++ q ∧ Ps s us l
 | 0, ts, q, l, h => by cases h
 | k + 1, ts, q, l, h => by
  rw [listR] at h
  obtain ⟨x, p, h1, hh⟩ := then_inv h; replace h := hh; clear hh
  obtain ⟨a, d, b, rfl, ha, hd, hb, rfl⟩ := pair_inv h1
  split at h
  ·rename_i hc
   obtain ⟨l', p', h2, hh⟩ := then_inv h; replace h := hh; clear hh
   obtain ⟨c, p2, rfl, hc2⟩ := isT_eq hc
   obtain ⟨vs, e, hvs⟩ := pairs_inv s k _ _ _ h2
   simp only [Prod.mk.injEq, Option.some.injEq] at h
   obtain ⟨rfl, rfl⟩ := h
   rw [List.tail_cons] at e
   subst e
   exact ⟨a :: d :: b :: c :: vs, rfl, Ps.more a d b c vs _ ha hd hb hc2 hvs⟩
  ·simp only [Prod.mk.injEq, Option.some.injEq] at h
   obtain ⟨rfl, rfl⟩ := h
   exact ⟨[a, d, b], rfl, Ps.one a d b ha hd hb⟩
theorem pairs_ok {s : Tx} {us : List Tok} {l : List (Tx × Tx)} (h : Ps s us l) : ∀ k q, us.length ≤ k → isT sComma q = Bool.false → listR (pairR s) k (us ++ q) = (some l, q) := by
 induction h with
 | one a d b ha hd hb =>
  intro k q hk hq
  simp only [List.length_cons, List.length_nil] at hk
  obtain ⟨k, rfl⟩ : ∃ j, k = j + 1 := ⟨k - 1, by omega⟩
  show listR (pairR s) (k + 1) (a :: d :: b :: q) = _
  rw [listR, pair_ok ha hd hb, then_some, hq]; rfl
 | more a d b c vs l ha hd hb hc _ ih =>
  intro k q hk hq
  simp only [List.length_cons] at hk
  obtain ⟨k, rfl⟩ : ∃ j, k = j + 1 := ⟨k - 1, by omega⟩
  show listR (pairR s) (k + 1) (a :: d :: b :: c :: (vs ++ q)) = _
  rw [listR, pair_ok ha hd hb, then_some, if_pos (isT_app hc _), List.tail_cons, ih k q (by omega) hq, then_some]
theorem reveal_inv {ts q : List Tok} {l : List (Tx × Tx)} (h : revealR ts = (some l, q)) : ∃ us, ts = us ++ q ∧ Rv us l := by
 unfold revealR at h
 split at h
 ·rename_i hk
  obtain ⟨a, p, rfl, ha⟩ := isT_eq hk
  rw [List.tail_cons] at h
  obtain ⟨us, rfl, hu⟩ := pairs_inv _ _ _ _ _ h
  exact ⟨a :: us, rfl, Rv.some a us l ha hu⟩
 ·simp only [Prod.mk.injEq, Option.some.injEq] at h
  obtain ⟨rfl, rfl⟩ := h
  exact ⟨[], rfl, Rv.none⟩
theorem prove_inv {ts q : List Tok} {f : F} (h : proveR ts = (some f, q)) : ∃ us, ts = us ++ q ∧ Pv (atT q) us f := by
 unfold proveR at h
 split at h
 ·rename_i hk
  obtain ⟨a, p, rfl, ha⟩ := isT_eq hk
  rw [List.tail_cons] at h
  obtain ⟨us, rfl, hu⟩ := expr_inv _ _ _ _ h
  exact ⟨a :: us, rfl, Pv.some a us f ha hu⟩
 ·simp only [Prod.mk.injEq, Option.some.injEq] at h
  obtain ⟨rfl, rfl⟩ := h
  exact ⟨[], rfl, Pv.none⟩
theorem scope_inv {ts q : List Tok} {s : Tx × Int} (h : scopeR ts = (some s, q)) : ∃ us, ts = us ++ q ∧ So us s := by
 unfold scopeR at h
 split at h
 ·rename_i hk
  obtain ⟨a, p, rfl, ha⟩ := isT_eq hk
  rw [List.tail_cons] at h
  obtain ⟨x, p, h1, hh⟩ := then_inv h; replace h := hh; clear hh
  obtain ⟨w, rfl, hw, rfl⟩ := word_inv h1
  split at h
  ·rename_i hl
   obtain ⟨l, p2, rfl, hl2⟩ := isT_eq hl
   rw [List.tail_cons] at h
   obtain ⟨x, p, h1, hh⟩ := then_inv h; replace h := hh; clear hh
   obtain ⟨n, rfl, hn, rfl⟩ := num_inv h1
   simp only [Prod.mk.injEq, Option.some.injEq] at h
   obtain ⟨rfl, rfl⟩ := h
   exact ⟨[a, w, l, n], rfl, So.both a w l n ha hw hl2 hn⟩
  ·simp only [Prod.mk.injEq, Option.some.injEq] at h
   obtain ⟨rfl, rfl⟩ := h
   exact ⟨[a, w], rfl, So.one a w ha hw⟩
 ·simp only [Prod.mk.injEq, Option.some.injEq] at h
  obtain ⟨rfl, rfl⟩ := h
  exact ⟨[], rfl, So.none⟩
theorem escrow_inv {ts q : List Tok} {s : Tx} (h : escrowR ts = (some s, q)) : ∃ us, ts = us ++ q ∧ Eo us s := by
 unfold escrowR at h
 split at h
 ·rename_i hk
  obtain ⟨a, p, rfl, ha⟩ := isT_eq hk
  rw [List.tail_cons] at h
  obtain ⟨n, rfl, hn, rfl⟩ := name_inv h
  exact ⟨[a, n], rfl, Eo.some a n ha hn⟩
 ·simp only [Prod.mk.injEq, Option.some.injEq] at h
  obtain ⟨rfl, rfl⟩ := h
  exact ⟨[], rfl, Eo.none⟩
/-- a policy's tokens -/
structure Pg (ts : List Tok) (p : Pl) (q : List Tok) (a b c e z : Tok) (us rv pv so eo : List Tok) : Prop where
 eq : ts = a :: b :: c :: (us ++ (rv ++ (pv ++ (so ++ (eo ++ e :: z :: q)))))
 pol : isT kPolicy [a] = true
 nm : isN [b] = true
 uses : isT kUses [c] = true
 us : Ps sColon us p.uses
 rv : Rv rv p.reveal
 pv : Pv (atT (so ++ (eo ++ e :: z :: q))) pv p.root
 so : So so (p.scope, p.limit)
 eo : Eo eo p.escrow
 end_ : isT kEnd [e] = true
 z : isE [z] = true
 name : p.name = b.text
theorem policy_inv {ts q : List Tok} {p : Pl} (h : policyR ts = (some p, q)) : ∃ a b c e z us rv pv so eo q', q = z :: q' ∧ Pg ts p q' a b c e z us rv pv so eo := by
 rw [policy_p] at h
 obtain ⟨u, p1, h1, hh⟩ := then_inv h; replace h := hh; clear hh
 obtain ⟨nm, p2, h2, hh⟩ := then_inv h; replace h := hh; clear hh
 unfold p0 at h
 obtain ⟨u, p3, h3, hh⟩ := then_inv h; replace h := hh; clear hh
 unfold Pa.p1 at h
 obtain ⟨us, p4, h4, hh⟩ := then_inv h; replace h := hh; clear hh
 unfold Pa.p2 at h
 obtain ⟨rv, p5, h5, hh⟩ := then_inv h; replace h := hh; clear hh
 unfold Pa.p3 at h
 obtain ⟨f, p6, h6, hh⟩ := then_inv h; replace h := hh; clear hh
 unfold Pa.p4 at h
 obtain ⟨s, p7, h7, hh⟩ := then_inv h; replace h := hh; clear hh
 unfold Pa.p5 at h
 obtain ⟨x, p8, h8, hh⟩ := then_inv h; replace h := hh; clear hh
 unfold Pa.p6 at h
 obtain ⟨u, p9, h9, hh⟩ := then_inv h; replace h := hh; clear hh
 unfold endR at h
 split at h
 ·rename_i hz
  simp only [Prod.mk.injEq, Option.some.injEq] at h
  obtain ⟨rfl, rfl⟩ := h
  obtain ⟨a, rfl, ha⟩ := need_inv h1
  obtain ⟨b, rfl, hb, rfl⟩ := name_inv h2
  obtain ⟨c, rfl, hc⟩ := need_inv h3
  obtain ⟨us', rfl, hus⟩ := pairs_inv _ _ _ _ _ h4
  obtain ⟨rv', rfl, hrv⟩ := reveal_inv h5
  obtain ⟨pv', rfl, hpv⟩ := prove_inv h6
  obtain ⟨so', rfl, hso⟩ := scope_inv h7
  obtain ⟨eo', rfl, heo⟩ := escrow_inv h8
  obtain ⟨e, rfl, he⟩ := need_inv h9
  cases p9 with
  | nil => cases hz
  | cons z q' => exact ⟨a, b, c, e, z, us', rv', pv', so', eo', q', rfl, rfl, ha, hb, hc, hus, hrv, hpv, hso, heo, he, hz, rfl⟩
 ·cases h
/-- the first token of what follows is one of these -/
theorem eo_hd {eo : List Tok} {x : Tx} (h : Eo eo x) {e : Tok} (he : isT kEnd [e] = true) (q : List Tok) {s : Tx} (h1 : (kEscrow == s) = Bool.false) (h2 : (kEnd == s) = Bool.false) : isT s (eo ++ e :: q) = Bool.false := by
 cases h with
 | none => exact isT_other he h2
 | some a n ha hn => exact isT_other ha h1
theorem so_hd {so eo : List Tok} {x : Tx} {y : Tx × Int} (hs : So so y) (h : Eo eo x) {e : Tok} (he : isT kEnd [e] = true) (q : List Tok) {s : Tx} (h0 : (kScope == s) = Bool.false) (h1 : (kEscrow == s) = Bool.false) (h2 : (kEnd == s) = Bool.false) : isT s (so ++ (eo ++ e :: q)) = Bool.false := by
 cases hs with
 | none => exact eo_hd h he q h1 h2
 | one a w ha hw => exact isT_other ha h0
 | both a w l n ha hw hl hn => exact isT_other ha h0
theorem pv_hd {pv so eo : List Tok} {x : Tx} {y : Tx × Int} {f : F} {n : Nat} (hp : Pv n pv f) (hs : So so y) (h : Eo eo x) {e : Tok} (he : isT kEnd [e] = true) (q : List Tok) {s : Tx} (h3 : (kProve == s) = Bool.false) (h0 : (kScope == s) = Bool.false) (h1 : (kEscrow == s) = Bool.false) (h2 : (kEnd == s) = Bool.false) : isT s (pv ++ (so ++ (eo ++ e :: q))) = Bool.false := by
 cases hp with
 | none => exact so_hd hs h he q h0 h1 h2
 | some a w f ha hw => exact isT_other ha h3
theorem rv_hd {rv pv so eo : List Tok} {l : List (Tx × Tx)} {x : Tx} {y : Tx × Int} {f : F} {n : Nat} (hr : Rv rv l) (hp : Pv n pv f) (hs : So so y) (h : Eo eo x) {e : Tok} (he : isT kEnd [e] = true) (q : List Tok) {s : Tx} (h4 : (kReveal == s) = Bool.false) (h3 : (kProve == s) = Bool.false) (h0 : (kScope == s) = Bool.false) (h1 : (kEscrow == s) = Bool.false) (h2 : (kEnd == s) = Bool.false) : isT s (rv ++ (pv ++ (so ++ (eo ++ e :: q)))) = Bool.false := by
 cases hr with
 | none => exact pv_hd hp hs h he q h3 h0 h1 h2
 | some a w l ha hw => exact isT_other ha h4
theorem reveal_ok {rv : List Tok} {l : List (Tx × Tx)} (h : Rv rv l) (q : List Tok) (h1 : isT kReveal q = Bool.false) (h2 : isT sComma q = Bool.false) : revealR (rv ++ q) = (some l, q) := by
 cases h with
 | none => unfold revealR; rw [List.nil_append, h1]; rfl
 | some a vs _ ha hv =>
  unfold revealR
  rw [List.cons_append, if_pos (isT_app ha _), List.tail_cons]
  exact pairs_ok hv _ q (by simp only [List.length_cons, List.length_append]; omega) h2
theorem prove_ok {pv : List Tok} {f : F} (q : List Tok) (h : Pv (atT q) pv f) (h1 : isT kProve q = Bool.false) : proveR (pv ++ q) = (some f, q) := by
 cases h with
 | none => unfold proveR; rw [List.nil_append, h1]; rfl
 | some a vs _ ha hv =>
  unfold proveR
  rw [List.cons_append, if_pos (isT_app ha _), List.tail_cons]
  exact (expr_ok hv) _ q (by simp; omega)
theorem scope_ok {so : List Tok} {s : Tx × Int} (h : So so s) (q : List Tok) (h1 : isT kScope q = Bool.false) (h2 : isT kLimit q = Bool.false) : scopeR (so ++ q) = (some s, q) := by
 cases h with
 | none => unfold scopeR; rw [List.nil_append, h1]; rfl
 | one a w ha hw =>
  show scopeR (a :: w :: q) = _
  unfold scopeR
  rw [if_pos (isT_app ha _), List.tail_cons, word_ok hw, then_some, h2]; rfl
 | both a w l n ha hw hl hn =>
  show scopeR (a :: w :: l :: n :: q) = _
  unfold scopeR
  rw [if_pos (isT_app ha _), List.tail_cons, word_ok hw, then_some, if_pos (isT_app hl _), List.tail_cons, num_ok hn]; rfl
theorem escrow_ok {eo : List Tok} {s : Tx} (h : Eo eo s) (q : List Tok) (h1 : isT kEscrow q = Bool.false) : escrowR (eo ++ q) = (some s, q) := by
 cases h with
 | none => unfold escrowR; rw [List.nil_append, h1]; rfl
 | some a n ha hn =>
  show escrowR (a :: n :: q) = _
  unfold escrowR
  rw [if_pos (isT_app ha _), List.tail_cons, name_ok hn]
theorem policy_ok {ts q : List Tok} {p : Pl} {a b c e z : Tok} {us rv pv so eo : List Tok} (h : Pg ts p q a b c e z us rv pv so eo) : policyR ts = (some p, z :: q) := by
 obtain ⟨rfl, h1, h2, h3, h4, h5, h6, h7, h8, h9, h10, h11⟩ := h
 rw [policy_p, need_ok h1, then_some, name_ok h2, then_some]
 unfold p0
 rw [need_ok h3, then_some]
 unfold p1
 rw [pairs_ok h4 _ _ (by simp) (rv_hd h5 h6 h7 h8 h9 _ (by decide) (by decide) (by decide) (by decide) (by decide)), then_some]
 unfold p2
 rw [reveal_ok h5 _ (pv_hd h6 h7 h8 h9 _ (by decide) (by decide) (by decide) (by decide)) (pv_hd h6 h7 h8 h9 _ (by decide) (by decide) (by decide) (by decide)), then_some]
 unfold p3
 rw [prove_ok _ h6 (so_hd h7 h8 h9 _ (by decide) (by decide) (by decide)), then_some]
 unfold p4
 rw [scope_ok h7 _ (eo_hd h8 h9 _ (by decide) (by decide)) (eo_hd h8 h9 _ (by decide) (by decide)), then_some]
 unfold p5
 rw [escrow_ok h8 _ (isT_other h9 (by decide)), then_some]
 unfold p6
 rw [need_ok h9, then_some]
 unfold endR
 rw [if_pos (show isE (z :: q) = Bool.true from h10), ← h11]
end Go.Proofs.YtogmhaihmkcjgaaGreatDoor.Pa

/-
 Which nodes are reached, and the tidy policy, in plain words. No program in sight.
-/
namespace Go.Proofs.YtogmhaihmkcjgaaGreatDoor
set_option linter.unusedVariables false

/-- kids one after the other, as long as all goes well -/
def loopB (v : Int → List Int → Bool × List Int) : List Int → List Int → Bool × List Int
 | [], S => (true, S)
 | k :: r, S => if (v k S).1 = false then v k S else loopB v r (v k S).2
/-- the nodes that are reached from a node, in preorder; false if that is not a tree -/
def reachP (ns : List Nk) : Nat → Int → List Int → Bool × List Int
 | 0, _, S => (false, S)
 | f + 1, a, S =>
  if a < 0 ∨ (ns.length : Int) ≤ a ∨ a ∈ S ∨ S.length = 512 then (false, S)
  else match ns[a.toNat]? with
   | none => (false, S)
   | some n => loopB (fun k S => reachP ns f k S) n.kids (S ++ [a])
theorem reachP_out {ns : List Nk} {f : Nat} {a : Int} {S : List Int} (h : a < 0 ∨ (ns.length : Int) ≤ a ∨ a ∈ S ∨ S.length = 512) : reachP ns (f + 1) a S = (false, S) := by
 rw [reachP, if_pos h]
theorem reachP_in {ns : List Nk} {f : Nat} {a : Int} {S : List Int} {n : Nk} (h : ¬ (a < 0 ∨ (ns.length : Int) ≤ a ∨ a ∈ S ∨ S.length = 512)) (hn : ns[a.toNat]? = some n) : reachP ns (f + 1) a S = loopB (fun k S => reachP ns f k S) n.kids (S ++ [a]) := by
 rw [reachP, if_neg h, hn]
/-- what was reached: once each, in range, not too many -/
structure Rch (ns : List Nk) (S : List Int) : Prop where
 met : Met ns S
 len : S.length ≤ 512
theorem Rch.snoc {ns : List Nk} {S : List Int} {a : Int} (h : Rch ns S) (h2 : ¬ (a < 0 ∨ (ns.length : Int) ≤ a ∨ a ∈ S ∨ S.length = 512)) : Rch ns (S ++ [a]) := by
 refine ⟨h.met.snoc fun h9 => h2 (by rcases h9 with h | h | h; exact .inl h; exact .inr (.inl h); exact .inr (.inr (.inl h))), ?_⟩
 have h3 := h.len
 have h4 : S.length ≠ 512 := fun h9 => h2 (.inr (.inr (.inr h9)))
 rw [List.length_append, List.length_singleton]; omega
theorem loopB_rch {ns : List Nk} {v : Int → List Int → Bool × List Int} (hv : ∀ k S, Rch ns S → Rch ns (v k S).2 ∧ S.length ≤ (v k S).2.length) : ∀ l S, Rch ns S → Rch ns (loopB v l S).2 ∧ S.length ≤ (loopB v l S).2.length
 | [], S, h => ⟨h, Nat.le_refl _⟩
 | k :: r, S, h => by
  have h1 := hv k S h
  rw [loopB]
  split
  ·exact h1
  ·have h2 := loopB_rch hv r _ h1.1
   exact ⟨h2.1, Nat.le_trans h1.2 h2.2⟩
theorem reachP_rch (ns : List Nk) : ∀ f a S, Rch ns S → Rch ns (reachP ns f a S).2 ∧ S.length ≤ (reachP ns f a S).2.length
 | 0, a, S, h => ⟨h, Nat.le_refl _⟩
 | f + 1, a, S, h => by
  by_cases hb : a < 0 ∨ (ns.length : Int) ≤ a ∨ a ∈ S ∨ S.length = 512
  ·rw [reachP_out hb]; exact ⟨h, Nat.le_refl _⟩
  ·obtain ⟨n, hn⟩ : ∃ n, ns[a.toNat]? = some n := ⟨_, List.getElem?_eq_getElem (by
    have h1 : ¬ a < 0 := fun h => hb (.inl h)
    have h2 : ¬ (ns.length : Int) ≤ a := fun h => hb (.inr (.inl h))
    omega)⟩
   rw [reachP_in hb hn]
   have h2 := loopB_rch (fun k S h => reachP_rch ns f k S h) n.kids _ (h.snoc hb)
   exact ⟨h2.1, Nat.le_trans (by rw [List.length_append]; omega) h2.2⟩
/-- what was reached, if all went well, holds the kids of what is new -/
structure Clo (ns : List Nk) (S T : List Int) : Prop where
 sub : ∀ x ∈ S, x ∈ T
 kids : ∀ b ∈ T, b ∉ S → ∀ n, ns[b.toNat]? = some n → ∀ k ∈ n.kids, k ∈ T
theorem Clo.trans {ns : List Nk} {A B C : List Int} (h : Clo ns A B) (g : Clo ns B C) : Clo ns A C :=
 ⟨fun x hx => g.sub x (h.sub x hx), fun b hb ha n hn k hk => by
  by_cases hB : b ∈ B
  ·exact g.sub k (h.kids b hB ha n hn k hk)
  ·exact g.kids b hb hB n hn k hk⟩
theorem loopB_clo {ns : List Nk} {v : Int → List Int → Bool × List Int} (hv : ∀ k S, (v k S).1 = true → Clo ns S (v k S).2 ∧ k ∈ (v k S).2) : ∀ l S, (loopB v l S).1 = true → Clo ns S (loopB v l S).2 ∧ ∀ k ∈ l, k ∈ (loopB v l S).2
 | [], S, h => ⟨⟨fun _ h => h, fun b hb hn => absurd hb hn⟩, fun k hk => (List.not_mem_nil hk).elim⟩
 | k :: r, S, h => by
  rw [loopB] at h ⊢
  split at h
  ·rename_i h1; rw [h1] at h; cases h
  ·rename_i h1
   rw [if_neg h1]
   have h2 := hv k S (by simpa using h1)
   have h3 := loopB_clo hv r _ h
   refine ⟨h2.1.trans h3.1, fun j hj => ?_⟩
   rcases List.mem_cons.1 hj with rfl | hj
   ·exact h3.1.sub _ h2.2
   ·exact h3.2 j hj
theorem reachP_clo (ns : List Nk) : ∀ f a S, (reachP ns f a S).1 = true → Clo ns S (reachP ns f a S).2 ∧ a ∈ (reachP ns f a S).2
 | 0, a, S, h => by cases h
 | f + 1, a, S, h => by
  by_cases hb : a < 0 ∨ (ns.length : Int) ≤ a ∨ a ∈ S ∨ S.length = 512
  ·rw [reachP_out hb] at h; cases h
  ·obtain ⟨n, hn⟩ : ∃ n, ns[a.toNat]? = some n := ⟨_, List.getElem?_eq_getElem (by omega)⟩
   rw [reachP_in hb hn] at h ⊢
   obtain ⟨h1, h2⟩ := loopB_clo (fun k S h => reachP_clo ns f k S h) n.kids _ h
   have ha := h1.sub a (by simp)
   refine ⟨⟨fun x hx => h1.sub x (List.mem_append_left _ hx), fun b hb' hS m hm k hk => ?_⟩, ha⟩
   by_cases hba : b = a
   ·subst hba
    rw [hn] at hm
    cases hm
    exact h2 k hk
   ·exact h1.kids b hb' (by simp [hS, hba]) m hm k hk
/-- where an element stands in a list, or 0 -/
def posD (l : List Int) (k : Int) : Int := if k ∈ l then ((l.idxOf k : Nat) : Int) else 0
/-- a node whose kids are numbered as they stand in a list -/
def Nk.at_pos (l : List Int) (n : Nk) : Nk := ⟨n.kind, n.num, n.name, n.attr, n.kids.map (posD l), n.at_⟩
/-- the policy with these nodes -/
def Po.pick (d : Po) (l : List Int) : Po := ⟨d.name, d.uses, d.reveal, l.map fun a => ((d.nodes[a.toNat]?).getD ⟨0, 0, ⟨#[]⟩, ⟨#[]⟩, [], 0⟩).at_pos l, 0, d.scope, d.limit, d.escrow⟩
def noPo : Po := ⟨⟨#[]⟩, [], [], [], 0, ⟨#[]⟩, 0, ⟨#[]⟩⟩
/-- what Tidy returns -/
def tidyP (d : Po) : Po × Int :=
 if (reachP d.nodes 513 d.root []).1 = false then (noPo, 3)
 else if checkP (d.pick (reachP d.nodes 513 d.root []).2) ≠ 0 then (noPo, checkP (d.pick (reachP d.nodes 513 d.root []).2)) else (d.pick (reachP d.nodes 513 d.root []).2, 0)
end Go.Proofs.YtogmhaihmkcjgaaGreatDoor

/-
 Tokens with white space and comments between them are parsed in the same way. Plain; the law of Spaces.
-/
namespace Go.Proofs.YtogmhaihmkcjgaaGreatDoor.Lx
set_option linter.unusedVariables false

end Go.Proofs.YtogmhaihmkcjgaaGreatDoor.Lx
namespace Go.Proofs.YtogmhaihmkcjgaaGreatDoor
open Go.RowKit Go.Shelf
set_option linter.unusedVariables false

end Go.Proofs.YtogmhaihmkcjgaaGreatDoor

/-
 Parentheses around an expression. Plain; the law of Parens.
-/
namespace Go.Proofs.YtogmhaihmkcjgaaGreatDoor.Pa
open Lx (Tok)
set_option linter.unusedVariables false

theorem Ex.one_len {b : Bool} {us : List Tok} {f : F} (h : Ex b us f) : b = Bool.false → f.len = 1 := by
 induction h with
 | one _ _ _ ih => intro h; cases h
 | more _ _ _ _ _ _ _ _ ih _ => intro h; cases h
 | paren _ _ _ _ _ _ _ ih => exact ih
 | _ => intro _; rfl
end Go.Proofs.YtogmhaihmkcjgaaGreatDoor.Pa
namespace Go.Proofs.YtogmhaihmkcjgaaGreatDoor
open Go.RowKit Go.Shelf
set_option linter.unusedVariables false

/-! the sources -/
end Go.Proofs.YtogmhaihmkcjgaaGreatDoor

/-
 The examples of the chapter. Plain.
-/
namespace Go.Proofs.YtogmhaihmkcjgaaGreatDoor
open Go.RowKit Go.Shelf
set_option linter.unusedVariables false

end Go.Proofs.YtogmhaihmkcjgaaGreatDoor

/-
 dominolaw42.awake holds.
-/
namespace Go.Proofs.YtogmhaihmkcjgaaGreatDoor
open Go.RowKit Go.Shelf
set_option linter.unusedVariables false

/-- Parse at a source given by its bytes -/
theorem parse_at {l : List UInt8} {r : Po × Nat × Int} (h : parseP l = r) (hl : l.length ≤ 65536) (w : World) : Calls Tryz.prog 11 #[.string ⟨l.toArray⟩] w fun e w' => PaOut r e w' ∧ Below w.heap.size w w' := by
 have := Parse_any (bs l) (by rw [size_bs]; exact hl) w
 rw [tl_bs, h] at this
 exact this
theorem add_none (a : Addr) : a.add 0 = a := by
 obtain ⟨b, o, k⟩ := a
 unfold Addr.add
 split <;> simp_all
end Go.Proofs.YtogmhaihmkcjgaaGreatDoor

/-
 dominolaw42: decimal, body.
-/
namespace Go.Proofs.YtogmhaihmkcjgaaGreatDoor
open Go.RowKit Go.Shelf
set_option linter.unusedVariables false

end Go.Proofs.YtogmhaihmkcjgaaGreatDoor


/-
 A source that is cut behind a token has the same tokens up to there. Plain; the law of Stops.
-/
namespace Go.Proofs.YtogmhaihmkcjgaaGreatDoor.Lx
set_option linter.unusedVariables false

/-- offsets ascend -/
theorem Sc.asc {a : Nat} {l : List UInt8} {ts : List Tok} (h : Sc a l ts) : ∀ (us : List Tok) (t : Tok) (vs : List Tok), ts = us ++ t :: vs → (∀ u ∈ us, u.at_ < t.at_ ∧ u.kind ≠ 3) ∧ (t.kind ≠ 3 → ∀ v ∈ vs, t.at_ < v.at_) := by
 induction h with
 | done a l h =>
  intro us t vs e
  cases us with
  | nil =>
   simp only [List.nil_append, List.cons.injEq] at e
   rw [← e.1, ← e.2]
   exact ⟨fun u hu => (by cases hu), fun _ v hv => (by cases hv)⟩
  | cons u us => simp at e
 | step a l k n ts ht hl h ih =>
  intro us t vs e
  have hlen := tk_len ht
  have hkd := tk_kind ht
  cases us with
  | nil =>
   simp only [List.nil_append, List.cons.injEq] at e
   rw [← e.1]
   refine ⟨fun u hu => (by cases hu), fun _ v hv => ?_⟩
   have := (h.within v (by rw [e.2]; exact hv)).1
   simp only
   omega
  | cons u us =>
   simp only [List.cons_append, List.cons.injEq] at e
   obtain ⟨h1, h2⟩ := ih us t vs e.2
   refine ⟨fun v hv => ?_, h2⟩
   rcases List.mem_cons.1 hv with rfl | hv
   ·have := (h.within t (by rw [e.2]; simp)).1
    rw [← e.1]
    simp only
    omega
   ·exact h1 v hv
end Go.Proofs.YtogmhaihmkcjgaaGreatDoor.Lx
namespace Go.Proofs.YtogmhaihmkcjgaaGreatDoor
open Go.RowKit Go.Shelf
set_option linter.unusedVariables false

end Go.Proofs.YtogmhaihmkcjgaaGreatDoor

/-
 dominolaw42.ParserStops.
-/
namespace Go.Proofs.YtogmhaihmkcjgaaGreatDoor
open Go.RowKit Go.Shelf
set_option linter.unusedVariables false

end Go.Proofs.YtogmhaihmkcjgaaGreatDoor


/-
 What Parse returns is tidy, and its offsets ascend. Plain; the law of Forms.
-/
namespace Go.Proofs.YtogmhaihmkcjgaaGreatDoor.Pa
open Lx (Tok)
set_option linter.unusedVariables false

/-- the nodes in preorder -/
def F.pre : F → List Nd
 | .nil => []
 | .cons n k r => n :: (k.pre ++ r.pre)
theorem F.pre_app (f g : F) : (f.app g).pre = f.pre ++ g.pre := by
 induction f with
 | nil => rfl
 | cons n k r _ ih => rw [F.app, F.pre, F.pre, ih, List.cons_append, List.append_assoc]
theorem F.num_pre (f : F) : ∀ a, (f.num a).map Prod.fst = f.pre := by
 induction f with
 | nil => intro a; rfl
 | cons n k r ih1 ih2 => intro a; rw [F.num, List.map_cons, List.map_append, ih1, ih2]; rfl
/-- how the offsets of two nodes in a row lie -/
def Rl (x y : Nd) : Prop := if 6 ≤ x.kind ∧ x.kind ≤ 8 then y.at_ = x.at_ else x.at_ < y.at_
def Cn : List Nd → Prop
 | [] => True
 | [_] => True
 | x :: y :: l => Rl x y ∧ Cn (y :: l)
theorem Cn.app : ∀ {l m : List Nd}, Cn l → Cn m → (∀ x y, l.getLast? = some x → m.head? = some y → Rl x y) → Cn (l ++ m)
 | [], m, _, h, _ => h
 | [x], [], _, _, _ => trivial
 | [x], y :: m, _, h, g => ⟨g x y rfl rfl, h⟩
 | x :: y :: l, m, h1, h2, g => ⟨h1.1, Cn.app (l := y :: l) h1.2 h2 fun a b ha hb => g a b (by rw [List.getLast?_cons_cons]; exact ha) hb⟩
theorem Cn.at_ : ∀ {l : List Nd} {i : Nat} {x y : Nd}, Cn l → l[i]? = some x → l[i + 1]? = some y → Rl x y
 | [], i, x, y, _, h, _ => by simp at h
 | [a], i, x, y, _, _, h => by simp at h
 | a :: b :: l, 0, x, y, h, h1, h2 => by
  simp only [List.getElem?_cons_zero, Option.some.injEq, List.getElem?_cons_succ] at h1 h2
  subst h1 h2
  exact h.1
 | a :: b :: l, i + 1, x, y, h, h1, h2 => Cn.at_ (l := b :: l) (i := i) h.2 (by simpa using h1) (by simpa using h2)
/-- what is known of the nodes of trees that were derived from tokens -/
structure Oc (us : List Tok) (f : F) : Prop where
 ne : f.pre ≠ []
 cn : Cn f.pre
 mem : ∀ n ∈ f.pre, ∃ t ∈ us, t.at_ = n.at_
 last : ∀ n, f.pre.getLast? = some n → ¬ (6 ≤ n.kind ∧ n.kind ≤ 8)
theorem Oc.mono {us vs : List Tok} {f : F} (h : Oc us f) (hs : ∀ t ∈ us, t ∈ vs) : Oc vs f := ⟨h.ne, h.cn, fun n hn => by
 obtain ⟨t, ht, e⟩ := h.mem n hn
 exact ⟨t, hs t ht, e⟩, h.last⟩
theorem getLast_app {α : Type} {l m : List α} (h : m ≠ []) : (l ++ m).getLast? = m.getLast? := by
 rw [List.getLast?_append]
 cases hm : m.getLast? with
 | none => exact absurd (List.getLast?_eq_none_iff.1 hm) h
 | some x => rfl
theorem Oc.app {us vs : List Tok} {f g : F} (h : Oc us f) (k : Oc vs g) (ha : ∀ s ∈ us, ∀ t ∈ vs, s.at_ < t.at_) : Oc (us ++ vs) (f.app g) := by
 refine ⟨?_, ?_, fun n hn => ?_, fun n hn => ?_⟩
 ·rw [F.pre_app]; simp [h.ne]
 ·rw [F.pre_app]
  refine h.cn.app k.cn fun x y hx hy => ?_
  unfold Rl
  rw [if_neg (h.last x hx)]
  obtain ⟨s, hs, e1⟩ := h.mem x (List.mem_of_getLast? hx)
  obtain ⟨t, ht, e2⟩ := k.mem y (List.mem_of_mem_head? (by rw [hy]; rfl))
  rw [← e1, ← e2]
  exact ha s hs t ht
 ·rw [F.pre_app] at hn
  rcases List.mem_append.1 hn with hn | hn
  ·obtain ⟨t, ht, e⟩ := h.mem n hn; exact ⟨t, List.mem_append_left _ ht, e⟩
  ·obtain ⟨t, ht, e⟩ := k.mem n hn; exact ⟨t, List.mem_append_right _ ht, e⟩
 ·rw [F.pre_app, getLast_app k.ne] at hn
  exact k.last n hn
theorem Oc.leaf {us : List Tok} {n : Nd} (h : ∃ t ∈ us, t.at_ = n.at_) (hk : ¬ (6 ≤ n.kind ∧ n.kind ≤ 8)) : Oc us (leaf n) := by
 refine ⟨by simp [Pa.leaf, F.pre], trivial, fun m hm => ?_, fun m hm => ?_⟩
 ·have : m = n := by simpa [Pa.leaf, F.pre] using hm
  rw [this]; exact h
 ·have : n = m := by simpa [Pa.leaf, F.pre] using hm
  rw [← this]; exact hk
/-- a node over trees -/
theorem Oc.node {us vs : List Tok} {n : Nd} {g : F} (h : Oc vs g) (hn : ∃ t ∈ us, t.at_ = n.at_) (hs : ∀ t ∈ vs, t ∈ us) (hr : ∀ y, g.pre.head? = some y → Rl n y) : Oc us (.cons n g .nil) := by
 have e : (F.cons n g .nil).pre = [n] ++ g.pre := by rw [F.pre, F.pre, List.append_nil]; rfl
 refine ⟨by rw [e]; simp, ?_, fun m hm => ?_, fun m hm => ?_⟩
 ·rw [e]
  refine Cn.app trivial h.cn fun x y hx hy => ?_
  have : n = x := by simpa using hx
  rw [← this]; exact hr y hy
 ·rw [e] at hm
  rcases List.mem_append.1 hm with hm | hm
  ·rw [List.mem_singleton.1 hm]; exact hn
  ·obtain ⟨t, ht, e⟩ := h.mem m hm; exact ⟨t, hs t ht, e⟩
 ·rw [e, getLast_app h.ne] at hm
  exact h.last m hm
abbrev As (us : List Tok) : Prop := us.Pairwise fun s t => s.at_ < t.at_
theorem vl_at {us : List Tok} {n : Nd} (h : Vl us n) : atT us = n.at_ ∧ (∃ t ∈ us, t.at_ = n.at_) ∧ 9 ≤ n.kind := by
 cases h with
 | ref a d b _ _ _ => exact ⟨rfl, ⟨a, by simp, rfl⟩, show 9 ≤ 9 by decide⟩
 | word a _ => exact ⟨rfl, ⟨a, by simp, rfl⟩, show 9 ≤ 11 by decide⟩
 | num a _ => exact ⟨rfl, ⟨a, by simp, rfl⟩, show 9 ≤ 10 by decide⟩
theorem vl_oc {us : List Tok} {n : Nd} (h : Vl us n) : Oc us (leaf n) := by
 obtain ⟨_, h2, h3⟩ := vl_at h
 exact Oc.leaf h2 (by omega)
theorem as_app {us vs : List Tok} (h : As (us ++ vs)) : As us ∧ As vs ∧ ∀ s ∈ us, ∀ t ∈ vs, s.at_ < t.at_ := List.pairwise_append.1 h
theorem as_cons {c : Tok} {vs : List Tok} (h : As (c :: vs)) : As vs ∧ ∀ t ∈ vs, c.at_ < t.at_ := ⟨(List.pairwise_cons.1 h).2, (List.pairwise_cons.1 h).1⟩
theorem vs_oc {us : List Tok} {g : F} (h : Vs us g) : As us → Oc us g := by
 induction h with
 | one us n hv => intro _; exact vl_oc hv
 | more us n c vs g hv hc _ ih =>
  intro ha
  obtain ⟨a1, a2, a3⟩ := as_app ha
  have h1 := (vl_oc hv).app (ih (as_cons a2).1) (fun s hs t ht => a3 s hs t (List.mem_cons_of_mem _ ht))
  exact h1.mono fun t ht => by
   rcases List.mem_append.1 ht with ht | ht
   ·exact List.mem_append_left _ ht
   ·exact List.mem_append_right _ (List.mem_cons_of_mem _ ht)
theorem rl_gt {n : Nd} {us : List Tok} {g : F} (h : Oc us g) (hk : ¬ (6 ≤ n.kind ∧ n.kind ≤ 8)) (ha : ∀ t ∈ us, n.at_ < t.at_) : ∀ y, g.pre.head? = some y → Rl n y := fun y hy => by
 unfold Rl
 rw [if_neg hk]
 obtain ⟨t, ht, e⟩ := h.mem y (List.mem_of_mem_head? (by rw [hy]; rfl))
 rw [← e]; exact ha t ht
theorem ex_oc {b : Bool} {us : List Tok} {f : F} (h : Ex b us f) : As us → Oc us f := by
 have gate : ∀ (a : Tok) (p vs q us : List Tok) (k : Nat) (m : Int) (g : F), us = a :: (p ++ (vs ++ q)) → ¬ (6 ≤ k ∧ k ≤ 8) → (As vs → Oc vs g) → As us → Oc us (.cons ⟨k, m, [], [], a.at_⟩ g .nil) := by
  intro a p vs q us k m g e hk ih ha
  subst e
  obtain ⟨a1, a2⟩ := as_cons ha
  have h1 := ih (as_app (as_app a1).2.1).1
  exact h1.node ⟨a, by simp, rfl⟩ (fun t ht => by simp [ht]) (rl_gt h1 hk fun t ht => a2 t (by simp [ht]))
 induction h with
 | one us f _ ih => exact ih
 | more us f c vs g _ _ _ ih ih2 =>
  intro ha
  obtain ⟨a1, a2, a3⟩ := as_app ha
  have h1 := (ih a1).app (ih2 (as_cons a2).1) (fun s hs t ht => a3 s hs t (List.mem_cons_of_mem _ ht))
  exact h1.mono fun t ht => by
   rcases List.mem_append.1 ht with ht | ht
   ·exact List.mem_append_left _ ht
   ·exact List.mem_append_right _ (List.mem_cons_of_mem _ ht)
 | all a o c vs g _ _ _ _ ih => exact gate a [o] vs [c] _ 3 0 g rfl (by decide) ih
 | any a o c vs g _ _ _ _ ih => exact gate a [o] vs [c] _ 4 0 g rfl (by decide) ih
 | atleast a m o c vs g _ _ _ _ _ ih => exact gate a [m, o] vs [c] _ 5 _ g rfl (by decide) ih
 | not a us f _ _ ih => exact gate a [] us [] _ 2 0 f (by simp) (by decide) ih
 | true a _ => intro _; exact Oc.leaf ⟨a, by simp, rfl⟩ (show ¬ (6 ≤ 0 ∧ 0 ≤ 8) by decide)
 | false a _ => intro _; exact Oc.leaf ⟨a, by simp, rfl⟩ (show ¬ (6 ≤ 1 ∧ 1 ≤ 8) by decide)
 | paren o c us f _ _ _ ih =>
  intro ha
  exact (ih (as_app (as_cons ha).1).1).mono fun t ht => by simp [ht]
 | cmp us vs c k a b hv hc hb =>
  intro ha
  obtain ⟨a1, a2, a3⟩ := as_app ha
  obtain ⟨e1, e2, _⟩ := vl_at hv
  have h1 := (vl_oc hv).app (vl_oc hb) (fun s hs t ht => a3 s hs t (List.mem_cons_of_mem _ ht))
  refine h1.node (by rw [e1]; obtain ⟨t, ht, e⟩ := e2; exact ⟨t, List.mem_append_left _ ht, e⟩) (fun t ht => ?_) fun y hy => ?_
  ·rcases List.mem_append.1 ht with ht | ht
   ·exact List.mem_append_left _ ht
   ·exact List.mem_append_right _ (List.mem_cons_of_mem _ ht)
  ·have : a = y := by simpa [F.pre_app, leaf, F.pre] using hy
   unfold Rl
   rw [if_pos ⟨Nat.le_refl 6, show 6 ≤ 8 by decide⟩, ← this, e1]
 | between us vs ws c d a b e hv hc hb hd he =>
  intro ha
  obtain ⟨a1, a2, a3⟩ := as_app ha
  obtain ⟨b1, b2, b3⟩ := as_app (as_cons a2).1
  obtain ⟨e1, e2, _⟩ := vl_at hv
  have h0 := (vl_oc hb).app (vl_oc he) (fun s hs t ht => b3 s hs t (List.mem_cons_of_mem _ ht))
  have h1 := (vl_oc hv).app h0 (fun s hs t ht => a3 s hs t (by
   rcases List.mem_append.1 ht with ht | ht
   ·simp [ht]
   ·simp [ht]))
  refine h1.node (by rw [e1]; obtain ⟨t, ht, e⟩ := e2; exact ⟨t, List.mem_append_left _ ht, e⟩) (fun t ht => ?_) fun y hy => ?_
  ·rcases List.mem_append.1 ht with ht | ht
   ·exact List.mem_append_left _ ht
   ·rcases List.mem_append.1 ht with ht | ht
    ·simp [ht]
    ·simp [ht]
  ·have : a = y := by simpa [F.pre_app, leaf, F.pre] using hy
   unfold Rl
   rw [if_pos ⟨show 6 ≤ 7 by decide, show 7 ≤ 8 by decide⟩, ← this, e1]
 | in_ us vs c o d a g hv hc ho hg hd =>
  intro ha
  obtain ⟨a1, a2, a3⟩ := as_app ha
  obtain ⟨e1, e2, _⟩ := vl_at hv
  have h0 := vs_oc hg (as_app (as_cons (as_cons a2).1).1).1
  have h1 := (vl_oc hv).app h0 (fun s hs t ht => a3 s hs t (by simp [ht]))
  refine h1.node (by rw [e1]; obtain ⟨t, ht, e⟩ := e2; exact ⟨t, List.mem_append_left _ ht, e⟩) (fun t ht => ?_) fun y hy => ?_
  ·rcases List.mem_append.1 ht with ht | ht
   ·exact List.mem_append_left _ ht
   ·simp [ht]
  ·have : a = y := by simpa [F.pre_app, leaf, F.pre] using hy
   unfold Rl
   rw [if_pos ⟨show 6 ≤ 8 by decide, show 8 ≤ 8 by decide⟩, ← this, e1]
/-- kids stand behind, and within -/
theorem F.idx_lt (f : F) : ∀ a, ∀ k ∈ f.idx a, k < a + f.size := by
 induction f with
 | nil => intro a k hk; exact (List.not_mem_nil hk).elim
 | cons n k r _ ih =>
  intro a j hj
  rw [F.idx] at hj
  rw [F.size]
  rcases List.mem_cons.1 hj with rfl | hj
  ·omega
  ·have := ih _ j hj; omega
theorem F.num_lt (f : F) : ∀ a, ∀ x ∈ f.num a, ∀ k ∈ x.2, k < a + f.size := by
 induction f with
 | nil => intro a x hx; exact (List.not_mem_nil hx).elim
 | cons n k r ih1 ih2 =>
  intro a x hx j hj
  rw [F.num] at hx
  rw [F.size]
  rcases List.mem_cons.1 hx with rfl | hx
  ·have := k.idx_lt _ j hj; omega
  ·rcases List.mem_append.1 hx with hx | hx
   ·have := ih1 _ x hx j hj; omega
   ·have := ih2 _ x hx j hj; omega
end Go.Proofs.YtogmhaihmkcjgaaGreatDoor.Pa
namespace Go.Proofs.YtogmhaihmkcjgaaGreatDoor
open Go.RowKit Go.Shelf
set_option linter.unusedVariables false

/-- the numbers below n -/
def rng (n : Nat) : List Int := (List.range n).map fun (i : Nat) => (i : Int)
theorem rng_len (n : Nat) : (rng n).length = n := by simp [rng]
theorem rng_mem {n : Nat} {x : Int} : x ∈ rng n ↔ 0 ≤ x ∧ x < (n : Int) := by
 unfold rng
 rw [List.mem_map]
 constructor
 ·rintro ⟨i, hi, rfl⟩
  rw [List.mem_range] at hi; omega
 ·intro h; exact ⟨x.toNat, by rw [List.mem_range]; omega, by omega⟩
theorem rng_succ (n : Nat) : rng (n + 1) = rng n ++ [(n : Int)] := by simp [rng, List.range_succ]
/-- nodes that are numbered in preorder are reached in their order -/
theorem reach_num (ns : List Nk) (f : Pa.F) : ∀ (a fuel : Nat), (∀ i x, (f.num a)[i]? = some x → ns[a + i]? = some (nkOf x)) → a + f.size ≤ 512 → f.size ≤ fuel → loopB (fun k S => reachP ns fuel k S) ((f.idx a).map fun (n : Nat) => (n : Int)) (rng a) = (true, rng (a + f.size)) := by
 induction f with
 | nil => intro a fuel _ _ _; rfl
 | cons n k r ih1 ih2 =>
  intro a fuel hn h1 h2
  rw [Pa.F.size] at h1 h2
  obtain ⟨fuel, rfl⟩ : ∃ g, fuel = g + 1 := ⟨fuel - 1, by omega⟩
  have h0 : ns[a]? = some (nkOf (n, k.idx (a + 1))) := by
   have := hn 0 (n, k.idx (a + 1)) rfl
   exact this
  have hal := (List.getElem?_eq_some_iff.1 h0).1
  have hkn : ∀ i x, (k.num (a + 1))[i]? = some x → ns[a + 1 + i]? = some (nkOf x) := fun i x hx => by
   have := hn (i + 1) x (by
    rw [Pa.F.num, List.getElem?_cons_succ, List.getElem?_append_left (List.getElem?_eq_some_iff.1 hx).1]; exact hx)
   rw [show a + 1 + i = a + (i + 1) by omega]; exact this
  have hrn : ∀ i x, (r.num (a + 1 + k.size))[i]? = some x → ns[a + 1 + k.size + i]? = some (nkOf x) := fun i x hx => by
   have := hn (k.size + i + 1) x (by
    rw [Pa.F.num, List.getElem?_cons_succ, List.getElem?_append_right (by rw [Pa.F.num_len]; omega), Pa.F.num_len, show k.size + i - k.size = i by omega]; exact hx)
   rw [show a + 1 + k.size + i = a + (k.size + i + 1) by omega]; exact this
  have hk := ih1 (a + 1) fuel hkn (by omega) (by omega)
  have hv : reachP ns (fuel + 1) (a : Int) (rng a) = (true, rng (a + 1 + k.size)) := by
   rw [reachP_in (n := nkOf (n, k.idx (a + 1))) (by
    rintro (h | h | h | h)
    ·omega
    ·omega
    ·rw [rng_mem] at h; omega
    ·rw [rng_len] at h; omega) (by rw [Int.toNat_natCast]; exact h0), ← rng_succ]
   exact hk
  have hr := ih2 (a + 1 + k.size) (fuel + 1) hrn (by omega) (by omega)
  rw [Pa.F.idx, List.map_cons, loopB, hv, if_neg (by simp)]
  rw [Pa.F.size, show a + (k.size + r.size + 1) = a + 1 + k.size + r.size by omega]
  exact hr
theorem posD_rng {n k : Nat} (h : k < n) : posD (rng n) (k : Int) = (k : Int) := by
 unfold posD
 rw [if_pos (rng_mem.2 (by omega))]
 have h1 : (rng n).idxOf (k : Int) < (rng n).length := List.idxOf_lt_length_of_mem (rng_mem.2 (by omega))
 have h2 := List.getElem_idxOf h1
 simp only [rng, List.getElem_map, List.getElem_range] at h2
 exact h2
/-- what was parsed is tidy -/
theorem tidy_num (p : Pa.Pl) (hl : p.root.len = 1) (hs : p.root.size ≤ 512) (hc : checkP (poOf p) = 0) : tidyP (poOf p) = (poOf p, 0) := by
 have hN : (poOf p).nodes = (p.root.num 0).map nkOf := rfl
 have hNl : (poOf p).nodes.length = p.root.size := by rw [hN, List.length_map, Pa.F.num_len]
 have hidx : p.root.idx 0 = [0] := by
  cases hp : p.root with
  | nil => rw [hp] at hl; cases hl
  | cons n k r =>
   cases r with
   | nil => rfl
   | cons _ _ _ => rw [hp] at hl; simp [Pa.F.len] at hl
 have h1 := reach_num (poOf p).nodes p.root 0 513 (fun i x hx => by rw [hN, List.getElem?_map, Nat.zero_add, hx]; rfl) (by omega) (by omega)
 rw [hidx, Nat.zero_add] at h1
 have h2 : reachP (poOf p).nodes 513 0 [] = (true, rng p.root.size) := by
  have h3 : loopB (fun k S => reachP (poOf p).nodes 513 k S) [(0 : Int)] [] = (true, rng p.root.size) := h1
  rw [loopB] at h3
  by_cases hb : (reachP (poOf p).nodes 513 0 []).1 = false
  ·rw [if_pos hb] at h3; rw [h3] at hb; cases hb
  ·rw [if_neg hb, loopB] at h3
   have hb' : (reachP (poOf p).nodes 513 0 []).1 = true := by simpa using hb
   have h4 := congrArg Prod.snd h3
   exact Prod.ext hb' h4
 have h3 : (poOf p).pick (rng p.root.size) = poOf p := by
  have h4 : ((rng p.root.size).map fun a => (((poOf p).nodes[a.toNat]?).getD ⟨0, 0, ⟨#[]⟩, ⟨#[]⟩, [], 0⟩).at_pos (rng p.root.size)) = (poOf p).nodes := by
   apply List.ext_getElem?
   intro i
   by_cases hi : i < p.root.size
   ·obtain ⟨x, hx⟩ : ∃ x, (p.root.num 0)[i]? = some x := ⟨_, List.getElem?_eq_getElem (by rw [Pa.F.num_len]; exact hi)⟩
    have h5 : (poOf p).nodes[i]? = some (nkOf x) := by rw [hN, List.getElem?_map, hx]; rfl
    have h6 : (rng p.root.size)[i]? = some (i : Int) := by simp [rng, hi]
    rw [List.getElem?_map, h6, h5]
    show some ((((poOf p).nodes[(i : Int).toNat]?).getD _).at_pos _) = _
    rw [Int.toNat_natCast, h5]
    congr 1
    show Nk.at_pos (rng p.root.size) (nkOf x) = nkOf x
    unfold Nk.at_pos nkOf
    congr 1
    rw [List.map_map]
    refine List.map_congr_left fun k hk => ?_
    have := p.root.num_lt 0 x (List.mem_of_getElem? hx) k hk
    exact posD_rng (by omega)
   ·rw [List.getElem?_eq_none (by rw [List.length_map, rng_len]; omega), List.getElem?_eq_none (by omega)]
  show Po.mk _ _ _ _ 0 _ _ _ = _
  rw [h4]; rfl
 unfold tidyP
 rw [show (poOf p).root = 0 from rfl, h2]
 simp only [h3, hc]
 simp
theorem as_of : ∀ {ts : List Lx.Tok}, (∀ us t vs, ts = us ++ t :: vs → ∀ u ∈ us, u.at_ < t.at_) → Pa.As ts
 | [], _ => List.Pairwise.nil
 | a :: ts, h => List.pairwise_cons.2 ⟨fun b hb => by
   obtain ⟨p, q, rfl⟩ := List.append_of_mem hb
   exact h (a :: p) b q rfl a (List.mem_cons_self ..), as_of fun us t vs e u hu => h (a :: us) t vs (by rw [e]; rfl) u (List.mem_cons_of_mem _ hu)⟩
/-- the law of Forms -/
theorem forms_ok {l : List UInt8} (h : (parseP l).2.2 = 0) : (parseP l).2.1 = 0 ∧ (parseP l).1.root = 0 ∧ checkP (parseP l).1 = 0 ∧ tidyP (parseP l).1 = ((parseP l).1, 0) ∧ (∀ n ∈ (parseP l).1.nodes, 0 ≤ n.at_ ∧ n.at_ < (l.length : Int)) ∧
  ∀ i x y, (parseP l).1.nodes[i]? = some x → (parseP l).1.nodes[i + 1]? = some y → if 6 ≤ x.kind ∧ x.kind ≤ 8 then y.at_ = x.at_ else x.at_ < y.at_ := by
 cases hs : Lx.sc l with
 | err a e =>
  unfold parseP at h
  rw [hs] at h
  have := sc_err_ne hs
  have h2 : (e : Int) = 0 := h
  omega
 | ok ts =>
  have e1 : parseP l = parseT ts := by unfold parseP; rw [hs]
  rw [e1] at h ⊢
  have hS := Lx.sc_iff.1 hs
  cases hr : Pa.policyR ts with
  | mk o q =>
   cases o with
   | none => unfold parseT at h; rw [hr] at h; cases h
   | some p =>
    have hc : checkP (poOf p) = 0 := by
     unfold parseT at h
     rw [hr] at h
     dsimp only at h
     split at h
     ·exact h
     ·rename_i h1; exact Decidable.not_not.1 h1
    have e2 : parseT ts = (poOf p, 0, 0) := by
     unfold parseT
     rw [hr]
     dsimp only
     rw [if_neg (fun h => h hc)]
    rw [e2]
    obtain ⟨a, b, c, e, z, us, rv, pv, so, eo, q', rfl, hg⟩ := Pa.policy_inv hr
    have hsz : p.root.size ≤ 512 := by
     have h5 : (poOf p).nodes.length = p.root.size := by
      show ((p.root.num 0).map nkOf).length = _
      rw [List.length_map, Pa.F.num_len]
     rw [← h5]
     have h6 := hc
     unfold checkP at h6
     split at h6
     ·cases h6
     ·rename_i h7; omega
    have hlen : p.root.len = 1 := by
     have := hg.pv
     generalize p.root = f at this
     cases this with
     | none => rfl
     | some r vs f _ hex => exact hex.one_len rfl
    have hts : ts = (a :: b :: c :: (us ++ (rv ++ (pv ++ (so ++ (eo ++ [e])))))) ++ z :: q' := by rw [hg.eq]; simp
    have hpre := hS.asc _ z q' hts
    have hAs : Pa.As ts := as_of fun us t vs e u hu => ((hS.asc us t vs e).1 u hu).1
    have hOc : Pa.Oc (pv ++ (so ++ (eo ++ [e]))) p.root := by
     have h8 := hg.pv
     rw [hg.eq] at hAs
     have h9 : Pa.As pv := by
      have := (Pa.as_cons (Pa.as_cons (Pa.as_cons hAs).1).1).1
      exact (Pa.as_app (Pa.as_app (Pa.as_app this).2.1).2.1).1
     generalize p.root = f at h8
     cases h8 with
     | none =>
      refine Pa.Oc.leaf ?_ (show ¬ (6 ≤ 0 ∧ 0 ≤ 8) by decide)
      show ∃ t ∈ ([] ++ (so ++ (eo ++ [e])) : List Lx.Tok), t.at_ = Pa.atT (so ++ (eo ++ e :: z :: q'))
      cases so with
      | cons s r => exact ⟨s, by simp, rfl⟩
      | nil =>
       cases eo with
       | cons s r => exact ⟨s, by simp, rfl⟩
       | nil => exact ⟨e, by simp, rfl⟩
     | some r vs f _ hex =>
      exact (Pa.ex_oc hex (Pa.as_cons h9).1).mono fun t ht => by simp [ht]
    have hin : ∀ t ∈ pv ++ (so ++ (eo ++ [e])), t.at_ < l.length := by
     intro t ht
     have h10 := hpre.1 t (by
      rcases List.mem_append.1 ht with h | h
      ·simp [h]
      ·rcases List.mem_append.1 h with h | h
       ·simp [h]
       ·rcases List.mem_append.1 h with h | h
        ·simp [h]
        ·simp at h; simp [h])
     have h11 := hS.within z (by rw [hts]; simp)
     omega
    have hnum := p.root.num_pre 0
    refine ⟨rfl, rfl, hc, tidy_num p hlen hsz hc, fun n hn => ?_, fun i x y hx hy => ?_⟩
    ·obtain ⟨v, hv, rfl⟩ := List.mem_map.1 (show n ∈ (p.root.num 0).map nkOf from hn)
     obtain ⟨t, ht, e3⟩ := hOc.mem v.1 (by rw [← hnum]; exact List.mem_map.2 ⟨v, hv, rfl⟩)
     have := hin t ht
     show 0 ≤ ((v.1.at_ : Nat) : Int) ∧ ((v.1.at_ : Nat) : Int) < _
     omega
    ·have hx' : ((p.root.num 0).map nkOf)[i]? = some x := hx
     have hy' : ((p.root.num 0).map nkOf)[i + 1]? = some y := hy
     rw [List.getElem?_map] at hx' hy'
     obtain ⟨v, hv, rfl⟩ := Option.map_eq_some_iff.1 hx'
     obtain ⟨u, hu, rfl⟩ := Option.map_eq_some_iff.1 hy'
     have h12 := hOc.cn.at_ (i := i) (x := v.1) (y := u.1) (by rw [← hnum, List.getElem?_map, hv]; rfl) (by rw [← hnum, List.getElem?_map, hu]; rfl)
     unfold Pa.Rl at h12
     show if 6 ≤ ((v.1.kind : Nat) : Int) ∧ ((v.1.kind : Nat) : Int) ≤ 8 then ((u.1.at_ : Nat) : Int) = ((v.1.at_ : Nat) : Int) else ((v.1.at_ : Nat) : Int) < ((u.1.at_ : Nat) : Int)
     split at h12
     ·rw [if_pos (by omega)]; omega
     ·rw [if_neg (by omega)]; omega
end Go.Proofs.YtogmhaihmkcjgaaGreatDoor
-- halved
