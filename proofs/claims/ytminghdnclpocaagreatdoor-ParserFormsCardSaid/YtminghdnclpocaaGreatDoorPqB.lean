/-
  The grammar of whole policies; a source that goes on behind white space. No program in sight.
-/
import Derived.Test.YtminghdnclpocaaGreatDoorPqA
namespace Go.Proofs.YtminghdnclpocaaGreatDoor.Lx
set_option linter.unusedVariables false

/-- white space or comments in front, at this place -/
theorem Sc.gapx {g : List UInt8} {a : Nat} {l : List UInt8} {ts : List Tok} (hg : sk false (g ++ l) = g.length + sk false l) (h : Sc (a + g.length) l ts) : Sc a (g ++ l) ts := by
  have hd : (g ++ l).drop (sk false (g ++ l)) = l.drop (sk false l) := by rw [hg, List.drop_append]; simp
  generalize ha : a + g.length = b at h
  cases h with
  | done _ _ h1 =>
    have := Sc.done a (g ++ l) (by rw [hd]; exact h1)
    rw [hg] at this
    rw [← ha, Nat.add_assoc]; exact this
  | step _ _ k n ts ht hl h =>
    have := Sc.step a (g ++ l) k n ts (by rw [hd]; exact ht) (by rw [hd]; exact hl) (by rw [hd, hg, ← Nat.add_assoc, ha]; exact h)
    rw [hd, hg, ← Nat.add_assoc, ha] at this
    exact this
theorem sk_line_all : ∀ (r : List UInt8), (∀ x ∈ r, x ≠ 10) → sk true r = r.length
  | [], _ => rfl
  | c :: r, h => by
    rw [sk_in (by rw [beq_eq_false_iff_ne]; exact h c (List.mem_cons_self ..)), sk_line_all r fun x hx => h x (List.mem_cons_of_mem _ hx)]; rfl
/-- a token, and what goes on behind it -/
theorem Sc.stepx {a k n : Nat} {l : List UInt8} (ht : tk (l.drop (sk false l)) = .inr (k, n)) (hl : ¬ (k = 1 ∧ luAt ((l.drop (sk false l)).drop n) = true)) {c : UInt8} {r : List UInt8} (hc : isSp c = true) {T : List Tok}
    (h : Sc (a + sk false l + n) ((l.drop (sk false l)).drop n ++ c :: r) T) : Sc a (l ++ c :: r) (⟨k, (l.drop (sk false l)).take n, a + sk false l⟩ :: T) := by
  have hlen := tk_len ht
  have hne := tk_ne ht
  have hsk := sk_le false l
  obtain ⟨b', g1, g2⟩ := sk_own l
  have hb : b' = false := by
    cases b' with
    | false => rfl
    | true => exact (hne (sk_true_pos g2)).elim
  subst hb
  have hs0 : sk false (l.drop (sk false l) ++ c :: r) = 0 := by
    cases hm : l.drop (sk false l) with
    | nil => exact absurd hm hne
    | cons d p =>
      rw [hm] at g2
      rw [List.cons_append]
      exact sk_same g2
  have hs : sk false (l ++ c :: r) = sk false l := by
    have e : l ++ c :: r = l.take (sk false l) ++ (l.drop (sk false l) ++ c :: r) := by rw [← List.append_assoc, List.take_append_drop]
    rw [e, g1, hs0]; rfl
  have hd : (l ++ c :: r).drop (sk false l) = l.drop (sk false l) ++ c :: r := List.drop_append_of_le_length hsk
  generalize l.drop (sk false l) = m at *
  have hlk : Look (m.drop n) (m.drop n ++ c :: r) := by
    cases hm : m.drop n with
    | nil => exact .inr (.inr ⟨c, r, rfl, .inl hc⟩)
    | cons d q => exact .inl rfl
  have htk := tk_look ht hlk
  rw [← List.append_assoc, List.take_append_drop] at htk
  have e1 : (m ++ c :: r).drop n = m.drop n ++ c :: r := List.drop_append_of_le_length hlen.2
  have e2 : (m ++ c :: r).take n = m.take n := List.take_append_of_le_length hlen.2
  have hnl : ¬ (k = 1 ∧ luAt (m.drop n ++ c :: r) = true) := by
    rintro ⟨h1, h2⟩
    cases hm : m.drop n with
    | nil =>
      rw [hm] at h2
      have := (sep_not c (.inl hc)).2.2.1
      rw [show luAt ([] ++ c :: r) = isLU c from rfl, this] at h2
      cases h2
    | cons d q =>
      rw [hm] at h2 hl
      exact hl ⟨h1, h2⟩
  have h4 := Sc.step a (l ++ c :: r) k n T (by rw [hs, hd]; exact htk) (by rw [hs, hd, e1]; exact hnl) (by rw [hs, hd, e1]; exact h)
  rw [hs, hd, e2] at h4
  exact h4
/-- what goes on behind a source: either its last bytes are a comment, which swallows all up to the next newline, or they are not -/
theorem Sc.ext {a : Nat} {l : List UInt8} {ts : List Tok} (h : Sc a l ts) : ∃ us b, ts = us ++ [⟨3, [], a + l.length⟩] ∧
    (∀ c r ts', (b = true → c = 10) → isSp c = true → Sc (a + l.length) (c :: r) ts' → Sc a (l ++ c :: r) (us ++ ts')) ∧
    (b = true → ∀ c r, isSp c = true → (∀ x ∈ c :: r, x ≠ 10) → Sc a (l ++ c :: r) (us ++ [⟨3, [], a + l.length + (c :: r).length⟩])) := by
  induction h with
  | done a l h =>
    have hs : sk false l = l.length := by
      have := sk_le false l
      have h1 := congrArg List.length h
      rw [List.length_drop, List.length_nil] at h1
      omega
    obtain ⟨b', g1, g2⟩ := sk_gap (b := false) (g := l) (r := []) (by rw [List.append_nil]; exact hs)
    refine ⟨[], b', by rw [hs]; rfl, fun c r ts' hb hc h' => ?_, fun hb c r hc hr => ?_⟩
    · rw [List.nil_append]
      refine Sc.gapx ?_ h'
      rw [g1]
      cases b' with
      | false => rfl
      | true =>
        obtain rfl := hb rfl
        rw [sk_nl, sk_sp (by decide)]
    · subst hb
      have e : sk false (l ++ c :: r) = l.length + (c :: r).length := by rw [g1, sk_line_all _ hr]
      have := Sc.done a (l ++ c :: r) (by rw [e, List.drop_of_length_le (by simp)])
      rw [e, ← Nat.add_assoc] at this
      exact this
  | step a l k n ts ht hl h ih =>
    obtain ⟨us, b, rfl, h1, h2⟩ := ih
    have hlen := tk_len ht
    have hsk := sk_le false l
    have e : a + sk false l + n + ((l.drop (sk false l)).drop n).length = a + l.length := by
      rw [List.length_drop] at hlen ⊢
      rw [List.length_drop]
      omega
    rw [e] at h1 h2 ⊢
    exact ⟨⟨k, (l.drop (sk false l)).take n, a + sk false l⟩ :: us, b, rfl, fun c r ts' hb hc h' => Sc.stepx ht hl hc (h1 c r ts' hb hc h'), fun hb c r hc hr => Sc.stepx ht hl hc (h2 hb c r hc hr)⟩
end Go.Proofs.YtminghdnclpocaaGreatDoor.Lx
namespace Go.Proofs.YtminghdnclpocaaGreatDoor.Pa
open Lx (Tok)
set_option linter.unusedVariables false

/-- pairs of names, separated by commas -/
inductive Ps (s : Tx) : List Tok → List (Tx × Tx) → Prop
  | one (a d b : Tok) : isN [a] = true → isT s [d] = true → isN [b] = true → Ps s [a, d, b] [(a.text, b.text)]
  | more (a d b c : Tok) (vs : List Tok) (l : List (Tx × Tx)) : isN [a] = true → isT s [d] = true → isN [b] = true → isT sComma [c] = true → Ps s vs l → Ps s (a :: d :: b :: c :: vs) ((a.text, b.text) :: l)
/-- the part 'reveal' -/
inductive Rv : List Tok → List (Tx × Tx) → Prop
  | none : Rv [] []
  | some (r : Tok) (vs : List Tok) (l : List (Tx × Tx)) : isT kReveal [r] = true → Ps sDot vs l → Rv (r :: vs) l
/-- the part 'prove'; the offset of the token behind it -/
inductive Pv (at_ : Nat) : List Tok → F → Prop
  | none : Pv at_ [] (leaf ⟨0, 0, [], [], at_⟩)
  | some (r : Tok) (vs : List Tok) (f : F) : isT kProve [r] = true → Ex false vs f → Pv at_ (r :: vs) f
/-- the part 'scope' -/
inductive So : List Tok → Tx × Int → Prop
  | none : So [] ([], 0)
  | one (s w : Tok) : isT kScope [s] = true → isW [w] = true → So [s, w] (w.text.tail.dropLast, 0)
  | both (s w l n : Tok) : isT kScope [s] = true → isW [w] = true → isT kLimit [l] = true → isM [n] = true → So [s, w, l, n] (w.text.tail.dropLast, numV n.text)
/-- the part 'escrow' -/
inductive Eo : List Tok → Tx → Prop
  | none : Eo [] []
  | some (s n : Tok) : isT kEscrow [s] = true → isN [n] = true → Eo [s, n] n.text
theorem pairs_inv (s : Tx) : ∀ k ts q l, listR (pairR s) k ts = (some l, q) → ∃ us, ts = us ++ q ∧ Ps s us l
  | 0, ts, q, l, h => by cases h
  | k + 1, ts, q, l, h => by
    rw [listR] at h
    obtain ⟨x, p, h1, hh⟩ := then_inv h; replace h := hh; clear hh
    obtain ⟨a, d, b, rfl, ha, hd, hb, rfl⟩ := pair_inv h1
    split at h
    · rename_i hc
      obtain ⟨l', p', h2, hh⟩ := then_inv h; replace h := hh; clear hh
      obtain ⟨c, p2, rfl, hc2⟩ := isT_eq hc
      obtain ⟨vs, e, hvs⟩ := pairs_inv s k _ _ _ h2
      simp only [Prod.mk.injEq, Option.some.injEq] at h
      obtain ⟨rfl, rfl⟩ := h
      rw [List.tail_cons] at e
      subst e
      exact ⟨a :: d :: b :: c :: vs, rfl, Ps.more a d b c vs _ ha hd hb hc2 hvs⟩
    · simp only [Prod.mk.injEq, Option.some.injEq] at h
      obtain ⟨rfl, rfl⟩ := h
      exact ⟨[a, d, b], rfl, Ps.one a d b ha hd hb⟩
theorem pairs_ok {s : Tx} {us : List Tok} {l : List (Tx × Tx)} (h : Ps s us l) : ∀ k q, us.length ≤ k → isT sComma q = Bool.false → listR (pairR s) k (us ++ q) = (some l, q) := by
  induction h with
  | one a d b ha hd hb =>
    intro k q hk hq
    simp only [List.length_cons, List.length_nil] at hk
    obtain ⟨k, rfl⟩ : ∃ j, k = j + 1 := ⟨k - 1, by omega⟩
    show listR (pairR s) (k + 1) (a :: d :: b :: q) = _
    rw [listR, pair_ok ha hd hb, then_some, hq]; rfl
  | more a d b c vs l ha hd hb hc _ ih =>
    intro k q hk hq
    simp only [List.length_cons] at hk
    obtain ⟨k, rfl⟩ : ∃ j, k = j + 1 := ⟨k - 1, by omega⟩
    show listR (pairR s) (k + 1) (a :: d :: b :: c :: (vs ++ q)) = _
    rw [listR, pair_ok ha hd hb, then_some, if_pos (isT_app hc _), List.tail_cons, ih k q (by omega) hq, then_some]
theorem reveal_inv {ts q : List Tok} {l : List (Tx × Tx)} (h : revealR ts = (some l, q)) : ∃ us, ts = us ++ q ∧ Rv us l := by
  unfold revealR at h
  split at h
  · rename_i hk
    obtain ⟨a, p, rfl, ha⟩ := isT_eq hk
    rw [List.tail_cons] at h
    obtain ⟨us, rfl, hu⟩ := pairs_inv _ _ _ _ _ h
    exact ⟨a :: us, rfl, Rv.some a us l ha hu⟩
  · simp only [Prod.mk.injEq, Option.some.injEq] at h
    obtain ⟨rfl, rfl⟩ := h
    exact ⟨[], rfl, Rv.none⟩
theorem prove_inv {ts q : List Tok} {f : F} (h : proveR ts = (some f, q)) : ∃ us, ts = us ++ q ∧ Pv (atT q) us f := by
  unfold proveR at h
  split at h
  · rename_i hk
    obtain ⟨a, p, rfl, ha⟩ := isT_eq hk
    rw [List.tail_cons] at h
    obtain ⟨us, rfl, hu⟩ := expr_inv _ _ _ _ h
    exact ⟨a :: us, rfl, Pv.some a us f ha hu⟩
  · simp only [Prod.mk.injEq, Option.some.injEq] at h
    obtain ⟨rfl, rfl⟩ := h
    exact ⟨[], rfl, Pv.none⟩
theorem scope_inv {ts q : List Tok} {s : Tx × Int} (h : scopeR ts = (some s, q)) : ∃ us, ts = us ++ q ∧ So us s := by
  unfold scopeR at h
  split at h
  · rename_i hk
    obtain ⟨a, p, rfl, ha⟩ := isT_eq hk
    rw [List.tail_cons] at h
    obtain ⟨x, p, h1, hh⟩ := then_inv h; replace h := hh; clear hh
    obtain ⟨w, rfl, hw, rfl⟩ := word_inv h1
    split at h
    · rename_i hl
      obtain ⟨l, p2, rfl, hl2⟩ := isT_eq hl
      rw [List.tail_cons] at h
      obtain ⟨x, p, h1, hh⟩ := then_inv h; replace h := hh; clear hh
      obtain ⟨n, rfl, hn, rfl⟩ := num_inv h1
      simp only [Prod.mk.injEq, Option.some.injEq] at h
      obtain ⟨rfl, rfl⟩ := h
      exact ⟨[a, w, l, n], rfl, So.both a w l n ha hw hl2 hn⟩
    · simp only [Prod.mk.injEq, Option.some.injEq] at h
      obtain ⟨rfl, rfl⟩ := h
      exact ⟨[a, w], rfl, So.one a w ha hw⟩
  · simp only [Prod.mk.injEq, Option.some.injEq] at h
    obtain ⟨rfl, rfl⟩ := h
    exact ⟨[], rfl, So.none⟩
theorem escrow_inv {ts q : List Tok} {s : Tx} (h : escrowR ts = (some s, q)) : ∃ us, ts = us ++ q ∧ Eo us s := by
  unfold escrowR at h
  split at h
  · rename_i hk
    obtain ⟨a, p, rfl, ha⟩ := isT_eq hk
    rw [List.tail_cons] at h
    obtain ⟨n, rfl, hn, rfl⟩ := name_inv h
    exact ⟨[a, n], rfl, Eo.some a n ha hn⟩
  · simp only [Prod.mk.injEq, Option.some.injEq] at h
    obtain ⟨rfl, rfl⟩ := h
    exact ⟨[], rfl, Eo.none⟩
/-- a policy's tokens -/
structure Pg (ts : List Tok) (p : Pl) (q : List Tok) (a b c e z : Tok) (us rv pv so eo : List Tok) : Prop where
  eq : ts = a :: b :: c :: (us ++ (rv ++ (pv ++ (so ++ (eo ++ e :: z :: q)))))
  pol : isT kPolicy [a] = true
  nm : isN [b] = true
  uses : isT kUses [c] = true
  us : Ps sColon us p.uses
  rv : Rv rv p.reveal
  pv : Pv (atT (so ++ (eo ++ e :: z :: q))) pv p.root
  so : So so (p.scope, p.limit)
  eo : Eo eo p.escrow
  end_ : isT kEnd [e] = true
  z : isE [z] = true
  name : p.name = b.text
theorem policy_inv {ts q : List Tok} {p : Pl} (h : policyR ts = (some p, q)) : ∃ a b c e z us rv pv so eo q', q = z :: q' ∧ Pg ts p q' a b c e z us rv pv so eo := by
  rw [policy_p] at h
  obtain ⟨u, p1, h1, hh⟩ := then_inv h; replace h := hh; clear hh
  obtain ⟨nm, p2, h2, hh⟩ := then_inv h; replace h := hh; clear hh
  unfold p0 at h
  obtain ⟨u, p3, h3, hh⟩ := then_inv h; replace h := hh; clear hh
  unfold Pa.p1 at h
  obtain ⟨us, p4, h4, hh⟩ := then_inv h; replace h := hh; clear hh
  unfold Pa.p2 at h
  obtain ⟨rv, p5, h5, hh⟩ := then_inv h; replace h := hh; clear hh
  unfold Pa.p3 at h
  obtain ⟨f, p6, h6, hh⟩ := then_inv h; replace h := hh; clear hh
  unfold Pa.p4 at h
  obtain ⟨s, p7, h7, hh⟩ := then_inv h; replace h := hh; clear hh
  unfold Pa.p5 at h
  obtain ⟨x, p8, h8, hh⟩ := then_inv h; replace h := hh; clear hh
  unfold Pa.p6 at h
  obtain ⟨u, p9, h9, hh⟩ := then_inv h; replace h := hh; clear hh
  unfold endR at h
  split at h
  · rename_i hz
    simp only [Prod.mk.injEq, Option.some.injEq] at h
    obtain ⟨rfl, rfl⟩ := h
    obtain ⟨a, rfl, ha⟩ := need_inv h1
    obtain ⟨b, rfl, hb, rfl⟩ := name_inv h2
    obtain ⟨c, rfl, hc⟩ := need_inv h3
    obtain ⟨us', rfl, hus⟩ := pairs_inv _ _ _ _ _ h4
    obtain ⟨rv', rfl, hrv⟩ := reveal_inv h5
    obtain ⟨pv', rfl, hpv⟩ := prove_inv h6
    obtain ⟨so', rfl, hso⟩ := scope_inv h7
    obtain ⟨eo', rfl, heo⟩ := escrow_inv h8
    obtain ⟨e, rfl, he⟩ := need_inv h9
    cases p9 with
    | nil => cases hz
    | cons z q' => exact ⟨a, b, c, e, z, us', rv', pv', so', eo', q', rfl, rfl, ha, hb, hc, hus, hrv, hpv, hso, heo, he, hz, rfl⟩
  · cases h
/-- the first token of what follows is one of these -/
theorem eo_hd {eo : List Tok} {x : Tx} (h : Eo eo x) {e : Tok} (he : isT kEnd [e] = true) (q : List Tok) {s : Tx} (h1 : (kEscrow == s) = Bool.false) (h2 : (kEnd == s) = Bool.false) : isT s (eo ++ e :: q) = Bool.false := by
  cases h with
  | none => exact isT_other he h2
  | some a n ha hn => exact isT_other ha h1
theorem so_hd {so eo : List Tok} {x : Tx} {y : Tx × Int} (hs : So so y) (h : Eo eo x) {e : Tok} (he : isT kEnd [e] = true) (q : List Tok) {s : Tx} (h0 : (kScope == s) = Bool.false) (h1 : (kEscrow == s) = Bool.false) (h2 : (kEnd == s) = Bool.false) : isT s (so ++ (eo ++ e :: q)) = Bool.false := by
  cases hs with
  | none => exact eo_hd h he q h1 h2
  | one a w ha hw => exact isT_other ha h0
  | both a w l n ha hw hl hn => exact isT_other ha h0
theorem pv_hd {pv so eo : List Tok} {x : Tx} {y : Tx × Int} {f : F} {n : Nat} (hp : Pv n pv f) (hs : So so y) (h : Eo eo x) {e : Tok} (he : isT kEnd [e] = true) (q : List Tok) {s : Tx} (h3 : (kProve == s) = Bool.false) (h0 : (kScope == s) = Bool.false) (h1 : (kEscrow == s) = Bool.false) (h2 : (kEnd == s) = Bool.false) : isT s (pv ++ (so ++ (eo ++ e :: q))) = Bool.false := by
  cases hp with
  | none => exact so_hd hs h he q h0 h1 h2
  | some a w f ha hw => exact isT_other ha h3
theorem rv_hd {rv pv so eo : List Tok} {l : List (Tx × Tx)} {x : Tx} {y : Tx × Int} {f : F} {n : Nat} (hr : Rv rv l) (hp : Pv n pv f) (hs : So so y) (h : Eo eo x) {e : Tok} (he : isT kEnd [e] = true) (q : List Tok) {s : Tx} (h4 : (kReveal == s) = Bool.false) (h3 : (kProve == s) = Bool.false) (h0 : (kScope == s) = Bool.false) (h1 : (kEscrow == s) = Bool.false) (h2 : (kEnd == s) = Bool.false) : isT s (rv ++ (pv ++ (so ++ (eo ++ e :: q)))) = Bool.false := by
  cases hr with
  | none => exact pv_hd hp hs h he q h3 h0 h1 h2
  | some a w l ha hw => exact isT_other ha h4
theorem reveal_ok {rv : List Tok} {l : List (Tx × Tx)} (h : Rv rv l) (q : List Tok) (h1 : isT kReveal q = Bool.false) (h2 : isT sComma q = Bool.false) : revealR (rv ++ q) = (some l, q) := by
  cases h with
  | none => unfold revealR; rw [List.nil_append, h1]; rfl
  | some a vs _ ha hv =>
    unfold revealR
    rw [List.cons_append, if_pos (isT_app ha _), List.tail_cons]
    exact pairs_ok hv _ q (by simp only [List.length_cons, List.length_append]; omega) h2
theorem prove_ok {pv : List Tok} {f : F} (q : List Tok) (h : Pv (atT q) pv f) (h1 : isT kProve q = Bool.false) : proveR (pv ++ q) = (some f, q) := by
  cases h with
  | none => unfold proveR; rw [List.nil_append, h1]; rfl
  | some a vs _ ha hv =>
    unfold proveR
    rw [List.cons_append, if_pos (isT_app ha _), List.tail_cons]
    exact (expr_ok hv) _ q (by simp; omega)
theorem scope_ok {so : List Tok} {s : Tx × Int} (h : So so s) (q : List Tok) (h1 : isT kScope q = Bool.false) (h2 : isT kLimit q = Bool.false) : scopeR (so ++ q) = (some s, q) := by
  cases h with
  | none => unfold scopeR; rw [List.nil_append, h1]; rfl
  | one a w ha hw =>
    show scopeR (a :: w :: q) = _
    unfold scopeR
    rw [if_pos (isT_app ha _), List.tail_cons, word_ok hw, then_some, h2]; rfl
  | both a w l n ha hw hl hn =>
    show scopeR (a :: w :: l :: n :: q) = _
    unfold scopeR
    rw [if_pos (isT_app ha _), List.tail_cons, word_ok hw, then_some, if_pos (isT_app hl _), List.tail_cons, num_ok hn]; rfl
theorem escrow_ok {eo : List Tok} {s : Tx} (h : Eo eo s) (q : List Tok) (h1 : isT kEscrow q = Bool.false) : escrowR (eo ++ q) = (some s, q) := by
  cases h with
  | none => unfold escrowR; rw [List.nil_append, h1]; rfl
  | some a n ha hn =>
    show escrowR (a :: n :: q) = _
    unfold escrowR
    rw [if_pos (isT_app ha _), List.tail_cons, name_ok hn]
theorem policy_ok {ts q : List Tok} {p : Pl} {a b c e z : Tok} {us rv pv so eo : List Tok} (h : Pg ts p q a b c e z us rv pv so eo) : policyR ts = (some p, z :: q) := by
  obtain ⟨rfl, h1, h2, h3, h4, h5, h6, h7, h8, h9, h10, h11⟩ := h
  rw [policy_p, need_ok h1, then_some, name_ok h2, then_some]
  unfold p0
  rw [need_ok h3, then_some]
  unfold p1
  rw [pairs_ok h4 _ _ (by simp) (rv_hd h5 h6 h7 h8 h9 _ (by decide) (by decide) (by decide) (by decide) (by decide)), then_some]
  unfold p2
  rw [reveal_ok h5 _ (pv_hd h6 h7 h8 h9 _ (by decide) (by decide) (by decide) (by decide)) (pv_hd h6 h7 h8 h9 _ (by decide) (by decide) (by decide) (by decide)), then_some]
  unfold p3
  rw [prove_ok _ h6 (so_hd h7 h8 h9 _ (by decide) (by decide) (by decide)), then_some]
  unfold p4
  rw [scope_ok h7 _ (eo_hd h8 h9 _ (by decide) (by decide)) (eo_hd h8 h9 _ (by decide) (by decide)), then_some]
  unfold p5
  rw [escrow_ok h8 _ (isT_other h9 (by decide)), then_some]
  unfold p6
  rw [need_ok h9, then_some]
  unfold endR
  rw [if_pos (show isE (z :: q) = Bool.true from h10), ← h11]
end Go.Proofs.YtminghdnclpocaaGreatDoor.Pa
