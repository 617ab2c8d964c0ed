/-
  What is known of the tokens of a source. No program in sight.
-/
import Derived.Test.YtminghdnclpocaaGreatDoorPaA
namespace Go.Proofs.YtminghdnclpocaaGreatDoor.Pa
open Lx (Tok)
set_option linter.unusedVariables false

/-- a word's text: what stands between its apostrophes -/
structure WordT (t w : Tx) : Prop where
  eq : t = 39 :: (w ++ [39])
  all : ∀ c ∈ w, Lx.isWd c = true
  pos : 0 < w.length
  le : w.length ≤ 32
structure NameT (t : Tx) : Prop where
  all : ∀ c ∈ t, Lx.isNm c = true
  fst : ∃ c m, t = c :: m ∧ Lx.isLet c = true
  le : t.length ≤ 32
  kw : Lx.kw t = false
/-- a number's text: whether it is negative, and its digits -/
structure NumT (t : Tx) (neg : Bool) (d : Tx) : Prop where
  eq : t = if neg then 45 :: d else d
  pos : 0 < d.length
  all : ∀ c ∈ d, Lx.isDig c = true
  le : Lx.dv d ≤ if neg then 2147483648 else 2147483647
inductive Fine (t : Tok) : Prop
  | word (w : Tx) (hk : t.kind = 0) (h : WordT t.text w)
  | name (hk : t.kind = 0) (h : NameT t.text)
  | num (neg : Bool) (d : Tx) (hk : t.kind = 1) (h : NumT t.text neg d)
  | sign (hk : t.kind = 2) (h0 : t.text ≠ [])
  | end_ (hk : t.kind = 3) (h : t.text = [])
theorem sp_mem {p : UInt8 → Bool} {l : List UInt8} {n : Nat} (h : n ≤ Lx.sp p l) : ∀ c ∈ l.take n, p c = true := by
  intro c hc
  obtain ⟨i, hi, rfl⟩ := List.getElem_of_mem hc
  rw [List.length_take] at hi
  rw [List.getElem_take]
  exact Lx.sp_all i (by omega) (by omega)
theorem isLet_ne {c : UInt8} (h : Lx.isLet c = true) : c ≠ 39 := by rintro rfl; exact absurd h (by decide)
theorem isDig_ne {c : UInt8} (h : Lx.isDig c = true) : c ≠ 45 := by rintro rfl; exact absurd h (by decide)
theorem fine_way {m : List UInt8} {k n : Nat} (h : Lx.Way m k n) (a : Nat) : Fine ⟨k, m.take n, a⟩ := by
  cases h with
  | name c m hc h =>
    have h1 : Lx.isNm c = true := by simp [Lx.isNm, hc]
    have hs := Lx.sp_le Lx.isNm (c :: m)
    cases hk : Lx.kw ((c :: m).take (Lx.sp Lx.isNm (c :: m))) with
    | true =>
      refine .sign rfl ?_
      rw [Lx.sp_succ h1]
      simp
    | false =>
      refine .name rfl ⟨sp_mem (Nat.le_refl _), ?_, ?_, hk⟩
      · rw [Lx.sp_succ h1]
        exact ⟨c, m.take (Lx.sp Lx.isNm m), by simp, hc⟩
      · rw [List.length_take]; omega
  | word m h0 h hq =>
    refine .word (m.take (Lx.sp Lx.isWd m)) rfl ⟨?_, sp_mem (Nat.le_refl _), ?_, ?_⟩
    · show (39 :: m).take (Lx.sp Lx.isWd m + 2) = _
      obtain ⟨h1, h2⟩ := List.getElem?_eq_some_iff.1 hq
      rw [List.take_succ_cons, List.take_succ_eq_append_getElem h1, h2]
    · have := Lx.sp_le Lx.isWd m
      rw [List.length_take]; omega
    · rw [List.length_take]; omega
  | minus m h0 h =>
    have := Lx.sp_le Lx.isDig m
    refine .num true (m.take (Lx.sp Lx.isDig m)) rfl ⟨rfl, ?_, sp_mem (Nat.le_refl _), h⟩
    rw [List.length_take]; omega
  | digits c m hl h1 h2 h0 h =>
    have := Lx.sp_le Lx.isDig (c :: m)
    refine .num false _ rfl ⟨rfl, ?_, sp_mem (Nat.le_refl _), h⟩
    rw [List.length_take]; omega
  | sign c m hl h1 h2 h3 h =>
    refine .sign rfl ?_
    obtain ⟨j, hj⟩ : ∃ j, Lx.sg (c :: m) = j + 1 := ⟨Lx.sg (c :: m) - 1, by omega⟩
    show (c :: m).take (Lx.sg (c :: m)) ≠ []
    rw [hj]
    simp
theorem sc_fine {a : Nat} {l : List UInt8} {ts : List Tok} (h : Lx.Sc a l ts) : ∀ t ∈ ts, Fine t := by
  induction h with
  | done a l h => intro t ht; rw [List.mem_singleton.1 ht]; exact .end_ rfl rfl
  | step a l k n ts ht hl h ih =>
    intro t h1
    rcases List.mem_cons.1 h1 with rfl | h1
    · exact fine_way (Lx.way_of ht) _
    · exact ih t h1
/-- tokens that end as those of a source -/
structure Good (ts : List Tok) : Prop where
  fine : ∀ t ∈ ts, Fine t
  ends : ∃ us e, ts = us ++ [e] ∧ e.kind = 3 ∧ ∀ t ∈ us, t.kind ≤ 2
theorem sc_good {a : Nat} {l : List UInt8} {ts : List Tok} (h : Lx.Sc a l ts) : Good ts := by
  obtain ⟨us, e, h1, h2, _, _, h3, _⟩ := h.join
  exact ⟨sc_fine h, us, e, h1, h2, fun t ht => (h3 t ht).1⟩
theorem Good.ne {ts : List Tok} (h : Good ts) : ts ≠ [] := by
  obtain ⟨us, e, rfl, _⟩ := h.ends
  simp
theorem Good.tail {t : Tok} {ts : List Tok} (h : Good (t :: ts)) (hk : t.kind ≠ 3) : Good ts := by
  refine ⟨fun u hu => h.fine u (List.mem_cons_of_mem _ hu), ?_⟩
  obtain ⟨us, e, h1, h2, h3⟩ := h.ends
  cases us with
  | nil =>
    rw [List.nil_append, List.cons.injEq] at h1
    rw [h1.1] at hk
    exact absurd h2 hk
  | cons u us =>
    rw [List.cons_append, List.cons.injEq] at h1
    exact ⟨us, e, h1.2, h2, fun t ht => h3 t (List.mem_cons_of_mem _ ht)⟩
theorem Good.isT {s : Tx} {ts : List Tok} (h : Good ts) (hs : isT s ts = true) : Good ts.tail := by
  cases ts with
  | nil => cases hs
  | cons t r =>
    refine h.tail ?_
    have : t.kind = 2 := by have := hs; simp [Pa.isT] at this; exact this.1
    omega
theorem Good.isN {ts : List Tok} (h : Good ts) (hs : isN ts = true) : Good ts.tail := by
  cases ts with
  | nil => cases hs
  | cons t r =>
    refine h.tail ?_
    have : t.kind = 0 := by have := hs; simp [Pa.isN] at this; exact this.1
    omega
theorem Good.isW {ts : List Tok} (h : Good ts) (hs : isW ts = true) : Good ts.tail := by
  cases ts with
  | nil => cases hs
  | cons t r =>
    refine h.tail ?_
    have : t.kind = 0 := by have := hs; simp [Pa.isW] at this; exact this.1
    omega
theorem Good.isM {ts : List Tok} (h : Good ts) (hs : isM ts = true) : Good ts.tail := by
  cases ts with
  | nil => cases hs
  | cons t r =>
    refine h.tail ?_
    have : t.kind = 1 := by simpa [Pa.isM] using hs
    omega
theorem cmpOf_kind {t : Tok} {r : List Tok} {k : Nat} (h : cmpOf (t :: r) = some k) : t.kind = 2 ∧ k < 6 ∧ cmps[k]? = some t.text := by
  rw [cmpOf] at h
  by_cases h1 : (t.kind == 2) = true
  · rw [if_pos h1] at h
    obtain ⟨h2, h3, _⟩ := List.findIdx?_eq_some_iff_getElem.1 h
    refine ⟨by simpa using h1, h2, ?_⟩
    rw [List.getElem?_eq_getElem h2]
    exact congrArg some (by simpa using h3)
  · rw [if_neg h1] at h
    cases h
theorem Good.cmp {ts : List Tok} {k : Nat} (h : Good ts) (hs : cmpOf ts = some k) : Good ts.tail := by
  cases ts with
  | nil => cases hs
  | cons t r =>
    refine h.tail ?_
    have := (cmpOf_kind hs).1
    omega
/-- what a reading leaves is a part of what was there, and is good -/
def Keeps {α : Type} (rd : List Tok → Rd α) : Prop := ∀ ts, Good ts → (rd ts).2 <:+ ts ∧ Good (rd ts).2
/-- what a reading that succeeds leaves is less -/
def Eats {α : Type} (rd : List Tok → Rd α) : Prop := ∀ ts, Good ts → ∀ a, (rd ts).1 = some a → (rd ts).2.length < ts.length
theorem tail_lt {ts : List Tok} (h : Good ts) : ts.tail.length < ts.length := by
  cases ts with
  | nil => exact absurd rfl h.ne
  | cons t r => simp
theorem need_keeps (s : Tx) : Keeps (needR s) := by
  intro ts h
  unfold needR
  split
  · rename_i h1; exact ⟨List.tail_suffix _, h.isT h1⟩
  · exact ⟨List.suffix_refl _, h⟩
theorem name_keeps : Keeps nameR := by
  intro ts h
  unfold nameR
  split
  · rename_i h1; exact ⟨List.tail_suffix _, h.isN h1⟩
  · exact ⟨List.suffix_refl _, h⟩
theorem word_keeps : Keeps wordR := by
  intro ts h
  unfold wordR
  split
  · rename_i h1; exact ⟨List.tail_suffix _, h.isW h1⟩
  · exact ⟨List.suffix_refl _, h⟩
theorem num_keeps : Keeps numR := by
  intro ts h
  unfold numR
  split
  · rename_i h1; exact ⟨List.tail_suffix _, h.isM h1⟩
  · exact ⟨List.suffix_refl _, h⟩
theorem then_keeps {α β : Type} {rd : List Tok → Rd α} {f : α → List Tok → Rd β} (h : Keeps rd) (hf : ∀ a, Keeps (f a)) : Keeps (fun ts => (rd ts).then f) := by
  intro ts hg
  have h1 := h ts hg
  show ((rd ts).then f).2 <:+ ts ∧ Good ((rd ts).then f).2
  generalize rd ts = x at *
  obtain ⟨o, q⟩ := x
  cases o with
  | none => exact h1
  | some a =>
    have h2 := hf a q h1.2
    exact ⟨h2.1.trans h1.1, h2.2⟩
theorem then_at {α β : Type} {r : Rd α} {f : α → List Tok → Rd β} {ts : List Tok} (h : r.2 <:+ ts ∧ Good r.2) (hf : ∀ a, Keeps (f a)) : (r.then f).2 <:+ ts ∧ Good (r.then f).2 := by
  obtain ⟨o, q⟩ := r
  cases o with
  | none => exact h
  | some a =>
    have h2 := hf a q h.2
    exact ⟨h2.1.trans h.1, h2.2⟩
theorem some_keeps {α : Type} (a : List Tok → α) : Keeps (fun ts => (some (a ts), ts)) := fun ts h => ⟨List.suffix_refl _, h⟩
theorem pair_keeps (s : Tx) : Keeps (pairR s) := fun ts h => then_at (name_keeps ts h) fun a q hq => then_at (need_keeps s q hq) fun _ q hq => then_at (name_keeps q hq) fun b q hq => ⟨List.suffix_refl _, hq⟩
theorem list_keeps {α : Type} {rd : List Tok → Rd α} (h : Keeps rd) : ∀ k, Keeps (listR rd k)
  | 0 => fun ts hg => ⟨List.suffix_refl _, hg⟩
  | k + 1 => fun ts hg => then_at (h ts hg) fun a q hq => by
    split
    · rename_i h1
      have h2 := then_at (list_keeps h k q.tail (hq.isT h1)) (f := fun l q => (some (a :: l), q)) fun l q hq => ⟨List.suffix_refl _, hq⟩
      exact ⟨h2.1.trans (List.tail_suffix _), h2.2⟩
    · exact ⟨List.suffix_refl _, hq⟩
theorem value_keeps : Keeps valueR := by
  intro ts h
  unfold valueR
  split
  · exact then_at (pair_keeps _ ts h) fun a q hq => ⟨List.suffix_refl _, hq⟩
  · split
    · exact then_at (word_keeps ts h) fun a q hq => ⟨List.suffix_refl _, hq⟩
    · split
      · exact then_at (num_keeps ts h) fun a q hq => ⟨List.suffix_refl _, hq⟩
      · exact ⟨List.suffix_refl _, h⟩
theorem leaf_keeps : Keeps leafR := fun ts h => then_at (value_keeps ts h) fun a q hq => ⟨List.suffix_refl _, hq⟩
theorem up {α : Type} {r : List Tok → Rd α} {ts q : List Tok} (h : (r q).2 <:+ q ∧ Good (r q).2) (hq : q <:+ ts) : (r q).2 <:+ ts ∧ Good (r q).2 := ⟨h.1.trans hq, h.2⟩
theorem cond_keeps : Keeps condR := by
  intro ts h
  refine then_at (value_keeps ts h) fun a q hq => ?_
  split
  · rename_i k hk
    have h1 := then_at (value_keeps q.tail (hq.cmp hk)) (f := fun b q => (some (F.cons ⟨6, k, [], [], atT ts⟩ ((leaf a).app (leaf b)) .nil), q)) fun b q hq => ⟨List.suffix_refl _, hq⟩
    exact ⟨h1.1.trans (List.tail_suffix _), h1.2⟩
  · split
    · rename_i hk
      have h1 := then_at (value_keeps q.tail (hq.isT hk)) (f := fun b q => (needR kAnd q).then fun _ q => (valueR q).then fun c q => (some (F.cons ⟨7, 0, [], [], atT ts⟩ ((leaf a).app ((leaf b).app (leaf c))) .nil), q)) fun b q hq => then_at (need_keeps _ q hq) fun _ q hq => then_at (value_keeps q hq) fun c q hq => ⟨List.suffix_refl _, hq⟩
      exact ⟨h1.1.trans (List.tail_suffix _), h1.2⟩
    · split
      · rename_i hk
        have h1 := then_at (need_keeps sBra q.tail (hq.isT hk)) (f := fun _ q => (listR leafR q.length q).then fun l q => (needR sKet q).then fun _ q => (some (F.cons ⟨8, 0, [], [], atT ts⟩ ((leaf a).app (F.cat l)) .nil), q)) fun _ q hq => then_at (list_keeps leaf_keeps _ q hq) fun l q hq => then_at (need_keeps _ q hq) fun _ q hq => ⟨List.suffix_refl _, hq⟩
        exact ⟨h1.1.trans (List.tail_suffix _), h1.2⟩
      · exact ⟨List.suffix_refl _, hq⟩
theorem kids_keeps {rd : List Tok → Rd F} (h : Keeps rd) (n : Nd) : Keeps (kidsR rd n) := fun ts hg =>
  then_at (need_keeps _ ts hg) fun _ q hq => then_at (list_keeps h _ q hq) fun l q hq => then_at (need_keeps _ q hq) fun _ q hq => ⟨List.suffix_refl _, hq⟩
theorem lift {α : Type} {r : Rd α} {ts : List Tok} (h : r.2 <:+ ts.tail ∧ Good r.2) : r.2 <:+ ts ∧ Good r.2 := ⟨h.1.trans (List.tail_suffix _), h.2⟩
theorem expr_keeps : ∀ k, Keeps (exprR k)
  | 0 => fun ts h => ⟨List.suffix_refl _, h⟩
  | k + 1 => by
    have ih := expr_keeps k
    intro ts h
    rw [exprR]
    split
    · rename_i h1; exact lift (kids_keeps ih _ ts.tail (h.isT h1))
    · split
      · rename_i h1; exact lift (kids_keeps ih _ ts.tail (h.isT h1))
      · split
        · rename_i h1; exact lift (then_at (num_keeps ts.tail (h.isT h1)) fun m q hq => kids_keeps ih _ q hq)
        · split
          · rename_i h1; exact lift (then_at (ih ts.tail (h.isT h1)) fun f q hq => ⟨List.suffix_refl _, hq⟩)
          · split
            · rename_i h1; exact ⟨List.tail_suffix _, h.isT h1⟩
            · split
              · rename_i h1; exact ⟨List.tail_suffix _, h.isT h1⟩
              · split
                · rename_i h1; exact lift (then_at (ih ts.tail (h.isT h1)) fun f q hq => then_at (need_keeps _ q hq) fun _ q hq => ⟨List.suffix_refl _, hq⟩)
                · exact cond_keeps ts h
end Go.Proofs.YtminghdnclpocaaGreatDoor.Pa
