/-
  Plain laws of the lexer: what stands behind a token matters little; white space between tokens; tokens joined by spaces.
-/
import Derived.Test.YtminghdnclpocaaGreatDoorLexP
namespace Go.Proofs.YtminghdnclpocaaGreatDoor.Lx

def hd (p : UInt8 → Bool) : List UInt8 → Bool
  | [] => false
  | c :: _ => p c
/-- what may stand behind a token in place of what stands there -/
def Look (r r' : List UInt8) : Prop := r'.head? = r.head? ∨ r' = [] ∨ ∃ c q, r' = c :: q ∧ (isSp c = true ∨ c = 35)
theorem look_hd {r r' : List UInt8} (h : Look r r') {p : UInt8 → Bool} (hp : ∀ c, (isSp c = true ∨ c = 35) → p c = false) (h0 : hd p r = false) : hd p r' = false := by
  rcases h with h | rfl | ⟨c, q, rfl, h⟩
  · cases r' with
    | nil => rfl
    | cons c q =>
      cases r with
      | nil => simp at h
      | cons d q' =>
        simp at h
        subst h
        exact h0
  · rfl
  · exact hp c h
theorem sep_not (c : UInt8) (h : isSp c = true ∨ c = 35) : isNm c = false ∧ isDig c = false ∧ isLU c = false ∧ (c == 61) = false := by
  have h1 : c = 32 ∨ c = 9 ∨ c = 13 ∨ c = 10 ∨ c = 35 := by
    rcases h with h | h
    · simp [isSp] at h
      rcases h with ((h | h) | h) | h
      · exact .inl h
      · exact .inr (.inl h)
      · exact .inr (.inr (.inl h))
      · exact .inr (.inr (.inr (.inl h)))
    · exact .inr (.inr (.inr (.inr h)))
  rcases h1 with rfl | rfl | rfl | rfl | rfl <;> decide
theorem hd_drop {p : UInt8 → Bool} {l : List UInt8} : hd p (l.drop (sp p l)) = false := by
  by_cases h : sp p l < l.length
  · rw [List.drop_eq_getElem_cons h]
    exact sp_end h
  · rw [List.drop_eq_nil_of_le (by omega)]
    rfl
theorem sp_hd {p : UInt8 → Bool} {r : List UInt8} (h : hd p r = false) : sp p r = 0 := by
  cases r with
  | nil => rfl
  | cons c q => exact sp_stop h
theorem sp_swap {p : UInt8 → Bool} {l r : List UInt8} (h : hd p r = false) : sp p (l.take (sp p l) ++ r) = sp p l := by
  have h1 := sp_take (p := p) (l := l) (Nat.le_refl _)
  have h2 : (l.take (sp p l)).length = sp p l := by
    have := sp_le p l
    simp; omega
  rw [sp_app_all (by rw [h1, h2]), h2, sp_hd h]
  rfl
theorem take_swap {l r : List UInt8} {n : Nat} (h : n ≤ l.length) : (l.take n ++ r).take n = l.take n := by
  rw [List.take_append_of_le_length (by simp; omega), List.take_take, Nat.min_self]
theorem sp_take_gt {p : UInt8 → Bool} {l : List UInt8} {n : Nat} (h : sp p l < n) (hn : n ≤ l.length) : sp p (l.take n) = sp p l := by
  have h1 := sp_le p (l.take n)
  have h2 : (l.take n).length = n := by simp; omega
  rcases Nat.lt_or_ge (sp p (l.take n)) n with h3 | h3
  · have := sp_app (b := l.drop n) (show sp p (l.take n) < (l.take n).length by omega)
    rw [List.take_append_drop] at this
    exact this.symm
  · have := sp_app_all (b := l.drop n) (show sp p (l.take n) = (l.take n).length by omega)
    rw [List.take_append_drop] at this
    omega
theorem tk_look {m : List UInt8} {k n : Nat} (htk : tk m = .inr (k, n)) {r : List UInt8} (hr : Look (m.drop n) r) : tk (m.take n ++ r) = .inr (k, n) := by
  have hlen := tk_len htk
  have hwy := way_of htk
  clear htk
  cases hwy with
  | name c m hc h =>
    have hn : isNm c = true := by simp [isNm, hc]
    have e1 : sp isNm ((c :: m).take (sp isNm (c :: m)) ++ r) = sp isNm (c :: m) := sp_swap (look_hd hr (fun c h => (sep_not c h).1) hd_drop)
    have e2 := take_swap (r := r) hlen.2
    have e3 : (c :: m).take (sp isNm (c :: m)) ++ r = c :: (m.take (sp isNm m) ++ r) := by rw [sp_succ hn]; rfl
    have hw := Way.name c (m.take (sp isNm m) ++ r) hc (by rw [← e3, e1]; exact h)
    rw [← e3, e1, e2] at hw
    exact hw.tk
  | word m h0 h hq =>
    obtain ⟨h1, h2⟩ := List.getElem?_eq_some_iff.1 hq
    have e3 : (39 :: m).take (sp isWd m + 2) ++ r = 39 :: (m.take (sp isWd m + 1) ++ r) := rfl
    have e4 : sp isWd (m.take (sp isWd m + 1)) = sp isWd m := sp_take_gt (by omega) (by omega)
    have e5 : sp isWd (m.take (sp isWd m + 1) ++ r) = sp isWd m := by rw [sp_app (by rw [e4]; simp; omega), e4]
    have hw := Way.word (m.take (sp isWd m + 1) ++ r) (by rw [e5]; exact h0) (by rw [e5]; exact h) (by
      rw [e5, List.getElem?_append_left (by simp; omega), List.getElem?_take_of_lt (by omega)]; exact hq)
    rw [e5] at hw
    rw [e3]
    exact hw.tk
  | minus m h0 h =>
    have e3 : (45 :: m).take (sp isDig m + 1) ++ r = 45 :: (m.take (sp isDig m) ++ r) := rfl
    have e1 : sp isDig (m.take (sp isDig m) ++ r) = sp isDig m := sp_swap (look_hd hr (fun c h => (sep_not c h).2.1) (by rw [List.drop_succ_cons]; exact hd_drop))
    have e2 := take_swap (r := r) (sp_le isDig m)
    have hw := Way.minus (m.take (sp isDig m) ++ r) (by rw [e1]; exact h0) (by rw [e1, e2]; exact h)
    rw [e1] at hw
    rw [e3]
    exact hw.tk
  | digits c m hl h1 h2 h0 h =>
    have hd1 : isDig c = true := by
      cases h5 : isDig c with
      | true => rfl
      | false => rw [sp_stop h5] at h0; exact (h0 rfl).elim
    have e1 : sp isDig ((c :: m).take (sp isDig (c :: m)) ++ r) = sp isDig (c :: m) := sp_swap (look_hd hr (fun c h => (sep_not c h).2.1) hd_drop)
    have e2 := take_swap (r := r) hlen.2
    have e3 : (c :: m).take (sp isDig (c :: m)) ++ r = c :: (m.take (sp isDig m) ++ r) := by rw [sp_succ hd1]; rfl
    have hw := Way.digits c (m.take (sp isDig m) ++ r) hl h1 h2 (by rw [← e3, e1]; exact h0) (by rw [← e3, e1, e2]; exact h)
    rw [← e3, e1] at hw
    exact hw.tk
  | sign c m hl h1 h2 h3 h =>
    have h45 : (c == 45) = false := by
      cases h5 : (c == 45) with
      | false => rfl
      | true =>
        have : c = 45 := by simpa using h5
        subst this
        refine (h ?_).elim
        cases m with
        | nil => rfl
        | cons b q =>
          rw [sg, if_neg (by simp [two]), if_neg (by decide)]
    have hdg : isDig c = false := by
      cases h5 : isDig c with
      | false => rfl
      | true => have := h3 h45; rw [sp_succ h5] at this; omega
    have key : ∀ q, sg (c :: q) = sg (c :: m) → tk (c :: q) = .inr (2, sg (c :: m)) := by
      intro q hq
      have hw := Way.sign c q hl h1 (fun h5 => by rw [h45] at h5; cases h5) (fun _ => sp_stop hdg) (by rw [hq]; exact h)
      rw [hq] at hw
      exact hw.tk
    cases m with
    | nil =>
      have h6 : one c = true := by
        cases h5 : one c with
        | true => rfl
        | false => rw [sg, if_neg (by simp [h5])] at h; exact (h rfl).elim
      have e : sg [c] = 1 := by rw [sg, if_pos h6]
      have e7 : ([c] : List UInt8).take (sg [c]) ++ r = c :: r := by rw [e]; rfl
      rw [e7]
      apply key
      rw [e]
      rw [e] at hr
      cases r with
      | nil => exact e
      | cons b q =>
        have : (b == 61) = false := look_hd (p := fun c => c == 61) hr (fun c h => (sep_not c h).2.2.2) rfl
        rw [sg, if_neg (by simp [two, this]), if_pos h6]
    | cons b q =>
      by_cases h5 : two c b = true
      · have e : sg (c :: b :: q) = 2 := by rw [sg, if_pos h5]
        have e7 : (c :: b :: q).take (sg (c :: b :: q)) ++ r = c :: b :: r := by rw [e]; rfl
        rw [e7]
        apply key
        rw [e, sg, if_pos h5]
      · have h6 : one c = true := by
          cases h7 : one c with
          | true => rfl
          | false => rw [sg, if_neg h5, if_neg (by simp [h7])] at h; exact (h rfl).elim
        have e : sg (c :: b :: q) = 1 := by rw [sg, if_neg h5, if_pos h6]
        have e7 : (c :: b :: q).take (sg (c :: b :: q)) ++ r = c :: r := by rw [e]; rfl
        rw [e7]
        apply key
        rw [e]
        rw [e] at hr
        cases r with
        | nil => rw [sg, if_pos h6]
        | cons b' q' =>
          have h8 : two c b' = false := by
            rcases hr with hr | hr | ⟨c', q'', hr, hs⟩
            · simp at hr
              subst hr
              simpa using h5
            · cases hr
            · simp only [List.cons.injEq] at hr
              obtain ⟨rfl, rfl⟩ := hr
              have := (sep_not _ hs).2.2.2
              simp [two, this]
          rw [sg, if_neg (by simp [h8]), if_pos h6]

/-- the tokens of a source from an offset on -/
inductive Sc : Nat → List UInt8 → List Tok → Prop
  | done (a : Nat) (l : List UInt8) (h : l.drop (sk false l) = []) : Sc a l [⟨3, [], a + sk false l⟩]
  | step (a : Nat) (l : List UInt8) (k n : Nat) (ts : List Tok) (ht : tk (l.drop (sk false l)) = .inr (k, n)) (hl : ¬ (k = 1 ∧ luAt ((l.drop (sk false l)).drop n) = true)) (h : Sc (a + sk false l + n) ((l.drop (sk false l)).drop n) ts) : Sc a l (⟨k, (l.drop (sk false l)).take n, a + sk false l⟩ :: ts)
theorem tk_ne {m : List UInt8} {k n : Nat} (h : tk m = .inr (k, n)) : m ≠ [] := by
  rintro rfl
  cases h
theorem st_inr {f : Nat → List UInt8 → Res} {a : Nat} {m : List UInt8} {k n : Nat} (h : tk m = .inr (k, n)) : st f a m = if k = 1 ∧ luAt (m.drop n) = true then .err (a + n) 4 else (f (a + n) (m.drop n)).pre [⟨k, m.take n, a⟩] := by
  unfold st
  rw [h]
  cases m with
  | nil => cases h
  | cons c m => rfl
theorem st_inl {f : Nat → List UInt8 → Res} {a : Nat} {m : List UInt8} {e : Nat} (h : tk m = .inl e) (hm : m ≠ []) : st f a m = .err a e := by
  unfold st
  rw [h]
  cases m with
  | nil => exact (hm rfl).elim
  | cons c m => rfl
theorem Sc.of {f : Nat} : ∀ {a : Nat} {l : List UInt8} {ts : List Tok}, l.length < f → scF f a l = .ok ts → Sc a l ts := by
  induction f with
  | zero => intro a l ts h; omega
  | succ f ih =>
    intro a l ts hl h
    unfold scF at h
    by_cases hm : l.drop (sk false l) = []
    · rw [hm] at h
      simp only [st, Res.ok.injEq] at h
      subst h
      exact .done a l hm
    · cases ht : tk (l.drop (sk false l)) with
      | inl e => rw [st_inl ht hm] at h; cases h
      | inr kn =>
        obtain ⟨k, n⟩ := kn
        rw [st_inr ht] at h
        split at h
        · cases h
        · rename_i hlu
          cases hr : scF f (a + sk false l + n) ((l.drop (sk false l)).drop n) with
          | err a e => rw [hr] at h; cases h
          | ok ts' =>
            rw [hr] at h
            simp only [Res.pre, Res.ok.injEq] at h
            subst h
            have := tk_len ht
            refine .step a l k n ts' ht hlu (ih ?_ hr)
            simp only [List.length_drop] at this ⊢
            omega
theorem Sc.to {a : Nat} {l : List UInt8} {ts : List Tok} (h : Sc a l ts) : ∀ f, l.length < f → scF f a l = .ok ts := by
  induction h with
  | done a l h =>
    intro f hf
    cases f with
    | zero => omega
    | succ f => unfold scF; rw [h]; rfl
  | step a l k n ts ht hl h ih =>
    intro f hf
    cases f with
    | zero => omega
    | succ f =>
      unfold scF
      have := tk_len ht
      simp only [List.length_drop] at this
      rw [st_inr ht, if_neg hl, ih f (by simp only [List.length_drop]; omega)]
      rfl
theorem sc_iff {l : List UInt8} {ts : List Tok} : sc l = .ok ts ↔ Sc 0 l ts := ⟨fun h => Sc.of (by omega) h, fun h => h.to _ (by omega)⟩
def kt (t : Tok) : Nat × List UInt8 := (t.kind, t.text)
theorem Sc.shift {a : Nat} {l : List UInt8} {ts : List Tok} (h : Sc a l ts) : ∀ b, ∃ ts', Sc b l ts' ∧ ts'.map kt = ts.map kt := by
  induction h with
  | done a l h => intro b; exact ⟨_, .done b l h, rfl⟩
  | step a l k n ts ht hl h ih =>
    intro b
    obtain ⟨ts', h1, h2⟩ := ih (b + sk false l + n)
    exact ⟨_, .step b l k n ts' ht hl h1, by simp [kt, h2]⟩
theorem Sc.space {a : Nat} {c : UInt8} {l : List UInt8} {ts : List Tok} (hc : isSp c = true) (h : Sc (a + 1) l ts) : Sc a (c :: l) ts := by
  have e := sk_sp (m := l) hc
  cases h with
  | done _ _ h =>
    have := Sc.done a (c :: l) (by rw [e, List.drop_succ_cons]; exact h)
    rw [e] at this
    rw [show a + 1 + sk false l = a + (sk false l + 1) by omega]
    exact this
  | step _ _ k n ts ht hl h =>
    have e2 : (c :: l).drop (sk false (c :: l)) = l.drop (sk false l) := by rw [e, List.drop_succ_cons]
    have e3 : a + sk false (c :: l) = a + 1 + sk false l := by rw [e]; omega
    have := Sc.step a (c :: l) k n ts (by rw [e2]; exact ht) (by rw [e2]; exact hl) (by rw [e2, e3]; exact h)
    rw [e2, e3] at this
    exact this
theorem Sc.within {a : Nat} {l : List UInt8} {ts : List Tok} (h : Sc a l ts) : ∀ t ∈ ts, a ≤ t.at_ ∧ t.at_ + t.text.length ≤ a + l.length := by
  induction h with
  | done a l h =>
    intro t ht
    rw [List.mem_singleton] at ht
    subst ht
    have := sk_le false l
    simp
    omega
  | step a l k n ts ht hl h ih =>
    have h1 := sk_le false l
    have h2 := tk_len ht
    simp only [List.length_drop] at h2
    intro t h3
    rcases List.mem_cons.1 h3 with rfl | h3
    · simp
      omega
    · have := ih t h3
      simp only [List.length_drop] at this
      omega
/-- the state behind a gap -/
theorem sk_gap {b : Bool} {g r : List UInt8} (h : sk b (g ++ r) = g.length) : ∃ b', (∀ x, sk b (g ++ x) = g.length + sk b' x) ∧ sk b' r = 0 := by
  induction g generalizing b with
  | nil => exact ⟨b, fun x => by simp, by simpa using h⟩
  | cons c g ih =>
    cases b with
    | false =>
      by_cases h1 : isSp c = true
      · rw [List.cons_append, sk_sp h1, List.length_cons] at h
        obtain ⟨b', h2, h3⟩ := ih (b := false) (by omega)
        exact ⟨b', fun x => by rw [List.cons_append, sk_sp h1, h2, List.length_cons]; omega, h3⟩
      · by_cases h2 : (c == 35) = true
        · have : c = 35 := by simpa using h2
          subst this
          rw [List.cons_append, sk_hash, List.length_cons] at h
          obtain ⟨b', h2, h3⟩ := ih (b := true) (by omega)
          exact ⟨b', fun x => by rw [List.cons_append, sk_hash, h2, List.length_cons]; omega, h3⟩
        · rw [List.cons_append, sk_stop (by simpa using h1) (by simpa using h2)] at h
          simp at h
    | true =>
      by_cases h2 : (c == 10) = true
      · have : c = 10 := by simpa using h2
        subst this
        rw [List.cons_append, sk_nl, List.length_cons] at h
        obtain ⟨b', h2, h3⟩ := ih (b := false) (by omega)
        exact ⟨b', fun x => by rw [List.cons_append, sk_nl, h2, List.length_cons]; omega, h3⟩
      · have h1 : (c == 10) = false := by simpa using h2
        rw [List.cons_append, sk_in h1, List.length_cons] at h
        obtain ⟨b', h2, h3⟩ := ih (b := true) (by omega)
        exact ⟨b', fun x => by rw [List.cons_append, sk_in h1, h2, List.length_cons]; omega, h3⟩
theorem sk_true_pos {r : List UInt8} (h : sk true r = 0) : r = [] := by
  cases r with
  | nil => rfl
  | cons c m => unfold sk at h; split at h <;> omega
theorem sk_own (l : List UInt8) : ∃ b', (∀ x, sk false (l.take (sk false l) ++ x) = sk false l + sk b' x) ∧ sk b' (l.drop (sk false l)) = 0 := by
  have h1 := sk_le false l
  have h2 : (l.take (sk false l)).length = sk false l := by simp; omega
  obtain ⟨b', h3, h4⟩ := sk_gap (b := false) (g := l.take (sk false l)) (r := l.drop (sk false l)) (by rw [List.take_append_drop, h2])
  rw [h2] at h3
  exact ⟨b', h3, h4⟩
/-- what is put between tokens -/
structure Gap (s : List UInt8) : Prop where
  all : ∀ b, sk b s = s.length
  stop : ∀ r, r ≠ [] → sk false r = 0 → sk false (s ++ r) = s.length
  sep : ∀ r, ∃ c q, s ++ r = c :: q ∧ (isSp c = true ∨ c = 35)
theorem sk_same {c : UInt8} {m q : List UInt8} (h : sk false (c :: m) = 0) : sk false (c :: q) = 0 := by
  unfold sk at h ⊢
  split at h
  · omega
  · rename_i h1
    rw [if_neg h1]
    split at h
    · omega
    · rename_i h2
      rw [if_neg h2]
theorem Sc.insert {a : Nat} {l : List UInt8} {ts : List Tok} (h : Sc a l ts) {s : List UInt8} (hs : Gap s) : ∀ i (hi : i < ts.length), ∃ ts', Sc a (l.take (ts[i].at_ - a) ++ (s ++ l.drop (ts[i].at_ - a))) ts' ∧ ts'.map kt = ts.map kt := by
  induction h with
  | done a l h =>
    intro i hi
    have : i = 0 := by simpa using hi
    subst this
    simp only [List.getElem_cons_zero]
    rw [show a + sk false l - a = sk false l by omega, h]
    obtain ⟨b', h3, h4⟩ := sk_own l
    have h5 : sk false (l.take (sk false l) ++ (s ++ [])) = sk false l + s.length := by rw [h3, List.append_nil, hs.all]
    have hlen : (l.take (sk false l) ++ (s ++ [])).length = sk false l + s.length := by
      have := sk_le false l
      simp; omega
    refine ⟨_, Sc.done a _ (by rw [h5]; exact List.drop_eq_nil_of_le (by omega)), rfl⟩
  | step a l k n ts ht hl h ih =>
    intro i hi
    have hne := tk_ne ht
    have hlen := tk_len ht
    have hk1 := sk_le false l
    have htk : (l.take (sk false l)).length = sk false l := by simp; omega
    obtain ⟨b', h3, h4⟩ := sk_own l
    have hb : b' = false := by
      cases b' with
      | false => rfl
      | true => exact (hne (sk_true_pos h4)).elim
    subst hb
    cases i with
    | zero =>
      simp only [List.getElem_cons_zero]
      rw [show a + sk false l - a = sk false l by omega]
      have h5 : sk false (l.take (sk false l) ++ (s ++ l.drop (sk false l))) = sk false l + s.length := by rw [h3, hs.stop _ hne h4]
      have h6 : (l.take (sk false l) ++ (s ++ l.drop (sk false l))).drop (sk false l + s.length) = l.drop (sk false l) := by
        rw [← List.append_assoc, List.drop_left' (by rw [List.length_append, htk])]
      obtain ⟨ts', h7, h8⟩ := h.shift (a + (sk false l + s.length) + n)
      refine ⟨_, Sc.step a _ k n ts' (by rw [h5, h6]; exact ht) (by rw [h5, h6]; exact hl) (by rw [h5, h6]; exact h7), ?_⟩
      rw [h5, h6]
      simp [kt, h8]
    | succ i =>
      simp only [List.getElem_cons_succ]
      have hi' : i < ts.length := by simpa using hi
      obtain ⟨ts', h7, h8⟩ := ih i hi'
      have hw := h.within ts[i] (List.getElem_mem hi')
      generalize ts[i].at_ = p at *
      obtain ⟨j, rfl⟩ : ∃ j, p = a + sk false l + n + j := ⟨p - (a + sk false l + n), by omega⟩
      rw [show a + sk false l + n + j - (a + sk false l + n) = j by omega] at h7
      rw [show a + sk false l + n + j - a = sk false l + (n + j) by omega]
      generalize hR : ((l.drop (sk false l)).drop n).take j ++ (s ++ ((l.drop (sk false l)).drop n).drop j) = R at h7
      have e1 : l.take (sk false l + (n + j)) ++ (s ++ l.drop (sk false l + (n + j))) = l.take (sk false l) ++ ((l.drop (sk false l)).take n ++ R) := by
        rw [← hR, List.take_add, List.take_add, List.drop_drop, List.drop_drop]
        simp only [List.append_assoc, Nat.add_assoc]
      have hLook : Look ((l.drop (sk false l)).drop n) R := by
        cases hx : ((l.drop (sk false l)).drop n).take j with
        | nil =>
          rw [hx] at hR
          obtain ⟨c, q, h9, h10⟩ := hs.sep (((l.drop (sk false l)).drop n).drop j)
          exact .inr (.inr ⟨c, q, by rw [← hR, ← h9]; rfl, h10⟩)
        | cons c q =>
          left
          rw [← hR, hx]
          have : ((l.drop (sk false l)).drop n) = c :: q ++ ((l.drop (sk false l)).drop n).drop j := by rw [← hx, List.take_append_drop]
          rw [this]
          rfl
      have h9 : sk false ((l.drop (sk false l)).take n ++ R) = 0 := by
        cases hm : l.drop (sk false l) with
        | nil => exact (hne hm).elim
        | cons c q =>
          rw [hm] at h4
          obtain ⟨n', rfl⟩ : ∃ n', n = n' + 1 := ⟨n - 1, by omega⟩
          rw [List.take_succ_cons, List.cons_append]
          exact sk_same h4
      have h10 : sk false (l.take (sk false l) ++ ((l.drop (sk false l)).take n ++ R)) = sk false l := by rw [h3, h9]; rfl
      have h11 : (l.take (sk false l) ++ ((l.drop (sk false l)).take n ++ R)).drop (sk false l) = (l.drop (sk false l)).take n ++ R := List.drop_left' htk
      have hn : ((l.drop (sk false l)).take n).length = n := by rw [List.length_take]; omega
      have h12 : ((l.drop (sk false l)).take n ++ R).drop n = R := List.drop_left' hn
      rw [e1]
      refine ⟨_, Sc.step a _ k n ts' (by rw [h10, h11]; exact tk_look ht hLook) ?_ (by rw [h10, h11, h12]; exact h7), ?_⟩
      · rw [h10, h11, h12]
        intro ⟨h13, h14⟩
        refine hl ⟨h13, ?_⟩
        cases h15 : luAt ((l.drop (sk false l)).drop n) with
        | true => rfl
        | false =>
          have := look_hd hLook (p := isLU) (fun c h => (sep_not c h).2.2.1) (by cases hq : (l.drop (sk false l)).drop n with | nil => rfl | cons c q => rw [hq] at h15; exact h15)
          cases hq : R with
          | nil => rw [hq] at h14; cases h14
          | cons c q => rw [hq] at h14 this; rw [show hd isLU (c :: q) = luAt (c :: q) from rfl, h14] at this; cases this
      · rw [h10, h11, List.take_left' hn]
        simp [kt, h8]
/-- texts with single spaces between them -/
def jn : List Tok → List UInt8
  | [] => []
  | [t] => t.text
  | t :: t' :: r => t.text ++ 32 :: jn (t' :: r)
theorem Sc.join {a : Nat} {l : List UInt8} {ts : List Tok} (h : Sc a l ts) : ∃ us e, ts = us ++ [e] ∧ e.kind = 3 ∧ e.text = [] ∧ e.at_ = a + l.length ∧ (∀ t ∈ us, t.kind ≤ 2 ∧ t.text ≠ []) ∧ ((us.map fun t => t.text.length).sum ≤ l.length) ∧ ∀ b, ∃ ts', Sc b (jn us) ts' ∧ ts'.map kt = ts.map kt := by
  induction h with
  | done a l h =>
    have h1 := sk_le false l
    have h2 := congrArg List.length h
    simp at h2
    exact ⟨[], _, rfl, rfl, rfl, by simp; omega, by simp, by simp, fun b => ⟨_, Sc.done b [] rfl, rfl⟩⟩
  | step a l k n ts ht hl h ih =>
    obtain ⟨us, e, rfl, h2, h3, hat, h4, h5, h6⟩ := ih
    have hne := tk_ne ht
    have hlen := tk_len ht
    have hk1 := sk_le false l
    simp only [List.length_drop] at hlen h5 hat
    have hn : ((l.drop (sk false l)).take n).length = n := by rw [List.length_take, List.length_drop]; omega
    obtain ⟨b', h3', h4'⟩ := sk_own l
    have hb : b' = false := by
      cases b' with
      | false => rfl
      | true => exact (hne (sk_true_pos h4')).elim
    subst hb
    refine ⟨⟨k, (l.drop (sk false l)).take n, a + sk false l⟩ :: us, e, rfl, h2, h3, by omega, ?_, ?_, ?_⟩
    · intro t h7
      rcases List.mem_cons.1 h7 with rfl | h7
      · refine ⟨tk_kind ht, ?_⟩
        intro h8
        have := congrArg List.length h8
        rw [hn] at this
        simp at this
        omega
      · exact h4 t h7
    · simp only [List.map_cons, List.sum_cons, hn]
      omega
    · intro b
      have key : ∀ R ts', (R = [] ∨ ∃ q, R = 32 :: q) → Sc (b + n) R ts' → ts'.map kt = (us ++ [e]).map kt → ∃ ts', Sc b ((l.drop (sk false l)).take n ++ R) ts' ∧ ts'.map kt = (⟨k, (l.drop (sk false l)).take n, a + sk false l⟩ :: us ++ [e]).map kt := by
        intro R ts' hR h7 h8
        have hLook : Look ((l.drop (sk false l)).drop n) R := by
          rcases hR with rfl | ⟨q, rfl⟩
          · exact .inr (.inl rfl)
          · exact .inr (.inr ⟨32, q, rfl, .inl rfl⟩)
        have h9 : sk false ((l.drop (sk false l)).take n ++ R) = 0 := by
          cases hm : l.drop (sk false l) with
          | nil => exact (hne hm).elim
          | cons c q =>
            rw [hm] at h4'
            obtain ⟨n', rfl⟩ : ∃ n', n = n' + 1 := ⟨n - 1, by omega⟩
            rw [List.take_succ_cons, List.cons_append]
            exact sk_same h4'
        have h12 : ((l.drop (sk false l)).take n ++ R).drop n = R := List.drop_left' hn
        have h13 : luAt R = false := by
          rcases hR with rfl | ⟨q, rfl⟩
          · rfl
          · show isLU 32 = false
            decide
        refine ⟨_, Sc.step b _ k n ts' (by rw [h9, List.drop_zero]; exact tk_look ht hLook) (by rw [h9, List.drop_zero, h12, h13]; simp) (by rw [h9, List.drop_zero, h12]; exact h7), ?_⟩
        rw [h9, List.drop_zero, List.take_left' hn]
        simp only [List.map_cons, h8, List.cons_append]
        rfl
      cases us with
      | nil =>
        obtain ⟨ts', h7, h8⟩ := h6 (b + n)
        have := key [] ts' (.inl rfl) h7 h8
        rw [List.append_nil] at this
        exact this
      | cons u us =>
        obtain ⟨ts', h7, h8⟩ := h6 (b + n + 1)
        exact key (32 :: jn (u :: us)) ts' (.inr ⟨_, rfl⟩) (h7.space rfl) h8
end Go.Proofs.YtminghdnclpocaaGreatDoor.Lx
