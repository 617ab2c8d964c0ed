/-
  The lexer: what the four forms return at an offset, and the token there.
-/
import Derived.Test.YtminghdnclpocaaGreatDoorLxW4
namespace Go.Proofs.YtminghdnclpocaaGreatDoor
open Go.RowKit
set_option linter.unusedVariables false

/-- a form's answer at the scanner's offset -/
def Fm (f g : Nat) (s : ByteArray) (b : Nat) (k e r : Int) : Prop := ∀ W : World, Scn W g s b → Calls Tryz.prog f #[.pointer (some ⟨g, 0, none⟩)] W fun e' w' => e' = .returned (t3 k e r) ∧ Below W.heap.size W w'
inductive Out (g : Nat) (s : ByteArray) (b : Nat) : Prop
  | err0 (e : Nat) (he : e ≠ 0) (h0 : Fm 27 g s b 0 b e) (ht : Lx.tk ((tl s).drop b) = .inl e)
  | err1 (e : Nat) (he : e ≠ 0) (h0 : Fm 27 g s b 0 b 0) (h1 : Fm 28 g s b 0 b e) (ht : Lx.tk ((tl s).drop b) = .inl e)
  | err2 (e : Nat) (he : e ≠ 0) (h0 : Fm 27 g s b 0 b 0) (h1 : Fm 28 g s b 0 b 0) (h2 : Fm 29 g s b 0 b e) (ht : Lx.tk ((tl s).drop b) = .inl e)
  | tok0 (k n : Nat) (hk : k ≠ 1) (h0 : Fm 27 g s b k (b + n) 0) (ht : Lx.tk ((tl s).drop b) = .inr (k, n))
  | tok1 (n : Nat) (h0 : Fm 27 g s b 0 b 0) (h1 : Fm 28 g s b 0 (b + n) 0) (ht : Lx.tk ((tl s).drop b) = .inr (0, n))
  | tok2 (n : Nat) (h0 : Fm 27 g s b 0 b 0) (h1 : Fm 28 g s b 0 b 0) (h2 : Fm 29 g s b 1 (b + n) 0) (ht : Lx.tk ((tl s).drop b) = .inr (1, n))
  | tok3 (n : Nat) (h0 : Fm 27 g s b 0 b 0) (h1 : Fm 28 g s b 0 b 0) (h2 : Fm 29 g s b 0 b 0) (h3 : Fm 30 g s b 2 (b + n) 0) (ht : Lx.tk ((tl s).drop b) = .inr (2, n))
  | none (h0 : Fm 27 g s b 0 b 0) (h1 : Fm 28 g s b 0 b 0) (h2 : Fm 29 g s b 0 b 0) (h3 : Fm 30 g s b 2 b 0) (ht : Lx.tk ((tl s).drop b) = .inl 4)
theorem drop_cons (s : ByteArray) {b : Nat} (hb : b < s.size) : (tl s).drop b = s[b] :: (tl s).drop (b + 1) := by
  rw [List.drop_eq_getElem_cons (by rw [length_tl]; exact hb), tl_getElem s b hb]
theorem out_sign (g : Nat) (s : ByteArray) (b : Nat) (hs : s.size ≤ 65536) (hb : b < s.size)
    (h0 : Fm 27 g s b 0 b 0) (h1 : Fm 28 g s b 0 b 0) (h2 : Fm 29 g s b 0 b 0) (ht : Lx.tk ((tl s).drop b) = Lx.tkSign ((tl s).drop b)) : Out g s b := by
  have hle := (Lx.sg_le ((tl s).drop b)).2
  by_cases hn : Lx.sg ((tl s).drop b) = 0
  · rw [Lx.tkSign, if_pos hn] at ht
    refine .none h0 h1 h2 (fun W hS => ?_) ht
    have h := sign_at g s b W hS hs hb 0 hn (by omega)
    simpa using h
  · rw [Lx.tkSign, if_neg hn] at ht
    exact .tok3 _ h0 h1 h2 (fun W hS => sign_at g s b W hS hs hb _ rfl hle) ht
theorem t3_eq {k k' e e' r r' : Int} (h1 : k = k') (h2 : e = e') (h3 : r = r') : t3 k e r = t3 k' e' r' := by rw [h1, h2, h3]
theorem Fm.of {f g : Nat} {s : ByteArray} {b : Nat} {k e r k' e' r' : Int} (h : Fm f g s b k e r) (h1 : k = k') (h2 : e = e') (h3 : r = r') : Fm f g s b k' e' r' := by rw [← h1, ← h2, ← h3]; exact h
theorem out_of (g : Nat) (s : ByteArray) (b : Nat) (hs : s.size ≤ 65536) (hb : b < s.size) : Out g s b := by
  have hd := drop_cons s hb
  cases hl : Lx.isLet s[b] with
  | true =>
    have ht : Lx.tk ((tl s).drop b) = Lx.tkName ((tl s).drop b) := by rw [hd, Lx.tk, if_pos hl]
    obtain ⟨n, hn⟩ : ∃ n, Lx.sp Lx.isNm ((tl s).drop b) = n := ⟨_, rfl⟩
    by_cases h32 : 32 < n
    · exact .err0 5 (by decide) (fun W hS => name_err g s b W hS hs hb hl n hn h32) (by rw [ht, Lx.tkName, hn, if_pos h32])
    · cases hk : Lx.kw (((tl s).drop b).take n) with
      | true => exact .tok0 2 n (by decide) (fun W hS => name_ok_true g s b W hS hs hb hl n hn (by omega) hk) (by rw [ht, Lx.tkName, hn, if_neg h32, hk]; rfl)
      | false => exact .tok0 0 n (by decide) (fun W hS => name_ok_false g s b W hS hs hb hl n hn (by omega) hk) (by rw [ht, Lx.tkName, hn, if_neg h32, hk]; rfl)
  | false =>
    have h0 : Fm 27 g s b 0 b 0 := fun W hS => name_no g s b W hS hs hb hl
    have hl' : ¬ Lx.isLet s[b] = true := by rw [hl]; decide
    cases hq : (s[b] == 39) with
    | true =>
      have ht : Lx.tk ((tl s).drop b) = Lx.tkWord ((tl s).drop (b + 1)) := by rw [hd, Lx.tk, if_neg hl', if_pos hq]
      obtain ⟨n, hn⟩ : ∃ n, Lx.sp Lx.isWd ((tl s).drop (b + 1)) = n := ⟨_, rfl⟩
      have hfit := sp_fit hn (show b + 1 ≤ s.size by omega)
      rw [Lx.tkWord, hn, List.getElem?_drop] at ht
      by_cases h32 : 32 < n
      · exact .err1 5 (by decide) h0 (fun W hS => word_long g s b W hS hs hb hq n hn h32) (by rw [ht, if_pos h32])
      · rw [if_neg h32] at ht
        by_cases hn0 : n = 0
        · exact .err1 4 (by decide) h0 (fun W hS => word_empty g s b W hS hs hb hq n hn hn0) (by rw [ht, if_pos (.inl hn0)])
        · by_cases he : b + 1 + n = s.size
          · refine .err1 4 (by decide) h0 (fun W hS => word_end g s b W hS hs hb hq n hn (by omega) (by omega) he) (by rw [ht, if_pos (.inr ?_)])
            rw [List.getElem?_eq_none (by rw [length_tl]; omega)]
            simp
          · have hlt : b + 1 + n < s.size := by omega
            have hget : (tl s)[b + 1 + n]? = some s[b + 1 + n] := by rw [List.getElem?_eq_getElem (by rw [length_tl]; exact hlt), tl_getElem s _ hlt]
            cases hq2 : (s[b + 1 + n] == 39) with
            | false =>
              refine .err1 4 (by decide) h0 (fun W hS => word_open g s b W hS hs hb hq n hn (by omega) (by omega) hlt hq2) (by rw [ht, if_pos (.inr ?_)])
              rw [hget]
              simpa using hq2
            | true =>
              have hno : ¬ (n = 0 ∨ (tl s)[b + 1 + n]? ≠ some 39) := by
                rw [hget]
                have h5 : s[b + 1 + n] = 39 := by simpa using hq2
                rw [h5]
                simp [hn0]
              exact .tok1 (n + 2) h0 (Fm.of (fun W hS => word_ok g s b W hS hs hb hq n hn (by omega) (by omega) hlt hq2) rfl (by omega) rfl) (by rw [ht, if_neg hno])
    | false =>
      have h1 : Fm 28 g s b 0 b 0 := fun W hS => word_no g s b W hS hs hb hq
      have hq' : ¬ (s[b] == 39) = true := by rw [hq]; decide
      cases hm : (s[b] == 45) with
      | true =>
        obtain ⟨n, hn⟩ : ∃ n, Lx.sp Lx.isDig ((tl s).drop (b + 1)) = n := ⟨_, rfl⟩
        have ht : Lx.tk ((tl s).drop b) = if n = 0 then Lx.tkSign ((tl s).drop b) else if Lx.dv (((tl s).drop (b + 1)).take n) ≤ 2147483648 then .inr (1, n + 1) else .inl 2 := by
          rw [hd, Lx.tk, if_neg hl', if_neg hq', if_pos hm, hn]
        by_cases hn0 : n = 0
        · rw [if_pos hn0] at ht
          exact out_sign g s b hs hb h0 h1 (fun W hS => numb_no_m g s b W hS hs hb hm n hn hn0) ht
        · rw [if_neg hn0] at ht
          by_cases hv : Lx.dv (((tl s).drop (b + 1)).take n) ≤ 2147483648
          · rw [if_pos hv] at ht
            exact .tok2 (n + 1) h0 h1 (Fm.of (fun W hS => numb_m_true g s b W hS hs hb hm n hn (by omega) (decide_eq_true hv)) rfl (by omega) rfl) ht
          · rw [if_neg hv] at ht
            exact .err2 2 (by decide) h0 h1 (fun W hS => numb_m_false g s b W hS hs hb hm n hn (by omega) (decide_eq_false hv)) ht
      | false =>
        have hm' : ¬ (s[b] == 45) = true := by rw [hm]; decide
        obtain ⟨n, hn⟩ : ∃ n, Lx.sp Lx.isDig ((tl s).drop b) = n := ⟨_, rfl⟩
        have ht : Lx.tk ((tl s).drop b) = if n = 0 then Lx.tkSign ((tl s).drop b) else if Lx.dv (((tl s).drop b).take n) ≤ 2147483647 then .inr (1, n) else .inl 2 := by
          rw [← hn, hd, Lx.tk, if_neg hl', if_neg hq', if_neg hm']
        by_cases hn0 : n = 0
        · rw [if_pos hn0] at ht
          exact out_sign g s b hs hb h0 h1 (fun W hS => numb_no_p g s b W hS hs hb hm n hn hn0) ht
        · rw [if_neg hn0] at ht
          by_cases hv : Lx.dv (((tl s).drop b).take n) ≤ 2147483647
          · rw [if_pos hv] at ht
            exact .tok2 n h0 h1 (fun W hS => numb_p_true g s b W hS hs hb hm n hn (by omega) (decide_eq_true hv)) ht
          · rw [if_neg hv] at ht
            exact .err2 2 (by decide) h0 h1 (fun W hS => numb_p_false g s b W hS hs hb hm n hn (by omega) (decide_eq_false hv)) ht
end Go.Proofs.YtminghdnclpocaaGreatDoor
