/-
  dominoref40: the outcome at an offset.
-/
import Derived.Test.YtbepmakohjpioaaLxR3
import Derived.Test.YtbepmakohjpioaaLxR4
namespace Go.Proofs.Ytbepmakohjpioaa
open Go.RowKit
set_option linter.unusedVariables false

def Rf (f : Nat) (s : ByteArray) (b : Nat) (v : Value) : Prop := ∀ W : World, Calls Try.prog f #[.string s, .int .i64 (b : Int)] W fun e w' => e = .returned v ∧ Below W.heap.size W w'
inductive ROut (s : ByteArray) (b : Nat) (hb : b < s.size) : Prop
  | nerr (n : Nat) (hl : Lx.isLet s[b] = true) (hn : Lx.sp Lx.isNm ((tl s).drop b) = n) (h : 32 < n) (ht : Lx.tk ((tl s).drop b) = .inl 5)
  | ntok (n : Nat) (v : Bool) (hl : Lx.isLet s[b] = true) (hn : Lx.sp Lx.isNm ((tl s).drop b) = n) (h : n ≤ 32) (hk : Lx.kw (((tl s).drop b).take n) = v) (ht : Lx.tk ((tl s).drop b) = .inr (if v then 2 else 0, n))
  | uerr (p e : Nat) (hl : Lx.isLet s[b] = false) (hd : Lx.isDig s[b] = true ∨ (Lx.isDig s[b] = false ∧ s[b] = 45)) (hf : Rf 28 s b (t3 0 p e)) (he : e ≠ 0) (hr : (p = b ∧ Lx.tk ((tl s).drop b) = .inl e) ∨ (∃ n, Lx.tk ((tl s).drop b) = .inr (1, n) ∧ Lx.luAt ((tl s).drop (b + n)) = true ∧ p = b + n ∧ e = 4))
  | utok (n : Nat) (hl : Lx.isLet s[b] = false) (hd : Lx.isDig s[b] = true ∨ (Lx.isDig s[b] = false ∧ s[b] = 45)) (hf : Rf 28 s b (t3 ((b + n : Nat) : Int) 0 0)) (ht : Lx.tk ((tl s).drop b) = .inr (1, n)) (hlu : Lx.luAt ((tl s).drop (b + n)) = false)
  | werr (e : Nat) (hl : Lx.isLet s[b] = false) (hd : Lx.isDig s[b] = false) (hq : s[b] = 39) (hf : Rf 29 s b (t3 0 b e)) (he : e ≠ 0) (ht : Lx.tk ((tl s).drop b) = .inl e)
  | wtok (n : Nat) (hl : Lx.isLet s[b] = false) (hd : Lx.isDig s[b] = false) (hq : s[b] = 39) (hf : Rf 29 s b (t3 ((b + n : Nat) : Int) 0 0)) (ht : Lx.tk ((tl s).drop b) = .inr (0, n))
  | snone (hl : Lx.isLet s[b] = false) (hd : Lx.isDig s[b] = false) (hm : s[b] ≠ 45) (hq : s[b] ≠ 39) (hf : Rf 30 s b (.tuple #[.int .i64 0, .bool false])) (ht : Lx.tk ((tl s).drop b) = .inl 4)
  | stok (n : Nat) (hl : Lx.isLet s[b] = false) (hd : Lx.isDig s[b] = false) (hm : s[b] ≠ 45) (hq : s[b] ≠ 39) (hf : Rf 30 s b (.tuple #[.int .i64 ((b + n : Nat) : Int), .bool true])) (ht : Lx.tk ((tl s).drop b) = .inr (2, n))
theorem Rf.of {f : Nat} {s : ByteArray} {b : Nat} {v v' : Value} (h : Rf f s b v) (e : v = v') : Rf f s b v' := by rw [← e]; exact h
/-- numbers: begin behind the sign, n digits -/
theorem rout_num (s : ByteArray) (b : Nat) (hb : b < s.size) (hl : Lx.isLet s[b] = false) (hd : Lx.isDig s[b] = true ∨ (Lx.isDig s[b] = false ∧ s[b] = 45)) (V lim d n : Nat) (lu : Bool) (hlu : Lx.luAt ((tl s).drop (b + d + n)) = lu)
    (hf : ∀ res, numEnd (decide (lim < V)) lu b (b + d + n) = res → Rf 28 s b res) (ht : Lx.tk ((tl s).drop b) = if V ≤ lim then .inr (1, n + d) else .inl 2) : ROut s b hb := by
  by_cases hv : V ≤ lim
  · rw [if_pos hv] at ht
    have hv2 : decide (lim < V) = false := by simp; omega
    have e : b + (n + d) = b + d + n := by omega
    cases lu with
    | true => exact .uerr (b + d + n) 4 hl hd (hf _ (by rw [numEnd, hv2]; rfl)) (by decide) (.inr ⟨n + d, ht, by rw [e]; exact hlu, by omega, rfl⟩)
    | false => exact .utok (n + d) hl hd ((hf _ rfl).of (by rw [numEnd, hv2, e]; rfl)) ht (by rw [e]; exact hlu)
  · rw [if_neg hv] at ht
    have hv2 : decide (lim < V) = true := by simp; omega
    exact .uerr b 2 hl hd (hf _ (by rw [numEnd, hv2]; rfl)) (by decide) (.inl ⟨rfl, ht⟩)
theorem rout_of (s : ByteArray) (b : Nat) (hs : s.size ≤ 65536) (hb : b < s.size) : ROut s b hb := by
  have hd := drop_cons s hb
  cases hl : Lx.isLet s[b] with
  | true =>
    have ht : Lx.tk ((tl s).drop b) = Lx.tkName ((tl s).drop b) := by rw [hd, Lx.tk, if_pos hl]
    obtain ⟨n, hn⟩ : ∃ n, Lx.sp Lx.isNm ((tl s).drop b) = n := ⟨_, rfl⟩
    by_cases h32 : 32 < n
    · exact .nerr n hl hn h32 (by rw [ht, Lx.tkName, hn, if_pos h32])
    · exact .ntok n _ hl hn (by omega) rfl (by rw [ht, Lx.tkName, hn, if_neg h32])
  | false =>
    have hl' : ¬ Lx.isLet s[b] = true := by rw [hl]; decide
    by_cases hq : s[b] = 39
    · have hdg : Lx.isDig s[b] = false := by rw [hq]; rfl
      have hq2 : (s[b] == 39) = true := by simpa using hq
      have ht : Lx.tk ((tl s).drop b) = Lx.tkWord ((tl s).drop (b + 1)) := by rw [hd, Lx.tk, if_neg hl', if_pos hq2]
      obtain ⟨n, hn⟩ : ∃ n, Lx.sp Lx.isWd ((tl s).drop (b + 1)) = n := ⟨_, rfl⟩
      have hfit := sp_fit hn (show b + 1 ≤ s.size by omega)
      rw [Lx.tkWord, hn, List.getElem?_drop] at ht
      by_cases h32 : 32 < n
      · exact .werr 5 hl hdg hq (fun W => rword_long s b n W hs hb hn h32) (by decide) (by rw [ht, if_pos h32])
      · rw [if_neg h32] at ht
        by_cases hn0 : n = 0
        · exact .werr 4 hl hdg hq (fun W => rword_empty s b W hs hb (by rw [hn0] at hn; exact hn)) (by decide) (by rw [ht, if_pos (.inl hn0)])
        · by_cases he : b + 1 + n = s.size
          · refine .werr 4 hl hdg hq (fun W => rword_end s b n W hs hb hn (by omega) (by omega) he) (by decide) (by rw [ht, if_pos (.inr ?_)])
            rw [List.getElem?_eq_none (by rw [length_tl]; omega)]
            simp
          · have hlt : b + 1 + n < s.size := by omega
            have hget : (tl s)[b + 1 + n]? = some s[b + 1 + n] := by rw [List.getElem?_eq_getElem (by rw [length_tl]; exact hlt), tl_getElem s _ hlt]
            cases hq3 : (s[b + 1 + n] == 39) with
            | false =>
              refine .werr 4 hl hdg hq (fun W => rword_open s b n W hs hb hn (by omega) (by omega) hlt hq3) (by decide) (by rw [ht, if_pos (.inr ?_)])
              rw [hget]
              simpa using hq3
            | true =>
              have hno : ¬ (n = 0 ∨ (tl s)[b + 1 + n]? ≠ some 39) := by
                rw [hget]
                have h5 : s[b + 1 + n] = 39 := by simpa using hq3
                rw [h5]
                simp [hn0]
              refine .wtok (n + 2) hl hdg hq (Rf.of (fun W => rword_ok s b n W hs hb hn (by omega) (by omega) hlt hq3) ?_) (by rw [ht, if_neg hno])
              exact t3_eq (by omega) rfl rfl
    · have hq' : ¬ (s[b] == 39) = true := by simpa using hq
      by_cases hm : s[b] = 45
      · have hm2 : (s[b] == 45) = true := by simpa using hm
        have hdg : Lx.isDig s[b] = false := by rw [hm]; rfl
        obtain ⟨n, hn⟩ : ∃ n, Lx.sp Lx.isDig ((tl s).drop (b + 1)) = n := ⟨_, rfl⟩
        have ht : Lx.tk ((tl s).drop b) = if n = 0 then Lx.tkSign ((tl s).drop b) else if Lx.dv (((tl s).drop (b + 1)).take n) ≤ 2147483648 then .inr (1, n + 1) else .inl 2 := by
          rw [hd, Lx.tk, if_neg hl', if_neg hq', if_pos hm2, hn]
        by_cases hn0 : n = 0
        · rw [if_pos hn0] at ht
          have hsg : Lx.sg ((tl s).drop b) = 0 := by
            rw [hd, hm]
            cases (tl s).drop (b + 1) with
            | nil => rfl
            | cons c q => rw [Lx.sg, if_neg (by simp [Lx.two]), if_neg (by decide)]
          rw [Lx.tkSign, if_pos hsg] at ht
          exact .uerr b 4 hl (.inr ⟨hdg, hm⟩) (fun W => rnum_none_m s b W hs hb hm2 (by rw [hn0] at hn; exact hn)) (by decide) (.inl ⟨rfl, ht⟩)
        · rw [if_neg hn0] at ht
          exact rout_num s b hb hl (.inr ⟨hdg, hm⟩) _ 2147483648 1 n _ rfl (fun res hres W => rnum_m s b n W hs hb hm2 hn (by omega) _ rfl res hres) ht
      · have hm' : ¬ (s[b] == 45) = true := by simpa using hm
        have hm2 : (s[b] == 45) = false := by simpa using hm
        obtain ⟨n, hn⟩ : ∃ n, Lx.sp Lx.isDig ((tl s).drop b) = n := ⟨_, rfl⟩
        have ht : Lx.tk ((tl s).drop b) = if n = 0 then Lx.tkSign ((tl s).drop b) else if Lx.dv (((tl s).drop b).take n) ≤ 2147483647 then .inr (1, n) else .inl 2 := by
          rw [← hn, hd, Lx.tk, if_neg hl', if_neg hq', if_neg hm']
        by_cases hn0 : n = 0
        · have hdg : Lx.isDig s[b] = false := by
            cases h5 : Lx.isDig s[b] with
            | false => rfl
            | true => rw [hd, Lx.sp_succ h5] at hn; omega
          rw [if_pos hn0, Lx.tkSign] at ht
          have hf := fun W => rsign_any s b W hs hb
          by_cases hsg : Lx.sg ((tl s).drop b) = 0
          · rw [if_pos hsg] at ht
            exact .snone hl hdg hm hq (Rf.of hf (by rw [hsg]; rfl)) ht
          · rw [if_neg hsg] at ht
            exact .stok _ hl hdg hm hq (Rf.of hf (by rw [sgV, if_neg hsg]; simp [hsg])) ht
        · have hdg : Lx.isDig s[b] = true := by
            cases h5 : Lx.isDig s[b] with
            | true => rfl
            | false => rw [hd, Lx.sp_stop h5] at hn; omega
          rw [if_neg hn0] at ht
          exact rout_num s b hb hl (.inl hdg) _ 2147483647 0 n _ rfl (fun res hres W => rnum_p s b n W hs hb hm2 hn (by omega) _ rfl res hres) ht
end Go.Proofs.Ytbepmakohjpioaa
