/-
  Decimal integers, plain: strconv's against the reference's.
-/
import Derived.Test.YtmdjhakamapngaaDoorScE
import Derived.Lib.AtoiAllCases
import Derived.Lib.ItoaMem
import Derived.Lib.Strings
namespace Go.Proofs.YtmdjhakamapngaaDoor
open Go.RowKit Go.Shelf
set_option linter.unusedVariables false

def dstep (a : Nat) (c : UInt8) : Nat := a * 10 + (c.toNat - 48)
def dval (l : List UInt8) : Nat := l.foldl dstep 0
theorem dval_snoc (p : List UInt8) (c : UInt8) : dval (p ++ [c]) = dval p * 10 + (c.toNat - 48) := by simp [dval, dstep]
theorem digs_iff {l : List UInt8} : allN dgN l = true ↔ ∀ c ∈ l, 48 ≤ c.toNat ∧ c.toNat ≤ 57 := by
  unfold allN dgN
  rw [List.all_eq_true]
  exact ⟨fun h c hc => of_decide_eq_true (h c hc), fun h c hc => decide_eq_true (h c hc)⟩
theorem fold_ge : ∀ (l : List UInt8) (a : Nat), a ≤ l.foldl dstep a
  | [], a => Nat.le_refl _
  | c :: l, a => by
    rw [List.foldl_cons]
    exact Nat.le_trans (by unfold dstep; omega) (fold_ge l _)
theorem parse_digs : ∀ (l : List UInt8) (a : Nat), (∀ c ∈ l, 48 ≤ c.toNat ∧ c.toNat ≤ 57) → l.foldl dstep a < 18446744073709551616 → Lib.parseUint10 a l = .ok (l.foldl dstep a)
  | [], a, _, _ => rfl
  | c :: l, a, h, hl => by
    have hc := h c (List.mem_cons_self ..)
    rw [List.foldl_cons] at hl ⊢
    have h1 := fold_ge l (dstep a c)
    rw [Lib.parseUint10, if_pos hc, if_neg (by unfold dstep at *; omega), if_neg (by unfold dstep at *; omega)]
    exact parse_digs l _ (fun x hx => h x (List.mem_cons_of_mem _ hx)) hl
theorem fold_lt : ∀ (l : List UInt8) (a : Nat), (∀ c ∈ l, 48 ≤ c.toNat ∧ c.toNat ≤ 57) → l.foldl dstep a < (a + 1) * 10 ^ l.length
  | [], a, _ => by simp
  | c :: l, a, h => by
    have hc := h c (List.mem_cons_self ..)
    rw [List.foldl_cons, List.length_cons, Nat.pow_succ]
    have h1 := fold_lt l (dstep a c) (fun x hx => h x (List.mem_cons_of_mem _ hx))
    have h2 : dstep a c + 1 ≤ (a + 1) * 10 := by unfold dstep; omega
    calc l.foldl dstep (dstep a c) < (dstep a c + 1) * 10 ^ l.length := h1
      _ ≤ ((a + 1) * 10) * 10 ^ l.length := Nat.mul_le_mul_right _ h2
      _ = (a + 1) * (10 ^ l.length * 10) := by rw [Nat.mul_assoc, Nat.mul_comm 10]
theorem dval_lt {l : List UInt8} (h : ∀ c ∈ l, 48 ≤ c.toNat ∧ c.toNat ≤ 57) (hl : l.length ≤ 10) : dval l < 10000000000 := by
  have h1 := fold_lt l 0 h
  have h2 : 10 ^ l.length ≤ 10 ^ 10 := Nat.pow_le_pow_right (by omega) hl
  unfold dval
  omega
theorem byte_of {c : UInt8} (h : 48 ≤ c.toNat ∧ c.toNat ≤ 57) : UInt8.ofNat (48 + (c.toNat - 48)) = c := by
  rw [show 48 + (c.toNat - 48) = c.toNat by omega]; simp
/-- no zero ahead -/
def canD (d : List UInt8) : Prop := d ≠ [] ∧ (∀ c ∈ d, 48 ≤ c.toNat ∧ c.toNat ≤ 57) ∧ (d.head?.map (·.toNat) = some 48 → d.length = 1)
theorem canD_pos {d : List UInt8} (h : canD d) (h1 : 1 < d.length ∨ d.head?.map (·.toNat) ≠ some 48) : 1 ≤ dval d := by
  obtain ⟨h2, h3, h4⟩ := h
  cases d with
  | nil => exact absurd rfl h2
  | cons c r =>
    have hc := h3 c (List.mem_cons_self ..)
    have hne : c.toNat ≠ 48 := fun e => by
      have h5 : (c :: r).length = 1 := h4 (by simp [e])
      rcases h1 with h1 | h1
      · omega
      · exact h1 (by simp [e])
    have := fold_ge r (dstep 0 c)
    unfold dval
    rw [List.foldl_cons]
    unfold dstep at *
    omega
theorem dec_dval : ∀ (n : Nat) (d : List UInt8), d.length = n → canD d → Lib.decDigits (dval d) = d
  | 0, d, hn, h => absurd (List.eq_nil_of_length_eq_zero hn) h.1
  | n + 1, d, hn, h => by
    obtain ⟨p, c, rfl⟩ : ∃ p c, d = p ++ [c] := ⟨d.dropLast, d.getLast h.1, (List.dropLast_concat_getLast _).symm⟩
    have hc := h.2.1 c (by simp)
    have hpl : p.length = n := by simpa using hn
    rw [dval_snoc]
    by_cases hp : p = []
    · subst hp
      have : dval [] = 0 := rfl
      rw [this, Nat.zero_mul, Nat.zero_add, Lib.decDigits_one (by omega), byte_of hc]; rfl
    · have hcp : canD p := by
        refine ⟨hp, fun x hx => h.2.1 x (List.mem_append_left _ hx), fun hx => ?_⟩
        have h8 := h.2.2 (by
          cases p with
          | nil => exact absurd rfl hp
          | cons a r => simpa using hx)
        rw [List.length_append, List.length_singleton] at h8
        have : 0 < p.length := List.length_pos_iff.2 hp
        omega
      have hpos : 1 ≤ dval p := canD_pos hcp (by
        rcases Nat.lt_or_ge 1 p.length with h9 | h9
        · exact .inl h9
        · refine .inr fun h8 => ?_
          have h7 := h.2.2 (by
            cases p with
            | nil => exact absurd rfl hp
            | cons a r => simpa using h8)
          rw [List.length_append, List.length_singleton] at h7
          have : 0 < p.length := List.length_pos_iff.2 hp
          omega)
      rw [Lib.decDigits, dif_neg (by omega), show (dval p * 10 + (c.toNat - 48)) / 10 = dval p by omega, show (dval p * 10 + (c.toNat - 48)) % 10 = c.toNat - 48 by omega, dec_dval n p hpl hcp, byte_of hc]
theorem dec_can (u : Nat) : canD (Lib.decDigits u) ∧ dval (Lib.decDigits u) = u ∧ (1 ≤ u → (Lib.decDigits u).head?.map (·.toNat) ≠ some 48) := by
  induction u using Nat.strongRecOn with
  | ind u ih =>
    by_cases hu : u < 10
    · rw [Lib.decDigits_one hu]
      have ht : (UInt8.ofNat (48 + u)).toNat = 48 + u := by simp; omega
      refine ⟨⟨by simp, fun c hc => ?_, fun _ => rfl⟩, ?_, fun h1 => ?_⟩
      · rw [List.mem_singleton.1 hc, ht]; omega
      · simp only [dval, dstep, List.foldl_cons, List.foldl_nil, ht]; omega
      · simp only [List.head?_cons, Option.map_some, ht]
        intro h9; injection h9 with h9; omega
    · rw [Lib.decDigits, dif_neg hu]
      obtain ⟨⟨h1, h2, h3⟩, h4, h5⟩ := ih (u / 10) (by omega)
      have ht : (UInt8.ofNat (48 + u % 10)).toNat = 48 + u % 10 := by simp; omega
      have hh : (Lib.decDigits (u / 10) ++ [UInt8.ofNat (48 + u % 10)]).head? = (Lib.decDigits (u / 10)).head? := by
        cases hd : Lib.decDigits (u / 10) with
        | nil => exact absurd hd h1
        | cons a r => rfl
      refine ⟨⟨by simp, fun c hc => ?_, fun h9 => ?_⟩, ?_, fun _ => ?_⟩
      · rcases List.mem_append.1 hc with h6 | h6
        · exact h2 c h6
        · rw [List.mem_singleton.1 h6, ht]; omega
      · rw [hh] at h9
        exact absurd h9 (h5 (by omega))
      · rw [dval_snoc, h4, ht]; omega
      · rw [hh]; exact h5 (by omega)
/-- a decimal integer with at most 10 digits -/
def isNeg (l : List UInt8) : Bool := decide (l.head?.map (·.toNat) = some 45)
def magD (l : List UInt8) : List UInt8 := if isNeg l then l.tail else l
def decOk (l : List UInt8) : Bool := decide (magD l ≠ []) && decide ((magD l).length ≤ 10) && allN dgN (magD l) && !(decide ((magD l).head?.map (·.toNat) = some 48) && (decide (1 < (magD l).length) || isNeg l))
def decV (l : List UInt8) : Int := if isNeg l then -(dval (magD l) : Int) else (dval (magD l) : Int)
theorem decOk_iff {l : List UInt8} : decOk l = true ↔ canD (magD l) ∧ (magD l).length ≤ 10 ∧ (isNeg l = true → (magD l).head?.map (·.toNat) ≠ some 48) := by
  unfold decOk canD
  rw [Bool.and_eq_true, Bool.and_eq_true, Bool.and_eq_true, digs_iff]
  simp only [decide_eq_true_eq, Bool.not_eq_true', Bool.and_eq_false_iff, Bool.or_eq_false_iff, decide_eq_false_iff_not]
  constructor
  · rintro ⟨⟨⟨h1, h2⟩, h3⟩, h4⟩
    refine ⟨⟨h1, h3, fun h5 => ?_⟩, h2, fun h5 h6 => ?_⟩
    · rcases h4 with h4 | h4
      · exact absurd h5 h4
      · have := List.length_pos_iff.2 h1
        omega
    · rcases h4 with h4 | h4
      · exact h4 h6
      · rw [h5] at h4; cases h4.2
  · rintro ⟨⟨h1, h3, h5⟩, h2, h6⟩
    refine ⟨⟨⟨h1, h2⟩, h3⟩, ?_⟩
    by_cases h7 : (magD l).head?.map (·.toNat) = some 48
    · refine .inr ⟨by have := h5 h7; omega, ?_⟩
      cases hn : isNeg l with
      | false => rfl
      | true => exact absurd h7 (h6 hn)
    · exact .inl h7
theorem neg_form {l : List UInt8} (h : isNeg l = true) : l = 45 :: magD l := by
  have h2 := of_decide_eq_true h
  unfold magD
  rw [if_pos h]
  cases l with
  | nil => simp at h2
  | cons c r =>
    have : c.toNat = 45 := by simpa using h2
    have : c = 45 := by rw [← UInt8.toNat_inj]; exact this
    rw [this]; rfl
theorem trim_neg {l : List UInt8} : Lib.trimPrefix l [45] = magD l := by
  unfold Lib.trimPrefix
  cases hn : isNeg l with
  | true =>
    have := neg_form hn
    generalize magD l = m at *
    subst this
    simp [Lib.hasPrefix]
  | false =>
    have h2 := of_decide_eq_false hn
    unfold magD
    rw [hn]
    cases l with
    | nil => simp [Lib.hasPrefix]
    | cons c r =>
      have : c ≠ 45 := fun e => h2 (by rw [e]; rfl)
      simp only [Lib.hasPrefix, List.isPrefixOf, Bool.and_true, beq_iff_eq]
      rw [if_neg (fun e => this e.symm)]
      rfl
/-- what the reference accepts, strconv accepts, and prints so -/
theorem dec_ok {l : List UInt8} (h : decOk l = true) : Lib.atoiAll l = .ok (decV l) ∧ Lib.itoa (decV l) = l ∧ (Lib.trimPrefix l [45]).length ≤ 10 := by
  obtain ⟨h1, h2, h3⟩ := decOk_iff.1 h
  have hlt := dval_lt h1.2.1 h2
  have hp : Lib.parseMag (magD l) = .ok (dval (magD l)) := by
    unfold Lib.parseMag
    rw [if_neg h1.1]
    exact parse_digs _ 0 h1.2.1 (by unfold dval at hlt; omega)
  have hd := dec_dval _ _ rfl h1
  refine ⟨?_, ?_, by rw [trim_neg]; exact h2⟩
  · cases hn : isNeg l with
    | true =>
      have e := neg_form hn
      have hv : decV l = -(dval (magD l) : Int) := by unfold decV; rw [if_pos hn]
      rw [hv]
      conv => lhs; rw [e]
      rw [Lib.atoiAll_minus, hp]
      exact if_neg (by omega)
    | false =>
      have hm : magD l = l := by unfold magD; rw [hn]; rfl
      have hv : decV l = (dval l : Int) := by unfold decV; rw [hn, hm]; rfl
      rw [hm] at hp h1 hlt
      rw [hv]
      cases l with
      | nil => exact absurd rfl h1.1
      | cons c r =>
        have hc := h1.2.1 c (List.mem_cons_self ..)
        rw [Lib.atoiAll_plain c r (by omega) (by omega), hp]
        exact if_neg (by omega)
  · cases hn : isNeg l with
    | true =>
      have e := neg_form hn
      have hpos := canD_pos h1 (.inr (h3 hn))
      have hv : decV l = -(dval (magD l) : Int) := by unfold decV; rw [if_pos hn]
      rw [hv, Lib.itoa_neg _ hpos, hd, ← e]
    | false =>
      have hm : magD l = l := by unfold magD; rw [hn]; rfl
      have hv : decV l = (dval l : Int) := by unfold decV; rw [hn, hm]; rfl
      rw [hv, Lib.itoa_nonneg, ← hm, hm]
      rw [hm] at hd
      exact hd
/-- what strconv prints with at most 10 digits, the reference accepts -/
theorem dec_itoa (v : Int) (h : (Lib.trimPrefix (Lib.itoa v) [45]).length ≤ 10) : decOk (Lib.itoa v) = true ∧ decV (Lib.itoa v) = v := by
  rw [trim_neg] at h
  by_cases hv : v < 0
  · obtain ⟨u, rfl, hu⟩ : ∃ u : Nat, v = -(u : Int) ∧ 1 ≤ u := ⟨v.natAbs, by omega, by omega⟩
    rw [Lib.itoa_neg u hu] at h ⊢
    obtain ⟨h1, h2, h3⟩ := dec_can u
    have hn : isNeg (45 :: Lib.decDigits u) = true := by simp [isNeg]
    have hm : magD (45 :: Lib.decDigits u) = Lib.decDigits u := by unfold magD; rw [if_pos hn]; rfl
    refine ⟨decOk_iff.2 ⟨by rw [hm]; exact h1, h, fun _ => by rw [hm]; exact h3 hu⟩, ?_⟩
    unfold decV
    rw [if_pos hn, hm, h2]
  · obtain ⟨u, rfl⟩ : ∃ u : Nat, v = (u : Int) := ⟨v.toNat, by omega⟩
    rw [Lib.itoa_nonneg] at h ⊢
    obtain ⟨h1, h2, h3⟩ := dec_can u
    have hn : isNeg (Lib.decDigits u) = false := by
      unfold isNeg
      rw [decide_eq_false_iff_not]
      cases hd : Lib.decDigits u with
      | nil => simp
      | cons c r =>
        have := h1.2.1 c (by rw [hd]; exact List.mem_cons_self ..)
        simp; omega
    have hm : magD (Lib.decDigits u) = Lib.decDigits u := by unfold magD; rw [hn]; rfl
    refine ⟨decOk_iff.2 ⟨by rw [hm]; exact h1, h, fun h9 => by rw [hn] at h9; cases h9⟩, ?_⟩
    unfold decV
    rw [hn, hm, h2]; rfl
end Go.Proofs.YtmdjhakamapngaaDoor
