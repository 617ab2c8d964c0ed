/-
  Decimal digits of numbers. Plain Lean.
-/
import Derived.Test.YtlagcdgfmgkooaaDoorNum
namespace Dm

/-- the decimal digit of weight 10^k, as a letter -/
def dgt (n k : Nat) : UInt8 := UInt8.ofNat (48 + n / 10 ^ k % 10)
theorem dgt_toNat (n k : Nat) : (dgt n k).toNat = 48 + n / 10 ^ k % 10 := by
  unfold dgt; rw [UInt8.toNat_ofNat']; simp only [Nat.reducePow]; omega
/-- the first k digits, the least significant first -/
def leDec (n : Nat) : Nat → List UInt8
  | 0 => []
  | k + 1 => leDec n k ++ [dgt n k]
theorem length_leDec (n k : Nat) : (leDec n k).length = k := by
  induction k with
  | zero => rfl
  | succ k ih => simp [leDec, ih]
theorem leDec_get (n : Nat) : ∀ (k i : Nat), i < k → (leDec n k)[i]? = some (dgt n i)
  | 0, i, h => by omega
  | k + 1, i, h => by
    rw [leDec]
    by_cases hi : i < k
    · rw [List.getElem?_append_left (by rw [length_leDec]; exact hi), leDec_get n k i hi]
    · obtain rfl : i = k := by omega
      rw [List.getElem?_append_right (by rw [length_leDec]; exact Nat.le_refl _), length_leDec]; simp
theorem dgt_chunk (n j i : Nat) (h : i < 9) : dgt (n / 10 ^ (9 * j) % 1000000000) i = dgt n (9 * j + i) := by
  unfold dgt
  congr 2
  have e : (1000000000 : Nat) = 10 ^ i * 10 ^ (9 - i) := by rw [← Nat.pow_add, show i + (9 - i) = 9 from by omega]
  rw [e, Nat.mod_mul_right_div_self, Nat.div_div_eq_div_mul, ← Nat.pow_add]
  obtain ⟨m, hm⟩ : ∃ m, 9 - i = m + 1 := ⟨8 - i, by omega⟩
  rw [hm, Nat.pow_succ, Nat.mod_mul_left_mod]
/-- the number of decimal digits -/
def ndF : Nat → Nat → Nat
  | 0, _ => 0
  | f + 1, n => if n = 0 then 0 else 1 + ndF f (n / 10)
def nd (n : Nat) : Nat := ndF n n
theorem ndF_spec : ∀ (f n : Nat), n ≤ f → n < 10 ^ ndF f n ∧ (0 < n → 10 ^ (ndF f n - 1) ≤ n)
  | 0, n, h => by
    obtain rfl : n = 0 := by omega
    simp [ndF]
  | f + 1, n, h => by
    rw [ndF]
    by_cases h0 : n = 0
    · simp [h0]
    · rw [if_neg h0]
      obtain ⟨h1, h2⟩ := ndF_spec f (n / 10) (by omega)
      constructor
      · rw [Nat.add_comm, Nat.pow_succ]; omega
      · intro _
        rw [Nat.add_sub_cancel_left]
        by_cases h3 : n / 10 = 0
        · rw [h3]
          cases f with
          | zero => simp [ndF]; omega
          | succ f => simp [ndF]; omega
        · have h4 := h2 (by omega)
          generalize ndF f (n / 10) = d at *
          cases d with
          | zero => simp; omega
          | succ d => simp at h4; rw [Nat.pow_succ]; omega
theorem nd_lt (n : Nat) : n < 10 ^ nd n := (ndF_spec n n (Nat.le_refl _)).1
theorem nd_le {n : Nat} (h : 0 < n) : 10 ^ (nd n - 1) ≤ n := (ndF_spec n n (Nat.le_refl _)).2 h
theorem nd_eq {n k : Nat} (h1 : 10 ^ k ≤ n) (h2 : n < 10 ^ (k + 1)) : nd n = k + 1 := by
  have hp : 0 < 10 ^ k := Nat.pow_pos (by omega)
  have h3 := nd_lt n
  have h4 := nd_le (n := n) (by omega)
  have a1 : k < nd n := by
    rcases Nat.lt_or_ge k (nd n) with h | h
    · exact h
    · have := Nat.pow_le_pow_right (n := 10) (by omega) h; omega
  have a2 : nd n - 1 < k + 1 := by
    rcases Nat.lt_or_ge (nd n - 1) (k + 1) with h | h
    · exact h
    · have := Nat.pow_le_pow_right (n := 10) (by omega) h; omega
  omega
/-- the decimal text of a number -/
def dec (n : Nat) : List UInt8 := if n = 0 then [48] else (leDec n (nd n)).reverse
/-- stripping: the top digit is 0 exactly if fewer digits do -/
theorem dgt_zero {n k : Nat} (h : n < 10 ^ (k + 1)) : (dgt n k).toNat = 48 ↔ n < 10 ^ k := by
  rw [dgt_toNat]
  have hp : 0 < 10 ^ k := Nat.pow_pos (by omega)
  have h1 : n / 10 ^ k < 10 := by
    rw [Nat.div_lt_iff_lt_mul hp, Nat.mul_comm, ← Nat.pow_succ]; exact h
  rw [Nat.mod_eq_of_lt h1]
  constructor
  · intro h2
    have : n / 10 ^ k = 0 := by omega
    exact (Nat.div_eq_zero_iff_lt hp).1 this
  · intro h2
    rw [Nat.div_eq_of_lt h2]
theorem dec_pos {n k : Nat} (h1 : 10 ^ k ≤ n) (h2 : n < 10 ^ (k + 1)) : dec n = (leDec n (k + 1)).reverse := by
  have hp : 0 < 10 ^ k := Nat.pow_pos (by omega)
  unfold dec
  rw [if_neg (by omega), nd_eq h1 h2]
end Dm
