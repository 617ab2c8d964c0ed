/-
  Borrows: the digits of a difference. Plain Lean.
-/
import Derived.Test.YtlagcdgfmgkooaaDoorNum
namespace Dm
/-! borrows -/
def borC (f g : Nat → Nat) : Nat → Nat
  | 0 => 0
  | k + 1 => if f k < g k + borC f g k then 1 else 0
theorem borC_le (f g : Nat → Nat) (k : Nat) : borC f g k ≤ 1 := by
  cases k with
  | zero => simp [borC]
  | succ k => rw [borC]; split <;> omega
def subC (f g : Nat → Nat) (k : Nat) : UInt8 := UInt8.ofNat ((256 + f k - (g k + borC f g k)) % 256)
theorem subC_toNat (f g : Nat → Nat) (k : Nat) : (subC f g k).toNat = (256 + f k - (g k + borC f g k)) % 256 := by
  unfold subC; rw [UInt8.toNat_ofNat']; simp only [Nat.reducePow]; omega
theorem val_subC (f g : Nat → Nat) (hf : ∀ k, f k ≤ 255) (hg : ∀ k, g k ≤ 255) (m : Nat) : val (be (subC f g) m) + colsum g m = colsum f m + borC f g m * 256 ^ m := by
  induction m with
  | zero => simp [be, val, borC, colsum]
  | succ m ih =>
    rw [val_be_succ, colsum, colsum, subC_toNat, borC, Nat.pow_succ]
    have h1 := hf m
    have h2 := hg m
    have h3 := borC_le f g m
    generalize borC f g m = b at *
    generalize f m = x at *
    generalize g m = y at *
    generalize 256 ^ m = P at *
    by_cases h : x < y + b
    · rw [if_pos h]
      have e : (256 + x - (y + b)) % 256 = 256 + x - (y + b) := by omega
      rw [e]
      obtain ⟨d, hd⟩ : ∃ d, d + (y + b) = 256 + x := ⟨256 + x - (y + b), by omega⟩
      have e2 : 256 + x - (y + b) = d := by omega
      rw [e2]
      have e3 : (d + (y + b)) * P = (256 + x) * P := by rw [hd]
      rw [Nat.add_mul, Nat.add_mul, Nat.add_mul] at e3
      have e4 : 1 * (P * 256) = 256 * P := by rw [Nat.one_mul, Nat.mul_comm]
      omega
    · rw [if_neg h]
      have e : (256 + x - (y + b)) % 256 = x - (y + b) := by omega
      rw [e]
      obtain ⟨d, hd⟩ : ∃ d, d + (y + b) = x := ⟨x - (y + b), by omega⟩
      have e2 : x - (y + b) = d := by omega
      rw [e2]
      have e3 : (d + (y + b)) * P = x * P := by rw [hd]
      rw [Nat.add_mul, Nat.add_mul] at e3
      omega
theorem trim_subC {f g : Nat → Nat} (hf : ∀ k, f k ≤ 255) (hg : ∀ k, g k ≤ 255) {m a b : Nat} (ha : colsum f m = a) (hb : colsum g m = b) (h : b ≤ a) (_ : a < 256 ^ m) : trim (be (subC f g) m) = str (a - b) := by
  have h1 := val_subC f g hf hg m
  rw [ha, hb] at h1
  have h2 : val (be (subC f g) m) < 256 ^ m := by have := val_lt (be (subC f g) m); rwa [length_be] at this
  have h3 : borC f g m = 0 := by
    rcases Nat.eq_zero_or_pos (borC f g m) with h0 | h0
    · exact h0
    · have := Nat.mul_le_mul_right (256 ^ m) h0
      omega
  exact trim_eq_str (by rw [h3] at h1; omega)
end Dm
