/-
  Binary digits of a number and of its bytes. Plain Lean: no program in sight.
-/
import Derived.Test.YtlagcdgfmgkooaaDoorRoot
namespace Dm
theorem mod_div_mod (m j : Nat) (h : j < 8) : m % 256 / 2 ^ j % 2 = m / 2 ^ j % 2 := by
  have : j = 0 ∨ j = 1 ∨ j = 2 ∨ j = 3 ∨ j = 4 ∨ j = 5 ∨ j = 6 ∨ j = 7 := by omega
  rcases this with rfl | rfl | rfl | rfl | rfl | rfl | rfl | rfl <;> simp only [Nat.reducePow] <;> omega
theorem bit_dig (n i : Nat) : n / 256 ^ (i / 8) % 256 / 2 ^ (i % 8) % 2 = n / 2 ^ i % 2 := by
  rw [mod_div_mod _ _ (by omega), Nat.div_div_eq_div_mul, show (256 : Nat) = 2 ^ 8 from rfl, ← Nat.pow_mul, ← Nat.pow_add, show 8 * (i / 8) + i % 8 = i from by omega]
theorem bit_dig' (l : List UInt8) (i : Nat) : (dig l (i / 8)).toNat / 2 ^ (i % 8) % 2 = val l / 2 ^ i % 2 := by
  rw [dig_eq, byteAt_toNat, bit_dig]
/-- the binary digit with the weight 2^i -/
def bitN (n i : Nat) : Bool := n / 2 ^ i % 2 == 1
theorem bitN_out {n i : Nat} (h : n < 2 ^ i) : bitN n i = false := by
  unfold bitN; rw [Nat.div_eq_of_lt h]; rfl
theorem bitN_len {l : List UInt8} {i : Nat} (h : l.length ≤ i / 8) : bitN (val l) i = false := by
  apply bitN_out
  have h1 := val_lt l
  have h2 : (256 : Nat) ^ l.length ≤ 2 ^ i := by
    rw [show (256 : Nat) = 2 ^ 8 from rfl, ← Nat.pow_mul]
    exact Nat.pow_le_pow_right (by omega) (by omega)
  omega
theorem bitN_nb {n i : Nat} (h : nb n ≤ i) : bitN n i = false := bitN_out (Nat.lt_of_lt_of_le (lt_nb n) (Nat.pow_le_pow_right (by omega) h))
end Dm
