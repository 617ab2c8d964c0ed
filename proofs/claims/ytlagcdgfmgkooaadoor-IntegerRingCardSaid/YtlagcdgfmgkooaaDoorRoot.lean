/-
  Numbers of binary digits, and Newton's iteration for integer square roots. Plain Lean.
-/
import Derived.Test.YtlagcdgfmgkooaaDoorNum
import Derived.Test.YtlagcdgfmgkooaaDoorSq
namespace Dm

/-- the number of binary digits -/
def nb (n : Nat) : Nat := if n = 0 then 0 else n.log2 + 1
theorem nb_zero : nb 0 = 0 := rfl
theorem lt_nb (n : Nat) : n < 2 ^ nb n := by
  unfold nb
  split
  · rename_i h; rw [h]; decide
  · exact Nat.lt_log2_self
theorem nb_le {n : Nat} (h : 0 < n) : 2 ^ (nb n - 1) ≤ n := by
  unfold nb
  rw [if_neg (by omega)]
  simpa using Nat.log2_self_le (by omega)
theorem nb_eq {n k : Nat} (h1 : 2 ^ k ≤ n) (h2 : n < 2 ^ (k + 1)) : nb n = k + 1 := by
  have hp : 0 < 2 ^ k := Nat.pow_pos (by omega)
  have h0 : 0 < n := by omega
  have h3 := lt_nb n
  have h4 := nb_le h0
  have a1 : k < nb n := by
    rcases Nat.lt_or_ge k (nb n) with h | h
    · exact h
    · have := Nat.pow_le_pow_right (n := 2) (by omega) h; omega
  have a2 : nb n - 1 < k + 1 := by
    rcases Nat.lt_or_ge (nb n - 1) (k + 1) with h | h
    · exact h
    · have := Nat.pow_le_pow_right (n := 2) (by omega) h; omega
  omega
/-- the binary digits of bytes -/
theorem nb_bytes {c : UInt8} {l : List UInt8} {k : Nat} (h1 : 2 ^ k ≤ c.toNat) (h2 : c.toNat < 2 ^ (k + 1)) : nb (val (c :: l)) = 8 * l.length + (k + 1) := by
  have e : (256 : Nat) ^ l.length = 2 ^ (8 * l.length) := by rw [Nat.pow_mul]
  have h3 := val_lt l
  rw [show 8 * l.length + (k + 1) = (8 * l.length + k) + 1 from by omega]
  rw [val_cons]
  apply nb_eq
  · rw [Nat.pow_add, ← e, Nat.mul_comm]
    have := Nat.mul_le_mul_right (256 ^ l.length) h1
    omega
  · rw [Nat.add_assoc, Nat.pow_add, ← e, Nat.mul_comm (256 ^ l.length)]
    have h4 : c.toNat + 1 ≤ 2 ^ (k + 1) := h2
    have := Nat.mul_le_mul_right (256 ^ l.length) h4
    rw [Nat.add_mul] at this
    omega

theorem four_mul_le (x y : Nat) : 4 * (x * y) ≤ (x + y) * (x + y) := by
  rcases Nat.le_total x y with h | h
  · obtain ⟨d, rfl⟩ : ∃ d, y = x + d := ⟨y - x, by omega⟩
    have : (x + (x + d)) * (x + (x + d)) = 4 * (x * (x + d)) + d * d := by grind
    omega
  · obtain ⟨d, rfl⟩ : ∃ d, x = y + d := ⟨x - y, by omega⟩
    have : (y + d + y) * (y + d + y) = 4 * ((y + d) * y) + d * d := by grind
    omega
theorem newton_core {a x q r : Nat} (h1 : r * r ≤ a) (h4 : a < x * (q + 1)) : r ≤ (x + q) / 2 := by
  rcases Nat.lt_or_ge ((x + q) / 2) r with h | h
  · exfalso
    obtain ⟨y, hy⟩ : ∃ y, x + y = 2 * r := ⟨2 * r - x, by omega⟩
    have h5 := four_mul_le x y
    rw [hy] at h5
    have h6 : x * (q + 1) ≤ x * y := Nat.mul_le_mul_left _ (by omega)
    have h7 : 2 * r * (2 * r) = 4 * (r * r) := by grind
    omega
  · exact h
/-- a step of Newton's iteration is not below the root -/
theorem newton_ge (a x : Nat) (hx : 0 < x) : rt a ≤ (x + a / x) / 2 := by
  apply newton_core (rt_spec a).1
  have h1 := Nat.div_add_mod a x
  have h2 := Nat.mod_lt a hx
  rw [Nat.mul_add, Nat.mul_one]
  omega
/-- above the root a step is smaller -/
theorem newton_lt {a x : Nat} (h : rt a < x) : (x + a / x) / 2 < x := by
  have h2 := (rt_spec a).2
  have h3 : a < x * x := Nat.lt_of_lt_of_le h2 (Nat.mul_le_mul h h)
  have h4 : a / x < x := Nat.div_lt_of_lt_mul h3
  omega
theorem newton_end {a x : Nat} (h : rt a ≤ x) (he : x ≤ (x + a / x) / 2) : x = rt a := by
  rcases Nat.lt_or_ge (rt a) x with h1 | h1
  · have := newton_lt h1; omega
  · omega
/-- the first value: a power of 2 above the root -/
theorem newton_start (a : Nat) : rt a < 2 ^ ((nb a + 1) / 2) := by
  apply rt_lt
  have h := lt_nb a
  rw [← Nat.pow_add]
  exact Nat.lt_of_lt_of_le h (Nat.pow_le_pow_right (by omega) (by omega))
theorem div_rt {a x : Nat} (h : rt a ≤ x) (hx : 0 < x) : a / x ≤ rt a + 2 := by
  have h2 := (rt_spec a).2
  have h3 : a < x * (rt a + 3) := by
    rcases Nat.eq_or_lt_of_le h with h4 | h4
    · have : x * (rt a + 3) = (rt a + 1) * (rt a + 1) + (rt a - 1) := by
        rw [← h4]
        have : rt a * (rt a + 3) = rt a * rt a + 3 * rt a := by grind
        have h5 : (rt a + 1) * (rt a + 1) = rt a * rt a + 2 * rt a + 1 := by grind
        omega
      omega
    · have h5 : (rt a + 1) * (rt a + 1) ≤ x * (rt a + 3) := Nat.mul_le_mul h4 (by omega)
      omega
  have := Nat.div_lt_of_lt_mul h3
  omega
end Dm
