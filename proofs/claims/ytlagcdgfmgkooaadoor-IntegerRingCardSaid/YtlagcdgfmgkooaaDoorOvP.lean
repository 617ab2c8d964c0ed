/-
  Division bit by bit, powers of two as bytes, the square root bit by bit. Plain Lean: no program in sight.
-/
import Derived.Test.YtlagcdgfmgkooaaDoorNum
import Derived.Test.YtlagcdgfmgkooaaDoorSq
namespace Dm

/-- a power of two is added to a number whose lower digits, and that one, are 0 -/
theorem byte_add (h i j : Nat) : (2 ^ (i + 1) * h + 2 ^ i) / 256 ^ j % 256 = 2 ^ (i + 1) * h / 256 ^ j % 256 + if j = i / 8 then 2 ^ (i % 8) else 0 := by
  have e256 : ∀ k : Nat, (256 : Nat) ^ k = 2 ^ (8 * k) := fun k => by rw [Nat.pow_mul]
  rw [e256]
  rcases Nat.lt_trichotomy j (i / 8) with hj | hj | hj
  · rw [if_neg (by omega)]
    have e1 : 2 ^ i = 2 ^ (8 * j) * (256 * 2 ^ (i - 8 * j - 8)) := by
      rw [show (256 : Nat) = 2 ^ 8 from rfl, ← Nat.pow_add, ← Nat.pow_add]; congr 1; omega
    have hp : 0 < 2 ^ (8 * j) := Nat.two_pow_pos _
    have e2 : 2 ^ (i + 1) * h = 2 ^ (8 * j) * (256 * (2 ^ (i - 8 * j - 8) * 2 * h)) := by rw [Nat.pow_succ, e1]; grind
    rw [e2, e1, ← Nat.mul_add, Nat.mul_div_cancel_left _ hp, Nat.mul_div_cancel_left _ hp, ← Nat.mul_add]
    omega
  · subst hj
    rw [if_pos rfl]
    have hb : i % 8 < 8 := Nat.mod_lt _ (by omega)
    have e1 : 2 ^ i = 2 ^ (8 * (i / 8)) * 2 ^ (i % 8) := by rw [← Nat.pow_add]; congr 1; omega
    have hp : 0 < 2 ^ (8 * (i / 8)) := Nat.two_pow_pos _
    have e2 : 2 ^ (i + 1) * h = 2 ^ (8 * (i / 8)) * (2 ^ (i % 8) * 2 * h) := by rw [Nat.pow_succ, e1]; grind
    rw [e2, e1, ← Nat.mul_add, Nat.mul_div_cancel_left _ hp, Nat.mul_div_cancel_left _ hp]
    generalize i % 8 = b at *
    rcases (show b = 0 ∨ b = 1 ∨ b = 2 ∨ b = 3 ∨ b = 4 ∨ b = 5 ∨ b = 6 ∨ b = 7 by omega) with rfl | rfl | rfl | rfl | rfl | rfl | rfl | rfl <;> simp only [Nat.reducePow, Nat.reduceMul] <;> omega
  · rw [if_neg (by omega)]
    have e1 : 2 ^ (8 * j) = 2 ^ (i + 1) * 2 ^ (8 * j - i - 1) := by rw [← Nat.pow_add]; congr 1; omega
    have hp : 0 < 2 ^ (i + 1) := Nat.two_pow_pos _
    have hlt : 2 ^ i < 2 ^ (i + 1) := Nat.pow_lt_pow_right (by omega) (by omega)
    rw [e1, ← Nat.div_div_eq_div_mul, ← Nat.div_div_eq_div_mul, Nat.mul_add_div hp, Nat.mul_div_cancel_left _ hp, Nat.div_eq_of_lt hlt]
    simp
/-- one step of the division bit by bit -/
theorem over_step {A B i : Nat} (hB : 0 < B) : A / 2 ^ i = 2 * (A / 2 ^ (i + 1)) + A / 2 ^ i % 2 ∧
    A / 2 ^ i % B = (2 * (A / 2 ^ (i + 1) % B) + A / 2 ^ i % 2) - (if B ≤ 2 * (A / 2 ^ (i + 1) % B) + A / 2 ^ i % 2 then B else 0) ∧
    A / 2 ^ i / B = 2 * (A / 2 ^ (i + 1) / B) + (if B ≤ 2 * (A / 2 ^ (i + 1) % B) + A / 2 ^ i % 2 then 1 else 0) := by
  have e : A / 2 ^ (i + 1) = A / 2 ^ i / 2 := by rw [Nat.pow_succ, Nat.div_div_eq_div_mul]
  have h0 : A / 2 ^ i = 2 * (A / 2 ^ (i + 1)) + A / 2 ^ i % 2 := by rw [e]; omega
  refine ⟨h0, ?_⟩
  have hc : A / 2 ^ i % 2 < 2 := Nat.mod_lt _ (by omega)
  generalize A / 2 ^ i % 2 = c at *
  rw [h0]
  generalize A / 2 ^ (i + 1) = H at *
  have h1 := Nat.div_add_mod H B
  have h2 := Nat.mod_lt H hB
  generalize H / B = q at *
  generalize H % B = r at *
  have h3 : 2 * H + c = 2 * r + c + B * (2 * q) := by rw [← h1]; grind
  rw [h3, Nat.add_mul_mod_self_left, Nat.add_mul_div_left _ _ hB]
  by_cases hle : B ≤ 2 * r + c
  · rw [if_pos hle, if_pos hle, Nat.mod_eq_sub_mod hle, Nat.mod_eq_of_lt (by omega), Nat.div_eq_sub_div hB hle, Nat.div_eq_of_lt (by omega)]
    exact ⟨by omega, by omega⟩
  · rw [if_neg hle, if_neg hle, Nat.mod_eq_of_lt (by omega), Nat.div_eq_of_lt (by omega)]
    exact ⟨by omega, by omega⟩
/-- the digits of the quotient, when the next one is 1 -/
theorem over_bytes {A B i : Nat} (hB : 0 < B) (hle : B ≤ 2 * (A / 2 ^ (i + 1) % B) + A / 2 ^ i % 2) (j : Nat) :
    (byteAt (A / 2 ^ i / B * 2 ^ i) j).toNat = (byteAt (A / 2 ^ (i + 1) / B * 2 ^ (i + 1)) j).toNat + if j = i / 8 then 2 ^ (i % 8) else 0 := by
  rw [byteAt_toNat, byteAt_toNat, (over_step hB).2.2, if_pos hle]
  have e1 : (2 * (A / 2 ^ (i + 1) / B) + 1) * 2 ^ i = 2 ^ (i + 1) * (A / 2 ^ (i + 1) / B) + 2 ^ i := by rw [Nat.pow_succ]; grind
  have e2 : A / 2 ^ (i + 1) / B * 2 ^ (i + 1) = 2 ^ (i + 1) * (A / 2 ^ (i + 1) / B) := Nat.mul_comm _ _
  rw [e1, e2]
  exact byte_add _ _ _
theorem over_same {A B i : Nat} (hB : 0 < B) (hle : ¬ B ≤ 2 * (A / 2 ^ (i + 1) % B) + A / 2 ^ i % 2) :
    A / 2 ^ i / B * 2 ^ i = A / 2 ^ (i + 1) / B * 2 ^ (i + 1) := by
  rw [(over_step hB).2.2, if_neg hle, Nat.pow_succ]; grind
/-- one step of the square root bit by bit -/
theorem root_step (A i : Nat) : rt A / 2 ^ i * 2 ^ i = rt A / 2 ^ (i + 1) * 2 ^ (i + 1) + if (rt A / 2 ^ (i + 1) * 2 ^ (i + 1) + 2 ^ i) * (rt A / 2 ^ (i + 1) * 2 ^ (i + 1) + 2 ^ i) ≤ A then 2 ^ i else 0 := by
  have key : (rt A / 2 ^ (i + 1) * 2 ^ (i + 1) + 2 ^ i) * (rt A / 2 ^ (i + 1) * 2 ^ (i + 1) + 2 ^ i) ≤ A ↔ rt A / 2 ^ (i + 1) * 2 ^ (i + 1) + 2 ^ i ≤ rt A := le_rt.symm
  have e : rt A / 2 ^ (i + 1) = rt A / 2 ^ i / 2 := by rw [Nat.pow_succ, Nat.div_div_eq_div_mul]
  have h1 := Nat.div_add_mod (rt A) (2 ^ i)
  have h2 := Nat.mod_lt (rt A) (Nat.two_pow_pos i)
  have e3 : rt A / 2 ^ (i + 1) * 2 ^ (i + 1) = 2 * (rt A / 2 ^ i / 2) * 2 ^ i := by rw [e, Nat.pow_succ]; grind
  have h4 : (if (rt A / 2 ^ (i + 1) * 2 ^ (i + 1) + 2 ^ i) * (rt A / 2 ^ (i + 1) * 2 ^ (i + 1) + 2 ^ i) ≤ A then 2 ^ i else 0) = if rt A / 2 ^ (i + 1) * 2 ^ (i + 1) + 2 ^ i ≤ rt A then 2 ^ i else 0 := by
    by_cases h : rt A / 2 ^ (i + 1) * 2 ^ (i + 1) + 2 ^ i ≤ rt A
    · rw [if_pos (key.2 h), if_pos h]
    · rw [if_neg (fun x => h (key.1 x)), if_neg h]
  rw [h4, e3]
  generalize rt A = R at *
  generalize R / 2 ^ i = Q at *
  generalize 2 ^ i = p at *
  have h5 : Q = 2 * (Q / 2) + Q % 2 := by omega
  have h6 : Q % 2 < 2 := Nat.mod_lt _ (by omega)
  generalize Q / 2 = a at *
  generalize Q % 2 = b at *
  subst h5
  rcases (show b = 0 ∨ b = 1 by omega) with rfl | rfl
  · rw [if_neg]
    · simp
    · intro h7
      have : p * (2 * a + 0) = 2 * a * p := by grind
      omega
  · rw [if_pos]
    · grind
    · have : p * (2 * a + 1) = 2 * a * p + p := by grind
      omega
end Dm
