/-
  The search for four squares always finds some. Plain Lean: no program in sight.
-/
import Derived.Test.YtdbhmhabgbfplaaSq
import Derived.Test.YtdbhmhabgbfplaaLag
namespace Dm

theorem sq_mod8 (a : Nat) : a * a % 8 = 0 ∨ a * a % 8 = 1 ∨ a * a % 8 = 4 := by
  have h : a % 8 < 8 := Nat.mod_lt _ (by omega)
  rw [Nat.mul_mod]
  generalize a % 8 = r at *
  rcases (show r = 0 ∨ r = 1 ∨ r = 2 ∨ r = 3 ∨ r = 4 ∨ r = 5 ∨ r = 6 ∨ r = 7 by omega) with rfl | rfl | rfl | rfl | rfl | rfl | rfl | rfl <;> simp
/-- a sum of three squares is not 4^a (8 b + 7) -/
theorem not_seven : ∀ n a b c : Nat, a * a + b * b + c * c = n → seven n = false := by
  intro n
  induction n using Nat.strongRecOn with
  | _ n ih =>
    intro a b c h
    by_cases h4 : 0 < n ∧ n % 4 = 0
    · rw [seven_div h4.1 h4.2]
      have ha := sq_mod4 a
      have hb := sq_mod4 b
      have hc := sq_mod4 c
      obtain ⟨x, rfl⟩ : ∃ x, a = 2 * x := ⟨a / 2, by omega⟩
      obtain ⟨y, rfl⟩ : ∃ y, b = 2 * y := ⟨b / 2, by omega⟩
      obtain ⟨z, rfl⟩ : ∃ z, c = 2 * z := ⟨c / 2, by omega⟩
      have e : ∀ t : Nat, 2 * t * (2 * t) = 4 * (t * t) := fun t => by grind
      rw [e, e, e] at h
      exact ih (n / 4) (by omega) x y z (by omega)
    · rw [seven_end h4]
      have ha := sq_mod8 a
      have hb := sq_mod8 b
      have hc := sq_mod8 c
      have : n % 8 ≠ 7 := by omega
      simpa using this
theorem sort3 (a b c : Nat) : ∃ x y z, z ≤ y ∧ y ≤ x ∧ x * x + y * y + z * z = a * a + b * b + c * c := by
  by_cases h1 : a ≤ b <;> by_cases h2 : b ≤ c <;> by_cases h3 : a ≤ c
  · exact ⟨c, b, a, h1, h2, by omega⟩
  · omega
  · exact ⟨b, c, a, h3, by omega, by omega⟩
  · exact ⟨b, a, c, by omega, h1, by omega⟩
  · exact ⟨c, a, b, by omega, h3, by omega⟩
  · exact ⟨a, c, b, h2, by omega, by omega⟩
  · omega
  · exact ⟨a, b, c, by omega, by omega, by omega⟩
theorem sort4 (a b c d : Nat) : ∃ x y z u, u ≤ z ∧ z ≤ y ∧ y ≤ x ∧ x * x + y * y + z * z + u * u = a * a + b * b + c * c + d * d := by
  obtain ⟨x, y, z, h1, h2, h3⟩ := sort3 b c d
  by_cases k1 : x ≤ a
  · exact ⟨a, x, y, z, h1, h2, k1, by omega⟩
  · by_cases k2 : y ≤ a
    · exact ⟨x, a, y, z, h1, k2, by omega, by omega⟩
    · by_cases k3 : z ≤ a
      · exact ⟨x, y, a, z, k3, by omega, h2, by omega⟩
      · exact ⟨x, y, z, a, by omega, h1, h2, by omega⟩
theorem four_all (n : Nat) : ∃ q, four n = some q ∧ q.1 * q.1 + q.2.1 * q.2.1 + q.2.2.1 * q.2.2.1 + q.2.2.2 * q.2.2.2 = n ∧ q.2.2.2 ≤ q.2.2.1 ∧ q.2.2.1 ≤ q.2.1 ∧ q.2.1 ≤ q.1 := by
  cases h : four n with
  | none =>
    exfalso
    obtain ⟨a, b, c, d, e⟩ := four_squares n
    obtain ⟨x, y, z, u, h1, h2, h3, h4⟩ := sort4 a b c d
    have hx : x ≤ rt n := le_rt.2 (by omega)
    have hn := fourFrom_none h x hx
    have hr : n - x * x = y * y + z * z + u * u := by omega
    unfold fourAt at hn
    rw [hr, not_seven _ y z u rfl] at hn
    exact three_none (by simpa using hn) y z u rfl h1 h2 h3
  | some q =>
    refine ⟨q, rfl, ?_⟩
    obtain ⟨h1, h2⟩ := fourFrom_some h
    have h0 : q.1 * q.1 ≤ n := le_rt.1 h1
    unfold fourAt at h2
    split at h2
    · cases h2
    · obtain ⟨h3, h4, h5, h6⟩ := three_some h2
      exact ⟨by omega, h4, h5, h6⟩
end Dm
