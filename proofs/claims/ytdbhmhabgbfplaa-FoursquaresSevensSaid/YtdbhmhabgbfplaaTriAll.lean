/-
  Every number below 2^32 that is not 4^a (8 b + 7) is a sum of three squares. Plain Lean: no program in sight.
-/
import Derived.Test.YtdbhmhabgbfplaaTriC1
import Derived.Test.YtdbhmhabgbfplaaTriC2
import Derived.Test.YtdbhmhabgbfplaaTriC3
import Derived.Test.YtdbhmhabgbfplaaTriC4
import Derived.Test.YtdbhmhabgbfplaaTriC5
import Derived.Test.YtdbhmhabgbfplaaTriC6
import Derived.Test.YtdbhmhabgbfplaaTriC7
import Derived.Test.YtdbhmhabgbfplaaTriC8
import Derived.Test.YtdbhmhabgbfplaaSq2
namespace Dm
theorem all_a (i : Nat) (h : i < fS 33072) : Good fS i := by
  by_cases h0 : i < fS 128
  · exact good_first mono_fS good_a0 i (Nat.zero_le _) h0
  by_cases h1 : i < fS (8800 + 72)
  · exact good_chunks mono_fS good_a1 (m := 8800) (by decide) i (Nat.le_trans (mono_fS _ _ (by decide)) (Nat.le_of_not_lt h0)) h1
  by_cases h2 : i < fS (13640 + 72)
  · exact good_chunks mono_fS good_a2 (m := 13640) (by decide) i (Nat.le_of_not_lt h1) h2
  by_cases h3 : i < fS (17160 + 72)
  · exact good_chunks mono_fS good_a3 (m := 17160) (by decide) i (Nat.le_of_not_lt h2) h3
  by_cases h4 : i < fS (20240 + 72)
  · exact good_chunks mono_fS good_a4 (m := 20240) (by decide) i (Nat.le_of_not_lt h3) h4
  by_cases h5 : i < fS (22440 + 72)
  · exact good_chunks mono_fS good_a5 (m := 22440) (by decide) i (Nat.le_of_not_lt h4) h5
  by_cases h6 : i < fS (24640 + 72)
  · exact good_chunks mono_fS good_a6 (m := 24640) (by decide) i (Nat.le_of_not_lt h5) h6
  by_cases h7 : i < fS (26400 + 72)
  · exact good_chunks mono_fS good_a7 (m := 26400) (by decide) i (Nat.le_of_not_lt h6) h7
  by_cases h8 : i < fS (28160 + 72)
  · exact good_chunks mono_fS good_a8 (m := 28160) (by decide) i (Nat.le_of_not_lt h7) h8
  by_cases h9 : i < fS (29480 + 72)
  · exact good_chunks mono_fS good_a9 (m := 29480) (by decide) i (Nat.le_of_not_lt h8) h9
  by_cases h10 : i < fS (30800 + 72)
  · exact good_chunks mono_fS good_a10 (m := 30800) (by decide) i (Nat.le_of_not_lt h9) h10
  by_cases h11 : i < fS (32120 + 72)
  · exact good_chunks mono_fS good_a11 (m := 32120) (by decide) i (Nat.le_of_not_lt h10) h11
  exact good_chunks mono_fS good_a12 (m := 33000) (by decide) i (Nat.le_of_not_lt h11) h
theorem all_b (i : Nat) (h : i < fP 33072) : Good fP i := by
  by_cases h0 : i < fP 128
  · exact good_first mono_fP good_b0 i (Nat.zero_le _) h0
  by_cases h1 : i < fP (8800 + 72)
  · exact good_chunks mono_fP good_b1 (m := 8800) (by decide) i (Nat.le_trans (mono_fP _ _ (by decide)) (Nat.le_of_not_lt h0)) h1
  by_cases h2 : i < fP (13640 + 72)
  · exact good_chunks mono_fP good_b2 (m := 13640) (by decide) i (Nat.le_of_not_lt h1) h2
  by_cases h3 : i < fP (17160 + 72)
  · exact good_chunks mono_fP good_b3 (m := 17160) (by decide) i (Nat.le_of_not_lt h2) h3
  by_cases h4 : i < fP (20240 + 72)
  · exact good_chunks mono_fP good_b4 (m := 20240) (by decide) i (Nat.le_of_not_lt h3) h4
  by_cases h5 : i < fP (22440 + 72)
  · exact good_chunks mono_fP good_b5 (m := 22440) (by decide) i (Nat.le_of_not_lt h4) h5
  by_cases h6 : i < fP (24640 + 72)
  · exact good_chunks mono_fP good_b6 (m := 24640) (by decide) i (Nat.le_of_not_lt h5) h6
  by_cases h7 : i < fP (26400 + 72)
  · exact good_chunks mono_fP good_b7 (m := 26400) (by decide) i (Nat.le_of_not_lt h6) h7
  by_cases h8 : i < fP (28160 + 72)
  · exact good_chunks mono_fP good_b8 (m := 28160) (by decide) i (Nat.le_of_not_lt h7) h8
  by_cases h9 : i < fP (29480 + 72)
  · exact good_chunks mono_fP good_b9 (m := 29480) (by decide) i (Nat.le_of_not_lt h8) h9
  by_cases h10 : i < fP (30800 + 72)
  · exact good_chunks mono_fP good_b10 (m := 30800) (by decide) i (Nat.le_of_not_lt h9) h10
  by_cases h11 : i < fP (32120 + 72)
  · exact good_chunks mono_fP good_b11 (m := 32120) (by decide) i (Nat.le_of_not_lt h10) h11
  exact good_chunks mono_fP good_b12 (m := 33000) (by decide) i (Nat.le_of_not_lt h11) h
theorem all_c (i : Nat) (h : i < fT 33072) : Good fT i := by
  by_cases h0 : i < fT 128
  · exact good_first mono_fT good_c0 i (Nat.zero_le _) h0
  by_cases h1 : i < fT (13200 + 72)
  · exact good_chunks mono_fT good_c1 (m := 13200) (by decide) i (Nat.le_trans (mono_fT _ _ (by decide)) (Nat.le_of_not_lt h0)) h1
  by_cases h2 : i < fT (20680 + 72)
  · exact good_chunks mono_fT good_c2 (m := 20680) (by decide) i (Nat.le_of_not_lt h1) h2
  by_cases h3 : i < fT (25960 + 72)
  · exact good_chunks mono_fT good_c3 (m := 25960) (by decide) i (Nat.le_of_not_lt h2) h3
  by_cases h4 : i < fT (30360 + 72)
  · exact good_chunks mono_fT good_c4 (m := 30360) (by decide) i (Nat.le_of_not_lt h3) h4
  exact good_chunks mono_fT good_c5 (m := 33000) (by decide) i (Nat.le_of_not_lt h4) h
theorem top_a : fS 33072 = 1093757184 := by decide
theorem top_b : fP 33072 = 1093790256 := by decide
theorem top_c : fT 33072 = 546895128 := by decide
theorem even_mul (d : Nat) : d * (d + 1) / 2 * 2 = d * (d + 1) := by
  have h : d * (d + 1) % 2 = 0 := by
    rcases Nat.mod_two_eq_zero_or_one d with h | h <;> rw [Nat.mul_mod, Nat.add_mod, h]
  omega
theorem three_sq : ∀ n : Nat, n < 4294967296 → seven n = false → ∃ a b c : Nat, a * a + b * b + c * c = n := by
  intro n
  induction n using Nat.strongRecOn with
  | _ n ih =>
    intro hn h7
    by_cases h4 : 0 < n ∧ n % 4 = 0
    · rw [seven_div h4.1 h4.2] at h7
      obtain ⟨a, b, c, e⟩ := ih (n / 4) (by omega) (by omega) h7
      have e2 : ∀ t : Nat, 2 * t * (2 * t) = 4 * (t * t) := fun t => by grind
      exact ⟨2 * a, 2 * b, 2 * c, by rw [e2, e2, e2]; omega⟩
    · rw [seven_end h4] at h7
      have h7' : n % 8 ≠ 7 := by simpa using h7
      by_cases h0 : n = 0
      · exact ⟨0, 0, 0, by omega⟩
      · have hm : n % 4 = 1 ∨ n % 4 = 2 ∨ n % 8 = 3 := by omega
        have es : ∀ t : Nat, (2 * t) * (2 * t) = 4 * (t * t) := fun t => by grind
        have eo : ∀ t : Nat, (2 * t + 1) * (2 * t + 1) = 4 * (t * (t + 1)) + 1 := fun t => by grind
        rcases hm with hm | hm | hm
        · obtain ⟨d, h1, u, v, h2⟩ := all_a (n / 4) (by rw [top_a]; omega)
          have hd : fS d = d * d := rfl
          rw [hd] at h1 h2
          exact ⟨2 * d, 2 * u + 1, 2 * v, by rw [es, es, eo]; omega⟩
        · obtain ⟨d, h1, u, v, h2⟩ := all_b (n / 4) (by rw [top_b]; omega)
          have hd : fP d = d * (d + 1) := rfl
          rw [hd] at h1 h2
          exact ⟨2 * d + 1, 2 * u + 1, 2 * v, by rw [es, eo, eo]; omega⟩
        · obtain ⟨d, h1, u, v, h2⟩ := all_c (n / 8) (by rw [top_c]; omega)
          have hd : fT d = d * (d + 1) / 2 := rfl
          have hv := even_mul d
          rw [hd] at h1 h2
          have e1 : (2 * d + 1) * (2 * d + 1) = 4 * (d * (d + 1)) + 1 := eo d
          have e2 : n = (2 * d + 1) * (2 * d + 1) + 8 * (u * (u + 1) + v * v) + 2 := by omega
          rcases Nat.le_total v u with h | h
          · refine ⟨2 * d + 1, 2 * u + 1 + 2 * v, 2 * (u - v) + 1, ?_⟩
            obtain ⟨k, rfl⟩ : ∃ k, u = v + k := ⟨u - v, by omega⟩
            have e3 : v + k - v = k := by omega
            rw [e2, e3]; grind
          · by_cases hh : u = v
            · subst hh
              refine ⟨2 * d + 1, 4 * u + 1, 1, ?_⟩
              rw [e2]; grind
            · obtain ⟨k, rfl⟩ : ∃ k, v = u + 1 + k := ⟨v - u - 1, by omega⟩
              refine ⟨2 * d + 1, 2 * u + 1 + 2 * (u + 1 + k), 2 * k + 1, ?_⟩
              rw [e2]; grind
theorem three_iff {n : Nat} (h : n < 4294967296) : (if seven n then none else three n n).isSome = !seven n := by
  cases h7 : seven n with
  | true => rfl
  | false =>
    cases h3 : three n n with
    | some p => simp
    | none =>
      exfalso
      obtain ⟨a, b, c, e⟩ := three_sq n h h7
      obtain ⟨x, y, z, h1, h2, h3'⟩ := sort3 a b c
      have : x ≤ x * x := Nat.le_mul_self x
      exact three_none h3 x y z (by omega) h1 h2 (by omega)
end Dm
