/-
  The plain law of the recursive extended algorithm: coefficients and their bounds. No program in sight.
-/
import Derived.Test.YtlagcdgfmgkooaaDoorIntC
namespace Go.Proofs.YtlagcdgfmgkooaaDoor

/-- the coefficients, with so much fuel -/
def bzF : Nat → Nat → Nat → Int × Int
  | 0, _, _ => (1, 0)
  | f + 1, a, b => if b = 0 then (1, 0) else ((bzF f b (a % b)).2, (bzF f b (a % b)).1 - ((a / b : Nat) : Int) * (bzF f b (a % b)).2)
theorem bz_zero (f a : Nat) : bzF f a 0 = (1, 0) := by cases f <;> simp [bzF]
theorem bz_sum (f : Nat) : ∀ a b : Nat, b < f → (a : Int) * (bzF f a b).1 + (b : Int) * (bzF f a b).2 = (Nat.gcd a b : Int) := by
  induction f with
  | zero => intro a b h; omega
  | succ f ih =>
    intro a b h
    by_cases hb : b = 0
    · subst hb
      rw [bz_zero]
      simp
    · have hlt : a % b < b := Nat.mod_lt _ (Nat.pos_of_ne_zero hb)
      have h1 := ih b (a % b) (by omega)
      rw [bzF, if_neg hb]
      have h2 : (a : Int) = (b : Int) * ((a / b : Nat) : Int) + ((a % b : Nat) : Int) := by
        have := Nat.div_add_mod a b
        rw [← Int.natCast_mul, ← Int.natCast_add, this]
      have h3 : Nat.gcd a b = Nat.gcd b (a % b) := by rw [Nat.gcd_comm, Nat.gcd_rec, Nat.gcd_comm]
      rw [h3, ← h1]
      show (a : Int) * (bzF f b (a % b)).2 + (b : Int) * ((bzF f b (a % b)).1 - ((a / b : Nat) : Int) * (bzF f b (a % b)).2) = _
      generalize (bzF f b (a % b)).1 = x
      generalize (bzF f b (a % b)).2 = y
      generalize ((a / b : Nat) : Int) = q at *
      generalize ((a % b : Nat) : Int) = r at *
      rw [h2, Int.add_mul, Int.mul_sub]
      have e : (b : Int) * q * y = b * (q * y) := Int.mul_assoc _ _ _
      omega
theorem bz_step {a b : Nat} {x y : Int} (_ : b ≠ 0) (h : a % b = 0 → x = 1 ∧ y = 0) (h2 : a % b ≠ 0 → x.natAbs ≤ a % b ∧ y.natAbs ≤ b) :
    y.natAbs ≤ b ∧ (((a / b : Nat) : Int) * y).natAbs ≤ a ∧ (x - ((a / b : Nat) : Int) * y).natAbs ≤ max a 1 := by
  have hdm := Nat.div_add_mod a b
  by_cases h0 : a % b = 0
  · obtain ⟨rfl, rfl⟩ := h h0
    simp
    omega
  · obtain ⟨h3, h4⟩ := h2 h0
    have h5 : (((a / b : Nat) : Int) * y).natAbs = (a / b) * y.natAbs := by rw [Int.natAbs_mul, Int.natAbs_natCast]
    have h6 : (a / b) * y.natAbs ≤ (a / b) * b := Nat.mul_le_mul_left _ h4
    have h7 : (a / b) * b = b * (a / b) := Nat.mul_comm _ _
    refine ⟨h4, by omega, ?_⟩
    have h8 := Int.natAbs_sub_le x (((a / b : Nat) : Int) * y)
    omega
theorem bz_bound (f : Nat) : ∀ a b : Nat, b < f → b ≠ 0 → (bzF f a b).1.natAbs ≤ b ∧ (bzF f a b).2.natAbs ≤ max a 1 := by
  induction f with
  | zero => intro a b h; omega
  | succ f ih =>
    intro a b h hb
    have hlt : a % b < b := Nat.mod_lt _ (Nat.pos_of_ne_zero hb)
    have h1 := bz_step (a := a) (b := b) (x := (bzF f b (a % b)).1) (y := (bzF f b (a % b)).2) hb
      (fun h0 => by rw [h0, bz_zero]; exact ⟨rfl, rfl⟩) (fun h0 => by have := ih b (a % b) (by omega) h0; omega)
    rw [bzF, if_neg hb]
    exact ⟨h1.1, h1.2.2⟩
theorem bz_prod (f a b : Nat) (hf : b ≤ f) (hb : b ≠ 0) : (((a / b : Nat) : Int) * (bzF f b (a % b)).2).natAbs ≤ a := by
  have hlt : a % b < b := Nat.mod_lt _ (Nat.pos_of_ne_zero hb)
  exact (bz_step (a := a) (b := b) (x := (bzF f b (a % b)).1) (y := (bzF f b (a % b)).2) hb (fun h0 => by rw [h0, bz_zero]; exact ⟨rfl, rfl⟩) (fun h0 => by have := bz_bound f b (a % b) (by omega) h0; omega)).2.1
/-- the first coefficient reduced, the second changed accordingly -/
theorem bz_reduced {a b : Nat} {x y : Int} (hb : b ≠ 0) (h : (a : Int) * x + b * y = Nat.gcd a b) : EZ a b (x % ((b / Nat.gcd a b : Nat) : Int)) (y + x / ((b / Nat.gcd a b : Nat) : Int) * ((a / Nat.gcd a b : Nat) : Int)) := by
  have hg : 0 < Nat.gcd a b := Nat.gcd_pos_of_pos_right a (Nat.pos_of_ne_zero hb)
  obtain ⟨A, hA⟩ := Nat.gcd_dvd_left a b
  obtain ⟨B, hB⟩ := Nat.gcd_dvd_right a b
  have hAd : a / Nat.gcd a b = A := by rw [Nat.div_eq_of_eq_mul_right hg hA]
  have hBd : b / Nat.gcd a b = B := by rw [Nat.div_eq_of_eq_mul_right hg hB]
  have hBp : B ≠ 0 := by rintro rfl; rw [Nat.mul_zero] at hB; exact hb hB
  have hB0 : (0 : Int) < (B : Int) := by omega
  rw [hAd, hBd]
  have hdm := Int.emod_add_mul_ediv x (B : Int)
  have hlt := Int.emod_lt_of_pos x hB0
  have hnn := Int.emod_nonneg x (by omega : (B : Int) ≠ 0)
  refine ⟨?_, hnn, ?_⟩
  · have hAB : (a : Int) * B = (b : Int) * A := by
      rw [← Int.natCast_mul, ← Int.natCast_mul]
      congr 1
      calc a * B = Nat.gcd a b * A * B := by rw [← hA]
        _ = Nat.gcd a b * B * A := by rw [Nat.mul_assoc, Nat.mul_comm A B, ← Nat.mul_assoc]
        _ = b * A := by rw [← hB]
    generalize hq : x / (B : Int) = q at *
    generalize hr : x % (B : Int) = r at *
    have hx : x = r + B * q := by omega
    rw [hx, Int.mul_add, ← Int.mul_assoc, hAB] at h
    rw [Int.mul_add, ← h]
    have e1 : (b : Int) * A * q = b * (q * A) := by rw [Int.mul_assoc, Int.mul_comm (A : Int) q]
    omega
  · have h5 : (b : Int) = B * (Nat.gcd a b : Int) := by rw [← Int.natCast_mul, Nat.mul_comm, ← hB]
    rw [h5]
    exact Int.mul_lt_mul_of_pos_right hlt (by omega)
end Go.Proofs.YtlagcdgfmgkooaaDoor
