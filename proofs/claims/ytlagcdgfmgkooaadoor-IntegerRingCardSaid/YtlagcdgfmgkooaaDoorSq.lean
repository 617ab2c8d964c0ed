/-
  Integer square roots, and the searches for the greatest pair, triple and quadruple of squares. Plain Lean: no program in sight.
-/
namespace Dm

/-- the greatest number whose square is at most n -/
def rt : Nat → Nat
  | 0 => 0
  | n + 1 => if (rt n + 1) * (rt n + 1) ≤ n + 1 then rt n + 1 else rt n
theorem rt_spec (n : Nat) : rt n * rt n ≤ n ∧ n < (rt n + 1) * (rt n + 1) := by
  induction n with
  | zero => simp [rt]
  | succ n ih =>
    unfold rt
    by_cases h : (rt n + 1) * (rt n + 1) ≤ n + 1
    · simp only [h, if_true, true_and]
      have : (rt n + 1 + 1) * (rt n + 1 + 1) = (rt n + 1) * (rt n + 1) + 2 * (rt n + 1) + 1 := by grind
      omega
    · simp only [h, if_false]; omega
theorem sq_le {a b : Nat} (h : a ≤ b) : a * a ≤ b * b := Nat.mul_le_mul h h
theorem sq_lt {a b : Nat} (h : a < b) : a * a < b * b := Nat.mul_lt_mul_of_lt_of_le h (by omega) (by omega)
theorem lt_of_sq_lt {a b : Nat} (h : a * a < b * b) : a < b := by
  rcases Nat.lt_or_ge a b with h1 | h1
  · exact h1
  · have := sq_le h1; omega
theorem le_of_sq_le {a b : Nat} (h : a * a ≤ b * b) : a ≤ b := by
  rcases Nat.lt_or_ge b a with h1 | h1
  · have := sq_lt h1; omega
  · exact h1
theorem rt_eq {n x : Nat} (h1 : x * x ≤ n) (h2 : n < (x + 1) * (x + 1)) : rt n = x := by
  obtain ⟨a, b⟩ := rt_spec n
  have h3 : rt n < x + 1 := lt_of_sq_lt (Nat.lt_of_le_of_lt a h2)
  have h4 : x < rt n + 1 := lt_of_sq_lt (Nat.lt_of_le_of_lt h1 b)
  omega
theorem rt_sq (x : Nat) : rt (x * x) = x := rt_eq (Nat.le_refl _) (sq_lt (by omega))
theorem le_rt {n x : Nat} : x ≤ rt n ↔ x * x ≤ n := by
  obtain ⟨a, b⟩ := rt_spec n
  constructor
  · intro h; exact Nat.le_trans (sq_le h) a
  · intro h; have : x < rt n + 1 := lt_of_sq_lt (Nat.lt_of_le_of_lt h b); omega
theorem rt_le_self (n : Nat) : rt n ≤ n := by
  have := (rt_spec n).1
  have h2 : rt n ≤ rt n * rt n := Nat.le_mul_self _
  omega
theorem rt_lt {n k : Nat} (h : n < k * k) : rt n < k := lt_of_sq_lt (Nat.lt_of_le_of_lt (rt_spec n).1 h)
theorem rt_mono {a b : Nat} (h : a ≤ b) : rt a ≤ rt b := le_rt.2 (Nat.le_trans (rt_spec a).1 h)

/-- is it the square of a number of at most 'most'? -/
def oneB (n most : Nat) : Bool := rt n * rt n == n && decide (rt n ≤ most)

/-- the greatest decreasing pair whose first number is at most x -/
def twoFrom (n : Nat) : Nat → Option (Nat × Nat)
  | 0 => if 2 * 0 * 0 < n then none else if oneB (n - 0 * 0) 0 then some (0, rt (n - 0 * 0)) else none
  | x + 1 => if 2 * (x + 1) * (x + 1) < n then none else if oneB (n - (x + 1) * (x + 1)) (x + 1) then some (x + 1, rt (n - (x + 1) * (x + 1))) else twoFrom n x
def two (n most : Nat) : Option (Nat × Nat) := twoFrom n (min (rt n) most)

/-- the greatest decreasing triple whose first number is at most x -/
def threeFrom (n : Nat) : Nat → Option (Nat × Nat × Nat)
  | 0 => if 3 * 0 * 0 < n then none else (two (n - 0 * 0) 0).map fun p => (0, p.1, p.2)
  | x + 1 => if 3 * (x + 1) * (x + 1) < n then none else match two (n - (x + 1) * (x + 1)) (x + 1) with
    | some p => some (x + 1, p.1, p.2)
    | none => threeFrom n x
def three (n most : Nat) : Option (Nat × Nat × Nat) := threeFrom n (min (rt n) most)

/-- 4^a (8 b + 7) -/
def sevenF : Nat → Nat → Bool
  | 0, n => n % 8 == 7
  | f + 1, n => if 0 < n ∧ n % 4 = 0 then sevenF f (n / 4) else n % 8 == 7
def seven (n : Nat) : Bool := sevenF n n

def fourAt (n a : Nat) : Option (Nat × Nat × Nat) := if seven (n - a * a) then none else three (n - a * a) a
/-- the greatest quadruple whose first number is at most a -/
def fourFrom (n : Nat) : Nat → Option (Nat × Nat × Nat × Nat)
  | 0 => (fourAt n 0).map fun t => (0, t)
  | a + 1 => match fourAt n (a + 1) with
    | some t => some (a + 1, t)
    | none => fourFrom n a
def four (n : Nat) : Option (Nat × Nat × Nat × Nat) := fourFrom n (rt n)

theorem sevenF_fuel (f g n : Nat) (hf : n ≤ f) (hg : n ≤ g) : sevenF f n = sevenF g n := by
  induction f generalizing g n with
  | zero =>
    have : n = 0 := by omega
    subst this
    cases g <;> simp [sevenF]
  | succ f ih =>
    cases g with
    | zero =>
      have : n = 0 := by omega
      subst this
      simp [sevenF]
    | succ g =>
      unfold sevenF
      by_cases h : 0 < n ∧ n % 4 = 0
      · simp only [h, and_self, if_true]
        exact ih g (n / 4) (by omega) (by omega)
      · simp only [h, if_false]
theorem seven_div {n : Nat} (h : 0 < n) (h4 : n % 4 = 0) : seven n = seven (n / 4) := by
  unfold seven
  obtain ⟨m, rfl⟩ : ∃ m, n = m + 1 := ⟨n - 1, by omega⟩
  rw [sevenF]
  simp only [h, h4, and_self, if_true]
  exact sevenF_fuel _ _ _ (by omega) (by omega)
theorem seven_end {n : Nat} (h : ¬ (0 < n ∧ n % 4 = 0)) : seven n = (n % 8 == 7) := by
  unfold seven
  cases n with
  | zero => rfl
  | succ m => rw [sevenF]; simp only [h, if_false]

/-- what a search for a pair meets at x: stop, found, or on -/
theorem twoFrom_stop {n x : Nat} (h : 2 * x * x < n) : twoFrom n x = none := by
  cases x <;> simp [twoFrom] <;> intros <;> omega
theorem twoFrom_found {n x : Nat} (h : ¬ 2 * x * x < n) (h1 : oneB (n - x * x) x = true) : twoFrom n x = some (x, rt (n - x * x)) := by
  cases x with
  | zero => rw [twoFrom, if_neg h, if_pos h1]
  | succ x => rw [twoFrom, if_neg h, if_pos h1]
theorem twoFrom_on {n x : Nat} (h : ¬ 2 * (x + 1) * (x + 1) < n) (h1 : oneB (n - (x + 1) * (x + 1)) (x + 1) = false) : twoFrom n (x + 1) = twoFrom n x := by
  rw [twoFrom, if_neg h, if_neg (by simp [h1])]
theorem twoFrom_end {n : Nat} (h1 : oneB (n - 0 * 0) 0 = false) : twoFrom n 0 = none := by
  rw [twoFrom]
  by_cases h : 2 * 0 * 0 < n
  · rw [if_pos h]
  · rw [if_neg h, if_neg (by rw [h1]; simp)]
theorem threeFrom_stop {n x : Nat} (h : 3 * x * x < n) : threeFrom n x = none := by
  cases x with
  | zero => rw [threeFrom, if_pos h]
  | succ x => rw [threeFrom, if_pos h]
theorem threeFrom_found {n x : Nat} {p : Nat × Nat} (h : ¬ 3 * x * x < n) (h1 : two (n - x * x) x = some p) : threeFrom n x = some (x, p.1, p.2) := by
  cases x with
  | zero => rw [threeFrom, if_neg h, h1]; rfl
  | succ x => rw [threeFrom, if_neg h, h1]
theorem threeFrom_on {n x : Nat} (h : ¬ 3 * (x + 1) * (x + 1) < n) (h1 : two (n - (x + 1) * (x + 1)) (x + 1) = none) : threeFrom n (x + 1) = threeFrom n x := by
  rw [threeFrom, if_neg h, h1]
theorem threeFrom_end {n : Nat} (h1 : two (n - 0 * 0) 0 = none) : threeFrom n 0 = none := by
  rw [threeFrom]
  by_cases h : 3 * 0 * 0 < n
  · rw [if_pos h]
  · rw [if_neg h, h1]; rfl
theorem fourFrom_found {n a : Nat} {t : Nat × Nat × Nat} (h : fourAt n a = some t) : fourFrom n a = some (a, t) := by
  cases a with
  | zero => rw [fourFrom, h]; rfl
  | succ a => rw [fourFrom, h]
theorem fourFrom_on {n a : Nat} (h : fourAt n (a + 1) = none) : fourFrom n (a + 1) = fourFrom n a := by
  rw [fourFrom, h]
theorem fourFrom_end {n : Nat} (h : fourAt n 0 = none) : fourFrom n 0 = none := by
  rw [fourFrom, h]; rfl

theorem oneB_iff {n m : Nat} : oneB n m = true ↔ ∃ y, y * y = n ∧ y ≤ m := by
  unfold oneB
  constructor
  · intro h
    simp at h
    exact ⟨rt n, h.1, h.2⟩
  · rintro ⟨y, rfl, h⟩
    rw [rt_sq]; simp [h]

/-- the pair that is found: a decreasing pair of squares of sum n, its first number at most x -/
theorem twoFrom_some {n x : Nat} {p : Nat × Nat} (hx : x * x ≤ n) (h : twoFrom n x = some p) : p.1 * p.1 + p.2 * p.2 = n ∧ p.2 ≤ p.1 ∧ p.1 ≤ x := by
  induction x with
  | zero =>
    by_cases h1 : 2 * 0 * 0 < n
    · rw [twoFrom_stop h1] at h; cases h
    · by_cases h2 : oneB (n - 0 * 0) 0 = true
      · rw [twoFrom_found h1 h2] at h
        cases h
        have : n = 0 := by omega
        subst this; simp [rt]
      · rw [twoFrom_end (by simpa using h2)] at h; cases h
  | succ x ih =>
    by_cases h1 : 2 * (x + 1) * (x + 1) < n
    · rw [twoFrom_stop h1] at h; cases h
    · by_cases h2 : oneB (n - (x + 1) * (x + 1)) (x + 1) = true
      · rw [twoFrom_found h1 h2] at h
        cases h
        unfold oneB at h2
        simp only [Bool.and_eq_true, beq_iff_eq, decide_eq_true_eq] at h2
        refine ⟨?_, h2.2, Nat.le_refl _⟩
        simp only [h2.1]; omega
      · rw [twoFrom_on h1 (by simpa using h2)] at h
        have := ih (Nat.le_trans (sq_le (by omega)) hx) h
        omega
/-- no pair is missed -/
theorem twoFrom_none {n x : Nat} (h : twoFrom n x = none) (a b : Nat) (hs : a * a + b * b = n) (hb : b ≤ a) (ha : a ≤ x) : False := by
  have hn : n ≤ 2 * a * a := by have := sq_le hb; rw [Nat.mul_assoc]; omega
  induction x with
  | zero =>
    have : a = 0 := by omega
    subst this
    rw [twoFrom_found (by omega) (oneB_iff.2 ⟨b, by omega, by omega⟩)] at h
    cases h
  | succ x ih =>
    have h1 : ¬ 2 * (x + 1) * (x + 1) < n := by
      have := sq_le ha; rw [Nat.mul_assoc] at hn ⊢; omega
    rcases Nat.lt_or_ge x a with h2 | h2
    · have : a = x + 1 := by omega
      subst this
      rw [twoFrom_found h1 (oneB_iff.2 ⟨b, by omega, by omega⟩)] at h
      cases h
    · by_cases h3 : oneB (n - (x + 1) * (x + 1)) (x + 1) = true
      · rw [twoFrom_found h1 h3] at h; cases h
      · rw [twoFrom_on h1 (by simpa using h3)] at h
        exact ih h h2
theorem two_some {n m : Nat} {p : Nat × Nat} (h : two n m = some p) : p.1 * p.1 + p.2 * p.2 = n ∧ p.2 ≤ p.1 ∧ p.1 ≤ m := by
  have h1 : min (rt n) m * min (rt n) m ≤ n := le_rt.1 (Nat.min_le_left _ _)
  have := twoFrom_some h1 h
  omega
theorem two_none {n m : Nat} (h : two n m = none) (a b : Nat) (hs : a * a + b * b = n) (hb : b ≤ a) (ha : a ≤ m) : False :=
  twoFrom_none h a b hs hb (by have : a ≤ rt n := le_rt.2 (by omega); omega)
theorem threeFrom_some {n x : Nat} {p : Nat × Nat × Nat} (hx : x * x ≤ n) (h : threeFrom n x = some p) :
    p.1 * p.1 + p.2.1 * p.2.1 + p.2.2 * p.2.2 = n ∧ p.2.2 ≤ p.2.1 ∧ p.2.1 ≤ p.1 ∧ p.1 ≤ x := by
  induction x with
  | zero =>
    by_cases h1 : 3 * 0 * 0 < n
    · rw [threeFrom_stop h1] at h; cases h
    · cases h2 : two (n - 0 * 0) 0 with
      | none => rw [threeFrom_end h2] at h; cases h
      | some q =>
        rw [threeFrom_found h1 h2] at h
        cases h
        have := two_some h2
        simp only at this ⊢; omega
  | succ x ih =>
    by_cases h1 : 3 * (x + 1) * (x + 1) < n
    · rw [threeFrom_stop h1] at h; cases h
    · cases h2 : two (n - (x + 1) * (x + 1)) (x + 1) with
      | none =>
        rw [threeFrom_on h1 h2] at h
        have := ih (Nat.le_trans (sq_le (by omega)) hx) h
        omega
      | some q =>
        rw [threeFrom_found h1 h2] at h
        cases h
        have := two_some h2
        simp only at this ⊢; omega
theorem threeFrom_none {n x : Nat} (h : threeFrom n x = none) (a b c : Nat) (hs : a * a + b * b + c * c = n) (hc : c ≤ b) (hb : b ≤ a) (ha : a ≤ x) : False := by
  have hn : n ≤ 3 * a * a := by have := sq_le hb; have := sq_le (Nat.le_trans hc hb); rw [Nat.mul_assoc]; omega
  induction x with
  | zero =>
    have : a = 0 := by omega
    subst this
    cases h2 : two (n - 0 * 0) 0 with
    | none => exact two_none h2 b c (by omega) hc hb
    | some q => rw [threeFrom_found (by omega) h2] at h; cases h
  | succ x ih =>
    have h1 : ¬ 3 * (x + 1) * (x + 1) < n := by
      have := sq_le ha; rw [Nat.mul_assoc] at hn ⊢; omega
    cases h2 : two (n - (x + 1) * (x + 1)) (x + 1) with
    | none =>
      rcases Nat.lt_or_ge x a with h3 | h3
      · have : a = x + 1 := by omega
        subst this
        exact two_none h2 b c (by omega) hc hb
      · rw [threeFrom_on h1 h2] at h
        exact ih h h3
    | some q => rw [threeFrom_found h1 h2] at h; cases h
theorem three_some {n m : Nat} {p : Nat × Nat × Nat} (h : three n m = some p) : p.1 * p.1 + p.2.1 * p.2.1 + p.2.2 * p.2.2 = n ∧ p.2.2 ≤ p.2.1 ∧ p.2.1 ≤ p.1 ∧ p.1 ≤ m := by
  have h1 : min (rt n) m * min (rt n) m ≤ n := le_rt.1 (Nat.min_le_left _ _)
  have := threeFrom_some h1 h
  omega
theorem three_none {n m : Nat} (h : three n m = none) (a b c : Nat) (hs : a * a + b * b + c * c = n) (hc : c ≤ b) (hb : b ≤ a) (ha : a ≤ m) : False :=
  threeFrom_none h a b c hs hc hb (by have : a ≤ rt n := le_rt.2 (by omega); omega)

theorem two_isSome {n : Nat} : (two n n).isSome = true ↔ ∃ a b, a * a + b * b = n := by
  constructor
  · intro h
    obtain ⟨p, hp⟩ := Option.isSome_iff_exists.1 h
    exact ⟨p.1, p.2, (two_some hp).1⟩
  · rintro ⟨a, b, h⟩
    cases ht : two n n with
    | some p => rfl
    | none =>
      exfalso
      have h1 : a ≤ a * a := Nat.le_mul_self _
      have h2 : b ≤ b * b := Nat.le_mul_self _
      rcases Nat.le_total b a with h3 | h3
      · exact two_none ht a b h h3 (by omega)
      · exact two_none ht b a (by omega) h3 (by omega)
theorem two_product (i k c : Nat) : (two ((i * i + k * k) * (c * c + 1)) ((i * i + k * k) * (c * c + 1))).isSome = true := by
  rw [two_isSome]
  rcases Nat.le_total (k * c) i with h | h
  · refine ⟨i * c + k, i - k * c, ?_⟩
    obtain ⟨d, hd⟩ : ∃ d, i = k * c + d := ⟨i - k * c, by omega⟩
    rw [hd, Nat.add_sub_cancel_left]
    grind
  · refine ⟨i * c + k, k * c - i, ?_⟩
    obtain ⟨d, hd⟩ : ∃ d, k * c = i + d := ⟨k * c - i, by omega⟩
    rw [hd, Nat.add_sub_cancel_left]
    have e : (i * i + k * k) * (c * c + 1) = i * i * (c * c) + i * i + (k * c) * (k * c) + k * k := by grind
    rw [e, hd]
    have e2 : 2 * (i * (k * c)) = 2 * (i * (i + d)) := by rw [hd]
    grind
theorem sq_mod4 (a : Nat) : a * a % 4 = 0 ∧ a % 2 = 0 ∨ a * a % 4 = 1 ∧ a % 2 = 1 := by
  rcases Nat.mod_two_eq_zero_or_one a with h | h
  · obtain ⟨b, rfl⟩ : ∃ b, a = 2 * b := ⟨a / 2, by omega⟩
    left
    have : 2 * b * (2 * b) = 4 * (b * b) := by grind
    omega
  · obtain ⟨b, rfl⟩ : ∃ b, a = 2 * b + 1 := ⟨a / 2, by omega⟩
    right
    have : (2 * b + 1) * (2 * b + 1) = 4 * (b * b + b) + 1 := by grind
    omega
theorem two_four (q : Nat) : (two q q).isSome = (two (q * 4) (q * 4)).isSome := by
  rw [Bool.eq_iff_iff, two_isSome, two_isSome]
  constructor
  · rintro ⟨a, b, h⟩
    exact ⟨2 * a, 2 * b, by rw [← h]; grind⟩
  · rintro ⟨a, b, h⟩
    have h1 := sq_mod4 a
    have h2 := sq_mod4 b
    have h3 : a % 2 = 0 ∧ b % 2 = 0 := by omega
    obtain ⟨c, rfl⟩ : ∃ c, a = 2 * c := ⟨a / 2, by omega⟩
    obtain ⟨d, rfl⟩ : ∃ d, b = 2 * d := ⟨b / 2, by omega⟩
    refine ⟨c, d, ?_⟩
    have e1 : 2 * c * (2 * c) = 4 * (c * c) := by grind
    have e2 : 2 * d * (2 * d) = 4 * (d * d) := by grind
    omega
/-- a search for a quadruple begins with the greatest number for which there is a triple -/
theorem fourFrom_ge {n : Nat} : ∀ {x : Nat} {q : Nat × Nat × Nat × Nat}, fourFrom n x = some q → ∀ b, q.1 < b → b ≤ x → fourAt n b = none
  | 0, q, h, b, h1, h2 => by omega
  | x + 1, q, h, b, h1, h2 => by
    cases hf : fourAt n (x + 1) with
    | some t => rw [fourFrom_found hf] at h; cases h; omega
    | none =>
      by_cases hb : b = x + 1
      · rw [hb]; exact hf
      · rw [fourFrom_on hf] at h
        exact fourFrom_ge h b h1 (by omega)
theorem fourFrom_none {n : Nat} : ∀ {x : Nat}, fourFrom n x = none → ∀ b, b ≤ x → fourAt n b = none
  | 0, h, b, h2 => by
    obtain rfl : b = 0 := by omega
    cases hf : fourAt n 0 with
    | none => rfl
    | some t => rw [fourFrom_found hf] at h; cases h
  | x + 1, h, b, h2 => by
    cases hf : fourAt n (x + 1) with
    | some t => rw [fourFrom_found hf] at h; cases h
    | none =>
      by_cases hb : b = x + 1
      · rw [hb]; exact hf
      · rw [fourFrom_on hf] at h
        exact fourFrom_none h b (by omega)
theorem fourFrom_some {n : Nat} : ∀ {x : Nat} {q : Nat × Nat × Nat × Nat}, fourFrom n x = some q → q.1 ≤ x ∧ fourAt n q.1 = some q.2
  | 0, q, h => by
    cases hf : fourAt n 0 with
    | none => rw [fourFrom_end hf] at h; cases h
    | some t => rw [fourFrom_found hf] at h; cases h; exact ⟨Nat.le_refl _, hf⟩
  | x + 1, q, h => by
    cases hf : fourAt n (x + 1) with
    | some t => rw [fourFrom_found hf] at h; cases h; exact ⟨Nat.le_refl _, hf⟩
    | none =>
      rw [fourFrom_on hf] at h
      have := fourFrom_some h
      exact ⟨by omega, this.2⟩
/-- no greater number begins a quadruple -/
theorem four_greatest {n b : Nat} {t : Nat × Nat × Nat} (hb : ((four n).getD (0, 0, 0, 0)).1 < b) (hn : b * b ≤ n) (h7 : seven (n - b * b) = false) (ht : three (n - b * b) (n - b * b) = some t) : b < t.1 := by
  have hrt : b ≤ rt n := le_rt.2 hn
  have hnone : fourAt n b = none := by
    cases hf : four n with
    | none => exact fourFrom_none hf b hrt
    | some q => rw [hf] at hb; exact fourFrom_ge hf b hb hrt
  rcases Nat.lt_or_ge b t.1 with h | h
  · exact h
  · exfalso
    unfold fourAt at hnone
    rw [h7] at hnone
    have h1 := three_some ht
    exact three_none (m := b) (by simpa using hnone) t.1 t.2.1 t.2.2 h1.1 h1.2.1 h1.2.2.1 h
end Dm
