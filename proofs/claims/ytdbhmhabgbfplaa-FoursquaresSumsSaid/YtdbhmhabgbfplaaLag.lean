/-
  Lagrange's theorem: every natural number is a sum of four squares. Plain Lean: no program in sight.
-/
namespace Dm

def S4 (n : Int) : Prop := ∃ a b c d : Int, a * a + b * b + c * c + d * d = n
theorem S4.mul {m n : Int} (h : S4 m) (k : S4 n) : S4 (m * n) := by
  obtain ⟨a, b, c, d, rfl⟩ := h
  obtain ⟨x, y, z, w, rfl⟩ := k
  exact ⟨a * x + b * y + c * z + d * w, a * y - b * x + c * w - d * z, a * z - b * w - c * x + d * y, a * w + b * z - c * y - d * x, by grind⟩

def Prm (p : Nat) : Prop := 2 ≤ p ∧ ∀ d, d ∣ p → d = 1 ∨ d = p
theorem Prm.split {p x y : Nat} (hp : Prm p) (h : p ∣ x * y) : p ∣ x ∨ p ∣ y := by
  rcases hp.2 (Nat.gcd p x) (Nat.gcd_dvd_left p x) with g | g
  · exact Or.inr (Nat.Coprime.dvd_of_dvd_mul_left g h)
  · exact Or.inl (g ▸ Nat.gcd_dvd_right p x)
theorem prime_factor : ∀ n : Nat, 2 ≤ n → ∃ p, Prm p ∧ p ∣ n := by
  intro n
  induction n using Nat.strongRecOn with
  | _ n ih =>
    intro hn
    by_cases h : Prm n
    · exact ⟨n, h, Nat.dvd_refl n⟩
    · have : ∃ d, d ∣ n ∧ d ≠ 1 ∧ d ≠ n := by
        refine Classical.byContradiction fun hc => h ⟨hn, fun d hd => ?_⟩
        refine Classical.byContradiction fun hd2 => hc ⟨d, hd, fun e => hd2 (Or.inl e), fun e => hd2 (Or.inr e)⟩
      obtain ⟨d, hd, h1, h2⟩ := this
      have hle := Nat.le_of_dvd (by omega) hd
      have h0 : d ≠ 0 := fun e => by rw [e, Nat.zero_dvd] at hd; omega
      obtain ⟨p, hp, hpd⟩ := ih d (by omega) (by omega)
      exact ⟨p, hp, Nat.dvd_trans hpd hd⟩
theorem pigeon : ∀ (n : Nat) (l : List Nat), l.Nodup → (∀ x ∈ l, x < n) → l.length ≤ n
  | 0, l, _, h => by
    cases l with
    | nil => simp
    | cons a l => exact absurd (h a (by simp)) (by omega)
  | n + 1, l, hd, h => by
    by_cases hm : n ∈ l
    · have h1 := List.length_erase_of_mem hm
      have h2 := pigeon n (l.erase n) (hd.erase n) (fun x hx => by
        have h3 := (List.Nodup.mem_erase_iff hd).1 hx
        have := h x h3.2
        omega)
      omega
    · have := pigeon n l hd (fun x hx => by
        have h3 := h x hx
        have : x ≠ n := fun e => hm (e ▸ hx)
        omega)
      omega
theorem sq_inj {p h i j : Nat} (hp : Prm p) (hh : 2 * h < p) (hi : i ≤ h) (hj : j ≤ h) (e : i * i % p = j * j % p) : i = j := by
  have key : ∀ i j : Nat, j < i → i ≤ h → j ≤ h → i * i % p = j * j % p → False := by
    intro i j hlt hi hj e
    have h1 : p ∣ i * i - j * j := Nat.dvd_of_mod_eq_zero (Nat.sub_mod_eq_zero_of_mod_eq e)
    have h2 : i * i - j * j = (i - j) * (i + j) := by
      obtain ⟨k, rfl⟩ : ∃ k, i = j + k := ⟨i - j, by omega⟩
      have : j + k - j = k := by omega
      rw [this]
      have : (j + k) * (j + k) = j * j + k * (j + k + j) := by grind
      omega
    rw [h2] at h1
    rcases hp.split h1 with h3 | h3
    · have := Nat.le_of_dvd (by omega) h3; omega
    · have := Nat.le_of_dvd (by omega) h3; omega
  rcases Nat.lt_trichotomy i j with h1 | h1 | h1
  · exact (key j i h1 hj hi e.symm).elim
  · exact h1
  · exact (key i j h1 hi hj e).elim
theorem nodup_map_inj {α β : Type} (f : α → β) : ∀ l : List α, l.Nodup → (∀ x ∈ l, ∀ y ∈ l, f x = f y → x = y) → (l.map f).Nodup
  | [], _, _ => by simp
  | a :: l, h, hf => by
    rw [List.nodup_cons] at h
    rw [List.map_cons, List.nodup_cons]
    refine ⟨fun hm => ?_, nodup_map_inj f l h.2 (fun x hx y hy => hf x (List.mem_cons_of_mem _ hx) y (List.mem_cons_of_mem _ hy))⟩
    obtain ⟨x, hx, e⟩ := List.mem_map.1 hm
    have := hf x (List.mem_cons_of_mem _ hx) a (by simp) e
    exact h.1 (this ▸ hx)
/-- an odd prime divides a sum of two squares and 1 -/
theorem start4 {p h : Nat} (hp : Prm p) (hh : p = 2 * h + 1) : ∃ i j : Nat, i ≤ h ∧ j ≤ h ∧ p ∣ i * i + j * j + 1 := by
  have p0 : 0 < p := by omega
  let l1 := (List.range (h + 1)).map (fun i => i * i % p)
  let l2 := (List.range (h + 1)).map (fun j => p - 1 - j * j % p)
  have n1 : l1.Nodup := nodup_map_inj _ _ List.nodup_range (fun x hx y hy e => by
    rw [List.mem_range] at hx hy
    exact sq_inj (h := h) hp (by omega) (by omega) (by omega) e)
  have n2 : l2.Nodup := nodup_map_inj _ _ List.nodup_range (fun x hx y hy e => by
    rw [List.mem_range] at hx hy
    have h1 := Nat.mod_lt (x * x) p0
    have h2 := Nat.mod_lt (y * y) p0
    have e' : p - 1 - x * x % p = p - 1 - y * y % p := e
    have e2 : x * x % p = y * y % p := by omega
    exact sq_inj (h := h) hp (by omega) (by omega) (by omega) e2)
  refine Classical.byContradiction fun hc => ?_
  have nd : (l1 ++ l2).Nodup := by
    rw [List.nodup_append]
    refine ⟨n1, n2, fun x hx y hy e => ?_⟩
    obtain ⟨i, hi, ei⟩ := List.mem_map.1 hx
    obtain ⟨j, hj, ej⟩ := List.mem_map.1 hy
    rw [List.mem_range] at hi hj
    have h2 := Nat.mod_lt (j * j) p0
    refine hc ⟨i, j, by omega, by omega, ?_⟩
    have h3 : i * i % p + j * j % p + 1 = p := by omega
    rw [Nat.dvd_iff_mod_eq_zero]
    have h4 : (i * i + j * j + 1) % p = (i * i % p + j * j % p + 1) % p := by
      rw [Nat.add_mod (i * i + j * j) 1 p, Nat.add_mod (i * i) (j * j) p, Nat.add_mod (i * i % p + j * j % p) 1 p]
    rw [h4, h3, Nat.mod_self]
  have := pigeon p _ nd (fun x hx => by
    rw [List.mem_append] at hx
    rcases hx with hx | hx
    · obtain ⟨i, hi, ei⟩ := List.mem_map.1 hx
      have := Nat.mod_lt (i * i) p0; omega
    · obtain ⟨i, hi, ei⟩ := List.mem_map.1 hx
      omega)
  simp [l1, l2] at this
  omega
/-- a sum of four squares that is even: half of it is one -/
theorem S4.half {n : Int} (h : S4 (2 * n)) : S4 n := by
  obtain ⟨a, b, c, d, e⟩ := h
  have key : ∀ a b c d : Int, a * a + b * b + c * c + d * d = 2 * n → (a + b) % 2 = 0 → S4 n := by
    intro a b c d e hab
    have hcd : (c + d) % 2 = 0 := by
      have h1 : (c + d) * (c + d) = 2 * (n + a * b + c * d) - (a + b) * (a + b) := by grind
      obtain ⟨k, hk⟩ : ∃ k, a + b = 2 * k := ⟨(a + b) / 2, by omega⟩
      rw [hk] at h1
      have h2 : (c + d) * (c + d) = 2 * (n + a * b + c * d - 2 * (k * k)) := by grind
      rcases (show (c + d) % 2 = 0 ∨ (c + d) % 2 = 1 by omega) with h3 | h3
      · exact h3
      · obtain ⟨m, hm⟩ : ∃ m, c + d = 2 * m + 1 := ⟨(c + d) / 2, by omega⟩
        rw [hm] at h2
        have h4 : (2 * m + 1) * (2 * m + 1) = 2 * (2 * (m * m) + 2 * m) + 1 := by grind
        omega
    obtain ⟨x, hx⟩ : ∃ x, a + b = 2 * x := ⟨(a + b) / 2, by omega⟩
    obtain ⟨y, hy⟩ : ∃ y, c + d = 2 * y := ⟨(c + d) / 2, by omega⟩
    obtain rfl : a = 2 * x - b := by omega
    obtain rfl : c = 2 * y - d := by omega
    refine ⟨x, x - b, y, y - d, ?_⟩
    have : 2 * (x * x + (x - b) * (x - b) + y * y + (y - d) * (y - d)) = 2 * n := by rw [← e]; grind
    omega
  by_cases h1 : (a + b) % 2 = 0
  · exact key a b c d e h1
  · by_cases h2 : (a + c) % 2 = 0
    · exact key a c b d (by omega) h2
    · exact key b c a d (by omega) (by omega)
/-- the residue of least magnitude, for an odd modulus -/
theorem nearest (a : Int) {k : Int} (hk : 0 ≤ k) : ∃ x q : Int, a = x + (2 * k + 1) * q ∧ -k ≤ x ∧ x ≤ k := by
  have h1 := Int.emod_add_mul_ediv a (2 * k + 1)
  have h2 := Int.emod_nonneg a (show 2 * k + 1 ≠ 0 by omega)
  have h3 := Int.emod_lt_of_pos a (show 0 < 2 * k + 1 by omega)
  by_cases h : a % (2 * k + 1) ≤ k
  · exact ⟨a % (2 * k + 1), a / (2 * k + 1), by omega, by omega, h⟩
  · refine ⟨a % (2 * k + 1) - (2 * k + 1), a / (2 * k + 1) + 1, ?_, by omega, by omega⟩
    rw [Int.mul_add]; omega
theorem sq_le_of {x k : Int} (h1 : -k ≤ x) (h2 : x ≤ k) : x * x ≤ k * k := by
  have h : 0 ≤ (k - x) * (k + x) := Int.mul_nonneg (by omega) (by omega)
  have : (k - x) * (k + x) = k * k - x * x := by grind
  omega
/-- descent: an odd multiple, more than once, gives a smaller one -/
theorem S4.down {p k : Int} (hk : 1 ≤ k) (h : S4 ((2 * k + 1) * p)) : ∃ r, 0 ≤ r ∧ r < 2 * k + 1 ∧ S4 (r * p) ∧ (r = 0 → (2 * k + 1) ∣ p) := by
  obtain ⟨a, b, c, d, e⟩ := h
  obtain ⟨x, x', ha, x1, x2⟩ := nearest a (k := k) (by omega)
  obtain ⟨y, y', hb, y1, y2⟩ := nearest b (k := k) (by omega)
  obtain ⟨z, z', hc, z1, z2⟩ := nearest c (k := k) (by omega)
  obtain ⟨w, w', hd, w1, w2⟩ := nearest d (k := k) (by omega)
  have m0 : 0 < 2 * k + 1 := by omega
  have bx := sq_le_of x1 x2
  have by' := sq_le_of y1 y2
  have bz := sq_le_of z1 z2
  have bw := sq_le_of w1 w2
  have hxx : 0 ≤ x * x := by rcases Int.le_total 0 x with h | h
                             · exact Int.mul_nonneg h h
                             · exact Int.mul_nonneg_of_nonpos_of_nonpos h h
  have hyy : 0 ≤ y * y := by rcases Int.le_total 0 y with h | h
                             · exact Int.mul_nonneg h h
                             · exact Int.mul_nonneg_of_nonpos_of_nonpos h h
  have hzz : 0 ≤ z * z := by rcases Int.le_total 0 z with h | h
                             · exact Int.mul_nonneg h h
                             · exact Int.mul_nonneg_of_nonpos_of_nonpos h h
  have hww : 0 ≤ w * w := by rcases Int.le_total 0 w with h | h
                             · exact Int.mul_nonneg h h
                             · exact Int.mul_nonneg_of_nonpos_of_nonpos h h
  generalize hm : 2 * k + 1 = m at *
  -- the sum of the squares of the residues is a multiple
  obtain ⟨r, hr⟩ : ∃ r, x * x + y * y + z * z + w * w = m * r := by
    refine ⟨p - (2 * x * x' + m * x' * x' + 2 * y * y' + m * y' * y' + 2 * z * z' + m * z' * z' + 2 * w * w' + m * w' * w'), ?_⟩
    subst ha hb hc hd
    grind
  have r0 : 0 ≤ r := by
    refine Classical.byContradiction fun hn => ?_
    have : m * r < 0 := Int.mul_neg_of_pos_of_neg m0 (by omega)
    omega
  have rm : r < m := by
    refine Classical.byContradiction fun hn => ?_
    have h1 : m * m ≤ m * r := Int.mul_le_mul_of_nonneg_left (by omega) (by omega)
    have h2 : m * m = 4 * (k * k) + 4 * k + 1 := by rw [← hm]; grind
    omega
  refine ⟨r, r0, rm, ?_, ?_⟩
  · -- the product, divided by the square of the modulus
    refine ⟨r + (x' * x + y' * y + z' * z + w' * w), x' * y - y' * x + z' * w - w' * z, x' * z - y' * w - z' * x + w' * y, x' * w + y' * z - z' * y - w' * x, ?_⟩
    have big : (m * (r + (x' * x + y' * y + z' * z + w' * w))) * (m * (r + (x' * x + y' * y + z' * z + w' * w))) + (m * (x' * y - y' * x + z' * w - w' * z)) * (m * (x' * y - y' * x + z' * w - w' * z)) + (m * (x' * z - y' * w - z' * x + w' * y)) * (m * (x' * z - y' * w - z' * x + w' * y)) + (m * (x' * w + y' * z - z' * y - w' * x)) * (m * (x' * w + y' * z - z' * y - w' * x)) = (m * p) * (m * r) := by
      have e1 : m * (r + (x' * x + y' * y + z' * z + w' * w)) = a * x + b * y + c * z + d * w := by rw [ha, hb, hc, hd]; grind
      have e2 : m * (x' * y - y' * x + z' * w - w' * z) = a * y - b * x + c * w - d * z := by rw [ha, hb, hc, hd]; grind
      have e3 : m * (x' * z - y' * w - z' * x + w' * y) = a * z - b * w - c * x + d * y := by rw [ha, hb, hc, hd]; grind
      have e4 : m * (x' * w + y' * z - z' * y - w' * x) = a * w + b * z - c * y - d * x := by rw [ha, hb, hc, hd]; grind
      rw [e1, e2, e3, e4, ← e, ← hr]
      clear e1 e2 e3 e4 ha hb hc hd e hr
      grind
    have mm : m * m ≠ 0 := by
      have : 0 < m * m := Int.mul_pos m0 m0
      omega
    refine Int.eq_of_mul_eq_mul_left mm ?_
    generalize r + (x' * x + y' * y + z' * z + w' * w) = A at *
    generalize x' * y - y' * x + z' * w - w' * z = B at *
    generalize x' * z - y' * w - z' * x + w' * y = C at *
    generalize x' * w + y' * z - z' * y - w' * x = D at *
    clear hr e ha hb hc hd
    grind
  · intro hz
    rw [hz, Int.mul_zero] at hr
    have zx : ∀ t : Int, t * t = 0 → t = 0 := fun t ht => by
      rcases Int.mul_eq_zero.1 ht with h | h <;> exact h
    have zx0 : x = 0 := zx x (by omega)
    have zy0 : y = 0 := zx y (by omega)
    have zz0 : z = 0 := zx z (by omega)
    have zw0 : w = 0 := zx w (by omega)
    subst zx0 zy0 zz0 zw0
    refine ⟨x' * x' + y' * y' + z' * z' + w' * w', ?_⟩
    have m1 : m ≠ 0 := by omega
    refine Int.eq_of_mul_eq_mul_left m1 ?_
    rw [← e, ha, hb, hc, hd]
    grind
theorem S4.prime {p : Nat} (hp : Prm p) : S4 p := by
  have p2 := hp.1
  have step : ∀ m : Nat, 0 < m → m < p → S4 ((m : Int) * p) → S4 p := by
    intro m
    induction m using Nat.strongRecOn with
    | _ m ih =>
      intro m0 mp h
      by_cases h1 : m = 1
      · subst h1; simpa using h
      · by_cases he : m % 2 = 0
        · obtain ⟨k, rfl⟩ : ∃ k, m = 2 * k := ⟨m / 2, by omega⟩
          refine ih k (by omega) (by omega) (by omega) (S4.half ?_)
          have : (2 : Int) * ((k : Int) * p) = ((2 * k : Nat) : Int) * p := by push_cast; grind
          rw [this]; exact h
        · obtain ⟨k, rfl⟩ : ∃ k, m = 2 * k + 1 := ⟨m / 2, by omega⟩
          have h' : S4 ((2 * (k : Int) + 1) * p) := by
            have : ((2 * k + 1 : Nat) : Int) = 2 * (k : Int) + 1 := by push_cast; rfl
            rw [← this]; exact h
          obtain ⟨r, r0, rm, hr, hz⟩ := h'.down (by omega)
          obtain ⟨r, rfl⟩ : ∃ s : Nat, r = s := ⟨r.toNat, by omega⟩
          rcases Nat.eq_zero_or_pos r with e | e
          · exfalso
            have h3 := hz (by omega)
            have h4 : ((2 * k + 1 : Nat) : Int) ∣ (p : Int) := by
              have : ((2 * k + 1 : Nat) : Int) = 2 * (k : Int) + 1 := by push_cast; rfl
              rw [this]; exact h3
            rcases hp.2 _ (Int.natCast_dvd_natCast.1 h4) with h5 | h5 <;> omega
          · exact ih r (by omega) e (by omega) hr
  by_cases h2 : p = 2
  · subst h2; exact ⟨1, 1, 0, 0, rfl⟩
  · have hodd : p % 2 = 1 := by
      rcases Nat.mod_two_eq_zero_or_one p with h | h
      · rcases hp.2 2 (Nat.dvd_of_mod_eq_zero h) with h5 | h5 <;> omega
      · exact h
    obtain ⟨h, hh⟩ : ∃ h, p = 2 * h + 1 := ⟨p / 2, by omega⟩
    obtain ⟨i, j, hi, hj, m, hm⟩ := start4 hp hh
    have b1 : i * i ≤ h * h := Nat.mul_le_mul hi hi
    have b2 : j * j ≤ h * h := Nat.mul_le_mul hj hj
    have m0 : 0 < m := by
      rcases Nat.eq_zero_or_pos m with e | e
      · rw [e] at hm; omega
      · exact e
    have mp : m < p := by
      refine Classical.byContradiction fun hn => ?_
      have h1 : p * p ≤ p * m := Nat.mul_le_mul_left _ (by omega)
      have h3 : p * p = 4 * (h * h) + 4 * h + 1 := by rw [hh]; grind
      omega
    refine step m m0 mp ⟨i, j, 1, 0, ?_⟩
    have : ((i * i + j * j + 1 : Nat) : Int) = ((p * m : Nat) : Int) := by rw [hm]
    push_cast at this
    rw [Int.mul_comm (m : Int)]
    omega
theorem S4.all : ∀ n : Nat, S4 n := by
  intro n
  induction n using Nat.strongRecOn with
  | _ n ih =>
    by_cases h : n ≤ 1
    · rcases (show n = 0 ∨ n = 1 by omega) with rfl | rfl
      · exact ⟨0, 0, 0, 0, rfl⟩
      · exact ⟨1, 0, 0, 0, rfl⟩
    · obtain ⟨p, hp, m, rfl⟩ := prime_factor n (by omega)
      have p2 := hp.1
      have m0 : 0 < m := by
        rcases Nat.eq_zero_or_pos m with e | e
        · subst e; omega
        · exact e
      have : m < p * m := by
        have : 2 * m ≤ p * m := Nat.mul_le_mul_right _ p2
        omega
      have := (S4.prime hp).mul (ih m this)
      push_cast
      exact this
theorem four_squares (n : Nat) : ∃ a b c d : Nat, a * a + b * b + c * c + d * d = n := by
  obtain ⟨a, b, c, d, e⟩ := S4.all n
  refine ⟨a.natAbs, b.natAbs, c.natAbs, d.natAbs, ?_⟩
  have h : ∀ x : Int, ((x.natAbs * x.natAbs : Nat) : Int) = x * x := fun x => Int.natAbs_mul_self
  have : ((a.natAbs * a.natAbs + b.natAbs * b.natAbs + c.natAbs * c.natAbs + d.natAbs * d.natAbs : Nat) : Int) = n := by
    rw [Int.natCast_add, Int.natCast_add, Int.natCast_add, h, h, h, h]; exact e
  exact_mod_cast this
end Dm
