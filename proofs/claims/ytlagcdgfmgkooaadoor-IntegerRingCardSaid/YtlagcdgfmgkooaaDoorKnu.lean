/-
  Long division of numbers in base 256, digit by digit. Plain Lean: no program in sight.
-/
import Derived.Test.YtlagcdgfmgkooaaDoorNum
namespace Dm

theorem cases8 {s : Nat} (h : s ≤ 7) : s = 0 ∨ s = 1 ∨ s = 2 ∨ s = 3 ∨ s = 4 ∨ s = 5 ∨ s = 6 ∨ s = 7 := by omega
theorem shl_split (x s : Nat) (_hx : x < 256) (hs : s ≤ 7) : x * 2 ^ s % 256 + 256 * (x / 2 ^ (8 - s)) = x * 2 ^ s := by
  rcases cases8 hs with rfl | rfl | rfl | rfl | rfl | rfl | rfl | rfl <;> simp only [Nat.reducePow, Nat.reduceSub] <;> omega
theorem shl_fits (x y s : Nat) (hy : y < 256) (hs : s ≤ 7) : x * 2 ^ s % 256 + y / 2 ^ (8 - s) ≤ 255 ∧ x * 2 ^ s % 256 % 2 ^ s = 0 ∧ y / 2 ^ (8 - s) < 2 ^ s := by
  rcases cases8 hs with rfl | rfl | rfl | rfl | rfl | rfl | rfl | rfl <;> simp only [Nat.reducePow, Nat.reduceSub] <;> omega
/-- the digits of a number shifted by s binary places -/
def above (l : List UInt8) (s : Nat) : Nat → Nat
  | 0 => 0
  | i + 1 => (dig l i).toNat / 2 ^ (8 - s)
def sc (l : List UInt8) (s i : Nat) : Nat := (dig l i).toNat * 2 ^ s % 256 + above l s i
theorem above_lt (l : List UInt8) (s i : Nat) (hs : s ≤ 7) : above l s i < 2 ^ s ∧ (dig l i).toNat * 2 ^ s % 256 + above l s i ≤ 255 := by
  cases i with
  | zero => exact ⟨Nat.two_pow_pos s, by simp only [above]; omega⟩
  | succ i =>
    have hy := (dig l i).toNat_lt
    obtain ⟨h1, h2, h3⟩ := shl_fits (dig l (i + 1)).toNat (dig l i).toNat s (by omega) hs
    exact ⟨h3, h1⟩
theorem sc_le (l : List UInt8) (s i : Nat) (hs : s ≤ 7) : sc l s i ≤ 255 := (above_lt l s i hs).2
theorem colsum_sc (l : List UInt8) (s : Nat) (hs : s ≤ 7) : ∀ m, colsum (sc l s) m + above l s m * 256 ^ m = low l m * 2 ^ s
  | 0 => by simp [colsum, above, low]
  | m + 1 => by
    have ih := colsum_sc l s hs m
    have hx := (dig l m).toNat_lt
    have h1 := shl_split (dig l m).toNat s (by omega) hs
    show colsum (sc l s) m + sc l s m * 256 ^ m + (dig l m).toNat / 2 ^ (8 - s) * 256 ^ (m + 1) = (low l m + (dig l m).toNat * 256 ^ m) * 2 ^ s
    rw [Nat.add_mul, ← ih, sc, Nat.pow_succ]
    generalize (dig l m).toNat = x at *
    generalize x / 2 ^ (8 - s) = y at *
    generalize 256 ^ m = p at *
    have h2 : x * p * 2 ^ s = (x * 2 ^ s % 256 + 256 * y) * p := by rw [h1]; grind
    rw [h2]
    generalize x * 2 ^ s % 256 = z
    grind
/-- a window of n digits, from the one with the weight 256^j on -/
def win (r : Nat → Nat) (j n : Nat) : Nat := colsum (fun i => r (j + i)) n
theorem win_zero (r : Nat → Nat) (j : Nat) : win r j 0 = 0 := rfl
theorem win_succ (r : Nat → Nat) (j n : Nat) : win r j (n + 1) = win r j n + r (j + n) * 256 ^ n := rfl
theorem win_congr {r q : Nat → Nat} {j n : Nat} (h : ∀ i, i < n → r (j + i) = q (j + i)) : win r j n = win q j n := colsum_congr h
theorem colsum_lt {c : Nat → Nat} (h : ∀ k, c k ≤ 255) : ∀ m, colsum c m < 256 ^ m
  | 0 => by simp [colsum]
  | m + 1 => by
    have ih := colsum_lt h m
    have hc := h m
    show colsum c m + c m * 256 ^ m < 256 ^ (m + 1)
    rw [Nat.pow_succ]
    have : c m * 256 ^ m ≤ 255 * 256 ^ m := Nat.mul_le_mul_right _ hc
    omega
theorem colsum_split (c : Nat → Nat) (j : Nat) : ∀ n, colsum c (j + n) = colsum c j + win c j n * 256 ^ j
  | 0 => by simp [win, colsum]
  | n + 1 => by
    show colsum c (j + n) + c (j + n) * 256 ^ (j + n) = _
    rw [colsum_split c j n, win_succ, Nat.pow_add]
    grind
theorem colsum_zeros {c : Nat → Nat} {a b : Nat} (hab : a ≤ b) (h : ∀ i, a ≤ i → i < b → c i = 0) : colsum c b = colsum c a := by
  induction b with
  | zero => have : a = 0 := by omega
            subst this; rfl
  | succ b ih =>
    by_cases hb : a = b + 1
    · rw [hb]
    · have h1 : c b = 0 := h b (by omega) (by omega)
      show colsum c b + c b * 256 ^ b = _
      rw [h1, ih (by omega) (fun i h2 h3 => h i h2 (by omega))]; omega
def put (f : Nat → Nat) (p v : Nat) : Nat → Nat := fun i => if i = p then v else f i
theorem put_at (f : Nat → Nat) (p v : Nat) : put f p v p = v := by simp [put]
theorem put_ne (f : Nat → Nat) {p i : Nat} (v : Nat) (h : i ≠ p) : put f p v i = f i := by simp [put, h]

/-- what holds while g times the divisor is taken away from the window -/
structure Took (r d : Nat → Nat) (j g k c w : Nat) (q : Nat → Nat) : Prop where
  sum : win q j k + g * colsum d k = win r j k + (c + w) * 256 ^ k
  dg : ∀ i, q i ≤ 255
  out : ∀ i, i < j ∨ j + k ≤ i → q i = r i
  c255 : c ≤ 255
  w1 : w ≤ 1
theorem Took.start {r d : Nat → Nat} {j g : Nat} (hr : ∀ i, r i ≤ 255) : Took r d j g 0 0 0 r :=
  ⟨by simp [win, colsum], hr, fun _ _ => rfl, by omega, by omega⟩
theorem Took.next {r d : Nat → Nat} {j g k c w : Nat} {q : Nat → Nat} (h : Took r d j g k c w q) (hg : g ≤ 255) (hd : d k ≤ 255) {w2 x : Nat} (hx : x ≤ 255) (hw : w2 ≤ 1)
    (he : x + (c + g * d k) % 256 + w = r (j + k) + 256 * w2) : Took r d j g (k + 1) ((c + g * d k) / 256) w2 (put q (j + k) x) := by
  have h1 : g * d k ≤ 255 * 255 := Nat.mul_le_mul hg hd
  have hc := h.c255
  refine ⟨?_, ?_, ?_, by omega, hw⟩
  · rw [win_succ, win_succ, put_at, win_congr (q := q) (fun i hi => put_ne _ _ (by omega))]
    show win q j k + x * 256 ^ k + g * (colsum d k + d k * 256 ^ k) = win r j k + r (j + k) * 256 ^ k + ((c + g * d k) / 256 + w2) * 256 ^ (k + 1)
    have h2 := h.sum
    rw [Nat.mul_add, Nat.pow_succ]
    have h6 : x + (c + g * d k) + w = r (j + k) + 256 * ((c + g * d k) / 256 + w2) := by omega
    generalize (c + g * d k) / 256 = e at *
    have h7 : (x + (c + g * d k) + w) * 256 ^ k = (r (j + k) + 256 * (e + w2)) * 256 ^ k := by rw [h6]
    generalize 256 ^ k = p at *
    generalize g * colsum d k = u at *
    generalize win q j k = v at *
    generalize win r j k = v2 at *
    generalize d k = dk at *
    generalize r (j + k) = rk at *
    clear h6 h1 he
    grind
  · intro i
    by_cases hi : i = j + k
    · subst hi; rw [put_at]; exact hx
    · rw [put_ne _ _ hi]; exact h.dg i
  · intro i hi
    rw [put_ne _ _ (by omega)]
    exact h.out i (by omega)

/-- what holds while the divisor is added back -/
structure Gave (r d : Nat → Nat) (j k c : Nat) (q : Nat → Nat) : Prop where
  sum : win q j k + c * 256 ^ k = win r j k + colsum d k
  dg : ∀ i, q i ≤ 255
  out : ∀ i, i < j ∨ j + k ≤ i → q i = r i
  c1 : c ≤ 1
theorem Gave.start {r d : Nat → Nat} {j : Nat} (hr : ∀ i, r i ≤ 255) : Gave r d j 0 0 r :=
  ⟨by simp [win, colsum], hr, fun _ _ => rfl, by omega⟩
theorem Gave.next {r d : Nat → Nat} {j k c : Nat} {q : Nat → Nat} (h : Gave r d j k c q) (hr : r (j + k) ≤ 255) (hd : d k ≤ 255) :
    Gave r d j (k + 1) ((c + (r (j + k) + d k)) / 256) (put q (j + k) ((c + (r (j + k) + d k)) % 256)) := by
  have hc := h.c1
  refine ⟨?_, ?_, ?_, by omega⟩
  · rw [win_succ, win_succ, put_at, win_congr (q := q) (fun i hi => put_ne _ _ (by omega))]
    show win q j k + (c + (r (j + k) + d k)) % 256 * 256 ^ k + (c + (r (j + k) + d k)) / 256 * 256 ^ (k + 1) = win r j k + r (j + k) * 256 ^ k + (colsum d k + d k * 256 ^ k)
    have h2 := h.sum
    have h6 : (c + (r (j + k) + d k)) % 256 + 256 * ((c + (r (j + k) + d k)) / 256) = c + (r (j + k) + d k) := by omega
    rw [Nat.pow_succ]
    generalize (c + (r (j + k) + d k)) / 256 = e at *
    generalize (c + (r (j + k) + d k)) % 256 = f at *
    have h7 : (f + 256 * e) * 256 ^ k = (c + (r (j + k) + d k)) * 256 ^ k := by rw [h6]
    generalize 256 ^ k = p at *
    generalize colsum d k = u at *
    generalize win q j k = v at *
    generalize win r j k = v2 at *
    generalize d k = dk at *
    generalize r (j + k) = rk at *
    clear h6
    grind
  · intro i
    by_cases hi : i = j + k
    · subst hi; rw [put_at]; omega
    · rw [put_ne _ _ hi]; exact h.dg i
  · intro i hi
    rw [put_ne _ _ (by omega)]
    exact h.out i (by omega)

/-- what holds while the guess is mended: U the window, D the divisor -/
structure Mend (r : Nat → Nat) (U D j n : Nat) (g : Nat) (t : Int) (q : Nat → Nat) : Prop where
  sum : (win q j n : Int) + t * (256 ^ n : Nat) = (U : Int) - (g : Int) * D
  dg : ∀ i, q i ≤ 255
  out : ∀ i, i < j ∨ j + n ≤ i → q i = r i
  t1 : t ≤ 255
  t2 : -256 ≤ t
  g1 : U / D ≤ g
  g2 : g ≤ 255
theorem Mend.start {r d : Nat → Nat} {j n g c w U D : Nat} {q : Nat → Nat} (h : Took r d j g n c w q) (hr : ∀ i, r i ≤ 255) (hU : U = win r j (n + 1)) (hD : D = colsum d n) (hg : g ≤ 255) (hq : U / D ≤ g) :
    Mend r U D j n g ((r (j + n) : Int) - c - w) q := by
  have h1 := h.sum
  have h2 := h.c255
  have h3 := h.w1
  have h4 := hr (j + n)
  refine ⟨?_, h.dg, h.out, by omega, by omega, hq, hg⟩
  rw [hU, win_succ, hD]
  generalize colsum d n = u at *
  generalize 256 ^ n = p at *
  generalize win q j n = v at *
  generalize win r j n = v2 at *
  generalize r (j + n) = rk at *
  have h5 : (v : Int) + g * u = v2 + (c + w) * p := by exact_mod_cast h1
  push_cast
  grind
theorem Mend.neg {r : Nat → Nat} {U D j n g : Nat} {t : Int} {q : Nat → Nat} (h : Mend r U D j n g t q) (ht : t < 0) : U < g * D ∧ 0 < g := by
  have h1 := h.sum
  have h2 : win q j n < 256 ^ n := colsum_lt (fun i => h.dg _) n
  have h3 : (t + 1) * (256 ^ n : Nat) ≤ 0 := Int.mul_nonpos_of_nonpos_of_nonneg (by omega) (by omega)
  generalize win q j n = v at *
  generalize 256 ^ n = p at *
  have h4 : (U : Int) - g * D < 0 := by rw [← h1]; grind
  have h5 : (U : Int) < ((g * D : Nat) : Int) := by push_cast; omega
  have h6 : U < g * D := by exact_mod_cast h5
  refine ⟨h6, ?_⟩
  rcases Nat.eq_zero_or_pos g with rfl | h7
  · omega
  · exact h7
theorem Mend.next {r d : Nat → Nat} {U D j n g c : Nat} {t : Int} {q q2 : Nat → Nat} (h : Mend r U D j n g t q) (ht : t < 0) (hg : Gave q d j n c q2) (hD : D = colsum d n) (hD0 : 0 < D) :
    Mend r U D j n (g - 1) (t + c) q2 := by
  obtain ⟨h1, h2⟩ := h.neg ht
  have h3 := hg.c1
  have h4 := h.t2
  have h5 := h.g2
  refine ⟨?_, hg.dg, fun i hi => by rw [hg.out i hi, h.out i hi], by omega, by omega, ?_, by omega⟩
  · have h6 := h.sum
    have h7 := hg.sum
    rw [← hD] at h7
    obtain ⟨m, rfl⟩ : ∃ m, g = m + 1 := ⟨g - 1, by omega⟩
    have h8 : (win q2 j n : Int) + c * (256 ^ n : Nat) = win q j n + D := by exact_mod_cast h7
    have e : ((m + 1 - 1 : Nat) : Int) = m := by omega
    rw [e]
    generalize win q j n = v at *
    generalize win q2 j n = v2 at *
    generalize 256 ^ n = p at *
    have e2 : ((m + 1 : Nat) : Int) = m + 1 := by omega
    rw [e2] at h6
    clear h7
    grind
  · have h6 : U / D < g := (Nat.div_lt_iff_lt_mul hD0).2 h1
    omega
theorem Mend.done {r : Nat → Nat} {U D j n g : Nat} {t : Int} {q : Nat → Nat} (h : Mend r U D j n g t q) (ht : 0 ≤ t) (hD0 : 0 < D) (hD : D ≤ 256 ^ n) : g = U / D ∧ t = 0 ∧ win q j n = U % D := by
  have h1 := h.sum
  have h0 : 0 ≤ t * (256 ^ n : Nat) := Int.mul_nonneg ht (by omega)
  have h2 : (g : Int) * D ≤ U := by omega
  have h3 : g * D ≤ U := by exact_mod_cast h2
  have h4 : g ≤ U / D := (Nat.le_div_iff_mul_le hD0).2 h3
  have h5 : g = U / D := Nat.le_antisymm h4 h.g1
  have h6 := Nat.div_add_mod U D
  have h7 := Nat.mod_lt U hD0
  have h8 : (U : Int) - g * D = (U % D : Nat) := by
    rw [h5]
    have : (U : Int) = D * (U / D : Nat) + (U % D : Nat) := by exact_mod_cast h6.symm
    generalize U / D = a at *
    generalize U % D = b at *
    grind
  rw [h8] at h1
  have h9 : t = 0 := by
    rcases Int.lt_or_eq_of_le ht with h10 | h10
    · exfalso
      have h11 : (1 : Int) * (256 ^ n : Nat) ≤ t * (256 ^ n : Nat) := Int.mul_le_mul_of_nonneg_right (by omega) (by omega)
      omega
    · exact h10.symm
  refine ⟨h5, h9, ?_⟩
  rw [h9] at h1
  omega

/-- the guess is not too small -/
theorem guess_ge {r d : Nat → Nat} {U D j n : Nat} (hn : 0 < n) (hr : ∀ i, r i ≤ 255) (hU : U = win r j (n + 1)) (hD : D = colsum d n) (hd : 0 < d (n - 1)) (hlt : U < 256 * D) :
    U / D ≤ min ((r (j + n) * 256 + r (j + (n - 1))) / d (n - 1)) 255 := by
  obtain ⟨m, rfl⟩ : ∃ m, n = m + 1 := ⟨n - 1, by omega⟩
  have hD1 : d m * 256 ^ m ≤ D := by rw [hD]; show d m * 256 ^ m ≤ colsum d m + d m * 256 ^ m; omega
  have hp := pow_pos256 m
  have hD0 : 0 < D := Nat.lt_of_lt_of_le (Nat.mul_pos hd hp) hD1
  have h1 : U / D ≤ 255 := by
    have : U / D < 256 := (Nat.div_lt_iff_lt_mul hD0).2 hlt
    omega
  have h2 : U / D ≤ U / (256 ^ m * d m) := Nat.div_le_div_left (by rw [Nat.mul_comm]; exact hD1) (Nat.mul_pos hp hd)
  rw [← Nat.div_div_eq_div_mul] at h2
  have h3 : U / 256 ^ m = r (j + (m + 1)) * 256 + r (j + m) := by
    have h4 : win r j m < 256 ^ m := colsum_lt (fun i => hr _) m
    rw [hU, win_succ, win_succ]
    have h5 : win r j m + r (j + m) * 256 ^ m + r (j + (m + 1)) * 256 ^ (m + 1) = win r j m + 256 ^ m * (r (j + (m + 1)) * 256 + r (j + m)) := by rw [Nat.pow_succ]; grind
    rw [h5, Nat.add_mul_div_left _ _ hp, Nat.div_eq_of_lt h4]; omega
  rw [h3] at h2
  have e : m + 1 - 1 = m := by omega
  rw [e]
  exact Nat.le_min.2 ⟨h2, h1⟩

/-- what holds of remainder and quotient when J digits of the quotient are still to be found -/
structure Rest (A D n L : Nat) (J : Nat) (r : Nat → Nat) (q : Nat → UInt8) : Prop where
  dg : ∀ i, r i ≤ 255
  zero : ∀ i, J + n ≤ i → i ≤ L → r i = 0
  qz : ∀ k, k < J → q k = 0
  sum : A = colsum (fun k => (q k).toNat) (L - n + 1) * D + colsum r (L + 1)
  lt : colsum r (L + 1) < D * 256 ^ J
theorem Rest.window {A D n L j : Nat} {r : Nat → Nat} {q : Nat → UInt8} (h : Rest A D n L (j + 1) r q) (hj : j + n ≤ L) :
    colsum r (L + 1) = colsum r j + win r j (n + 1) * 256 ^ j ∧ win r j (n + 1) < 256 * D := by
  have h1 : colsum r (L + 1) = colsum r (j + (n + 1)) := colsum_zeros (by omega) (fun i h2 h3 => h.zero i (by omega) (by omega))
  rw [colsum_split r j (n + 1)] at h1
  refine ⟨h1, ?_⟩
  have h2 := h.lt
  rw [h1, Nat.pow_succ] at h2
  have h3 : win r j (n + 1) * 256 ^ j < 256 * D * 256 ^ j := by
    have : D * (256 ^ j * 256) = 256 * D * 256 ^ j := by grind
    omega
  exact Nat.lt_of_mul_lt_mul_right h3
def putB (f : Nat → UInt8) (p : Nat) (v : UInt8) : Nat → UInt8 := fun i => if i = p then v else f i
theorem Rest.next {A D n L j : Nat} {r r2 : Nat → Nat} {q : Nat → UInt8} (h : Rest A D n L (j + 1) r q) (hj : j + n ≤ L) (hD0 : 0 < D)
    (hdg : ∀ i, r2 i ≤ 255) (hout : ∀ i, i < j ∨ j + n ≤ i → r2 i = r i) (hw : win r2 j n = win r j (n + 1) % D) :
    Rest A D n L j (put r2 (j + n) 0) (putB q j (UInt8.ofNat (win r j (n + 1) / D))) := by
  obtain ⟨h1, h2⟩ := h.window hj
  have hq : win r j (n + 1) / D ≤ 255 := by
    have : win r j (n + 1) / D < 256 := (Nat.div_lt_iff_lt_mul hD0).2 h2
    omega
  have hz : ∀ i, j + n ≤ i → i ≤ L → put r2 (j + n) 0 i = 0 := by
    intro i h3 h4
    by_cases h5 : i = j + n
    · subst h5; exact put_at _ _ _
    · rw [put_ne _ _ h5, hout i (by omega)]; exact h.zero i (by omega) h4
  have h3 : colsum (put r2 (j + n) 0) (L + 1) = colsum r j + win r j (n + 1) % D * 256 ^ j := by
    rw [colsum_zeros (a := j + n) (by omega) (fun i h4 h5 => hz i h4 (by omega)), colsum_split]
    have e1 : colsum (put r2 (j + n) 0) j = colsum r j := colsum_congr (fun k hk => by rw [put_ne _ _ (by omega), hout k (by omega)])
    have e2 : win (put r2 (j + n) 0) j n = win r2 j n := win_congr (fun i hi => put_ne _ _ (by omega))
    rw [e1, e2, hw]
  have hlo : colsum r j < 256 ^ j := colsum_lt (fun i => h.dg i) j
  have hm := Nat.mod_lt (win r j (n + 1)) hD0
  have hdm := Nat.div_add_mod (win r j (n + 1)) D
  refine ⟨?_, hz, ?_, ?_, ?_⟩
  · intro i
    by_cases hi : i = j + n
    · subst hi; rw [put_at]; omega
    · rw [put_ne _ _ hi]; exact hdg i
  · intro k hk
    unfold putB; rw [if_neg (by omega)]; exact h.qz k (by omega)
  · have hqn : (UInt8.ofNat (win r j (n + 1) / D)).toNat = win r j (n + 1) / D := by simp; omega
    have hs : colsum (fun k => (putB q j (UInt8.ofNat (win r j (n + 1) / D)) k).toNat) (L - n + 1) = colsum (fun k => (q k).toNat) (L - n + 1) + win r j (n + 1) / D * 256 ^ j := by
      refine colsum_upd (by omega) ?_ ?_
      · show (putB q j (UInt8.ofNat (win r j (n + 1) / D)) j).toNat = (q j).toNat + win r j (n + 1) / D
        rw [h.qz j (by omega)]; simp only [putB, if_true]; rw [hqn]; simp
      · intro k hk; simp [putB, hk]
    rw [hs, h3, h.sum, h1]
    generalize win r j (n + 1) / D = a at *
    generalize win r j (n + 1) % D = b at *
    rw [← hdm]
    grind
  · rw [h3]
    generalize win r j (n + 1) % D = b at *
    have h4 : (b + 1) * 256 ^ j ≤ D * 256 ^ j := Nat.mul_le_mul_right _ hm
    rw [Nat.add_mul] at h4
    omega
theorem Rest.start {a b : List UInt8} {s : Nat} (hs : s ≤ 7) (hb : canon b = true) (hb0 : b ≠ []) (hab : b.length ≤ a.length) :
    Rest (val a * 2 ^ s) (val b * 2 ^ s) b.length a.length (a.length - b.length + 1) (sc a s) (fun _ => 0) := by
  have h1 : colsum (sc a s) (a.length + 1) = val a * 2 ^ s := by
    have h2 := colsum_sc a s hs (a.length + 1)
    have h3 : above a s (a.length + 1) = 0 := by
      show (dig a a.length).toNat / 2 ^ (8 - s) = 0
      have : dig a a.length = 0 := by unfold dig; rw [if_neg (by omega)]
      rw [this]; simp
    have h4 : low a (a.length + 1) = val a := colsum_dig a _ (by omega)
    rw [h3, h4] at h2
    omega
  refine ⟨fun i => sc_le a s i hs, fun i h2 h3 => by omega, fun _ _ => rfl, ?_, ?_⟩
  · have : colsum (fun _ => ((0 : UInt8)).toNat) (a.length - b.length + 1) = 0 := by
      exact colsum_zeros (c := fun _ => ((0 : UInt8)).toNat) (a := 0) (by omega) (fun i _ _ => rfl)
    rw [this, h1]; omega
  · rw [h1]
    have h2 := val_lt a
    obtain ⟨c, l, rfl⟩ : ∃ c l, b = c :: l := by cases b with
      | nil => exact absurd rfl hb0
      | cons c l => exact ⟨c, l, rfl⟩
    have h3 := val_ge_of_canon hb
    have h4 : val a * 2 ^ s < 256 ^ a.length * 2 ^ s := Nat.mul_lt_mul_of_pos_right h2 (Nat.two_pow_pos s)
    have h5 : 256 ^ l.length * 2 ^ s * 256 ^ (a.length - (c :: l).length + 1) ≤ val (c :: l) * 2 ^ s * 256 ^ (a.length - (c :: l).length + 1) := Nat.mul_le_mul_right _ (Nat.mul_le_mul_right _ h3)
    have h6 : 256 ^ l.length * 2 ^ s * 256 ^ (a.length - (c :: l).length + 1) = 256 ^ a.length * 2 ^ s := by
      have e : a.length = l.length + (a.length - (c :: l).length + 1) := by simp only [List.length_cons] at hab ⊢; omega
      conv => rhs; rw [e, Nat.pow_add]
      grind
    omega
theorem Rest.done {A B s n L : Nat} {r : Nat → Nat} {q : Nat → UInt8} (h : Rest (A * 2 ^ s) (B * 2 ^ s) n L 0 r q) (hB : 0 < B) :
    val (be q (L - n + 1)) = A / B ∧ colsum r (L + 1) = A % B * 2 ^ s := by
  have hp := Nat.two_pow_pos s
  have hBs : 0 < B * 2 ^ s := Nat.mul_pos hB hp
  have h1 := h.sum
  have h2 := h.lt
  rw [Nat.pow_zero, Nat.mul_one] at h2
  have h3 : A * 2 ^ s / (B * 2 ^ s) = colsum (fun k => (q k).toNat) (L - n + 1) := by
    rw [h1, Nat.mul_comm _ (B * 2 ^ s), Nat.mul_add_div hBs, Nat.div_eq_of_lt h2]; omega
  have h4 : A * 2 ^ s % (B * 2 ^ s) = colsum r (L + 1) := by
    rw [h1, Nat.mul_comm _ (B * 2 ^ s), Nat.mul_add_mod, Nat.mod_eq_of_lt h2]
  rw [Nat.mul_div_mul_right _ _ hp] at h3
  rw [Nat.mul_mod_mul_right] at h4
  exact ⟨by rw [← colsum_be, ← h3], h4.symm⟩
/-- the digits of the remainder, shifted back -/
theorem back {r : Nat → Nat} {m R s i : Nat} (hr : ∀ i, r i ≤ 255) (hs : s ≤ 7) (h : colsum r m = R * 2 ^ s) (hi : i + 1 < m) : (r i + r (i + 1) * 256) / 2 ^ s % 256 = R / 256 ^ i % 256 := by
  obtain ⟨k, rfl⟩ : ∃ k, m = i + (k + 2) := ⟨m - i - 2, by omega⟩
  rw [colsum_split] at h
  have hlo : colsum r i < 256 ^ i := colsum_lt hr i
  have hw : win r i (k + 2) = R * 2 ^ s / 256 ^ i := by
    rw [← h, Nat.add_mul_div_right _ _ (pow_pos256 i), Nat.div_eq_of_lt hlo]; omega
  have hw2 : win r i (k + 2) % 65536 = r i + r (i + 1) * 256 := by
    have e : win r i (2 + k) = colsum (fun a => r (i + a)) 2 + win (fun a => r (i + a)) 2 k * 256 ^ 2 := colsum_split _ 2 k
    rw [Nat.add_comm 2 k] at e
    have h0 := hr i
    have h1 := hr (i + 1)
    have e2 : colsum (fun a => r (i + a)) 2 = r i + r (i + 1) * 256 := by simp [colsum]
    rw [e, e2]
    omega
  have e3 : R / 256 ^ i = win r i (k + 2) / 2 ^ s := by
    rw [hw, Nat.div_div_eq_div_mul, Nat.mul_comm (256 ^ i), Nat.mul_comm R, Nat.mul_div_mul_left _ _ (Nat.two_pow_pos s)]
  rw [e3, ← hw2]
  generalize win r i (k + 2) = x
  rcases cases8 hs with rfl | rfl | rfl | rfl | rfl | rfl | rfl | rfl <;> simp only [Nat.reducePow] <;> omega
end Dm
