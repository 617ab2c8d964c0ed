/-
  Reading decimal digits. Plain Lean: no program in sight.
-/
import Derived.Test.YtlagcdgfmgkooaaDoorDec
namespace Dm

def isDig (c : UInt8) : Bool := decide (48 ≤ c.toNat) && decide (c.toNat ≤ 57)
def digs (l : List UInt8) : Bool := l.all isDig
def dv (l : List UInt8) : Nat := l.foldl (fun n c => 10 * n + (c.toNat - 48)) 0
theorem dv_nil : dv [] = 0 := rfl
theorem dv_snoc (l : List UInt8) (c : UInt8) : dv (l ++ [c]) = 10 * dv l + (c.toNat - 48) := by simp [dv]
theorem foldl_dv (l : List UInt8) : ∀ a, l.foldl (fun n c => 10 * n + (c.toNat - 48)) a = a * 10 ^ l.length + dv l := by
  induction l with
  | nil => intro a; simp [dv]
  | cons c l ih =>
    intro a
    have e : dv (c :: l) = (10 * 0 + (c.toNat - 48)) * 10 ^ l.length + dv l := by
      show List.foldl _ _ _ = _
      rw [List.foldl_cons, ih]
    rw [List.foldl_cons, ih, e, List.length_cons, Nat.pow_succ]
    grind
theorem dv_cons (c : UInt8) (l : List UInt8) : dv (c :: l) = (c.toNat - 48) * 10 ^ l.length + dv l := by
  show List.foldl _ _ _ = _
  rw [List.foldl_cons, foldl_dv]; simp
theorem isDig_iff {c : UInt8} : isDig c = true ↔ 48 ≤ c.toNat ∧ c.toNat ≤ 57 := by simp [isDig]
theorem digs_cons {c : UInt8} {l : List UInt8} : digs (c :: l) = true ↔ (48 ≤ c.toNat ∧ c.toNat ≤ 57) ∧ digs l = true := by
  unfold digs; rw [List.all_cons, Bool.and_eq_true, isDig_iff]
theorem dv_lt : ∀ {l : List UInt8}, digs l = true → dv l < 10 ^ l.length
  | [], _ => by simp [dv]
  | c :: l, h => by
    obtain ⟨h1, h2⟩ := digs_cons.1 h
    have ih := dv_lt h2
    rw [dv_cons, List.length_cons, Nat.pow_succ]
    have : (c.toNat - 48) * 10 ^ l.length ≤ 9 * 10 ^ l.length := Nat.mul_le_mul_right _ (by omega)
    omega
theorem dv_ge {c : UInt8} {l : List UInt8} (h : digs (c :: l) = true) (hc : c.toNat ≠ 48) : 10 ^ l.length ≤ dv (c :: l) := by
  obtain ⟨h1, h2⟩ := digs_cons.1 h
  rw [dv_cons]
  have : 1 * 10 ^ l.length ≤ (c.toNat - 48) * 10 ^ l.length := Nat.mul_le_mul_right _ (by omega)
  omega
theorem dv_append (l m : List UInt8) : dv (l ++ m) = dv l * 10 ^ m.length + dv m := by
  show List.foldl _ _ _ = _
  rw [List.foldl_append, foldl_dv]; rfl
theorem dv_take_le (l : List UInt8) (k : Nat) : dv (l.take k) ≤ dv l := by
  conv => rhs; rw [← List.take_append_drop k l, dv_append]
  have : dv (l.take k) * 1 ≤ dv (l.take k) * 10 ^ (l.drop k).length := Nat.mul_le_mul_left _ (Nat.pow_pos (by omega))
  omega
/-- whether a string is a number as it is written -/
def okDec (l : List UInt8) : Bool := !l.isEmpty && !(decide (1 < l.length) && (l.headD 0 == 48)) && digs l
theorem dgt_low (a b m i : Nat) (h : i < m) : dgt (a * 10 ^ m + b) i = dgt b i := by
  unfold dgt
  congr 2
  obtain ⟨k, rfl⟩ : ∃ k, m = i + (k + 1) := ⟨m - i - 1, by omega⟩
  have hp : 0 < 10 ^ i := Nat.pow_pos (by omega)
  rw [Nat.pow_add, Nat.pow_succ, show a * (10 ^ i * (10 ^ k * 10)) + b = b + 10 ^ i * (a * 10 ^ k * 10) from by grind, Nat.add_mul_div_left _ _ hp]
  omega
theorem leDec_low (a b m : Nat) : ∀ k, k ≤ m → leDec (a * 10 ^ m + b) k = leDec b k
  | 0, _ => rfl
  | k + 1, h => by rw [leDec, leDec, leDec_low a b m k (by omega), dgt_low a b m k (by omega)]
/-- the digits of what is read are the letters -/
theorem leDec_dv : ∀ {l : List UInt8}, digs l = true → (leDec (dv l) l.length).reverse = l
  | [], _ => rfl
  | c :: l, h => by
    obtain ⟨h1, h2⟩ := digs_cons.1 h
    have hl := dv_lt h2
    have hp : 0 < 10 ^ l.length := Nat.pow_pos (by omega)
    rw [dv_cons, List.length_cons, leDec, List.reverse_append, List.reverse_singleton, leDec_low _ _ _ _ (Nat.le_refl _), leDec_dv h2]
    show [dgt _ _] ++ l = c :: l
    rw [List.singleton_append]
    congr 1
    apply UInt8.toNat_inj.1
    rw [dgt_toNat, show (c.toNat - 48) * 10 ^ l.length + dv l = dv l + 10 ^ l.length * (c.toNat - 48) from by grind, Nat.add_mul_div_left _ _ hp, Nat.div_eq_of_lt hl]
    omega
theorem dec_dv {l : List UInt8} (h : okDec l = true) : dec (dv l) = l := by
  unfold okDec at h
  rw [Bool.and_eq_true, Bool.and_eq_true] at h
  obtain ⟨⟨h1, h2⟩, h3⟩ := h
  cases l with
  | nil => simp at h1
  | cons c t =>
    obtain ⟨h4, h5⟩ := digs_cons.1 h3
    by_cases hc : c.toNat = 48
    · have ht : t = [] := by
        simp at h2
        cases t with
        | nil => rfl
        | cons d u =>
          exfalso
          have : c = 48 := UInt8.toNat_inj.1 hc
          rcases h2 with h2 | h2
          · cases h2
          · exact h2 this
      subst ht
      have : c = 48 := UInt8.toNat_inj.1 hc
      subst this
      rfl
    · have h6 := dv_ge h3 hc
      have h7 := dv_lt h3
      have hp : 0 < 10 ^ t.length := Nat.pow_pos (by omega)
      rw [List.length_cons] at h7
      have h8 := nd_eq h6 h7
      unfold dec
      rw [if_neg (by omega), h8]
      have := leDec_dv h3
      rw [List.length_cons] at this
      exact this
theorem dgt_dig (n k : Nat) : isDig (dgt n k) = true := by
  rw [isDig_iff, dgt_toNat]; omega
theorem digs_leDec (n : Nat) : ∀ k, digs (leDec n k) = true
  | 0 => rfl
  | k + 1 => by
    have := digs_leDec n k
    unfold digs at *
    rw [leDec, List.all_append, this]
    simp [dgt_dig]
theorem dv_leDec (n : Nat) : ∀ k, dv (leDec n k).reverse = n % 10 ^ k
  | 0 => by simp [leDec, dv, Nat.mod_one]
  | k + 1 => by
    rw [leDec, List.reverse_append, List.reverse_singleton, List.singleton_append, dv_cons, dv_leDec n k, List.length_reverse, length_leDec, dgt_toNat, Nat.mod_pow_succ]
    have : 48 + n / 10 ^ k % 10 - 48 = n / 10 ^ k % 10 := by omega
    rw [this, Nat.mul_comm]; omega
theorem dv_dec (n : Nat) : dv (dec n) = n := by
  unfold dec
  by_cases h : n = 0
  · rw [if_pos h, h]; rfl
  · rw [if_neg h, dv_leDec, Nat.mod_eq_of_lt (nd_lt n)]
theorem okDec_dec (n : Nat) : okDec (dec n) = true := by
  unfold dec
  by_cases h : n = 0
  · rw [if_pos h]; rfl
  · rw [if_neg h]
    have h1 := nd_le (n := n) (by omega)
    have h2 := nd_lt n
    have hk : 0 < nd n := by
      rcases Nat.eq_zero_or_pos (nd n) with e | e
      · rw [e] at h2; simp at h2; omega
      · exact e
    obtain ⟨k, hk⟩ : ∃ k, nd n = k + 1 := ⟨nd n - 1, by omega⟩
    rw [hk] at h1 h2 ⊢
    have e : (leDec n (k + 1)).reverse = dgt n k :: (leDec n k).reverse := by rw [leDec, List.reverse_append]; rfl
    have h3 : (dgt n k).toNat ≠ 48 := fun e => by
      have := (dgt_zero h2).1 e
      simp at h1
      omega
    have h4 : digs (leDec n (k + 1)).reverse = true := by
      unfold digs
      rw [List.all_reverse]
      exact digs_leDec n (k + 1)
    unfold okDec
    rw [h4, e]
    have : dgt n k ≠ 48 := fun e => h3 (by rw [e]; rfl)
    simp [this]
/-- the size of what is read -/
theorem okDec_long {l : List UInt8} (h : okDec l = true) (hl : 1 < l.length) : 10 ^ (l.length - 1) ≤ dv l := by
  unfold okDec at h
  rw [Bool.and_eq_true, Bool.and_eq_true] at h
  obtain ⟨⟨_, h2⟩, h3⟩ := h
  cases l with
  | nil => simp at hl
  | cons c t =>
    have hc : c.toNat ≠ 48 := fun e => by
      have e2 : c = 48 := UInt8.toNat_inj.1 e
      simp [e2] at h2
      simp [h2] at hl
    have := dv_ge h3 hc
    simpa using this
/-- one digit more in base 256 -/
def pc (n d k : Nat) : Nat := (10 * (n % 256 ^ k) + d) / 256 ^ k
theorem pc_zero (n d : Nat) : pc n d 0 = d := by simp [pc, Nat.mod_one]
theorem pc_sum (n d k : Nat) : pc n d k + 10 * (n / 256 ^ k % 256) = (10 * (n % 256 ^ (k + 1)) + d) / 256 ^ k := by
  have hp := pow_pos256 k
  unfold pc
  rw [Nat.mod_pow_succ, show 10 * (n % 256 ^ k + 256 ^ k * (n / 256 ^ k % 256)) + d = 10 * (n % 256 ^ k) + d + 256 ^ k * (10 * (n / 256 ^ k % 256)) from by grind, Nat.add_mul_div_left _ _ hp]
theorem pc_succ (n d k : Nat) : pc n d (k + 1) = (pc n d k + 10 * (n / 256 ^ k % 256)) / 256 := by
  rw [pc_sum, Nat.div_div_eq_div_mul, ← Nat.pow_succ]; rfl
theorem pc_digit (n d k : Nat) : (10 * n + d) / 256 ^ k % 256 = (pc n d k + 10 * (n / 256 ^ k % 256)) % 256 := by
  rw [pc_sum]
  have hp := pow_pos256 k
  have h1 := Nat.div_add_mod n (256 ^ (k + 1))
  generalize n % 256 ^ (k + 1) = r at *
  generalize n / 256 ^ (k + 1) = q at *
  rw [← h1, Nat.pow_succ, show 10 * (256 ^ k * 256 * q + r) + d = 10 * r + d + 256 ^ k * (256 * (10 * q)) from by grind, Nat.add_mul_div_left _ _ hp]
  omega
theorem pc_le (n d k : Nat) (hd : d ≤ 9) : pc n d k ≤ 10 := by
  have hp := pow_pos256 k
  have hm := Nat.mod_lt n hp
  unfold pc
  have : (10 * (n % 256 ^ k) + d) / 256 ^ k < 11 := by
    rw [Nat.div_lt_iff_lt_mul hp]
    omega
  omega
end Dm
