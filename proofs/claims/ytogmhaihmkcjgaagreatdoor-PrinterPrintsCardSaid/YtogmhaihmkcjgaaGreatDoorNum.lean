/-
  Natural numbers as lists of bytes, the most significant first: the value of a list, the canonical list of a number, their laws. Plain Lean: no program in sight.
-/
namespace Dm

/-- the number of some bytes, the most significant first -/
def val (l : List UInt8) : Nat := l.foldl (fun a c => a * 256 + c.toNat) 0

theorem foldl_val (l : List UInt8) (a : Nat) : l.foldl (fun a c => a * 256 + c.toNat) a = a * 256 ^ l.length + val l := by
  unfold val
  induction l generalizing a with
  | nil => simp
  | cons c l ih =>
    simp only [List.foldl_cons, List.length_cons]
    rw [ih, ih (0 * 256 + c.toNat)]
    rw [Nat.pow_succ, Nat.add_mul, Nat.zero_mul, Nat.zero_add, Nat.mul_assoc, Nat.mul_comm 256 (256 ^ l.length)]
    omega

theorem val_nil : val [] = 0 := rfl
theorem val_cons (c : UInt8) (l : List UInt8) : val (c :: l) = c.toNat * 256 ^ l.length + val l := by
  show List.foldl _ (0 * 256 + c.toNat) l = _
  rw [foldl_val]; simp
theorem val_append (l m : List UInt8) : val (l ++ m) = val l * 256 ^ m.length + val m := by
  show List.foldl _ 0 (l ++ m) = _
  rw [List.foldl_append, foldl_val]; rfl
theorem val_snoc (l : List UInt8) (c : UInt8) : val (l ++ [c]) = val l * 256 + c.toNat := by
  rw [val_append, val_cons]; simp [val_nil]
theorem val_lt (l : List UInt8) : val l < 256 ^ l.length := by
  induction l with
  | nil => simp [val]
  | cons c l ih =>
    rw [val_cons, List.length_cons, Nat.pow_succ]
    have hc : c.toNat ≤ 255 := by have := c.toNat_lt; omega
    have h1 : c.toNat * 256 ^ l.length ≤ 255 * 256 ^ l.length := Nat.mul_le_mul_right _ hc
    omega

/-- without leading zero bytes -/
def canon : List UInt8 → Bool
  | [] => true
  | c :: _ => c != 0
def trim (l : List UInt8) : List UInt8 := l.dropWhile (· == 0)
theorem trim_nil : trim [] = [] := rfl
theorem trim_zero (l : List UInt8) : trim (0 :: l) = trim l := rfl
theorem trim_of_ne {c : UInt8} (l : List UInt8) (h : c ≠ 0) : trim (c :: l) = c :: l := by simp [trim, h]
theorem canon_trim (l : List UInt8) : canon (trim l) = true := by
  induction l with
  | nil => rfl
  | cons c l ih =>
    by_cases h : c = 0
    · subst h; exact ih
    · rw [trim_of_ne l h]; simp [canon, h]
theorem val_trim (l : List UInt8) : val (trim l) = val l := by
  induction l with
  | nil => rfl
  | cons c l ih =>
    by_cases h : c = 0
    · subst h; rw [trim_zero, ih, val_cons]; simp
    · rw [trim_of_ne l h]
theorem trim_of_canon {l : List UInt8} (h : canon l = true) : trim l = l := by
  cases l with
  | nil => rfl
  | cons c l => exact trim_of_ne l (by simpa [canon] using h)
theorem length_trim_le (l : List UInt8) : (trim l).length ≤ l.length := by
  induction l with
  | nil => simp [trim]
  | cons c l ih =>
    by_cases h : c = 0
    · subst h; rw [trim_zero]; simp; omega
    · rw [trim_of_ne l h]; exact Nat.le_refl _

theorem pow_pos256 (n : Nat) : 0 < 256 ^ n := Nat.pow_pos (by omega)
theorem val_ge_of_canon {c : UInt8} {l : List UInt8} (h : canon (c :: l) = true) : 256 ^ l.length ≤ val (c :: l) := by
  have hc : c ≠ 0 := by simpa [canon] using h
  have h1 : 1 ≤ c.toNat := by
    have : c.toNat ≠ 0 := fun e => hc (UInt8.toNat_inj.1 (by simpa using e))
    omega
  rw [val_cons]
  have := Nat.mul_le_mul_right (256 ^ l.length) h1
  omega
/-- equal lengths: equal numbers are equal lists -/
theorem val_inj_len : ∀ {l m : List UInt8}, l.length = m.length → val l = val m → l = m
  | [], [], _, _ => rfl
  | [], _ :: _, h, _ => by simp at h
  | _ :: _, [], h, _ => by simp at h
  | c :: l, d :: m, h, hv => by
    have hl : l.length = m.length := by simpa using h
    rw [val_cons, val_cons, hl] at hv
    have h1 := val_lt l
    have h2 := val_lt m
    rw [hl] at h1
    have hcd : c.toNat = d.toNat := by
      have e1 : (c.toNat * 256 ^ m.length + val l) / 256 ^ m.length = c.toNat := by
        rw [Nat.mul_comm, Nat.mul_add_div (pow_pos256 _), Nat.div_eq_of_lt h1]; rfl
      have e2 : (d.toNat * 256 ^ m.length + val m) / 256 ^ m.length = d.toNat := by
        rw [Nat.mul_comm, Nat.mul_add_div (pow_pos256 _), Nat.div_eq_of_lt h2]; rfl
      rw [← e1, ← e2, hv]
    rw [hcd] at hv
    have := val_inj_len hl (by omega)
    rw [UInt8.toNat_inj.1 hcd, this]
theorem val_lt_of_length {l m : List UInt8} (hm : canon m = true) (h : l.length < m.length) : val l < val m := by
  cases m with
  | nil => simp at h
  | cons c m =>
    have h1 := val_ge_of_canon hm
    have h2 := val_lt l
    have h3 : 256 ^ l.length ≤ 256 ^ m.length := Nat.pow_le_pow_right (by omega) (by simp at h; omega)
    omega
theorem val_inj {l m : List UInt8} (hl : canon l = true) (hm : canon m = true) (h : val l = val m) : l = m := by
  rcases Nat.lt_trichotomy l.length m.length with h1 | h1 | h1
  · have := val_lt_of_length hm h1; omega
  · exact val_inj_len h1 h
  · have := val_lt_of_length hl h1; omega

/-- the canonical bytes of a number (with fuel) -/
def strF : Nat → Nat → List UInt8
  | 0, _ => []
  | f + 1, n => if n = 0 then [] else strF f (n / 256) ++ [UInt8.ofNat (n % 256)]
def str (n : Nat) : List UInt8 := strF n n

theorem strF_spec (f n : Nat) (h : n ≤ f) : val (strF f n) = n ∧ canon (strF f n) = true := by
  induction f generalizing n with
  | zero => have : n = 0 := by omega
            subst this; exact ⟨rfl, rfl⟩
  | succ f ih =>
    unfold strF
    by_cases h0 : n = 0
    · simp [h0, val, canon]
    · simp only [h0, if_false]
      obtain ⟨h1, h2⟩ := ih (n / 256) (by omega)
      refine ⟨?_, ?_⟩
      · rw [val_snoc, h1, UInt8.toNat_ofNat']
        simp only [Nat.reducePow]; omega
      · cases hs : strF f (n / 256) with
        | nil =>
          rw [hs] at h1
          have hz : n / 256 = 0 := by simpa [val] using h1.symm
          have hn : n % 256 ≠ 0 := by omega
          simp only [List.nil_append, canon, bne_iff_ne, ne_eq]
          intro e
          have := congrArg UInt8.toNat e
          rw [UInt8.toNat_ofNat'] at this
          simp at this; omega
        | cons c l => rw [hs] at h2; simpa [canon] using h2
theorem val_str (n : Nat) : val (str n) = n := (strF_spec n n (Nat.le_refl _)).1
theorem canon_str (n : Nat) : canon (str n) = true := (strF_spec n n (Nat.le_refl _)).2
theorem str_val (l : List UInt8) : str (val l) = trim l :=
  val_inj (canon_str _) (canon_trim l) (by rw [val_str, val_trim])
theorem str_val_canon {l : List UInt8} (h : canon l = true) : str (val l) = l := by rw [str_val, trim_of_canon h]
theorem str_zero : str 0 = [] := rfl
theorem str_inj {a b : Nat} (h : str a = str b) : a = b := by rw [← val_str a, h, val_str]
theorem str_eq_nil {n : Nat} : str n = [] ↔ n = 0 := ⟨fun h => by rw [← val_str n, h]; rfl, fun h => by rw [h]; rfl⟩
theorem length_str_le {n k : Nat} : (str n).length ≤ k ↔ n < 256 ^ k := by
  constructor
  · intro h
    have h1 := val_lt (str n)
    rw [val_str] at h1
    exact Nat.lt_of_lt_of_le h1 (Nat.pow_le_pow_right (by omega) h)
  · intro h
    rcases Nat.lt_or_ge k (str n).length with h1 | h1
    · exfalso
      cases hs : str n with
      | nil => rw [hs] at h1; simp at h1
      | cons c l =>
        have h2 := val_ge_of_canon (c := c) (l := l) (by rw [← hs]; exact canon_str n)
        rw [← hs, val_str] at h2
        rw [hs] at h1
        have h3 : 256 ^ k ≤ 256 ^ l.length := Nat.pow_le_pow_right (by omega) (by simp at h1; omega)
        omega
    · exact h1
theorem trim_eq_str {l : List UInt8} {n : Nat} (h : val l = n) : trim l = str n := by rw [← h, str_val]

/-- the two orders agree: of canonical lists -/
theorem val_lt_iff {l m : List UInt8} (hl : canon l = true) (hm : canon m = true) : val l < val m ↔ l.length < m.length ∨ (l.length = m.length ∧ val l < val m) := by
  rcases Nat.lt_trichotomy l.length m.length with h1 | h1 | h1
  · have := val_lt_of_length hm h1
    constructor <;> intro _ <;> first | exact .inl h1 | exact this
  · constructor
    · intro h; exact .inr ⟨h1, h⟩
    · rintro (h | ⟨_, h⟩)
      · omega
      · exact h
  · have := val_lt_of_length hl h1
    constructor
    · intro h; omega
    · rintro (h | ⟨h, _⟩) <;> omega

/-- byte i of a number -/
def byteAt (n i : Nat) : UInt8 := UInt8.ofNat (n / 256 ^ i % 256)
theorem byteAt_toNat (n i : Nat) : (byteAt n i).toNat = n / 256 ^ i % 256 := by
  unfold byteAt; rw [UInt8.toNat_ofNat']; simp only [Nat.reducePow]; omega
/-- m digits, the most significant first; f i has the weight 256^i -/
def be (f : Nat → UInt8) : Nat → List UInt8
  | 0 => []
  | m + 1 => f m :: be f m
theorem length_be (f : Nat → UInt8) (m : Nat) : (be f m).length = m := by
  induction m with
  | zero => rfl
  | succ m ih => simp [be, ih]
theorem be_congr {f g : Nat → UInt8} {m : Nat} (h : ∀ i, i < m → f i = g i) : be f m = be g m := by
  induction m with
  | zero => rfl
  | succ m ih => simp only [be]; rw [h m (by omega), ih fun i hi => h i (by omega)]
theorem be_get (f : Nat → UInt8) (m j : Nat) (h : j < m) : (be f m)[j]? = some (f (m - 1 - j)) := by
  induction m generalizing j with
  | zero => omega
  | succ m ih =>
    cases j with
    | zero => simp [be]
    | succ j => simp only [be, List.getElem?_cons_succ]; rw [ih j (by omega)]; congr 2; omega
theorem be_set (f g : Nat → UInt8) (m k : Nat) (h : k < m) (hg : ∀ i, i < m → i ≠ k → g i = f i) : (be f m).set (m - 1 - k) (g k) = be g m := by
  apply List.ext_getElem?
  intro j
  rw [List.getElem?_set]
  simp only [length_be]
  by_cases hj : j < m
  · rw [be_get g m j hj]
    by_cases he : m - 1 - k = j
    · have : k = m - 1 - j := by omega
      subst this
      simp [he, hj]
    · rw [if_neg he, be_get f m j hj, hg _ (by omega) (by omega)]
  · have e1 : (be g m)[j]? = none := List.getElem?_eq_none (by rw [length_be]; omega)
    have e2 : (be f m)[j]? = none := List.getElem?_eq_none (by rw [length_be]; omega)
    rw [e1]
    by_cases he : m - 1 - k = j
    · omega
    · rw [if_neg he, e2]
theorem val_be_succ (f : Nat → UInt8) (m : Nat) : val (be f (m + 1)) = (f m).toNat * 256 ^ m + val (be f m) := by
  rw [be, val_cons, length_be]
theorem val_be_byteAt (n m : Nat) : val (be (byteAt n) m) = n % 256 ^ m := by
  induction m with
  | zero => simp [be, val, Nat.mod_one]
  | succ m ih => rw [val_be_succ, ih, byteAt_toNat, Nat.mod_pow_succ, Nat.mul_comm]; omega
/-- the digits of a list, counted from its end; 0 beyond it -/
def dig (l : List UInt8) (i : Nat) : UInt8 := if i < l.length then l.getD (l.length - 1 - i) 0 else 0
theorem be_dig (l : List UInt8) : be (dig l) l.length = l := by
  apply List.ext_getElem?
  intro j
  by_cases hj : j < l.length
  · rw [be_get _ _ _ hj]
    unfold dig
    rw [if_pos (by omega)]
    have : l.length - 1 - (l.length - 1 - j) = j := by omega
    rw [this]
    simp [List.getD, List.getElem?_eq_getElem hj]
  · rw [List.getElem?_eq_none (by rw [length_be]; omega), List.getElem?_eq_none (by omega)]
theorem dig_eq (l : List UInt8) (i : Nat) : dig l i = byteAt (val l) i := by
  have key : ∀ (m i : Nat) (f : Nat → UInt8), i < m → byteAt (val (be f m)) i = f i := by
    intro m
    induction m with
    | zero => intro i f h; omega
    | succ m ih =>
      intro i f h
      apply UInt8.toNat_inj.1
      rw [byteAt_toNat, val_be_succ]
      have hlt : val (be f m) < 256 ^ m := by have := val_lt (be f m); rwa [length_be] at this
      have hf : (f m).toNat < 256 := (f m).toNat_lt
      by_cases he : i = m
      · subst he
        rw [Nat.mul_comm, Nat.mul_add_div (pow_pos256 _), Nat.div_eq_of_lt hlt]
        omega
      · have hm : m = i + 1 + (m - i - 1) := by omega
        have e1 : (f m).toNat * 256 ^ m = ((f m).toNat * 256 ^ (m - i - 1) * 256) * 256 ^ i := by
          have : 256 ^ m = 256 ^ (m - i - 1) * 256 * 256 ^ i := by
            rw [Nat.mul_assoc, ← Nat.pow_succ', ← Nat.pow_add]
            congr 1
            omega
          rw [this]; simp only [Nat.mul_assoc]
        rw [e1, Nat.add_comm, Nat.add_mul_div_right _ _ (pow_pos256 _), Nat.add_mod, Nat.mul_mod_left]
        simp only [Nat.add_zero, Nat.mod_mod]
        rw [← byteAt_toNat, ih i f (by omega)]
  by_cases h : i < l.length
  · have := key l.length i (dig l) h
    rw [be_dig] at this
    exact this.symm
  · have h1 := val_lt l
    have h2 : val l < 256 ^ i := Nat.lt_of_lt_of_le h1 (Nat.pow_le_pow_right (by omega) (by omega))
    apply UInt8.toNat_inj.1
    rw [byteAt_toNat, Nat.div_eq_of_lt h2]
    simp [dig, h]

/-- the order of two numbers as -1, 0, 1 -/
def cmpN (a b : Nat) : Int := if a < b then -1 else if b < a then 1 else 0
theorem cmpN_lt {a b : Nat} (h : a < b) : cmpN a b = -1 := by simp [cmpN, h]
theorem cmpN_gt {a b : Nat} (h : b < a) : cmpN a b = 1 := by unfold cmpN; rw [if_neg (by omega), if_pos h]
theorem cmpN_eq {a b : Nat} (h : a = b) : cmpN a b = 0 := by simp [cmpN, h]
theorem cmpN_add (k a b : Nat) : cmpN (k + a) (k + b) = cmpN a b := by
  rcases Nat.lt_trichotomy a b with h | h | h
  · rw [cmpN_lt h, cmpN_lt (by omega)]
  · rw [cmpN_eq h, cmpN_eq (by omega)]
  · rw [cmpN_gt h, cmpN_gt (by omega)]
theorem cmpN_neg {a b : Nat} : cmpN a b < 0 ↔ a < b := by
  unfold cmpN
  split
  · simp; assumption
  · split <;> simp <;> omega
theorem cmpN_range (a b : Nat) : cmpN a b = -1 ∨ cmpN a b = 0 ∨ cmpN a b = 1 := by
  unfold cmpN
  split
  · exact .inl rfl
  · split
    · exact .inr (.inr rfl)
    · exact .inr (.inl rfl)

/-! columns and carries -/
def carryC (c : Nat → Nat) : Nat → Nat
  | 0 => 0
  | k + 1 => (carryC c k + c k) / 256
def outC (c : Nat → Nat) (k : Nat) : UInt8 := UInt8.ofNat ((carryC c k + c k) % 256)
theorem outC_toNat (c : Nat → Nat) (k : Nat) : (outC c k).toNat = (carryC c k + c k) % 256 := by
  unfold outC; rw [UInt8.toNat_ofNat']; simp only [Nat.reducePow]; omega
/-- the sum of the columns -/
def colsum (c : Nat → Nat) : Nat → Nat
  | 0 => 0
  | k + 1 => colsum c k + c k * 256 ^ k
theorem val_outC (c : Nat → Nat) (m : Nat) : val (be (outC c) m) + carryC c m * 256 ^ m = colsum c m := by
  induction m with
  | zero => simp [be, val, carryC, colsum]
  | succ m ih =>
    rw [val_be_succ, outC_toNat, carryC, colsum, ← ih, Nat.pow_succ]
    have h := Nat.div_add_mod (carryC c m + c m) 256
    generalize (carryC c m + c m) / 256 = q at *
    generalize (carryC c m + c m) % 256 = r at *
    have e : (256 * q + r) * 256 ^ m = (carryC c m + c m) * 256 ^ m := by rw [h]
    rw [Nat.add_mul, Nat.add_mul] at e
    have e2 : q * (256 ^ m * 256) = 256 * q * 256 ^ m := by rw [Nat.mul_comm (256 ^ m) 256, ← Nat.mul_assoc, Nat.mul_comm q 256]
    omega
theorem colsum_congr {c d : Nat → Nat} {m : Nat} (h : ∀ k, k < m → c k = d k) : colsum c m = colsum d m := by
  induction m with
  | zero => rfl
  | succ m ih => simp only [colsum]; rw [ih fun k hk => h k (by omega), h m (by omega)]
theorem colsum_add (c d : Nat → Nat) (m : Nat) : colsum (fun k => c k + d k) m = colsum c m + colsum d m := by
  induction m with
  | zero => rfl
  | succ m ih => simp only [colsum]; rw [ih, Nat.add_mul]; omega
theorem colsum_be (f : Nat → UInt8) (m : Nat) : colsum (fun k => (f k).toNat) m = val (be f m) := by
  induction m with
  | zero => rfl
  | succ m ih => simp only [colsum]; rw [ih, val_be_succ]; omega
theorem colsum_dig (l : List UInt8) (m : Nat) (h : l.length ≤ m) : colsum (fun k => (dig l k).toNat) m = val l := by
  rw [colsum_be, be_congr (g := byteAt (val l)) (fun i _ => dig_eq l i), val_be_byteAt, Nat.mod_eq_of_lt]
  exact Nat.lt_of_lt_of_le (val_lt l) (Nat.pow_le_pow_right (by omega) h)
/-- if the sum of the columns fits, the digits that the carries leave are its digits -/
theorem trim_outC {c : Nat → Nat} {m n : Nat} (h : colsum c m = n) (hn : n < 256 ^ m) : trim (be (outC c) m) = str n := by
  have h1 := val_outC c m
  rw [h] at h1
  have h2 : carryC c m = 0 := by
    rcases Nat.eq_zero_or_pos (carryC c m) with h0 | h0
    · exact h0
    · have := Nat.mul_le_mul_right (256 ^ m) h0
      omega
  exact trim_eq_str (by rw [h2] at h1; omega)
theorem carryC_le {c : Nat → Nat} {B : Nat} (h : ∀ k, c k ≤ 255 * B) : ∀ k, carryC c k ≤ B
  | 0 => Nat.zero_le _
  | k + 1 => by
    have h1 := carryC_le h k
    have h2 := h k
    rw [carryC]
    omega
/-- the digits that are written so far; the others are 0 -/
def soFar (f : Nat → UInt8) (k : Nat) : Nat → UInt8 := fun i => if i < k then f i else 0
theorem soFar_zero (f : Nat → UInt8) (m : Nat) : be (soFar f 0) m = List.replicate m 0 := by
  induction m with
  | zero => rfl
  | succ m ih => rw [be, ih]; rfl
theorem soFar_all (f : Nat → UInt8) (m : Nat) : be (soFar f m) m = be f m := be_congr fun i hi => by simp [soFar, hi]
theorem soFar_set (f : Nat → UInt8) (m k : Nat) (h : k < m) : (be (soFar f k) m).set (m - 1 - k) (f k) = be (soFar f (k + 1)) m := by
  have := be_set (soFar f k) (soFar f (k + 1)) m k h (fun i _ hne => by
    unfold soFar
    by_cases h1 : i < k
    · simp [h1, Nat.lt_succ_of_lt h1]
    · rw [if_neg h1, if_neg (by omega)])
  rw [← this]
  simp [soFar]

theorem colsum_upd {f g : Nat → Nat} {p d m : Nat} (hp : p < m) (hg : g p = f p + d) (ho : ∀ j, j ≠ p → g j = f j) : colsum g m = colsum f m + d * 256 ^ p := by
  induction m with
  | zero => omega
  | succ m ih =>
    simp only [colsum]
    by_cases h : p = m
    · subst h
      rw [hg, colsum_congr (c := g) (d := f) (fun k hk => ho k (by omega)), Nat.add_mul]
      omega
    · rw [ih (by omega), ho m (by omega)]
      omega
/-- the value of the low k digits -/
def low (l : List UInt8) (k : Nat) : Nat := colsum (fun i => (dig l i).toNat) k
theorem low_zero (l : List UInt8) : low l 0 = 0 := rfl
theorem low_succ (l : List UInt8) (k : Nat) : low l (k + 1) = low l k + (dig l k).toNat * 256 ^ k := rfl
theorem low_all (l : List UInt8) : low l l.length = val l := colsum_dig l _ (Nat.le_refl _)
end Dm
