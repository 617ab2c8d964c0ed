/-
  Sums of three squares below 2^32: sets of numbers as bits of a number, and what a computation with them shows. Plain Lean: no program in sight.
-/
namespace Dm

/-- the union of 2^l copies of a set, moved by f e, f (e + 1) and so on, less f e -/
def cover (f : Nat → Nat) (T : Nat) : Nat → Nat → Nat
  | 0, _ => T
  | l + 1, e => Nat.lor (cover f T l e) (Nat.shiftLeft (cover f T l (Nat.add e (Nat.pow 2 l))) (Nat.sub (f (Nat.add e (Nat.pow 2 l))) (f e)))
def Mono (f : Nat → Nat) : Prop := ∀ a b, a ≤ b → f a ≤ f b
theorem cover_bit {f : Nat → Nat} (hf : Mono f) (T : Nat) : ∀ (l e j : Nat), (cover f T l e).testBit j = true → ∃ k, k < 2 ^ l ∧ f (e + k) ≤ f e + j ∧ T.testBit (f e + j - f (e + k)) = true
  | 0, e, j, h => ⟨0, by simp, by simp, by
      have : f e + j - f (e + 0) = j := by simp
      rw [this]; exact h⟩
  | l + 1, e, j, h => by
    have hd : cover f T (l + 1) e = (cover f T l e) ||| ((cover f T l (e + 2 ^ l)) <<< (f (e + 2 ^ l) - f e)) := rfl
    have hm := hf e (e + 2 ^ l) (Nat.le_add_right _ _)
    have hp : 2 ^ (l + 1) = 2 ^ l + 2 ^ l := by rw [Nat.pow_succ]; omega
    rw [hd, Nat.testBit_or, Bool.or_eq_true] at h
    rcases h with h | h
    · obtain ⟨k, h1, h2, h3⟩ := cover_bit hf T l e j h
      exact ⟨k, by omega, h2, h3⟩
    · rw [Nat.testBit_shiftLeft, Bool.and_eq_true, decide_eq_true_eq] at h
      obtain ⟨k, h1, h2, h3⟩ := cover_bit hf T l (e + 2 ^ l) _ h.2
      have e1 : e + 2 ^ l + k = e + (2 ^ l + k) := by omega
      rw [e1] at h2 h3
      have hj := h.1
      refine ⟨2 ^ l + k, by omega, by omega, ?_⟩
      have : f e + j - f (e + (2 ^ l + k)) = f (e + 2 ^ l) + (j - (f (e + 2 ^ l) - f e)) - f (e + (2 ^ l + k)) := by omega
      rw [this]; exact h3
/-- whether every number from f (e0 + w) to f (e0 + 2^l) is in one of the 2^l copies -/
def chk (f : Nat → Nat) (T l e0 w : Nat) : Bool :=
  Nat.beq (Nat.mod (Nat.shiftRight (cover f T l e0) (Nat.sub (f (Nat.add e0 w)) (f e0))) (Nat.shiftLeft 1 (Nat.sub (f (Nat.add e0 (Nat.pow 2 l))) (f (Nat.add e0 w))))) (Nat.sub (Nat.shiftLeft 1 (Nat.sub (f (Nat.add e0 (Nat.pow 2 l))) (f (Nat.add e0 w)))) 1)
def Within (f : Nat → Nat) (S : Nat → Prop) (i : Nat) : Prop := ∃ d, f d ≤ i ∧ S (i - f d)
theorem chk_all {f : Nat → Nat} (hf : Mono f) {T l e0 w : Nat} (h : chk f T l e0 w = true) (i : Nat) (h1 : f (e0 + w) ≤ i) (h2 : i < f (e0 + 2 ^ l)) : Within f (fun t => T.testBit t = true) i := by
  have hd : chk f T l e0 w = Nat.beq ((cover f T l e0) >>> (f (e0 + w) - f e0) % (1 <<< (f (e0 + 2 ^ l) - f (e0 + w)))) (1 <<< (f (e0 + 2 ^ l) - f (e0 + w)) - 1) := rfl
  rw [hd] at h
  have h3 := Nat.eq_of_beq_eq_true h
  rw [Nat.one_shiftLeft] at h3
  have hm := hf e0 (e0 + w) (by omega)
  have h4 : ((cover f T l e0) >>> (f (e0 + w) - f e0) % 2 ^ (f (e0 + 2 ^ l) - f (e0 + w))).testBit (i - f (e0 + w)) = true := by
    rw [h3, Nat.testBit_two_pow_sub_one]; simp; omega
  rw [Nat.testBit_mod_two_pow, Bool.and_eq_true, Nat.testBit_shiftRight] at h4
  obtain ⟨k, _, h6, h7⟩ := cover_bit hf T l e0 _ h4.2
  refine ⟨e0 + k, by omega, ?_⟩
  have : i - f (e0 + k) = f e0 + (f (e0 + w) - f e0 + (i - f (e0 + w))) - f (e0 + k) := by omega
  show T.testBit (i - f (e0 + k)) = true
  rw [this]; exact h7
def fP (u : Nat) : Nat := Nat.mul u (Nat.add u 1)
def fS (u : Nat) : Nat := Nat.mul u u
def fT (u : Nat) : Nat := Nat.div (Nat.mul u (Nat.add u 1)) 2
theorem mono_fP : Mono fP := fun _ _ h => Nat.mul_le_mul h (Nat.succ_le_succ h)
theorem mono_fS : Mono fS := fun _ _ h => Nat.mul_le_mul h h
theorem mono_fT : Mono fT := fun _ _ h => Nat.div_le_div_right (Nat.mul_le_mul h (Nat.succ_le_succ h))
/-- the numbers u (u + 1) + v v with u, v below 2^l and fewer than M -/
def PP (l M : Nat) : Nat := Nat.mod (cover fP 1 l 0) (Nat.shiftLeft 1 M)
def TT (l M : Nat) : Nat := Nat.mod (cover fS (PP l M) l 0) (Nat.shiftLeft 1 M)
def PS (t : Nat) : Prop := ∃ u v, t = u * (u + 1) + v * v
theorem bit_mod {x M t : Nat} (h : (Nat.mod x (Nat.shiftLeft 1 M)).testBit t = true) : x.testBit t = true := by
  have hd : Nat.mod x (Nat.shiftLeft 1 M) = x % (1 <<< M) := rfl
  rw [hd, Nat.one_shiftLeft, Nat.testBit_mod_two_pow, Bool.and_eq_true] at h
  exact h.2
theorem TT_bit {l M t : Nat} (h : (TT l M).testBit t = true) : PS t := by
  obtain ⟨v, _, h2, h3⟩ := cover_bit mono_fS _ l 0 t (bit_mod h)
  obtain ⟨u, _, h5, h6⟩ := cover_bit mono_fP 1 l 0 _ (bit_mod h3)
  have e0 : fP 0 = 0 := rfl
  have e1 : fS 0 = 0 := rfl
  rw [e0, e1, Nat.zero_add, Nat.zero_add, Nat.zero_add, Nat.zero_add] at h6
  rw [e0, e1, Nat.zero_add, Nat.zero_add, Nat.zero_add, Nat.zero_add] at h5
  rw [e1, Nat.zero_add, Nat.zero_add] at h2
  have h7 := Nat.testBit_one_eq_true_iff_self_eq_zero.1 h6
  refine ⟨u, v, ?_⟩
  have e2 : fP u = u * (u + 1) := rfl
  have e3 : fS v = v * v := rfl
  omega
/-- n chunks in a row, of 2^9 copies each, the first 72 of them to warm up -/
def chunks (f : Nat → Nat) (T : Nat) : Nat → Nat → Bool
  | 0, _ => true
  | n + 1, e => chk f T 9 e 72 && chunks f T n (e + 440)
theorem step_a (e : Nat) : e + 512 = e + 440 + 72 := by omega
theorem step_b (e n : Nat) : e + 440 * (n + 1) + 72 = e + 440 + 440 * n + 72 := by omega
theorem chunks_all {f : Nat → Nat} (hf : Mono f) {T : Nat} : ∀ (n e : Nat), chunks f T n e = true → ∀ i, f (e + 72) ≤ i → i < f (e + 440 * n + 72) → Within f (fun t => T.testBit t = true) i
  | 0, e, _, i, h1, h2 => by simp at h2; omega
  | n + 1, e, h, i, h1, h2 => by
    rw [chunks, Bool.and_eq_true] at h
    by_cases h3 : i < f (e + 2 ^ 9)
    · exact chk_all hf h.1 i h1 h3
    · have e0 : (2 : Nat) ^ 9 = 512 := by decide
      rw [e0] at h3
      rw [step_a e] at h3
      rw [step_b e n] at h2
      exact chunks_all hf n (e + 440) h.2 i (Nat.le_of_not_lt h3) h2
def Good (f : Nat → Nat) (i : Nat) : Prop := Within f PS i
theorem good_chunks {f : Nat → Nat} (hf : Mono f) {l M n e : Nat} (h : chunks f (TT l M) n e = true) {m : Nat} (hm : m = e + 440 * n) (i : Nat) (h1 : f (e + 72) ≤ i) (h2 : i < f (m + 72)) : Good f i := by
  subst hm
  obtain ⟨d, h3, h4⟩ := chunks_all hf n e h i h1 h2
  exact ⟨d, h3, TT_bit h4⟩
theorem good_first {f : Nat → Nat} (hf : Mono f) {l M : Nat} (h : chk f (TT l M) 7 0 0 = true) (i : Nat) (h1 : f 0 ≤ i) (h2 : i < f 128) : Good f i := by
  obtain ⟨d, h3, h4⟩ := chk_all hf h i h1 h2
  exact ⟨d, h3, TT_bit h4⟩
end Dm
