/-
  Numbers and words of tokens: what the library's functions make of them. No program in sight.
-/
import Derived.Test.YtminghdnclpocaaGreatDoorPaB
import Derived.Lib.AtoiAllCases
import Derived.Lib.TrimByte
namespace Go.Proofs.YtminghdnclpocaaGreatDoor.Pa
set_option linter.unusedVariables false

theorem dig_nat {c : UInt8} (h : Lx.isDig c = true) : 48 ≤ c.toNat ∧ c.toNat ≤ 57 := by
  unfold Lx.isDig at h
  simp only [Bool.and_eq_true, decide_eq_true_eq, UInt8.le_iff_toNat_le] at h
  exact h
/-- digits behind a number -/
def dvA (a : Nat) (l : Tx) : Nat := l.foldl (fun n c => 10 * n + (c.toNat - 48)) a
theorem dvA_le (l : Tx) : ∀ a, a ≤ dvA a l := by
  induction l with
  | nil => intro a; exact Nat.le_refl _
  | cons c m ih =>
    intro a
    have := ih (10 * a + (c.toNat - 48))
    show a ≤ dvA (10 * a + (c.toNat - 48)) m
    omega
theorem parse_dig : ∀ (l : Tx) (a : Nat), (∀ c ∈ l, Lx.isDig c = true) → dvA a l ≤ 2147483648 → Lib.parseUint10 a l = .ok (dvA a l)
  | [], a, _, _ => rfl
  | c :: m, a, h, hle => by
    have hc := dig_nat (h c (List.mem_cons_self ..))
    have h1 : dvA (10 * a + (c.toNat - 48)) m ≤ 2147483648 := hle
    have h2 := dvA_le m (10 * a + (c.toNat - 48))
    have ih := parse_dig m (10 * a + (c.toNat - 48)) (fun x hx => h x (List.mem_cons_of_mem _ hx)) h1
    rw [Lib.parseUint10, if_pos hc, if_neg (by omega), if_neg (by omega), Nat.mul_comm a 10, ih]
    rfl
theorem num_atoi {t : Tx} {neg : Bool} {d : Tx} (h : NumT t neg d) : Lib.atoiAll t = .ok (numV t) ∧ numV t = (if neg then -(Lx.dv d : Int) else (Lx.dv d : Int)) := by
  obtain ⟨he, hp, ha, hl⟩ := h
  have h3 : Lx.dv d ≤ 2147483648 := by cases neg <;> simp at hl <;> omega
  have hpd : Lib.parseMag d = .ok (Lx.dv d) := by
    unfold Lib.parseMag
    rw [if_neg (by intro h; rw [h] at hp; simp at hp), parse_dig d 0 ha h3]
    rfl
  cases neg with
  | true =>
    simp only [if_true] at he
    subst he
    refine ⟨?_, rfl⟩
    unfold Lib.atoiAll
    simp only [show (45 : UInt8).toNat = 45 from rfl, or_true, if_true, hpd]
    rw [if_neg (by omega), if_neg (by omega)]
    rfl
  | false =>
    simp only [Bool.false_eq_true, if_false] at he
    subst he
    cases t with
    | nil => simp at hp
    | cons c m =>
      have hc := dig_nat (ha c (List.mem_cons_self ..))
      have hne : c ≠ 45 := isDig_ne (ha c (List.mem_cons_self ..))
      have hv : numV (c :: m) = (Lx.dv (c :: m) : Int) := by rw [numV, if_neg hne]
      refine ⟨?_, by rw [hv]; rfl⟩
      rw [hv]
      rw [Lib.atoiAll_plain c m (by omega) (by omega), hpd, Lib.signless]
      rw [if_neg (by omega)]
theorem isWd_ne {c : UInt8} (h : Lx.isWd c = true) : c ≠ 39 := by rintro rfl; exact absurd h (by decide)
theorem word_mid {t w : Tx} (h : WordT t w) : t.tail.dropLast = w := by rw [h.eq]; simp
theorem word_trim {t w : Tx} (h : WordT t w) : Lib.trimB t 39 = w := by
  obtain ⟨he, ha, hp, hl⟩ := h
  subst he
  unfold Lib.trimB Lib.trimLeftB Lib.trimRightB
  have h1 : ∀ l : Tx, (∀ c ∈ l, Lx.isWd c = true) → 0 < l.length → ∀ r : Tx, (l ++ r).dropWhile (· == (39 : UInt8)) = l ++ r := by
    intro l hl h0 r
    cases l with
    | nil => simp at h0
    | cons c m =>
      rw [List.cons_append, List.dropWhile_cons, if_neg]
      have := isWd_ne (hl c (List.mem_cons_self ..))
      simpa using this
  have h2 : (39 :: (w ++ [39])).reverse = 39 :: (w.reverse ++ [39]) := by simp
  rw [h2, List.dropWhile_cons, if_pos (by decide), h1 w.reverse (fun c hc => ha c (List.mem_reverse.1 hc)) (by simpa using hp)]
  have h3 : (w.reverse ++ [39]).reverse = 39 :: w := by simp
  rw [h3, List.dropWhile_cons, if_pos (by decide)]
  have := h1 w ha hp []
  rwa [List.append_nil] at this
theorem num_bound {t : Tx} {neg : Bool} {d : Tx} (h : NumT t neg d) : -2147483648 ≤ numV t ∧ numV t ≤ 2147483647 := by
  have h1 := (num_atoi h).2
  have h2 := h.le
  cases neg <;> simp at h1 h2 <;> omega
end Go.Proofs.YtminghdnclpocaaGreatDoor.Pa
