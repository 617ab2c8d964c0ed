/-
  Walks over foursquares: root, one, seven and the reference's root, seven. Each returns what the plain function computes.
-/
import Derived.Test.YtdbhmhabgbfplaaKit
import Derived.Test.YtdbhmhabgbfplaaSq
namespace Go.Proofs.Ytdbhmhabgbfplaa
open Go.RowKit

/-- bit of the search: 2^(k-1), or 0 -/
def halfPow : Nat → Nat
  | 0 => 0
  | k + 1 => 2 ^ k

def RootRel (n : Nat) (x b : Value) : Prop := ∃ k X : Nat, k ≤ 17 ∧ x = .int .u64 (X : Int) ∧ b = .int .u64 (halfPow k : Nat) ∧ X * X ≤ n ∧ n < (X + 2 ^ k) * (X + 2 ^ k) ∧ X + 2 ^ k ≤ 131072
theorem root_half {n X B k : Nat} (hB : 2 ^ k = B) (hk : k + 1 ≤ 17) (hn : n < (X + 2 ^ (k + 1)) * (X + 2 ^ (k + 1))) (hb : X + 2 * B ≤ 131072) (hx : X * X ≤ n) :
    (((X : Int) + B) * ((X : Int) + B) ≤ (n : Int) → RootRel n (.int .u64 ((X : Int) + B)) (.int .u64 ((B : Int) / 2))) ∧
    (¬ ((X : Int) + B) * ((X : Int) + B) ≤ (n : Int) → RootRel n (.int .u64 (X : Int)) (.int .u64 ((B : Int) / 2))) := by
  have hh : ((B : Int) / 2) = ((halfPow k : Nat) : Int) := by
    cases k with
    | zero => simp [halfPow, ← hB]
    | succ k => rw [← hB, halfPow, Nat.pow_succ]; omega
  have hc : ((X : Int) + B) * ((X : Int) + B) = (((X + B) * (X + B) : Nat) : Int) := by simp [Int.natCast_mul, Int.natCast_add]
  have hp : 2 ^ (k + 1) = B + B := by rw [Nat.pow_succ]; omega
  rw [hp] at hn
  constructor
  · intro h
    rw [hc] at h
    exact ⟨k, X + B, by omega, by go_num, by rw [hh], by omega, by rw [hB, Nat.add_assoc]; exact hn, by omega⟩
  · intro h
    rw [hc] at h
    exact ⟨k, X, by omega, rfl, by rw [hh], hx, by rw [hB]; omega, by omega⟩

set_option maxHeartbeats 400000 in
theorem root_any (n : Nat) (w : World) (h1 : n < 4294967296) :
    Calls Try.prog 31 #[.int .u64 n] w fun e w' => e = .returned (.int .u64 (Dm.rt n)) ∧ w = w' := by
  go_enter Try.func31, Try.ntmps31
  go_wp2
  go_loop [3, 4] (RootRel n) (fun _ b => (intOf b).toNat)
  case atStart => exact ⟨17, 0, by omega, rfl, rfl, by simp, by simp; omega, by decide⟩
  case round =>
    obtain ⟨k, X, hk, rfl, rfl, hx, hn, hb⟩ := hrel
    rcases k with _ | k
    · simp only [halfPow]
      go_wp2
      go_ret
      exact ⟨ret_int (by rw [Dm.rt_eq hx (by simpa using hn)]), rfl⟩
    · simp only [halfPow]
      have hp : 1 ≤ 2 ^ k := Nat.one_le_two_pow
      have hp' : 2 ^ (k + 1) = 2 * 2 ^ k := by rw [Nat.pow_succ]; omega
      have hb2 : X + 2 * 2 ^ k ≤ 131072 := by omega
      generalize hB : 2 ^ k = B at hp hb2
      have HF := Lib.hid (root_half hB hk hn hb2 hx)
      have HB := Lib.hid hB
      have hY : ((X:Int) + B) * ((X:Int) + B) ≤ 17179869184 := by
        have : (X + B) * (X + B) ≤ 131072 * 131072 := Nat.mul_le_mul (by omega) (by omega)
        have h2 : (((X + B) * (X + B) : Nat) : Int) ≤ 17179869184 := by omega
        simpa [Int.natCast_mul, Int.natCast_add] using h2
      have hY0 : 0 ≤ ((X:Int) + B) * ((X:Int) + B) := by exact Int.mul_nonneg (by omega) (by omega)
      clear hB hp' hn hb
      go_wp2
      · go_round
        case rel => exact HF.out.1 (by assumption)
        case measure => simp [intOf]; omega
      · go_round
        case rel => exact HF.out.2 (by omega)
        case measure => simp [intOf]; omega

set_option maxHeartbeats 400000 in
theorem one_any (n m : Nat) (w : World) (h1 : n < 4294967296) :
    Calls Try.prog 40 #[.int .u64 n, .int .u64 m] w fun e w' => e = .returned (.tuple #[.int .u64 (Dm.rt n), .bool (Dm.oneB n m)]) ∧ w = w' := by
  have hr : Dm.rt n < 65536 := Dm.rt_lt (by omega)
  have hr2 : (Dm.rt n : Int) * (Dm.rt n : Int) ≤ 4294967296 := by
    have : Dm.rt n * Dm.rt n ≤ 65536 * 65536 := Nat.mul_le_mul (by omega) (by omega)
    have h2 : ((Dm.rt n * Dm.rt n : Nat) : Int) ≤ 4294967296 := by omega
    simpa [Int.natCast_mul] using h2
  have hr0 : 0 ≤ (Dm.rt n : Int) * (Dm.rt n : Int) := Int.mul_nonneg (by omega) (by omega)
  have HO : Hid (Dm.oneB n m = (decide ((Dm.rt n : Int) * (Dm.rt n : Int) = (n : Int)) && decide ((Dm.rt n : Int) ≤ (m : Int)))) := by
    unfold Dm.oneB
    rw [Bool.eq_iff_iff]
    simp
    intro _
    rw [← Int.natCast_mul]
    omega
  by_cases hc : (Dm.rt n : Int) * (Dm.rt n : Int) = (n : Int)
  · have hc1 : ((Dm.rt n : Int) * (Dm.rt n : Int) == (n : Int)) = true := by simpa using hc
    have HC := Lib.hid hc
    clear hc
    by_cases hm : (Dm.rt n : Int) ≤ (m : Int)
    all_goals
      go_enter Try.func40, Try.ntmps40
      go_wp2_with (go_at_call 31; refine (root_any _ _ h1).mono ?_; rintro e w' ⟨rfl, rfl⟩)
      go_ret2
      exact ⟨ret_two rfl (val_bool (by rw [HO.out]; simp [HC.out]; try omega)), rfl⟩
  · have hc1 : ((Dm.rt n : Int) * (Dm.rt n : Int) == (n : Int)) = false := by simpa using hc
    have HC := Lib.hid hc
    clear hc
    go_enter Try.func40, Try.ntmps40
    go_wp2_with (go_at_call 31; refine (root_any _ _ h1).mono ?_; rintro e w' ⟨rfl, rfl⟩)
    go_ret2
    exact ⟨ret_two rfl (val_bool (by rw [HO.out]; simp [HC.out])), rfl⟩

def SevRel (n : Nat) (x : Value) : Prop := ∃ k : Nat, x = .int .u64 (k : Int) ∧ Dm.seven k = Dm.seven n ∧ k ≤ n
set_option maxHeartbeats 400000 in
theorem seven_any (n : Nat) (w : World) (h1 : n < 4294967296) :
    Calls Try.prog 27 #[.int .u64 n] w fun e w' => e = .returned (.bool (Dm.seven n)) ∧ w = w' := by
  go_enter Try.func27, Try.ntmps27
  go_wp2
  go_loop [0] (SevRel n) (fun b => (intOf b).toNat)
  case atStart => exact ⟨n, rfl, rfl, Nat.le_refl _⟩
  case round =>
    obtain ⟨k, rfl, hs, hk⟩ := hrel
    have HS := Lib.hid hs
    clear hs
    by_cases h0 : 0 < k
    · by_cases h4 : (k : Int) % 4 = 0
      · have H4 := Lib.hid h4
        have h4' : ((k : Int) % 4 == 0) = true := by simpa using h4
        clear h4
        go_wp2
        go_round
        case rel => exact ⟨k / 4, by go_num, by rw [← HS.out]; exact (Dm.seven_div h0 (by have := H4.out; omega)).symm, by omega⟩
        case measure => simp [intOf]; omega
      · have H4 := Lib.hid h4
        have h4' : ((k : Int) % 4 == 0) = false := by simpa using h4
        clear h4
        go_wp2
        go_ret
        exact ⟨ret_bool (by rw [← HS.out, Dm.seven_end (by have := H4.out; omega)]; rw [Bool.eq_iff_iff]; simp; omega), rfl⟩
    · have hz : k = 0 := by omega
      subst hz
      go_wp2
      go_ret
      exact ⟨ret_bool (by rw [← HS.out]; rfl), rfl⟩

def RefRootRel (n : Nat) (x y : Value) : Prop := ∃ a b : Nat, x = .int .i64 (a : Int) ∧ y = .int .i64 (b : Int) ∧ a < b ∧ b ≤ 65536 ∧ a * a ≤ n ∧ n < b * b
set_option maxHeartbeats 400000 in
theorem ref_root_any (n : Nat) (w : World) (h1 : n < 4294967296) :
    Calls Try.prog 32 #[.int .i64 n] w fun e w' => e = .returned (.int .i64 (Dm.rt n)) ∧ w = w' := by
  go_enter Try.func32, Try.ntmps32
  go_wp2
  go_loop [3, 4] (RefRootRel n) (fun x y => (intOf y - intOf x).toNat)
  case atStart => exact ⟨0, 65536, rfl, rfl, by omega, by omega, by omega, by omega⟩
  case round =>
    obtain ⟨a, b, rfl, rfl, hab, hb, ha2, hb2⟩ := hrel
    by_cases hgo : 1 < (b : Int) - (a : Int)
    · obtain ⟨c, hc⟩ : ∃ c : Nat, c = (a + b) / 2 := ⟨_, rfl⟩
      have hcc : ((a : Int) + (b : Int)) / 2 = (c : Int) := by omega
      have hlo : a < c := by omega
      have hhi : c < b := by omega
      have hY : (c : Int) * (c : Int) ≤ 4294967296 := by
        have : c * c ≤ 65536 * 65536 := Nat.mul_le_mul (by omega) (by omega)
        have h2 : ((c * c : Nat) : Int) ≤ 4294967296 := by omega
        simpa [Int.natCast_mul] using h2
      have hY0 : 0 ≤ (c : Int) * (c : Int) := Int.mul_nonneg (by omega) (by omega)
      clear hc
      go_wp2
      · have hle : (c : Int) * (c : Int) ≤ (n : Int) := by assumption
        go_round
        case rel => exact ⟨c, b, val_int hcc, rfl, hhi, hb, by rw [← Int.natCast_mul] at hle; omega, hb2⟩
        case measure => simp [intOf]; omega
      · have hle : (n : Int) < (c : Int) * (c : Int) := by assumption
        go_round
        case rel => exact ⟨a, c, rfl, val_int hcc, hlo, by omega, ha2, by rw [← Int.natCast_mul] at hle; omega⟩
        case measure => simp [intOf]; omega
    · have he : b = a + 1 := by omega
      have HE := Lib.hid he
      clear he
      go_wp2
      go_ret
      exact ⟨ret_int (by rw [Dm.rt_eq ha2 (by rw [HE.out] at hb2; exact hb2)]), rfl⟩

set_option maxHeartbeats 400000 in
theorem ref_seven_any (n : Nat) (w : World) (h1 : n < 4294967296) :
    Calls Try.prog 29 #[.int .i64 n] w fun e w' => e = .returned (.bool (Dm.seven n)) ∧ w = w' := by
  go_enter Try.func29, Try.ntmps29
  go_wp2
  go_loop [0] (fun x => ∃ k : Nat, x = .int .i64 (k : Int) ∧ Dm.seven k = Dm.seven n ∧ k ≤ n) (fun b => (intOf b).toNat)
  case atStart => exact ⟨n, rfl, rfl, Nat.le_refl _⟩
  case round =>
    obtain ⟨k, rfl, hs, hk⟩ := hrel
    have HS := Lib.hid hs
    clear hs
    by_cases h0 : 0 < k
    · by_cases h4 : (k : Int) % 4 = 0
      · have H4 := Lib.hid h4
        have h4' : ((k : Int) % 4 == 0) = true := by simpa using h4
        clear h4
        go_wp2
        go_round
        case rel => exact ⟨k / 4, by go_num, by rw [← HS.out]; exact (Dm.seven_div h0 (by have := H4.out; omega)).symm, by omega⟩
        case measure => simp [intOf]; omega
      · have H4 := Lib.hid h4
        have h4' : ((k : Int) % 4 == 0) = false := by simpa using h4
        clear h4
        go_wp2
        go_ret
        exact ⟨ret_bool (by rw [← HS.out, Dm.seven_end (by have := H4.out; omega)]; rw [Bool.eq_iff_iff]; simp; omega), rfl⟩
    · have hz : k = 0 := by omega
      subst hz
      go_wp2
      go_ret
      exact ⟨ret_bool (by rw [← HS.out]; rfl), rfl⟩

theorem one_at (a b : Int) (n m r : Nat) (v : Bool) (w : World) (ha : a = n) (hb : b = m) (hr : Dm.rt n = r) (hv : Dm.oneB n m = v) (h1 : n < 4294967296) :
    Calls Try.prog 40 #[.int .u64 a, .int .u64 b] w fun e w' => e = .returned (.tuple #[.int .u64 r, .bool v]) ∧ w = w' := by
  subst ha hb hr hv
  exact one_any n m w h1
theorem ref_root_at (a : Int) (n r : Nat) (w : World) (ha : a = n) (hr : Dm.rt n = r) (h1 : n < 4294967296) :
    Calls Try.prog 32 #[.int .i64 a] w fun e w' => e = .returned (.int .i64 r) ∧ w = w' := by
  subst ha hr
  exact ref_root_any n w h1
theorem root_at (a : Int) (n r : Nat) (w : World) (ha : a = n) (hr : Dm.rt n = r) (h1 : n < 4294967296) :
    Calls Try.prog 31 #[.int .u64 a] w fun e w' => e = .returned (.int .u64 r) ∧ w = w' := by
  subst ha hr
  exact root_any n w h1
end Go.Proofs.Ytdbhmhabgbfplaa
