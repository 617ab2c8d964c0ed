/-
  Walks over dominoref01: Mul, DivMod, Common, Gcd, twos, Sqrt.
-/
import Derived.Test.YtchnjdiolnpabaaDoorRef8
import Derived.Test.YtchnjdiolnpabaaDoorNat5
namespace Go.Proofs.YtchnjdiolnpabaaDoor
open Go.RowKit
set_option linter.unusedVariables false

def TwosRel (i : Nat) (w : World) (k : Value) (wr : World) : Prop := ∃ K : Nat, K ≤ i % 8 ∧ k = .int .i64 (K : Int) ∧ Blk wr w.heap.size 5 (bvs (UInt8.ofNat (2 ^ K) :: List.replicate (i / 8) 0)) ∧ Below w.heap.size w wr
theorem two_cell (K : Nat) (hK : K < 8) : ((UInt8.ofNat (2 ^ K)).toNat : Int) = ((2 ^ K : Nat) : Int) := by
  obtain ⟨c, rfl, h⟩ := shl_one K hK
  rw [h]
theorem arr_one (m : Nat) : (Array.replicate (m + 1) (Value.int IntKind.u8 0)).setIfInBounds 0 (Value.int IntKind.u8 1) = (bvs (UInt8.ofNat (2 ^ 0) :: List.replicate m 0)).toArray := arr_pow m 0
theorem ref_Times_str (x y : Nat) (w : World) (h1 : (Dm.str x).length ≤ 500) (h2 : (Dm.str y).length ≤ 500) : Calls Tryd.prog 27 #[Sv (Dm.str x), Sv (Dm.str y)] w fun e w' => e = .returned (Sv (Dm.str (x * y))) ∧ Below w.heap.size w w' := by
  refine (ref_Times_any (bs (Dm.str x)) (bs (Dm.str y)) w (by rw [size_bs]; exact h1) (by rw [size_bs]; exact h2)).mono fun e w' ⟨he, hw⟩ => ⟨?_, hw⟩
  rw [he, tl_bs, tl_bs, Dm.val_str, Dm.val_str]
theorem pow2_str (i : Nat) : Dm.str (2 ^ i) = UInt8.ofNat (2 ^ (i % 8)) :: List.replicate (i / 8) 0 := by
  rw [← val_pow2 i, Dm.str_val_canon]
  obtain ⟨c, hc, h⟩ := shl_one (i % 8) (by omega)
  rw [← hc]
  have : c ≠ 0 := fun e => by rw [e] at h; have := Nat.two_pow_pos (i % 8); simp at h; omega
  simp [Dm.canon, this]
theorem cmpN_pos {a b : Nat} : 0 < Dm.cmpN a b ↔ b < a := by
  unfold Dm.cmpN
  by_cases h : a < b
  · rw [if_pos h]; omega
  · rw [if_neg h]
    by_cases h2 : b < a
    · rw [if_pos h2]; omega
    · rw [if_neg h2]; omega
def RSqRel (A : Nat) (w : World) (x i : Value) (wr : World) : Prop := ∃ I : Nat, I ≤ (Dm.nb A + 1) / 2 + 1 ∧ i = .int .i64 ((I : Int) - 1) ∧ x = Sv (Dm.str (Dm.rt A / 2 ^ I * 2 ^ I)) ∧ Below w.heap.size w wr
theorem len_pow {x k m : Nat} (h : x < 2 ^ k) (hk : k ≤ 8 * m) : (Dm.str x).length ≤ m := by
  rw [Dm.length_str_le, show (256 : Nat) = 2 ^ 8 from rfl, ← Nat.pow_mul]
  exact Nat.lt_of_lt_of_le h (Nat.pow_le_pow_right (by omega) hk)
theorem rsq_bounds {A i : Nat} (hA : Dm.nb A ≤ 1024) (hi : i ≤ (Dm.nb A + 1) / 2) : (Dm.str (Dm.rt A / 2 ^ (i + 1) * 2 ^ (i + 1))).length ≤ 100 ∧ (Dm.str (2 ^ i)).length ≤ 100 ∧ (Dm.str (Dm.rt A / 2 ^ (i + 1) * 2 ^ (i + 1) + 2 ^ i)).length ≤ 100 ∧ (Dm.str ((Dm.rt A / 2 ^ (i + 1) * 2 ^ (i + 1) + 2 ^ i) * (Dm.rt A / 2 ^ (i + 1) * 2 ^ (i + 1) + 2 ^ i))).length ≤ 200 := by
  have h1 := Dm.newton_start A
  have h2 : Dm.rt A / 2 ^ (i + 1) * 2 ^ (i + 1) ≤ Dm.rt A := Nat.div_mul_le_self _ _
  obtain ⟨K, hK⟩ : ∃ K, K = 512 := ⟨_, rfl⟩
  have h3 : 2 ^ ((Dm.nb A + 1) / 2) ≤ 2 ^ K := Nat.pow_le_pow_right (by omega) (by omega)
  have h4 : 2 ^ i ≤ 2 ^ K := Nat.pow_le_pow_right (by omega) (by omega)
  generalize Dm.rt A / 2 ^ (i + 1) * 2 ^ (i + 1) = x at *
  have h5 : x < 2 ^ K := by omega
  have h6 : x + 2 ^ i < 2 ^ (K + 1) := by rw [Nat.pow_succ]; omega
  have h7 : (x + 2 ^ i) * (x + 2 ^ i) < 2 ^ (K + 1 + (K + 1)) := by rw [Nat.pow_add]; exact Nat.mul_lt_mul'' h6 h6
  exact ⟨len_pow h5 (by omega), len_pow (k := K + 1) (by rw [Nat.pow_succ]; have := Nat.two_pow_pos K; omega) (by omega), len_pow h6 (by omega), len_pow h7 (by omega)⟩
end Go.Proofs.YtchnjdiolnpabaaDoor
