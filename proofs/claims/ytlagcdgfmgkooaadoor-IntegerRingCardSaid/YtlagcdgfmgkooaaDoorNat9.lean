/-
  Walks over natural: Bits, Sqrt.
-/
import Derived.Test.YtlagcdgfmgkooaaDoorNat8
import Derived.Test.YtlagcdgfmgkooaaDoorRoot
namespace Go.Proofs.YtlagcdgfmgkooaaDoor
open Go.RowKit
set_option linter.unusedVariables false

theorem bitLen_spec : ∀ c, c < 256 → 0 < c → 2 ^ (Lib.bitLen c - 1) ≤ c ∧ c < 2 ^ (Lib.bitLen c) ∧ 1 ≤ Lib.bitLen c ∧ Lib.bitLen c ≤ 8 := by decide +kernel
def bitsN (l : List UInt8) : Nat := if validB l then Dm.nb (Dm.val l) else 0
theorem bits_of (s : ByteArray) (hs : Dm.canon (tl s) = true) (h : 0 < s.size) : Dm.nb (Dm.val (tl s)) = 8 * (s.size - 1) + Lib.bitLen s[0].toNat ∧ 1 ≤ Lib.bitLen s[0].toNat ∧ Lib.bitLen s[0].toNat ≤ 8 := by
  have h1 := tl_cons s h
  have h2 : s[0] ≠ 0 := by rw [h1] at hs; simpa [Dm.canon] using hs
  have h3 : 0 < s[0].toNat := by
    have : s[0].toNat ≠ 0 := fun e => h2 (UInt8.toNat_inj.1 (by simpa using e))
    omega
  obtain ⟨a, b, c, d⟩ := bitLen_spec s[0].toNat s[0].toNat_lt h3
  refine ⟨?_, c, d⟩
  obtain ⟨k, hk⟩ : ∃ k, Lib.bitLen s[0].toNat = k + 1 := ⟨_, (Nat.sub_add_cancel c).symm⟩
  rw [hk] at a b ⊢
  have h5 : (tl s).tail.length = s.size - 1 := by rw [List.length_tail, length_tl]
  rw [h1, Dm.nb_bytes (k := k) (by simpa using a) b, h5]
/-- the bytes of a power of 2 -/
theorem val_pow2 (k : Nat) : Dm.val (UInt8.ofNat (2 ^ (k % 8)) :: List.replicate (k / 8) 0) = 2 ^ k := by
  have hz : ∀ m, Dm.val (List.replicate m 0) = 0 := fun m => by
    induction m with
    | zero => rfl
    | succ m ih => rw [List.replicate_succ, Dm.val_cons, ih]; simp
  rw [Dm.val_cons, hz, List.length_replicate, UInt8.toNat_ofNat']
  have h1 : 2 ^ (k % 8) ≤ 2 ^ 7 := Nat.pow_le_pow_right (by omega) (by omega)
  rw [Nat.mod_eq_of_lt (by have : (2 : Nat) ^ 7 = 128 := rfl; have : (2 : Nat) ^ 8 = 256 := rfl; omega)]
  rw [show (256 : Nat) = 2 ^ 8 from rfl, ← Nat.pow_mul, ← Nat.pow_add, Nat.add_zero, show k % 8 + 8 * (k / 8) = k from by omega]
theorem shl_one (k : Nat) (h : k < 8) : ∃ c : UInt8, c = UInt8.ofNat (2 ^ k) ∧ c.toNat = 2 ^ k := by
  refine ⟨_, rfl, ?_⟩
  rw [UInt8.toNat_ofNat']
  have h1 : 2 ^ k ≤ 2 ^ 7 := Nat.pow_le_pow_right (by omega) (by omega)
  exact Nat.mod_eq_of_lt (by have : (2 : Nat) ^ 7 = 128 := rfl; have : (2 : Nat) ^ 8 = 256 := rfl; omega)

theorem arr_pow (m k : Nat) : (Array.replicate (m + 1) (Value.int IntKind.u8 0)).setIfInBounds 0 (Value.int IntKind.u8 (2 ^ (k % 8) % 256)) = (bvs (UInt8.ofNat (2 ^ (k % 8)) :: List.replicate m 0)).toArray := by
  obtain ⟨c, hc, hc2⟩ := shl_one (k % 8) (by omega)
  rw [← hc]
  have e : ((2 : Int) ^ (k % 8) % 256) = (c.toNat : Int) := by
    rw [hc2]
    have h1 : 2 ^ (k % 8) ≤ 2 ^ 7 := Nat.pow_le_pow_right (by omega) (by omega)
    have h2 : (2 : Nat) ^ 7 = 128 := rfl
    have h3 : ((2 : Int) ^ (k % 8)) = ((2 ^ (k % 8) : Nat) : Int) := by rw [Int.natCast_pow]; rfl
    rw [h3]; omega
  rw [e]
  apply Array.ext'
  simp [bvs, List.replicate_succ]
theorem validB_short {n : Nat} (h : (Dm.str n).length ≤ 128) : validB (Dm.str n) = true := by
  unfold validB
  rw [Dm.canon_str]
  simp [h]
theorem sqrt_sizes {X q k m : Nat} (hk : k ≤ 4 * m) (hX : X ≤ 2 ^ k) (hq : q ≤ 2 ^ k + 2) : (Dm.str X).length ≤ m / 2 + 1 ∧ (Dm.str q).length ≤ m / 2 + 1 ∧ (Dm.str (X + q)).length ≤ m / 2 + 1 := by
  have hp : 0 < 2 ^ k := Nat.pow_pos (by omega)
  have h1 : X + q < 256 ^ (m / 2 + 1) := by
    have e : (256 : Nat) ^ (m / 2 + 1) = 2 ^ (8 * (m / 2 + 1)) := by rw [Nat.pow_mul]
    rw [e]
    have h2 : 2 ^ (k + 3) ≤ 2 ^ (8 * (m / 2 + 1)) := Nat.pow_le_pow_right (by omega) (by omega)
    have h3 : 2 ^ (k + 3) = 8 * 2 ^ k := by rw [Nat.pow_add]; omega
    omega
  exact ⟨Dm.length_str_le.2 (by omega), Dm.length_str_le.2 (by omega), Dm.length_str_le.2 h1⟩

def sqrtV (l : List UInt8) : Value := if validB l then .tuple #[Sv (Dm.str (Dm.rt (Dm.val l))), .int .i64 0] else .tuple #[Sv [], .int .i64 3]
def SqrtRel (a : Nat) (w : World) (x : Value) (wr : World) : Prop := ∃ X : Nat, x = Sv (Dm.str X) ∧ 0 < X ∧ Dm.rt a ≤ X ∧ X ≤ 2 ^ ((Dm.nb a + 1) / 2) ∧ Below w.heap.size w wr
end Go.Proofs.YtlagcdgfmgkooaaDoor
