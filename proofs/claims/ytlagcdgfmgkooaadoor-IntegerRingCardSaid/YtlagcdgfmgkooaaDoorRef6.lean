/-
  Walks over natural.Bit and dominoref01's one, Bit.
-/
import Derived.Test.YtlagcdgfmgkooaaDoorRef5
import Derived.Test.YtlagcdgfmgkooaaDoorBit
import Derived.Test.YtlagcdgfmgkooaaDoorIb
namespace Go.Proofs.YtlagcdgfmgkooaaDoor
open Go.RowKit
set_option linter.unusedVariables false

def bitV (l : List UInt8) (i : Int) : Bool := validB l && decide (0 ≤ i) && Dm.bitN (Dm.val l) i.toNat
theorem bitV_bad {l : List UInt8} (i : Int) (h : validB l = false) : bitV l i = false := by simp [bitV, h]
theorem bitV_neg {l : List UInt8} {i : Int} (h : i < 0) : bitV l i = false := by
  have : ¬ (0 ≤ i) := by omega
  simp [bitV, this]
theorem bitV_nat {l : List UInt8} {n : Nat} (h : validB l = true) : bitV l (n : Int) = Dm.bitN (Dm.val l) n := by simp [bitV, h]
theorem nb_le_1024 {l : List UInt8} (h : validB l = true) : Dm.nb (Dm.val l) ≤ 1024 := by
  have h1 := Dm.val_lt l
  have h2 := validB_len h
  by_cases h0 : Dm.val l = 0
  · rw [h0]; decide
  · have h3 := Dm.nb_le (n := Dm.val l) (by omega)
    by_cases h4 : Dm.nb (Dm.val l) ≤ 1024
    · exact h4
    · exfalso
      have h5 : (2 : Nat) ^ (8 * l.length) ≤ 2 ^ (Dm.nb (Dm.val l) - 1) := Nat.pow_le_pow_right (by omega) (by omega)
      rw [Nat.pow_mul] at h5
      have : (2 : Nat) ^ 8 = 256 := rfl
      rw [this] at h5
      omega
def ROneRel (d : Nat) (c : Nat) (x k : Value) : Prop := ∃ K : Nat, K ≤ c ∧ k = .int .i64 (K : Int) ∧ x = .int .i64 ((d / 2 ^ K : Nat) : Int)
set_option maxHeartbeats 1000000 in
theorem ref_one_any (s : ByteArray) (n : Nat) (w : World) (h1 : s.size ≤ 1073741824) (hn : n ≤ 8589934592) :
    Calls Tryd.prog 94 #[.string s, .int .i64 (n : Int)] w fun e w' => e = .returned (.bool (Dm.bitN (Dm.val (tl s)) n)) ∧ w = w' := by
  have hn2 : (n : Int) ≤ 8589934592 := by omega
  clear hn
  go_enter Tryd.func94, Tryd.ntmps94
  go_wp2_with fail
  refine (ref_at_at s _ (n / 8) _ (by omega) h1 (by omega)).mono ?_
  rintro e w' ⟨rfl, rfl⟩
  have HD := Lib.hid (Dm.bit_dig' (tl s) n)
  have hdl := (Dm.dig (tl s) (n / 8)).toNat_lt
  generalize (Dm.dig (tl s) (n / 8)).toNat = d at *
  go_wp2_with fail
  have hc8 : n % 8 < 8 := Nat.mod_lt _ (by omega)
  go_loop [5, 6] (ROneRel d (n % 8)) (fun _ k => n % 8 - (intOf k).toNat)
  case atStart => exact ⟨0, by omega, rfl, by simp⟩
  case round =>
    obtain ⟨K, hK, rfl, rfl⟩ := hrel
    have hq : d / 2 ^ K ≤ d := Nat.div_le_self _ _
    have HQ : Hid (d / 2 ^ (K + 1) = d / 2 ^ K / 2) := by rw [Hid, Nat.pow_succ, Nat.div_div_eq_div_mul]
    by_cases hlt : K < n % 8
    · have hlt2 : (K : Int) < (n : Int) % 8 := by omega
      generalize d / 2 ^ K = q at *
      go_wp2_with fail
      refine ⟨⟨K + 1, by omega, by go_num, ?_⟩, ?_⟩
      · rw [HQ.out]; go_num
      · simp [intOf]; omega
    · obtain rfl : K = n % 8 := by omega
      have hlt2 : ¬ (((n % 8 : Nat) : Int) < (n : Int) % 8) := by omega
      generalize d / 2 ^ (n % 8) = q at *
      go_wp2_with fail
      go_ret
      refine ⟨ret_bool ?_, rfl⟩
      rw [Dm.bitN, ← HD.out, Bool.eq_iff_iff]; simp; omega
end Go.Proofs.YtlagcdgfmgkooaaDoor
