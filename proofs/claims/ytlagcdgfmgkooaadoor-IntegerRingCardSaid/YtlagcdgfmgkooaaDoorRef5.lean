/-
  Walks over dominoref01: Small, bits, Bits.
-/
import Derived.Test.YtlagcdgfmgkooaaDoorRef4
import Derived.Test.YtlagcdgfmgkooaaDoorNat9
namespace Go.Proofs.YtlagcdgfmgkooaaDoor
open Go.RowKit
set_option linter.unusedVariables false

set_option maxHeartbeats 400000 in
theorem ref_small_any (s : ByteArray) (w : World) (hl : s.size ≤ 1073741824) :
    Calls Tryd.prog 67 #[.string s] w fun e w' => e = .returned (smallV (tl s)) ∧ w = w' := by
  cases hs : validB (tl s) with
  | false =>
    have HS := Lib.hid hs
    clear hs
    go_enter Tryd.func67, Tryd.ntmps67
    go_wp2_with fail
    refine (ref_valid_at s false _ hl HS.out).mono ?_
    rintro e w' ⟨rfl, rfl⟩
    go_wp2_with fail
    go_ret2
    exact ⟨by rw [smallV, HS.out]; rfl, rfl⟩
  | true =>
    have HS := Lib.hid hs
    clear hs
    by_cases h8 : s.size ≤ 8
    · have HV : Hid (smallV (tl s) = .tuple #[.int .u64 (Dm.val (tl s) : Nat), .bool true]) := smallV_ok HS.out h8
      go_enter Tryd.func67, Tryd.ntmps67
      go_wp2_with fail
      refine (ref_valid_at s true _ hl HS.out).mono ?_
      rintro e w' ⟨rfl, rfl⟩
      go_wp2_with fail
      refine (ref_u64_any s _ h8).mono ?_
      rintro e w' ⟨rfl, rfl⟩
      go_wp2_with fail
      go_ret2
      exact ⟨by rw [HV.out]; rfl, rfl⟩
    · go_enter Tryd.func67, Tryd.ntmps67
      go_wp2_with fail
      refine (ref_valid_at s true _ hl HS.out).mono ?_
      rintro e w' ⟨rfl, rfl⟩
      go_wp2_with fail
      go_ret2
      exact ⟨by rw [smallV, HS.out, length_tl]; simp [h8], rfl⟩
def RBitsRel (c m : Nat) (n x : Value) : Prop := ∃ N X : Nat, n = .int .i64 (N : Int) ∧ x = .int .i64 (X : Int) ∧ X ≤ c ∧ N + Lib.bitLen X = m
set_option maxHeartbeats 1000000 in
theorem ref_bits_any (s : ByteArray) (w : World) (hl : s.size ≤ 1073741824) (hs : Dm.canon (tl s) = true) :
    Calls Tryd.prog 93 #[.string s] w fun e w' => e = .returned (.int .i64 (Dm.nb (Dm.val (tl s)) : Nat)) ∧ w = w' := by
  by_cases h0 : s.size = 0
  · obtain ⟨he1, he2⟩ := str_empty h0
    have HV := Lib.hid (val_empty h0)
    clear h0
    go_enter Tryd.func93, Tryd.ntmps93
    go_wp2_with fail
    go_ret
    exact ⟨ret_int (by rw [HV.out]; rfl), rfl⟩
  · have hpos : 0 < s.size := by omega
    obtain ⟨he1, he2⟩ := str_full hpos
    obtain ⟨hb, hb1, hb2⟩ := bits_of s hs hpos
    have HB := Lib.hid hb
    clear hb h0
    have hc := s[0].toNat_lt
    go_enter Tryd.func93, Tryd.ntmps93
    go_wp2_with fail
    generalize s[0].toNat = c at *
    go_loop [3, 4] (RBitsRel c (8 * (s.size - 1) + Lib.bitLen c)) (fun _ x => (intOf x).toNat)
    case atStart => exact ⟨8 * (s.size - 1), c, by go_num, rfl, Nat.le_refl _, rfl⟩
    case round =>
      obtain ⟨N, X, rfl, rfl, hX, hN⟩ := hrel
      by_cases h0 : X = 0
      · subst h0
        have hz : Lib.bitLen 0 = 0 := by decide
        go_wp2_with fail
        go_ret
        exact ⟨ret_int (by rw [HB.out]; omega), rfl⟩
      · have hh := Lib.bitLen_half X h0 (by omega)
        have HH := Lib.hid hh
        clear hh
        go_wp2_with fail
        refine ⟨⟨N + 1, X / 2, by go_num, by go_num, by omega, by have := HH.out; omega⟩, ?_⟩
        simp [intOf]; omega
end Go.Proofs.YtlagcdgfmgkooaaDoor
