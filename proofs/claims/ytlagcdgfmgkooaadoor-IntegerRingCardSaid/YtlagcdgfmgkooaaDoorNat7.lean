/-
  Walks over natural: divided at short numbers, Bits, Bit; DivMod, Gcd at short numbers.
-/
import Derived.Test.YtlagcdgfmgkooaaDoorNat6
import Derived.Test.YtlagcdgfmgkooaaDoorArr
import Derived.Deep.RegionHeld3
namespace Go.Proofs.YtlagcdgfmgkooaaDoor
open Go.RowKit
set_option linter.unusedVariables false

theorem val_lt8 {s : ByteArray} (h : s.size ≤ 8) : Dm.val (tl s) < 18446744073709551616 := by
  have h1 := Dm.val_lt (tl s)
  rw [length_tl] at h1
  have h2 : (256 : Nat) ^ s.size ≤ 256 ^ 8 := Nat.pow_le_pow_right (by omega) h
  have : (256 : Nat) ^ 8 = 18446744073709551616 := rfl
  omega
theorem smallV_ok {s : ByteArray} (hv : validB (tl s) = true) (h : s.size ≤ 8) : smallV (tl s) = .tuple #[.int .u64 (Dm.val (tl s) : Nat), .bool true] := by
  rw [smallV, hv, length_tl, if_pos (by simpa using h)]

def divV (l m : List UInt8) : Value := .tuple #[Sv (Dm.str (Dm.val l / Dm.val m)), Sv (Dm.str (Dm.val l % Dm.val m))]
set_option maxRecDepth 100000 in
set_option maxHeartbeats 1000000 in
theorem divided_less (s t : ByteArray) (w : World) (hs : validB (tl s) = true) (ht : validB (tl t) = true) (hlt : Dm.val (tl s) < Dm.val (tl t)) :
    Calls Tryd.prog 62 #[.string s, .string t] w fun e w' => e = .returned (divV (tl s) (tl t)) ∧ Below w.heap.size w w' := by
  have h1 := validB_size hs
  have h2 := validB_size ht
  have HS := Lib.hid hs
  have HT := Lib.hid ht
  have HV := Lib.hid (Dm.cmpN_lt hlt)
  have HL := Lib.hid hlt
  clear hs ht hlt
  go_enter Tryd.func62, Tryd.ntmps62
  go_wp2_with fail
  refine (compare_any s t _ (validB_canon HS.out) (validB_canon HT.out) (by omega) (by omega)).mono ?_
  rintro e w' ⟨rfl, rfl⟩
  rw [HV.out]
  go_wp2_with fail
  go_ret2
  refine ⟨?_, Below.refl _ _⟩
  rw [divV, Nat.div_eq_of_lt HL.out, Nat.mod_eq_of_lt HL.out, Dm.str_val_canon (validB_canon HS.out), Sv, Sv, bs_tl]
  rfl
set_option maxRecDepth 100000 in
set_option maxHeartbeats 1000000 in
theorem divided_short (s t : ByteArray) (w : World) (hs : validB (tl s) = true) (ht : validB (tl t) = true) (h8 : s.size ≤ 8) (hge : Dm.val (tl t) ≤ Dm.val (tl s)) (h0 : 0 < Dm.val (tl t)) :
    Calls Tryd.prog 62 #[.string s, .string t] w fun e w' => e = .returned (divV (tl s) (tl t)) ∧ Below w.heap.size w w' := by
  have h1 := validB_size hs
  have h2 := validB_size ht
  have ht8 : t.size ≤ 8 := by
    have := length_le_of_val (validB_canon ht) hge
    rw [length_tl, length_tl] at this
    omega
  have HX := Lib.hid (smallV_ok hs h8)
  have HY := Lib.hid (smallV_ok ht ht8)
  have hxl := val_lt8 h8
  have hyl := val_lt8 ht8
  have hnn : ¬ Dm.cmpN (Dm.val (tl s)) (Dm.val (tl t)) < 0 := fun h => by have := Dm.cmpN_neg.1 h; omega
  have HS := Lib.hid hs
  have HT := Lib.hid ht
  clear hs ht
  have HD : Hid (divV (tl s) (tl t) = .tuple #[Sv (Dm.str (Dm.val (tl s) / Dm.val (tl t))), Sv (Dm.str (Dm.val (tl s) % Dm.val (tl t)))]) := rfl
  have hcmp := fun W : World => compare_any s t W (validB_canon HS.out) (validB_canon HT.out) (by omega) (by omega)
  generalize Dm.val (tl s) = x at *
  generalize Dm.val (tl t) = y at *
  generalize Dm.cmpN x y = cv at *
  have HC := Lib.hid hcmp
  clear hcmp
  have hq : x / y < 18446744073709551616 := Nat.lt_of_le_of_lt (Nat.div_le_self _ _) hxl
  have hr : x % y < 18446744073709551616 := Nat.lt_of_le_of_lt (Nat.mod_le _ _) hxl
  have hy0 : ((y : Int) == 0) = false := by rw [beq_eq_false_iff_ne]; omega
  go_enter Tryd.func62, Tryd.ntmps62
  go_wp2_with fail
  refine (HC.out _).mono ?_
  rintro e w' ⟨rfl, rfl⟩
  go_wp2_with fail
  refine (small_any s _ (by omega)).mono ?_
  rintro e w' ⟨rfl, rfl⟩
  rw [HX.out]
  go_wp2_with fail
  refine (small_any t _ (by omega)).mono ?_
  rintro e w' ⟨rfl, rfl⟩
  rw [HY.out]
  go_wp2_with fail
  have hk := (Kp.start w).drew
  have ed : IntKind.u64.wrap ((x : Int) / (y : Int)) = ((x / y : Nat) : Int) := by
    rw [show (x : Int) / (y : Int) = ((x / y : Nat) : Int) from by rw [Int.natCast_ediv], IntKind.wrap_u64]
    generalize x / y = q at *
    omega
  have em : (x : Int).tmod (y : Int) = ((x % y : Nat) : Int) := by rw [Int.tmod_eq_emod_of_nonneg (by omega), Int.natCast_emod]
  have em2 : ((x : Int) % (y : Int)) = ((x % y : Nat) : Int) := by rw [← Int.natCast_emod]
  have HED := Lib.hid ed
  have HEM := Lib.hid em
  have HEM2 := Lib.hid em2
  clear ed em em2
  go_region_with (first | (go_at_call 47; with_reducible refine (of_at (IntKind.u64.wrap ((x : Int) / (y : Int))) (x / y) _ HED.out hq).mono ?_; rintro e wa ⟨rfl, hba⟩; have hk1 := hk.next hba) | (go_at_call 47; with_reducible refine (of_at _ (x % y) _ HEM.out hr).mono ?_; rintro e wb ⟨rfl, hbb⟩; have hk2 := hk1.next hbb) | (go_at_call 47; with_reducible refine (of_at _ (x % y) _ HEM2.out hr).mono ?_; rintro e wb ⟨rfl, hbb⟩; have hk2 := hk1.next hbb))
  all_goals
    go_wp2_with fail
    go_ret2
    exact ⟨by rw [HD.out]; rfl, hk2.below⟩
end Go.Proofs.YtlagcdgfmgkooaaDoor
