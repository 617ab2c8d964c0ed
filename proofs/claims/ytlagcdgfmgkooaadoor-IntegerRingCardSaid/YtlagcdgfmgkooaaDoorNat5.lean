/-
  Walks over natural: Mul.
-/
import Derived.Test.YtlagcdgfmgkooaaDoorNat4
namespace Go.Proofs.YtlagcdgfmgkooaaDoor
open Go.RowKit
set_option linter.unusedVariables false

theorem smallV_form (l : List UInt8) : ∃ (x : Nat) (ok : Bool), smallV l = .tuple #[.int .u64 x, .bool ok] ∧ x < 18446744073709551616 ∧ (validB l = true → l.length ≤ 8 → x = Dm.val l) := by
  unfold smallV
  split
  · rename_i h
    simp at h
    refine ⟨Dm.val l, true, rfl, ?_, fun _ _ => rfl⟩
    have h1 := Dm.val_lt l
    have h2 : (256 : Nat) ^ l.length ≤ 256 ^ 8 := Nat.pow_le_pow_right (by omega) h.2
    have : (256 : Nat) ^ 8 = 18446744073709551616 := rfl
    omega
  · rename_i h
    refine ⟨0, false, rfl, by omega, fun h1 h2 => ?_⟩
    simp [h1, h2] at h
theorem mul64_any (x y : Nat) (hx : x < 18446744073709551616) (hy : y < 18446744073709551616) (w : World) :
    Calls Tryd.prog 81 #[.int .u64 x, .int .u64 y] w fun e w' => e = .returned (.tuple #[.int .u64 ((x * y / 18446744073709551616 : Nat) : Int), .int .u64 ((x * y % 18446744073709551616 : Nat) : Int)]) ∧ w = w' :=
  (Tryd.bits_Mul64 x y hx hy w).mono fun _ _ ⟨a, b⟩ => ⟨a, b.symm⟩

def z256L : List Value := List.replicate 256 (.int .i64 0)
def z256 : Array Value := z256L.toArray
theorem zero256 (w : World) : (zeroValue 101).run Tryd.prog w = .ok (.agg z256) w := by kernel_rfl
def mulV (l m : List UInt8) : Value := if validB l && validB m then fitV (Dm.str (Dm.val l * Dm.val m)) else .tuple #[Sv [], .int .i64 3]

set_option maxRecDepth 20000 in
set_option maxHeartbeats 1000000 in
theorem Mul_ok (s t : ByteArray) (w : World) (hs : validB (tl s) = true) (ht : validB (tl t) = true) :
    Calls Tryd.prog 56 #[.string s, .string t] w fun e w' => e = .returned (fitV (Dm.str (Dm.val (tl s) * Dm.val (tl t)))) ∧ Below w.heap.size w w' := by
  have h1 := validB_size hs
  have h2 := validB_size ht
  obtain ⟨x, ok1, hx, hxl, hxv⟩ := smallV_form (tl s)
  obtain ⟨y, ok2, hy, hyl, hyv⟩ := smallV_form (tl t)
  have hxv := hxv hs
  have hyv := hyv ht
  rw [length_tl] at hxv hyv
  have hprod : (Dm.str (Dm.val (tl s) * Dm.val (tl t))).length ≤ 256 := by
    rw [Dm.length_str_le]
    have h3 := Dm.val_lt (tl s)
    have h4 := Dm.val_lt (tl t)
    rw [length_tl] at h3 h4
    have h5 : (256 : Nat) ^ s.size ≤ 256 ^ 128 := Nat.pow_le_pow_right (by omega) h1
    have h6 : (256 : Nat) ^ t.size ≤ 256 ^ 128 := Nat.pow_le_pow_right (by omega) h2
    have h7 : Dm.val (tl s) * Dm.val (tl t) < 256 ^ 128 * 256 ^ 128 := Nat.mul_lt_mul'' (Nat.lt_of_lt_of_le h3 h5) (Nat.lt_of_lt_of_le h4 h6)
    rw [← Nat.pow_add] at h7
    exact h7
  obtain ⟨r, er, hf⟩ := fitV_form (Dm.str (Dm.val (tl s) * Dm.val (tl t)))
  have HF := Lib.hid hf
  have HS := Lib.hid hs
  have HT := Lib.hid ht
  have HX := Lib.hid hx
  have HY := Lib.hid hy
  have HXV := Lib.hid hxv
  have HYV := Lib.hid hyv
  have HP := Lib.hid hprod
  clear hs ht hx hy hxv hyv hf hprod
  by_cases h8 : s.size ≤ 8 ∧ t.size ≤ 8 ∧ x * y / 18446744073709551616 = 0
  · obtain ⟨ha, hb, hhi⟩ := h8
    have hlo : x * y % 18446744073709551616 = Dm.val (tl s) * Dm.val (tl t) := by
      rw [← HXV.out ha, ← HYV.out hb]
      exact Nat.mod_eq_of_lt ((Nat.div_eq_zero_iff_lt (by omega)).1 hhi)
    have hq : (((x * y / 18446744073709551616 : Nat) : Int) == 0) = true := by rw [hhi]; rfl
    have hr : x * y % 18446744073709551616 < 18446744073709551616 := Nat.mod_lt _ (by omega)
    have HL := Lib.hid hlo
    clear hhi hlo
    have HM := Lib.hid (mul64_any x y hxl hyl)
    generalize x * y / 18446744073709551616 = hi at *
    generalize x * y % 18446744073709551616 = lo at *
    go_enter Tryd.func56, Tryd.ntmps56
    go_wp2_with fail
    refine (valid_at s true _ (by omega) HS.out).mono ?_
    rintro e w' ⟨rfl, rfl⟩
    go_wp2_with fail
    refine (valid_at t true _ (by omega) HT.out).mono ?_
    rintro e w' ⟨rfl, rfl⟩
    go_wp2_with fail
    refine (small_any s _ (by omega)).mono ?_
    rintro e w' ⟨rfl, rfl⟩
    rw [HX.out]
    go_wp2_with fail
    refine (small_any t _ (by omega)).mono ?_
    rintro e w' ⟨rfl, rfl⟩
    rw [HY.out]
    go_wp2_with fail
    refine (HM.out _).mono ?_
    rintro e w' ⟨rfl, rfl⟩
    go_wp2_with fail
    refine (of_any lo _ hr).mono ?_
    rintro e w' ⟨rfl, hb1⟩
    go_wp2_with fail
    go_ret2
    refine ⟨?_, hb1⟩
    rw [fitV, if_pos (by rw [← HL.out]; exact Nat.le_trans (Dm.length_str_le.2 (show lo < 256 ^ 8 from hr)) (by omega)), HL.out]
    rfl
  · have HM := Lib.hid (mul64_any x y hxl hyl)
    have hcase : (¬ s.size ≤ 8) ∨ (s.size ≤ 8 ∧ ¬ t.size ≤ 8) ∨ (s.size ≤ 8 ∧ t.size ≤ 8 ∧ (((x * y / 18446744073709551616 : Nat) : Int) == 0) = false) := by
      by_cases ha : s.size ≤ 8
      · by_cases hb : t.size ≤ 8
        · refine .inr (.inr ⟨ha, hb, ?_⟩)
          rw [beq_eq_false_iff_ne]
          intro e
          exact h8 ⟨ha, hb, by omega⟩
        · exact .inr (.inl ⟨ha, hb⟩)
      · exact .inl ha
    clear h8
    generalize x * y / 18446744073709551616 = hi at *
    generalize x * y % 18446744073709551616 = lo at *
    have hzv := zero256
    rcases hcase with ha | ⟨ha, hb⟩ | ⟨ha, hb, hq⟩
    all_goals
      go_enter Tryd.func56, Tryd.ntmps56
      go_wp2_with fail
      refine (valid_at s true _ (by omega) HS.out).mono ?_
      rintro e w' ⟨rfl, rfl⟩
      go_wp2_with fail
      refine (valid_at t true _ (by omega) HT.out).mono ?_
      rintro e w' ⟨rfl, rfl⟩
      go_wp2_with fail
      refine (small_any s _ (by omega)).mono ?_
      rintro e w' ⟨rfl, rfl⟩
      rw [HX.out]
      go_wp2_with fail
      refine (small_any t _ (by omega)).mono ?_
      rintro e w' ⟨rfl, rfl⟩
      rw [HY.out]
      go_wp2_with fail
      refine (HM.out _).mono ?_
      rintro e w' ⟨rfl, rfl⟩
      go_wp2_with fail
      refine (product_any s t w.heap.size z256L _ h1 h2 ?_ ?_).mono ?_
      · exact Blk.new w _ z256L
      · exact List.length_replicate
      clear hzv
      rintro e w1 ⟨rfl, hb1⟩
      have hbw : Below w.heap.size w w1 := ((Below.refl _ _).alloc (Nat.le_refl _) _).trans hb1
      clear hb1
      go_wp2_with fail
      refine (fitting_any _ _ (by rw [size_bs]; have := HP.out; omega)).mono ?_
      rintro e w' ⟨rfl, rfl⟩
      rw [tl_bs, HF.out]
      go_wp2_with fail
      go_ret2
      exact ⟨by rw [HF.out]; rfl, hbw⟩

set_option maxHeartbeats 1000000 in
theorem Mul_any (s t : ByteArray) (w : World) (h1 : s.size ≤ 1073741824) (h2 : t.size ≤ 1073741824) :
    Calls Tryd.prog 56 #[.string s, .string t] w fun e w' => e = .returned (mulV (tl s) (tl t)) ∧ Below w.heap.size w w' := by
  cases hs : validB (tl s) with
  | false =>
    have HS := Lib.hid hs
    clear hs
    go_enter Tryd.func56, Tryd.ntmps56
    go_wp2_with (first | (go_at_call 22; refine (valid_at s false _ h1 HS.out).mono ?_; rintro e w' ⟨rfl, rfl⟩))
    go_ret2
    exact ⟨by rw [mulV, HS.out]; rfl, Below.refl _ _⟩
  | true =>
    cases ht : validB (tl t) with
    | false =>
      have HS := Lib.hid hs
      have HT := Lib.hid ht
      clear hs ht
      go_enter Tryd.func56, Tryd.ntmps56
      go_wp2_with fail
      refine (valid_at s true _ h1 HS.out).mono ?_
      rintro e w' ⟨rfl, rfl⟩
      go_wp2_with fail
      refine (valid_at t false _ h2 HT.out).mono ?_
      rintro e w' ⟨rfl, rfl⟩
      go_wp2_with fail
      go_ret2
      exact ⟨by rw [mulV, HS.out, HT.out]; rfl, Below.refl _ _⟩
    | true =>
      refine (Mul_ok s t w hs ht).mono fun e w' ⟨he, hb⟩ => ⟨?_, hb⟩
      rw [he, mulV, hs, ht]; rfl
end Go.Proofs.YtlagcdgfmgkooaaDoor
