/-
  Walks over dominoref01: Mul, DivMod, Common, Gcd, twos, Sqrt.
-/
import Derived.Test.YtlagcdgfmgkooaaDoorRef8
import Derived.Test.YtlagcdgfmgkooaaDoorNat5
namespace Go.Proofs.YtlagcdgfmgkooaaDoor
open Go.RowKit
set_option linter.unusedVariables false

set_option maxHeartbeats 1000000 in
theorem ref_Mul_any (s t : ByteArray) (w : World) (h1 : s.size ≤ 1073741824) (h2 : t.size ≤ 1073741824) :
    Calls Tryd.prog 57 #[.string s, .string t] w fun e w' => e = .returned (mulV (tl s) (tl t)) ∧ Below w.heap.size w w' := by
  cases hs : validB (tl s) with
  | false =>
    have HS := Lib.hid hs
    clear hs
    go_enter Tryd.func57, Tryd.ntmps57
    go_wp2_with fail
    refine (ref_valid_at s false _ h1 HS.out).mono ?_
    rintro e w' ⟨rfl, rfl⟩
    go_wp2_with fail
    go_ret2
    exact ⟨by rw [mulV, HS.out]; rfl, Below.refl _ _⟩
  | true =>
    have hs1 := validB_size hs
    have HS := Lib.hid hs
    clear hs
    cases ht : validB (tl t) with
    | false =>
      have HT := Lib.hid ht
      clear ht
      go_enter Tryd.func57, Tryd.ntmps57
      go_wp2_with fail
      refine (ref_valid_at s true _ h1 HS.out).mono ?_
      rintro e w' ⟨rfl, rfl⟩
      go_wp2_with fail
      refine (ref_valid_at t false _ h2 HT.out).mono ?_
      rintro e w' ⟨rfl, rfl⟩
      go_wp2_with fail
      go_ret2
      exact ⟨by rw [mulV, HS.out, HT.out]; rfl, Below.refl _ _⟩
    | true =>
      have ht1 := validB_size ht
      have HT := Lib.hid ht
      clear ht
      obtain ⟨fr, fe, hf⟩ := fitV_form (Dm.str (Dm.val (tl s) * Dm.val (tl t)))
      have HF := Lib.hid hf
      have hl : (bs (Dm.str (Dm.val (tl s) * Dm.val (tl t)))).size ≤ 1073741824 := by
        rw [size_bs]
        have h3 : (Dm.str (Dm.val (tl s) * Dm.val (tl t))).length ≤ s.size + t.size := Dm.length_str_le.2 (by
          rw [Nat.pow_add]
          exact Nat.mul_lt_mul'' (by rw [← length_tl]; exact Dm.val_lt _) (by rw [← length_tl]; exact Dm.val_lt _))
        omega
      clear hf
      go_enter Tryd.func57, Tryd.ntmps57
      go_wp2_with fail
      refine (ref_valid_at s true _ h1 HS.out).mono ?_
      rintro e w' ⟨rfl, rfl⟩
      go_wp2_with fail
      refine (ref_valid_at t true _ h2 HT.out).mono ?_
      rintro e w' ⟨rfl, rfl⟩
      go_wp2_with fail
      refine (ref_Times_any s t _ (by omega) (by omega)).mono ?_
      rintro e w' ⟨rfl, hb⟩
      go_wp2_with fail
      refine (ref_fit_any _ _ hl).mono ?_
      rintro e w2 ⟨rfl, rfl⟩
      rw [tl_bs, HF.out]
      go_wp2_with fail
      go_ret2
      exact ⟨by rw [mulV, HS.out, HT.out, if_pos (show (true && true) = true from rfl), HF.out]; rfl, hb⟩
set_option maxHeartbeats 1000000 in
theorem ref_DivMod_any (s t : ByteArray) (w : World) (h1 : s.size ≤ 1073741824) (h2 : t.size ≤ 1073741824) :
    Calls Tryd.prog 61 #[.string s, .string t] w fun e w' => e = .returned (dmV (tl s) (tl t)) ∧ Below w.heap.size w w' := by
  cases hs : validB (tl s) with
  | false =>
    have HS := Lib.hid hs
    clear hs
    go_enter Tryd.func61, Tryd.ntmps61
    go_wp2_with fail
    refine (ref_valid_at s false _ h1 HS.out).mono ?_
    rintro e w' ⟨rfl, rfl⟩
    go_wp2_with fail
    go_ret3
    exact ⟨by rw [dmV, HS.out]; rfl, Below.refl _ _⟩
  | true =>
    have hs1 := validB_size hs
    have HS := Lib.hid hs
    clear hs
    cases ht : validB (tl t) with
    | false =>
      have HT := Lib.hid ht
      clear ht
      go_enter Tryd.func61, Tryd.ntmps61
      go_wp2_with fail
      refine (ref_valid_at s true _ h1 HS.out).mono ?_
      rintro e w' ⟨rfl, rfl⟩
      go_wp2_with fail
      refine (ref_valid_at t false _ h2 HT.out).mono ?_
      rintro e w' ⟨rfl, rfl⟩
      go_wp2_with fail
      go_ret3
      exact ⟨by rw [dmV, HS.out, HT.out]; rfl, Below.refl _ _⟩
    | true =>
      have ht1 := validB_size ht
      have HT := Lib.hid ht
      clear ht
      by_cases h0 : t.size = 0
      · obtain ⟨he1, he2⟩ := str_empty h0
        have HV := Lib.hid (val_empty h0)
        clear h0
        go_enter Tryd.func61, Tryd.ntmps61
        go_wp2_with fail
        refine (ref_valid_at s true _ h1 HS.out).mono ?_
        rintro e w' ⟨rfl, rfl⟩
        go_wp2_with fail
        refine (ref_valid_at t true _ h2 HT.out).mono ?_
        rintro e w' ⟨rfl, rfl⟩
        go_wp2_with fail
        go_ret3
        exact ⟨by rw [dmV, HS.out, HT.out, if_pos (show (true && true) = true from rfl), if_pos HV.out]; rfl, Below.refl _ _⟩
      · obtain ⟨he1, he2⟩ := str_full (s := t) (by omega)
        have HP := Lib.hid (val_pos (validB_canon HT.out) (show 0 < t.size by omega))
        clear h0
        go_enter Tryd.func61, Tryd.ntmps61
        go_wp2_with fail
        refine (ref_valid_at s true _ h1 HS.out).mono ?_
        rintro e w' ⟨rfl, rfl⟩
        go_wp2_with fail
        refine (ref_valid_at t true _ h2 HT.out).mono ?_
        rintro e w' ⟨rfl, rfl⟩
        go_wp2_with fail
        refine (ref_Over_any s t _ (validB_canon HS.out) (validB_canon HT.out) (by omega) (by omega) HP.out).mono ?_
        rintro e w1 ⟨rfl, hb1⟩
        simp only [divV]
        go_wp2_with fail
        go_ret3
        exact ⟨by rw [dmV, HS.out, HT.out, if_pos (show (true && true) = true from rfl), if_neg (by have := HP.out; omega)]; rfl, hb1⟩
def TwosRel (i : Nat) (w : World) (k : Value) (wr : World) : Prop := ∃ K : Nat, K ≤ i % 8 ∧ k = .int .i64 (K : Int) ∧ Blk wr w.heap.size 5 (bvs (UInt8.ofNat (2 ^ K) :: List.replicate (i / 8) 0)) ∧ Below w.heap.size w wr
theorem two_cell (K : Nat) (hK : K < 8) : ((UInt8.ofNat (2 ^ K)).toNat : Int) = ((2 ^ K : Nat) : Int) := by
  obtain ⟨c, rfl, h⟩ := shl_one K hK
  rw [h]
theorem arr_one (m : Nat) : (Array.replicate (m + 1) (Value.int IntKind.u8 0)).setIfInBounds 0 (Value.int IntKind.u8 1) = (bvs (UInt8.ofNat (2 ^ 0) :: List.replicate m 0)).toArray := arr_pow m 0
theorem ref_Times_str (x y : Nat) (w : World) (h1 : (Dm.str x).length ≤ 500) (h2 : (Dm.str y).length ≤ 500) : Calls Tryd.prog 83 #[Sv (Dm.str x), Sv (Dm.str y)] w fun e w' => e = .returned (Sv (Dm.str (x * y))) ∧ Below w.heap.size w w' := by
  refine (ref_Times_any (bs (Dm.str x)) (bs (Dm.str y)) w (by rw [size_bs]; exact h1) (by rw [size_bs]; exact h2)).mono fun e w' ⟨he, hw⟩ => ⟨?_, hw⟩
  rw [he, tl_bs, tl_bs, Dm.val_str, Dm.val_str]
theorem pow2_str (i : Nat) : Dm.str (2 ^ i) = UInt8.ofNat (2 ^ (i % 8)) :: List.replicate (i / 8) 0 := by
  rw [← val_pow2 i, Dm.str_val_canon]
  obtain ⟨c, hc, h⟩ := shl_one (i % 8) (by omega)
  rw [← hc]
  have : c ≠ 0 := fun e => by rw [e] at h; have := Nat.two_pow_pos (i % 8); simp at h; omega
  simp [Dm.canon, this]
theorem cmpN_pos {a b : Nat} : 0 < Dm.cmpN a b ↔ b < a := by
  unfold Dm.cmpN
  by_cases h : a < b
  · rw [if_pos h]; omega
  · rw [if_neg h]
    by_cases h2 : b < a
    · rw [if_pos h2]; omega
    · rw [if_neg h2]; omega
def RSqRel (A : Nat) (w : World) (x i : Value) (wr : World) : Prop := ∃ I : Nat, I ≤ (Dm.nb A + 1) / 2 + 1 ∧ i = .int .i64 ((I : Int) - 1) ∧ x = Sv (Dm.str (Dm.rt A / 2 ^ I * 2 ^ I)) ∧ Below w.heap.size w wr
theorem len_pow {x k m : Nat} (h : x < 2 ^ k) (hk : k ≤ 8 * m) : (Dm.str x).length ≤ m := by
  rw [Dm.length_str_le, show (256 : Nat) = 2 ^ 8 from rfl, ← Nat.pow_mul]
  exact Nat.lt_of_lt_of_le h (Nat.pow_le_pow_right (by omega) hk)
theorem rsq_bounds {A i : Nat} (hA : Dm.nb A ≤ 1024) (hi : i ≤ (Dm.nb A + 1) / 2) : (Dm.str (Dm.rt A / 2 ^ (i + 1) * 2 ^ (i + 1))).length ≤ 100 ∧ (Dm.str (2 ^ i)).length ≤ 100 ∧ (Dm.str (Dm.rt A / 2 ^ (i + 1) * 2 ^ (i + 1) + 2 ^ i)).length ≤ 100 ∧ (Dm.str ((Dm.rt A / 2 ^ (i + 1) * 2 ^ (i + 1) + 2 ^ i) * (Dm.rt A / 2 ^ (i + 1) * 2 ^ (i + 1) + 2 ^ i))).length ≤ 200 := by
  have h1 := Dm.newton_start A
  have h2 : Dm.rt A / 2 ^ (i + 1) * 2 ^ (i + 1) ≤ Dm.rt A := Nat.div_mul_le_self _ _
  obtain ⟨K, hK⟩ : ∃ K, K = 512 := ⟨_, rfl⟩
  have h3 : 2 ^ ((Dm.nb A + 1) / 2) ≤ 2 ^ K := Nat.pow_le_pow_right (by omega) (by omega)
  have h4 : 2 ^ i ≤ 2 ^ K := Nat.pow_le_pow_right (by omega) (by omega)
  generalize Dm.rt A / 2 ^ (i + 1) * 2 ^ (i + 1) = x at *
  have h5 : x < 2 ^ K := by omega
  have h6 : x + 2 ^ i < 2 ^ (K + 1) := by rw [Nat.pow_succ]; omega
  have h7 : (x + 2 ^ i) * (x + 2 ^ i) < 2 ^ (K + 1 + (K + 1)) := by rw [Nat.pow_add]; exact Nat.mul_lt_mul'' h6 h6
  exact ⟨len_pow h5 (by omega), len_pow (k := K + 1) (by rw [Nat.pow_succ]; have := Nat.two_pow_pos K; omega) (by omega), len_pow h6 (by omega), len_pow h7 (by omega)⟩
end Go.Proofs.YtlagcdgfmgkooaaDoor
