/-
  Walks over dominoref01: Cmp, Add, Sub.
-/
import Derived.Test.YtlagcdgfmgkooaaDoorRef3
namespace Go.Proofs.YtlagcdgfmgkooaaDoor
open Go.RowKit
set_option linter.unusedVariables false

set_option maxHeartbeats 1000000 in
theorem ref_Cmp_any (s t : ByteArray) (w : World) (h1 : s.size ≤ 1073741824) (h2 : t.size ≤ 1073741824) :
    Calls Tryd.prog 54 #[.string s, .string t] w fun e w' => e = .returned (.int .i64 (cmpV (tl s) (tl t))) ∧ Below w.heap.size w w' := by
  cases hs : validB (tl s) with
  | false =>
    have HS := Lib.hid hs
    clear hs
    go_enter Tryd.func54, Tryd.ntmps54
    go_wp2_with fail
    refine (ref_valid_at s false _ h1 HS.out).mono ?_
    rintro e w' ⟨rfl, rfl⟩
    go_wp2_with fail
    go_ret
    exact ⟨by rw [cmpV, HS.out]; rfl, Below.refl _ _⟩
  | true =>
    have HS := Lib.hid hs
    clear hs
    cases ht : validB (tl t) with
    | false =>
      have HT := Lib.hid ht
      clear ht
      go_enter Tryd.func54, Tryd.ntmps54
      go_wp2_with fail
      refine (ref_valid_at s true _ h1 HS.out).mono ?_
      rintro e w' ⟨rfl, rfl⟩
      go_wp2_with fail
      refine (ref_valid_at t false _ h2 HT.out).mono ?_
      rintro e w' ⟨rfl, rfl⟩
      go_wp2_with fail
      go_ret
      exact ⟨by rw [cmpV, HS.out, HT.out]; rfl, Below.refl _ _⟩
    | true =>
      have HT := Lib.hid ht
      clear ht
      go_enter Tryd.func54, Tryd.ntmps54
      go_wp2_with fail
      refine (ref_valid_at s true _ h1 HS.out).mono ?_
      rintro e w' ⟨rfl, rfl⟩
      go_wp2_with fail
      refine (ref_valid_at t true _ h2 HT.out).mono ?_
      rintro e w' ⟨rfl, rfl⟩
      go_wp2_with fail
      refine (ref_Order_any s t _ (validB_canon HS.out) (validB_canon HT.out) h1 h2).mono ?_
      rintro e w' ⟨rfl, hb⟩
      go_wp2_with fail
      go_ret
      exact ⟨by rw [cmpV, HS.out, HT.out]; rfl, hb⟩

set_option maxHeartbeats 1000000 in
theorem ref_Add_any (s t : ByteArray) (w : World) (h1 : s.size ≤ 1073741824) (h2 : t.size ≤ 1073741824) :
    Calls Tryd.prog 52 #[.string s, .string t] w fun e w' => e = .returned (addV (tl s) (tl t)) ∧ Below w.heap.size w w' := by
  cases hs : validB (tl s) with
  | false =>
    have HS := Lib.hid hs
    clear hs
    go_enter Tryd.func52, Tryd.ntmps52
    go_wp2_with fail
    refine (ref_valid_at s false _ h1 HS.out).mono ?_
    rintro e w' ⟨rfl, rfl⟩
    go_wp2_with fail
    go_ret2
    exact ⟨by rw [addV, HS.out]; rfl, Below.refl _ _⟩
  | true =>
    have hs1 := validB_size hs
    have HS := Lib.hid hs
    clear hs
    cases ht : validB (tl t) with
    | false =>
      have HT := Lib.hid ht
      clear ht
      go_enter Tryd.func52, Tryd.ntmps52
      go_wp2_with fail
      refine (ref_valid_at s true _ h1 HS.out).mono ?_
      rintro e w' ⟨rfl, rfl⟩
      go_wp2_with fail
      refine (ref_valid_at t false _ h2 HT.out).mono ?_
      rintro e w' ⟨rfl, rfl⟩
      go_wp2_with fail
      go_ret2
      exact ⟨by rw [addV, HS.out, HT.out]; rfl, Below.refl _ _⟩
    | true =>
      have ht1 := validB_size ht
      have HT := Lib.hid ht
      clear ht
      have hsz : (bs (Dm.str (Dm.val (tl s) + Dm.val (tl t)))).size ≤ 129 := by
        rw [size_bs, Dm.length_str_le]
        have a1 := Nat.lt_of_lt_of_le (Dm.val_lt (tl s)) (Nat.pow_le_pow_right (by omega) (show (tl s).length ≤ 128 by rw [length_tl]; exact hs1))
        have a2 := Nat.lt_of_lt_of_le (Dm.val_lt (tl t)) (Nat.pow_le_pow_right (by omega) (show (tl t).length ≤ 128 by rw [length_tl]; exact ht1))
        rw [Nat.pow_succ]; omega
      obtain ⟨r, er, hf⟩ := fitV_form (Dm.str (Dm.val (tl s) + Dm.val (tl t)))
      have HF := Lib.hid hf
      clear hf
      go_enter Tryd.func52, Tryd.ntmps52
      go_wp2_with fail
      refine (ref_valid_at s true _ h1 HS.out).mono ?_
      rintro e w' ⟨rfl, rfl⟩
      go_wp2_with fail
      refine (ref_valid_at t true _ h2 HT.out).mono ?_
      rintro e w' ⟨rfl, rfl⟩
      go_wp2_with fail
      refine (ref_Plus_any s t _ (by omega) (by omega)).mono ?_
      rintro e w' ⟨rfl, hb⟩
      go_wp2_with fail
      refine (ref_fit_any _ _ (by omega)).mono ?_
      rintro e w2 ⟨rfl, rfl⟩
      rw [tl_bs, HF.out]
      go_wp2_with fail
      go_ret2
      exact ⟨by rw [addV, HS.out, HT.out, if_pos (show (true && true) = true from rfl), HF.out]; rfl, hb⟩
set_option maxHeartbeats 1000000 in
theorem ref_Sub_any (s t : ByteArray) (w : World) (h1 : s.size ≤ 1073741824) (h2 : t.size ≤ 1073741824) :
    Calls Tryd.prog 55 #[.string s, .string t] w fun e w' => e = .returned (subV (tl s) (tl t)) ∧ Below w.heap.size w w' := by
  cases hs : validB (tl s) with
  | false =>
    have HS := Lib.hid hs
    clear hs
    go_enter Tryd.func55, Tryd.ntmps55
    go_wp2_with fail
    refine (ref_valid_at s false _ h1 HS.out).mono ?_
    rintro e w' ⟨rfl, rfl⟩
    go_wp2_with fail
    go_ret2
    exact ⟨by rw [subV, HS.out]; rfl, Below.refl _ _⟩
  | true =>
    have hs1 := validB_size hs
    have HS := Lib.hid hs
    clear hs
    cases ht : validB (tl t) with
    | false =>
      have HT := Lib.hid ht
      clear ht
      go_enter Tryd.func55, Tryd.ntmps55
      go_wp2_with fail
      refine (ref_valid_at s true _ h1 HS.out).mono ?_
      rintro e w' ⟨rfl, rfl⟩
      go_wp2_with fail
      refine (ref_valid_at t false _ h2 HT.out).mono ?_
      rintro e w' ⟨rfl, rfl⟩
      go_wp2_with fail
      go_ret2
      exact ⟨by rw [subV, HS.out, HT.out]; rfl, Below.refl _ _⟩
    | true =>
      have ht1 := validB_size ht
      have HT := Lib.hid ht
      clear ht
      have HO := Lib.hid (show ∀ W, _ from fun W => ref_Order_any s t W (validB_canon HS.out) (validB_canon HT.out) h1 h2)
      by_cases hlt : Dm.val (tl s) < Dm.val (tl t)
      · have HL := Lib.hid hlt
        have HC := Lib.hid (Dm.cmpN_lt hlt)
        clear hlt
        go_enter Tryd.func55, Tryd.ntmps55
        go_wp2_with fail
        refine (ref_valid_at s true _ h1 HS.out).mono ?_
        rintro e w' ⟨rfl, rfl⟩
        go_wp2_with fail
        refine (ref_valid_at t true _ h2 HT.out).mono ?_
        rintro e w' ⟨rfl, rfl⟩
        go_wp2_with fail
        refine (HO.out _).mono ?_
        rintro e w' ⟨rfl, hb⟩
        rw [HC.out]
        go_wp2_with fail
        go_ret2
        exact ⟨by rw [subV, HS.out, HT.out, if_pos (show (true && true) = true from rfl), if_pos HL.out]; rfl, hb⟩
      · have hlen := length_le_of_val (l := tl s) (validB_canon HT.out) (by omega)
        rw [length_tl, length_tl] at hlen
        have HL := Lib.hid hlt
        have hc : ¬ Dm.cmpN (Dm.val (tl s)) (Dm.val (tl t)) < 0 := fun h => hlt (Dm.cmpN_neg.1 h)
        have HV := Lib.hid (show Dm.val (tl t) ≤ Dm.val (tl s) by omega)
        clear hlt
        go_enter Tryd.func55, Tryd.ntmps55
        go_wp2_with fail
        refine (ref_valid_at s true _ h1 HS.out).mono ?_
        rintro e w' ⟨rfl, rfl⟩
        go_wp2_with fail
        refine (ref_valid_at t true _ h2 HT.out).mono ?_
        rintro e w' ⟨rfl, rfl⟩
        go_wp2_with fail
        refine (HO.out _).mono ?_
        rintro e w' ⟨rfl, hb⟩
        go_wp2_with fail
        refine (ref_Minus_any s t _ (by omega) hlen HV.out).mono ?_
        rintro e w2 ⟨rfl, hb2⟩
        go_wp2_with fail
        go_ret2
        exact ⟨by rw [subV, HS.out, HT.out, if_pos (show (true && true) = true from rfl), if_neg HL.out]; rfl, hb.trans (hb2.mono hb.size)⟩
end Go.Proofs.YtlagcdgfmgkooaaDoor
