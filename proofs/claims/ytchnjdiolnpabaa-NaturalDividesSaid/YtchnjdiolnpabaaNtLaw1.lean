/-
  The walk of the law NaturalWrites.
-/
import Derived.Test.YtchnjdiolnpabaaNtAwake
namespace Go.Proofs.Ytchnjdiolnpabaa
open Go.RowKit
set_option linter.unusedVariables false

theorem length_str8 {n : Nat} (h : n < 18446744073709551616) : (Dm.str n).length ≤ 8 := Dm.length_str_le.2 (show n < 256 ^ 8 from h)
theorem toList_bs (l : List UInt8) : (bs l).toList = l := by rw [toList_tl, tl_bs]
theorem smallV_str8 {n : Nat} (h : n < 18446744073709551616) : smallV (Dm.str n) = .tuple #[.int .u64 (n : Int), .bool true] := by
  have := smallV_ok (s := bs (Dm.str n)) (by rw [tl_bs]; exact validB_short' (Nat.le_trans (length_str8 h) (by omega))) (by rw [size_bs]; exact length_str8 h)
  rw [tl_bs, Dm.val_str] at this
  exact this
theorem cmpV_str8 {n m : Nat} (h : n < 18446744073709551616) (h2 : m < 18446744073709551616) : cmpV (Dm.str n) (Dm.str m) = Dm.cmpN n m := by
  rw [cmpV, validB_short' (Nat.le_trans (length_str8 h) (by omega)), validB_short' (Nat.le_trans (length_str8 h2) (by omega)), if_pos (show (true && true) = true from rfl), Dm.val_str, Dm.val_str]
set_option maxHeartbeats 1000000 in
theorem writes_nat (n m : Nat) (hn : n < 18446744073709551616) (hm : m < 18446744073709551616) (w : World) :
    Calls Try.prog 7 #[.int .u64 (n : Int), .int .u64 (m : Int)] w fun e w' => e = .returned (.bool true) ∧ Below w.heap.size w w' := by
  have hs1 : (bs (Dm.str n)).size ≤ 8 := by rw [size_bs]; exact length_str8 hn
  have hs2 : (bs (Dm.str m)).size ≤ 8 := by rw [size_bs]; exact length_str8 hm
  have HV := Lib.hid (validB_short' (Nat.le_trans (length_str8 hn) (by omega)))
  have HS := Lib.hid (smallV_str8 hn)
  have HC := Lib.hid (cmpV_str8 hn hm)
  have hrun : ∀ (c : Int) (W : World), Dm.cmpN n m = c → Calls Try.prog 31 #[Sv (Dm.str n), Sv (Dm.str m)] W fun e w' => e = .returned (.int .i64 c) ∧ W = w' := fun c W hc =>
    (Cmp_any _ _ W (by omega) (by omega)).mono fun e w' ⟨he, hw⟩ => ⟨by rw [he, tl_bs, tl_bs, HC.out, hc], hw⟩
  have HR := Lib.hid hrun
  clear hrun
  rcases Nat.lt_trichotomy n m with h | h | h
  · have HCN := Lib.hid (Dm.cmpN_lt h)
    have hne : ((bs (Dm.str n)).toList == (bs (Dm.str m)).toList) = false := by
      rw [beq_eq_false_iff_ne, toList_bs, toList_bs]; intro e; have := congrArg Dm.val e; rw [Dm.val_str, Dm.val_str] at this; omega
    have hni : ((n : Int) == (m : Int)) = false := by rw [beq_eq_false_iff_ne]; omega
    have HNE := Lib.hid hne
    have HNI := Lib.hid hni
    clear hne hni
    go_enter Try.func7, Try.ntmps7
    go_wp2_with fail
    refine (of_at (n : Int) n _ rfl (by omega)).mono ?_
    rintro e w1 ⟨rfl, hb1⟩
    have hk1 := (Kp.start w).next hb1
    go_wp2_with fail
    refine (of_at (m : Int) m _ rfl (by omega)).mono ?_
    rintro e w2 ⟨rfl, hb2⟩
    have hk2 := hk1.next hb2
    clear hb1 hb2 hk1
    go_wp2_with fail
    refine (small_any _ _ (by omega)).mono ?_
    rintro e w' ⟨rfl, rfl⟩
    rw [tl_bs, HS.out]
    go_wp2_with fail
    refine (awake_any _).mono ?_
    rintro e w3 ⟨rfl, hb3⟩
    have hk3 := hk2.next hb3
    clear hb3 hk2
    go_wp2_with fail
    refine (valid_at _ true _ (by omega) (by rw [tl_bs]; exact HV.out)).mono ?_
    rintro e w' ⟨rfl, rfl⟩
    go_wp2_with fail
    refine (HR.out (-1) _ HCN.out).mono ?_
    rintro e w' ⟨rfl, rfl⟩
    go_wp2_with fail
    go_ret
    exact ⟨ret_bool (by rw [HNE.out, HNI.out]; rfl), hk3.below⟩
  · subst h
    have HCN := Lib.hid (Dm.cmpN_eq (rfl : n = n))
    go_enter Try.func7, Try.ntmps7
    go_wp2_with fail
    refine (of_at (n : Int) n _ rfl (by omega)).mono ?_
    rintro e w1 ⟨rfl, hb1⟩
    have hk1 := (Kp.start w).next hb1
    go_wp2_with fail
    refine (of_at (n : Int) n _ rfl (by omega)).mono ?_
    rintro e w2 ⟨rfl, hb2⟩
    have hk2 := hk1.next hb2
    clear hb1 hb2 hk1
    go_wp2_with fail
    refine (small_any _ _ (by omega)).mono ?_
    rintro e w' ⟨rfl, rfl⟩
    rw [tl_bs, HS.out]
    go_wp2_with fail
    refine (awake_any _).mono ?_
    rintro e w3 ⟨rfl, hb3⟩
    have hk3 := hk2.next hb3
    clear hb3 hk2
    go_wp2_with fail
    refine (valid_at _ true _ (by omega) (by rw [tl_bs]; exact HV.out)).mono ?_
    rintro e w' ⟨rfl, rfl⟩
    go_wp2_with fail
    refine (HR.out (0) _ HCN.out).mono ?_
    rintro e w' ⟨rfl, rfl⟩
    go_wp2_with fail
    go_ret
    exact ⟨rfl, hk3.below⟩
  · have HCN := Lib.hid (Dm.cmpN_gt h)
    have hne : ((bs (Dm.str n)).toList == (bs (Dm.str m)).toList) = false := by
      rw [beq_eq_false_iff_ne, toList_bs, toList_bs]; intro e; have := congrArg Dm.val e; rw [Dm.val_str, Dm.val_str] at this; omega
    have hni : ((n : Int) == (m : Int)) = false := by rw [beq_eq_false_iff_ne]; omega
    have HNE := Lib.hid hne
    have HNI := Lib.hid hni
    clear hne hni
    go_enter Try.func7, Try.ntmps7
    go_wp2_with fail
    refine (of_at (n : Int) n _ rfl (by omega)).mono ?_
    rintro e w1 ⟨rfl, hb1⟩
    have hk1 := (Kp.start w).next hb1
    go_wp2_with fail
    refine (of_at (m : Int) m _ rfl (by omega)).mono ?_
    rintro e w2 ⟨rfl, hb2⟩
    have hk2 := hk1.next hb2
    clear hb1 hb2 hk1
    go_wp2_with fail
    refine (small_any _ _ (by omega)).mono ?_
    rintro e w' ⟨rfl, rfl⟩
    rw [tl_bs, HS.out]
    go_wp2_with fail
    refine (awake_any _).mono ?_
    rintro e w3 ⟨rfl, hb3⟩
    have hk3 := hk2.next hb3
    clear hb3 hk2
    go_wp2_with fail
    refine (valid_at _ true _ (by omega) (by rw [tl_bs]; exact HV.out)).mono ?_
    rintro e w' ⟨rfl, rfl⟩
    go_wp2_with fail
    refine (HR.out (1) _ HCN.out).mono ?_
    rintro e w' ⟨rfl, rfl⟩
    go_wp2_with fail
    go_ret
    exact ⟨ret_bool (by rw [HNE.out, HNI.out]; rfl), hk3.below⟩
theorem writes_walk (a b : Int) (ha : (Lit.int .u64 a).wf = true) (hb : (Lit.int .u64 b).wf = true) (w : World) :
    Calls Try.prog 7 #[.int .u64 a, .int .u64 b] w fun e w' => e = .returned (.bool true) ∧ Below w.heap.size w w' := by
  have hx : 0 ≤ a ∧ a ≤ 18446744073709551615 := by simpa [Lit.wf, IntKind.min, IntKind.max, IntKind.signed, IntKind.bits] using ha
  have hy : 0 ≤ b ∧ b ≤ 18446744073709551615 := by simpa [Lit.wf, IntKind.min, IntKind.max, IntKind.signed, IntKind.bits] using hb
  obtain ⟨n, rfl⟩ : ∃ n : Nat, a = n := ⟨a.toNat, by omega⟩
  obtain ⟨m, rfl⟩ : ∃ n : Nat, b = n := ⟨b.toNat, by omega⟩
  exact writes_nat n m (by omega) (by omega) w
end Go.Proofs.Ytchnjdiolnpabaa
