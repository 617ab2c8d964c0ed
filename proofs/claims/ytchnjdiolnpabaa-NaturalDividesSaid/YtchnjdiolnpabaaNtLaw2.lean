/-
  The walk of the law NaturalField. (printed by wip/mkf.py)
-/
import Derived.Test.YtchnjdiolnpabaaNtLaw1
namespace Go.Proofs.Ytchnjdiolnpabaa
open Go.RowKit
set_option linter.unusedVariables false

theorem fit_of {n k : Nat} (hn : n < 256 ^ k) (hk : k ≤ 128) : fitV (Dm.str n) = .tuple #[Sv (Dm.str n), .int .i64 0] := by
  rw [fitV, if_pos (Nat.le_trans (Dm.length_str_le.2 hn) hk)]
theorem valid_of {n k : Nat} (hn : n < 256 ^ k) (hk : k ≤ 128) : validB (Dm.str n) = true := validB_short' (Nat.le_trans (Dm.length_str_le.2 hn) hk)
theorem addV_of {a b k : Nat} (h1 : validB (Dm.str a) = true) (h2 : validB (Dm.str b) = true) (hn : a + b < 256 ^ k) (hk : k ≤ 128) : addV (tl (bs (Dm.str a))) (tl (bs (Dm.str b))) = .tuple #[Sv (Dm.str (a + b)), .int .i64 0] := by
  rw [tl_bs, tl_bs, addV, h1, h2, if_pos (show (true && true) = true from rfl), Dm.val_str, Dm.val_str, fit_of hn hk]
theorem mulV_of {a b k : Nat} (h1 : validB (Dm.str a) = true) (h2 : validB (Dm.str b) = true) (hn : a * b < 256 ^ k) (hk : k ≤ 128) : mulV (tl (bs (Dm.str a))) (tl (bs (Dm.str b))) = .tuple #[Sv (Dm.str (a * b)), .int .i64 0] := by
  rw [tl_bs, tl_bs, mulV, h1, h2, if_pos (show (true && true) = true from rfl), Dm.val_str, Dm.val_str, fit_of hn hk]
theorem subV_of {a b : Nat} (h1 : validB (Dm.str a) = true) (h2 : validB (Dm.str b) = true) (hn : b ≤ a) : subV (tl (bs (Dm.str a))) (tl (bs (Dm.str b))) = .tuple #[Sv (Dm.str (a - b)), .int .i64 0] := by
  rw [tl_bs, tl_bs, subV, h1, h2, if_pos (show (true && true) = true from rfl), Dm.val_str, Dm.val_str, if_neg (by omega)]
theorem valid_sv (s : ByteArray) (h : validB (tl s) = true) : s = bs (Dm.str (Dm.val (tl s))) := by rw [Dm.str_val_canon (validB_canon h), bs_tl]

set_option maxHeartbeats 1000000 in
theorem field_nat (a b c : Nat) (ha : a < 256 ^ 40) (hb : b < 256 ^ 40) (hc : c < 256 ^ 40) (w : World) :
    Calls Try.prog 5 #[Sv (Dm.str a), Sv (Dm.str b), Sv (Dm.str c)] w fun e w' => e = .returned (.bool true) ∧ Below w.heap.size w w' := by
  have sa : (bs (Dm.str a)).size ≤ 40 := by rw [size_bs]; exact Dm.length_str_le.2 ha
  have sb : (bs (Dm.str b)).size ≤ 40 := by rw [size_bs]; exact Dm.length_str_le.2 hb
  have sc : (bs (Dm.str c)).size ≤ 40 := by rw [size_bs]; exact Dm.length_str_le.2 hc
  have hab : a + b < 256 ^ 41 := by rw [Nat.pow_succ]; omega
  have hba : b + a < 256 ^ 41 := by omega
  have hp : (a + b) * c < 256 ^ 81 := by rw [show 81 = 41 + 40 from rfl, Nat.pow_add]; exact Nat.mul_lt_mul'' hab hc
  have hq : c * a < 256 ^ 80 := by rw [show 80 = 40 + 40 from rfl, Nat.pow_add]; exact Nat.mul_lt_mul'' hc ha
  have hr : b * c < 256 ^ 80 := by rw [show 80 = 40 + 40 from rfl, Nat.pow_add]; exact Nat.mul_lt_mul'' hb hc
  have hs : c * a + b * c < 256 ^ 81 := by rw [Nat.mul_comm c a, ← Nat.add_mul]; exact hp
  have sab : (bs (Dm.str (a + b))).size ≤ 41 := by rw [size_bs]; exact Dm.length_str_le.2 hab
  have sq : (bs (Dm.str (c * a))).size ≤ 80 := by rw [size_bs]; exact Dm.length_str_le.2 hq
  have sr : (bs (Dm.str (b * c))).size ≤ 80 := by rw [size_bs]; exact Dm.length_str_le.2 hr
  have VA := Lib.hid (valid_of ha (by omega))
  have VB := Lib.hid (valid_of hb (by omega))
  have VC := Lib.hid (valid_of hc (by omega))
  have E1 := Lib.hid (addV_of VA.out VB.out hab (by omega))
  have E2 := Lib.hid (addV_of VB.out VA.out hba (by omega))
  have E3 := Lib.hid (mulV_of (valid_of hab (by omega)) VC.out hp (by omega))
  have E4 := Lib.hid (mulV_of VC.out VA.out hq (by omega))
  have E5 := Lib.hid (mulV_of VB.out VC.out hr (by omega))
  have E6 := Lib.hid (addV_of (valid_of hq (by omega)) (valid_of hr (by omega)) hs (by omega))
  have E7 := Lib.hid (subV_of (valid_of hab (by omega)) VB.out (Nat.le_add_left b a))
  have F1 : Hid (b + a = a + b) := Nat.add_comm _ _
  have F2 : Hid (c * a + b * c = (a + b) * c) := by show _ = _; rw [Nat.add_mul, Nat.mul_comm c a]
  have F3 : Hid (a + b - b = a) := Nat.add_sub_cancel _ _
  clear ha hb hc hab hba hp hq hr hs
  go_enter Try.func5, Try.ntmps5
  have k0 := Kp.start w
  go_wp2_with fail
  refine (valid_at _ true _ (by omega) (by rw [tl_bs]; exact VA.out)).mono ?_
  rintro e w' ⟨rfl, rfl⟩
  go_wp2_with fail
  refine (valid_at _ true _ (by omega) (by rw [tl_bs]; exact VB.out)).mono ?_
  rintro e w' ⟨rfl, rfl⟩
  go_wp2_with fail
  refine (valid_at _ true _ (by omega) (by rw [tl_bs]; exact VC.out)).mono ?_
  rintro e w' ⟨rfl, rfl⟩
  go_wp2_with fail
  refine (Add_any _ _ _ (by omega) (by omega)).mono ?_
  rintro e w1 ⟨rfl, hb⟩
  have k1 := k0.next hb
  clear hb k0
  rw [E1.out]
  go_wp2_with fail
  refine (Add_any _ _ _ (by omega) (by omega)).mono ?_
  rintro e w2 ⟨rfl, hb⟩
  have k2 := k1.next hb
  clear hb k1
  rw [E2.out, F1.out]
  go_wp2_with fail
  refine (Mul_any _ _ _ (by omega) (by omega)).mono ?_
  rintro e w3 ⟨rfl, hb⟩
  have k3 := k2.next hb
  clear hb k2
  rw [E3.out]
  go_wp2_with fail
  refine (Mul_any _ _ _ (by omega) (by omega)).mono ?_
  rintro e w4 ⟨rfl, hb⟩
  have k4 := k3.next hb
  clear hb k3
  rw [E4.out]
  go_wp2_with fail
  refine (Mul_any _ _ _ (by omega) (by omega)).mono ?_
  rintro e w5 ⟨rfl, hb⟩
  have k5 := k4.next hb
  clear hb k4
  rw [E5.out]
  go_wp2_with fail
  refine (Add_any _ _ _ (by omega) (by omega)).mono ?_
  rintro e w6 ⟨rfl, hb⟩
  have k6 := k5.next hb
  clear hb k5
  rw [E6.out, F2.out]
  go_wp2_with fail
  refine (Sub_any _ _ _ (by omega) (by omega)).mono ?_
  rintro e w7 ⟨rfl, hb⟩
  have k7 := k6.next hb
  clear hb k6
  rw [E7.out, F3.out]
  go_wp2_with fail
  refine (awake_any _).mono ?_
  rintro e w8 ⟨rfl, hb⟩
  have k8 := k7.next hb
  clear hb k7
  go_wp2_with fail
  go_ret
  exact ⟨rfl, k8.below⟩
set_option maxHeartbeats 1000000 in
theorem field_walk (s t u : ByteArray) (h1 : s.size ≤ maxLen) (h2 : t.size ≤ maxLen) (h3 : u.size ≤ maxLen) (w : World) :
    Calls Try.prog 5 #[.string s, .string t, .string u] w fun e w' => e = .returned (.bool true) ∧ Below w.heap.size w w' := by
  unfold maxLen at h1 h2 h3
  by_cases ls : s.size ≤ 40
  case neg =>
    go_enter Try.func5, Try.ntmps5
    go_wp2_with fail
    refine (awake_any _).mono ?_
    rintro e w8 ⟨rfl, hb⟩
    go_wp2_with fail
    go_ret
    exact ⟨rfl, hb⟩
  by_cases lt : t.size ≤ 40
  case neg =>
    go_enter Try.func5, Try.ntmps5
    go_wp2_with fail
    refine (awake_any _).mono ?_
    rintro e w8 ⟨rfl, hb⟩
    go_wp2_with fail
    go_ret
    exact ⟨rfl, hb⟩
  by_cases lu : u.size ≤ 40
  case neg =>
    go_enter Try.func5, Try.ntmps5
    go_wp2_with fail
    refine (awake_any _).mono ?_
    rintro e w8 ⟨rfl, hb⟩
    go_wp2_with fail
    go_ret
    exact ⟨rfl, hb⟩
  cases vs : validB (tl s)
  case false =>
    have Vs := Lib.hid vs
    clear vs
    go_enter Try.func5, Try.ntmps5
    go_wp2_with fail
    refine (valid_at s false _ (by omega) Vs.out).mono ?_
    rintro e w' ⟨rfl, rfl⟩
    go_wp2_with fail
    refine (awake_any _).mono ?_
    rintro e w8 ⟨rfl, hb⟩
    go_wp2_with fail
    go_ret
    exact ⟨rfl, hb⟩
  have Vs := Lib.hid vs
  clear vs
  cases vt : validB (tl t)
  case false =>
    have Vt := Lib.hid vt
    clear vt
    go_enter Try.func5, Try.ntmps5
    go_wp2_with fail
    refine (valid_at s true _ (by omega) Vs.out).mono ?_
    rintro e w' ⟨rfl, rfl⟩
    go_wp2_with fail
    refine (valid_at t false _ (by omega) Vt.out).mono ?_
    rintro e w' ⟨rfl, rfl⟩
    go_wp2_with fail
    refine (awake_any _).mono ?_
    rintro e w8 ⟨rfl, hb⟩
    go_wp2_with fail
    go_ret
    exact ⟨rfl, hb⟩
  have Vt := Lib.hid vt
  clear vt
  cases vu : validB (tl u)
  case false =>
    have Vu := Lib.hid vu
    clear vu
    go_enter Try.func5, Try.ntmps5
    go_wp2_with fail
    refine (valid_at s true _ (by omega) Vs.out).mono ?_
    rintro e w' ⟨rfl, rfl⟩
    go_wp2_with fail
    refine (valid_at t true _ (by omega) Vt.out).mono ?_
    rintro e w' ⟨rfl, rfl⟩
    go_wp2_with fail
    refine (valid_at u false _ (by omega) Vu.out).mono ?_
    rintro e w' ⟨rfl, rfl⟩
    go_wp2_with fail
    refine (awake_any _).mono ?_
    rintro e w8 ⟨rfl, hb⟩
    go_wp2_with fail
    go_ret
    exact ⟨rfl, hb⟩
  have Vu := Lib.hid vu
  clear vu
  have es := valid_sv s Vs.out
  have et := valid_sv t Vt.out
  have eu := valid_sv u Vu.out
  have bs' : Dm.val (tl s) < 256 ^ 40 := Nat.lt_of_lt_of_le (Dm.val_lt _) (Nat.pow_le_pow_right (by omega) (by rw [length_tl]; exact ls))
  have bt : Dm.val (tl t) < 256 ^ 40 := Nat.lt_of_lt_of_le (Dm.val_lt _) (Nat.pow_le_pow_right (by omega) (by rw [length_tl]; exact lt))
  have bu : Dm.val (tl u) < 256 ^ 40 := Nat.lt_of_lt_of_le (Dm.val_lt _) (Nat.pow_le_pow_right (by omega) (by rw [length_tl]; exact lu))
  rw [es, et, eu]
  exact field_nat _ _ _ bs' bt bu w
end Go.Proofs.Ytchnjdiolnpabaa
