/-
  The walk of the law NaturalDivides.
-/
import Derived.Test.YtchnjdiolnpabaaNtLaw5
namespace Go.Proofs.Ytchnjdiolnpabaa
open Go.RowKit
set_option linter.unusedVariables false

theorem mod_step (A k : Nat) : A % 2 ^ (k + 1) = A % 2 ^ k + (if Dm.bitN A k then 2 ^ k else 0) := by
  have h := Nat.mod_pow_succ (b := 2) (x := A) (k := k)
  rw [h]
  unfold Dm.bitN
  have h2 : A / 2 ^ k % 2 = 0 ∨ A / 2 ^ k % 2 = 1 := by omega
  rcases h2 with h2 | h2 <;> rw [h2] <;> simp
def DvRel (A : Nat) (w : World) (s e i : Value) (wr : World) : Prop := ∃ k : Nat, k ≤ Dm.nb A ∧ i = .int .i64 (k : Int) ∧ s = Sv (Dm.str (A % 2 ^ k)) ∧ e = Sv (Dm.str (2 ^ k)) ∧ Kp w [] wr
theorem lt61 {x k : Nat} (hk : k ≤ 482) (h : x < 2 ^ k) : x < 256 ^ 61 := by
  obtain ⟨K, hK⟩ : ∃ K, K = 61 := ⟨_, rfl⟩
  rw [← hK, show (256 : Nat) = 2 ^ 8 from rfl, ← Nat.pow_mul]
  exact Nat.lt_of_lt_of_le h (Nat.pow_le_pow_right (by omega) (by omega))
set_option maxRecDepth 100000 in
set_option maxHeartbeats 2000000 in
theorem divides_nat (A B : Nat) (hA : A < 256 ^ 60) (hB : B < 256 ^ 60) (w : World) :
    Calls Try.prog 9 #[Sv (Dm.str A), Sv (Dm.str B)] w fun e w' => e = .returned (.bool true) ∧ Below w.heap.size w w' := by
  have sa : (bs (Dm.str A)).size ≤ 60 := by rw [size_bs]; exact Dm.length_str_le.2 hA
  have sb : (bs (Dm.str B)).size ≤ 60 := by rw [size_bs]; exact Dm.length_str_le.2 hB
  have VA := Lib.hid (valid_of hA (by omega))
  have VB := Lib.hid (valid_of hB (by omega))
  have hnb : Dm.nb A ≤ 480 := nb_le_of (by
    rw [show (256 : Nat) = 2 ^ 8 from rfl, ← Nat.pow_mul] at hA
    obtain ⟨K, hK⟩ : ∃ K, K = 480 := ⟨_, rfl⟩
    rw [show 8 * 60 = K from by omega] at hA
    rw [← hK]; exact hA)
  have HNB := Lib.hid (Dm.lt_nb A)
  have HA := Lib.hid hA
  have HB := Lib.hid hB
  have hbits := fun W : World => (Bits_any (bs (Dm.str A)) W (by omega)).mono (R' := fun e w' => e = .returned (.int .i64 (Dm.nb A : Nat)) ∧ W = w') fun e w' ⟨he, hw⟩ => ⟨by rw [he, tl_bs, bitsN, VA.out, Dm.val_str]; rfl, hw⟩
  have HBITS := Lib.hid hbits
  have hbit := fun (k : Nat) (hk : k ≤ 500) (W : World) => (Bit_any (bs (Dm.str A)) (k : Int) W (by omega) (by omega)).mono (R' := fun e w' => e = .returned (.bool (Dm.bitN A k)) ∧ W = w') fun e w' ⟨he, hw⟩ => ⟨by rw [he, tl_bs, bitV_nat VA.out, Dm.val_str], hw⟩
  have HBIT := Lib.hid hbit
  have hva := fun W : World => valid_at (bs (Dm.str A)) true W (by omega) (by rw [tl_bs]; exact VA.out)
  have hvb := fun W : World => valid_at (bs (Dm.str B)) true W (by omega) (by rw [tl_bs]; exact VB.out)
  have HVA := Lib.hid hva
  have HVB := Lib.hid hvb
  have HBN := Lib.hid (Dm.bitN_nb (n := A) (i := Dm.nb A) (Nat.le_refl _))
  clear hbits hbit hva hvb hA hB
  go_enter Try.func9, Try.ntmps9
  go_wp2_with fail
  refine (HVA.out _).mono ?_
  rintro e w' ⟨rfl, rfl⟩
  go_wp2_with fail
  refine (HVB.out _).mono ?_
  rintro e w' ⟨rfl, rfl⟩
  go_wp2_with fail
  refine (of_at 1 1 _ rfl (by omega)).mono ?_
  rintro e w1 ⟨rfl, hb1⟩
  have hk1 := (Kp.start w).next hb1
  clear hb1
  go_wp2_with fail
  go_loopw [5, 6, 7] (DvRel A w) (fun _ _ i _ => Dm.nb A - (intOf i).toNat)
  case atStart => exact ⟨0, by omega, rfl, by rw [Nat.pow_zero, Nat.mod_one]; rfl, rfl, hk1⟩
  case round =>
    clear hk1
    obtain ⟨k, hk, rfl, rfl, rfl, hK⟩ := hrel
    by_cases hlt : k < Dm.nb A
    · have HM := Lib.hid (mod_step A k)
      have h2k : 2 ^ k < 2 ^ (k + 1) := Nat.pow_lt_pow_right (by omega) (by omega)
      have hm : A % 2 ^ k < 2 ^ k := Nat.mod_lt _ (Nat.two_pow_pos k)
      have hs1 : A % 2 ^ k + 2 ^ k < 256 ^ 61 := lt61 (k := k + 1) (by omega) (by rw [Nat.pow_succ]; omega)
      have hs2 : 2 ^ k + 2 ^ k < 256 ^ 61 := lt61 (k := k + 2) (by omega) (by rw [Nat.pow_succ, Nat.pow_succ]; have := Nat.two_pow_pos k; omega)
      have hs3 : A % 2 ^ k < 256 ^ 61 := by omega
      have hs4 : 2 ^ k < 256 ^ 61 := by omega
      have E1 := Lib.hid (addV_of (valid_of hs3 (by omega)) (valid_of hs4 (by omega)) hs1 (by omega))
      have E2 := Lib.hid (addV_of (valid_of hs4 (by omega)) (valid_of hs4 (by omega)) hs2 (by omega))
      have z1 : (bs (Dm.str (A % 2 ^ k))).size ≤ 61 := by rw [size_bs]; exact Dm.length_str_le.2 hs3
      have z2 : (bs (Dm.str (2 ^ k))).size ≤ 61 := by rw [size_bs]; exact Dm.length_str_le.2 hs4
      have HP : Hid (2 ^ (k + 1) = 2 ^ k + 2 ^ k) := by show _ = _; rw [Nat.pow_succ]; omega
      clear hs1 hs2 hs3 hs4 h2k hm
      cases hbt : Dm.bitN A k with
      | true =>
        have HBT := Lib.hid hbt
        have hmo := HM.out
        rw [hbt, if_pos rfl] at hmo
        have HMO := Lib.hid hmo
        clear hbt hmo
        go_wp2_with fail
        refine (HBITS.out _).mono ?_
        rintro e w' ⟨rfl, rfl⟩
        go_wp2_with fail
        refine (HBIT.out k (by omega) _).mono ?_
        rintro e w' ⟨rfl, rfl⟩
        rw [HBT.out]
        go_wp2_with fail
        refine (Add_any (bs (Dm.str (A % 2 ^ k))) (bs (Dm.str (2 ^ k))) _ (by omega) (by omega)).mono ?_
        rintro e w2 ⟨rfl, hb2⟩
        rw [E1.out]
        have hK2 := hK.next hb2
        go_wp2_with fail
        refine (Add_any (bs (Dm.str (2 ^ k))) (bs (Dm.str (2 ^ k))) _ (by omega) (by omega)).mono ?_
        rintro e w3 ⟨rfl, hb3⟩
        rw [E2.out]
        have hK3 := hK2.next hb3
        clear hK hK2 hb2 hb3
        go_wp2_with fail
        go_roundw
        case rel => exact ⟨k + 1, by omega, by go_num, by rw [HMO.out], by rw [HP.out], hK3⟩
        case measure => simp [intOf] <;> omega
      | false =>
        have HBT := Lib.hid hbt
        have hmo := HM.out
        rw [hbt, if_neg (by simp), Nat.add_zero] at hmo
        have HMO := Lib.hid hmo
        clear hbt hmo
        go_wp2_with fail
        refine (HBITS.out _).mono ?_
        rintro e w' ⟨rfl, rfl⟩
        go_wp2_with fail
        refine (HBIT.out k (by omega) _).mono ?_
        rintro e w' ⟨rfl, rfl⟩
        rw [HBT.out]
        go_wp2_with fail
        refine (Add_any (bs (Dm.str (2 ^ k))) (bs (Dm.str (2 ^ k))) _ (by omega) (by omega)).mono ?_
        rintro e w3 ⟨rfl, hb3⟩
        rw [E2.out]
        have hK3 := hK.next hb3
        clear hK hb3
        go_wp2_with fail
        go_roundw
        case rel => exact ⟨k + 1, by omega, by go_num, by rw [HMO.out]; rfl, by rw [HP.out], hK3⟩
        case measure => simp [intOf] <;> omega
    · obtain rfl : k = Dm.nb A := by omega
      rw [Nat.mod_eq_of_lt HNB.out]
      go_wp2_with fail
      refine (HBITS.out _).mono ?_
      rintro e w' ⟨rfl, rfl⟩
      go_wp2_with fail
      refine (HBITS.out _).mono ?_
      rintro e w' ⟨rfl, rfl⟩
      go_wp2_with fail
      refine (HBIT.out (Dm.nb A) (by omega) _).mono ?_
      rintro e w' ⟨rfl, rfl⟩
      rw [HBN.out]
      go_wp2_with fail
      refine (DivMod_all (bs (Dm.str A)) (bs (Dm.str B)) _ (by omega) (by omega)).mono ?_
      rintro e w2 ⟨rfl, hb2⟩
      have hK2 := hK.next hb2
      clear hK hb2
      have hdm : dmV (tl (bs (Dm.str A))) (tl (bs (Dm.str B))) = if B = 0 then .tuple #[Sv [], Sv [], .int .i64 11] else .tuple #[Sv (Dm.str (A / B)), Sv (Dm.str (A % B)), .int .i64 0] := by
        rw [tl_bs, tl_bs, dmV, VA.out, VB.out, if_pos (show (true && true) = true from rfl), Dm.val_str, Dm.val_str]
      rw [hdm]
      clear hdm
      by_cases hB0 : B = 0
      · subst hB0
        rw [if_pos rfl]
        have hz : (bs (Dm.str 0)).toList = [] := by rw [toList_bs]; rfl
        have hz2 : (bs (Dm.str 0)).toList.isEmpty = true := by rw [toList_bs]; rfl
        go_wp2_with fail
        refine (awake_any _).mono ?_
        rintro e w3 ⟨rfl, hb3⟩
        have hK3 := hK2.next hb3
        go_wp2_with fail
        go_ret
        exact ⟨rfl, hK3.below⟩
      · rw [if_neg hB0]
        have hne : Dm.str B ≠ [] := fun h => hB0 (by rw [← Dm.val_str B, h]; rfl)
        have hz : ¬ (bs (Dm.str B)).toList = [] := by rw [toList_bs]; exact hne
        have hz2 : (bs (Dm.str B)).toList.isEmpty = false := by rw [toList_bs]; simpa using hne
        have hlt2 := Nat.mod_lt A (show 0 < B by omega)
        have hdm := Nat.div_add_mod A B
        have hp : A / B * B ≤ A := Nat.div_mul_le_self _ _
        have hsum : A / B * B + A % B = A := by rw [Nat.mul_comm]; exact hdm
        have q1 : A / B < 256 ^ 60 := Nat.lt_of_le_of_lt (Nat.div_le_self _ _) HA.out
        have q2 : A % B < 256 ^ 60 := Nat.lt_of_le_of_lt (Nat.mod_le _ _) HA.out
        have q3 : A / B * B < 256 ^ 60 := Nat.lt_of_le_of_lt hp HA.out
        have E1 := Lib.hid (mulV_of (valid_of q1 (by omega)) VB.out q3 (by omega))
        have E2 := Lib.hid (addV_of (valid_of q3 (by omega)) (valid_of q2 (by omega)) (by rw [hsum]; exact HA.out) (by omega))
        rw [hsum] at E2
        have z1 : (bs (Dm.str (A / B))).size ≤ 60 := by rw [size_bs]; exact Dm.length_str_le.2 q1
        have z2 : (bs (Dm.str (A % B))).size ≤ 60 := by rw [size_bs]; exact Dm.length_str_le.2 q2
        have z3 : (bs (Dm.str (A / B * B))).size ≤ 60 := by rw [size_bs]; exact Dm.length_str_le.2 q3
        have HC : Hid (cmpV (tl (bs (Dm.str (A % B)))) (tl (bs (Dm.str B))) = -1) := by
          show _ = _
          rw [tl_bs, tl_bs, cmpV, valid_of q2 (by omega), VB.out, Dm.val_str, Dm.val_str]
          exact Dm.cmpN_lt hlt2
        clear hlt2 hdm hp hsum q1 q2 q3 hne
        generalize A / B * B = P at *
        generalize A / B = q at *
        generalize A % B = r at *
        go_wp2_with fail
        refine (Mul_any (bs (Dm.str q)) (bs (Dm.str B)) _ (by omega) (by omega)).mono ?_
        rintro e w3 ⟨rfl, hb3⟩
        rw [E1.out]
        have hK3 := hK2.next hb3
        go_wp2_with fail
        refine (Add_any (bs (Dm.str P)) (bs (Dm.str r)) _ (by omega) (by omega)).mono ?_
        rintro e w4 ⟨rfl, hb4⟩
        rw [E2.out]
        have hK4 := hK3.next hb4
        go_wp2_with fail
        refine (awake_any _).mono ?_
        rintro e w5 ⟨rfl, hb5⟩
        have hK5 := hK4.next hb5
        go_wp2_with fail
        refine (Cmp_any (bs (Dm.str r)) (bs (Dm.str B)) _ (by omega) (by omega)).mono ?_
        rintro e w6 ⟨rfl, rfl⟩
        rw [HC.out]
        go_wp2_with fail
        go_ret
        exact ⟨by first | rfl | (simp; done), hK5.below⟩
set_option maxHeartbeats 1000000 in
theorem divides_walk (s t : ByteArray) (h1 : s.size ≤ maxLen) (h2 : t.size ≤ maxLen) (w : World) :
    Calls Try.prog 9 #[.string s, .string t] w fun e w' => e = .returned (.bool true) ∧ Below w.heap.size w w' := by
  unfold maxLen at h1 h2
  by_cases ls : s.size ≤ 60
  case neg =>
    go_enter Try.func9, Try.ntmps9
    go_wp2_with fail
    refine (awake_any _).mono ?_
    rintro e w8 ⟨rfl, hb⟩
    go_wp2_with fail
    go_ret
    exact ⟨rfl, hb⟩
  by_cases lt : t.size ≤ 60
  case neg =>
    go_enter Try.func9, Try.ntmps9
    go_wp2_with fail
    refine (awake_any _).mono ?_
    rintro e w8 ⟨rfl, hb⟩
    go_wp2_with fail
    go_ret
    exact ⟨rfl, hb⟩
  cases hs : validB (tl s) with
  | false =>
    have HS := Lib.hid hs
    clear hs
    go_enter Try.func9, Try.ntmps9
    go_wp2_with fail
    refine (valid_at s false _ (by omega) HS.out).mono ?_
    rintro e w' ⟨rfl, rfl⟩
    go_wp2_with fail
    refine (awake_any _).mono ?_
    rintro e w8 ⟨rfl, hb⟩
    go_wp2_with fail
    go_ret
    exact ⟨rfl, hb⟩
  | true =>
    cases ht : validB (tl t) with
    | false =>
      have HS := Lib.hid hs
      have HT := Lib.hid ht
      clear hs ht
      go_enter Try.func9, Try.ntmps9
      go_wp2_with fail
      refine (valid_at s true _ (by omega) HS.out).mono ?_
      rintro e w' ⟨rfl, rfl⟩
      go_wp2_with fail
      refine (valid_at t false _ (by omega) HT.out).mono ?_
      rintro e w' ⟨rfl, rfl⟩
      go_wp2_with fail
      refine (awake_any _).mono ?_
      rintro e w8 ⟨rfl, hb⟩
      go_wp2_with fail
      go_ret
      exact ⟨rfl, hb⟩
    | true =>
      rw [valid_sv s hs, valid_sv t ht]
      have e1 := Dm.val_lt (tl s)
      have e2 := Dm.val_lt (tl t)
      rw [length_tl] at e1 e2
      exact divides_nat _ _ (Nat.lt_of_lt_of_le e1 (Nat.pow_le_pow_right (by omega) ls)) (Nat.lt_of_lt_of_le e2 (Nat.pow_le_pow_right (by omega) lt)) w
end Go.Proofs.Ytchnjdiolnpabaa
