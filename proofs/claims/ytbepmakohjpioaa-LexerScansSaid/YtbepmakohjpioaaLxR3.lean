/-
  dominoref40: number.
-/
import Derived.Test.YtbepmakohjpioaaLxR2
namespace Go.Proofs.Ytbepmakohjpioaa
open Go.RowKit
set_option linter.unusedVariables false

theorem lu_split (c : UInt8) : Lx.isLU c = (Lx.isLet c || decide (c.toNat = 95)) := by
  simpa using all_bytes (fun c => Lx.isLU c == (Lx.isLet c || decide (c.toNat = 95))) (by decide +kernel) c
theorem sp_more' (s : ByteArray) (b k c : Nat) (hc : c = b + k) (h : c < s.size) (hk : k ≤ Lx.sp Lx.isDig ((tl s).drop b)) : (Lx.isDig s[c] = true ↔ k < Lx.sp Lx.isDig ((tl s).drop b)) := by subst hc; exact sp_more s b k h hk
theorem dv_step' (s : ByteArray) (b k c : Nat) (hc : c = b + k) (h : c < s.size) : Lx.dv (((tl s).drop b).take (k + 1)) = 10 * Lx.dv (((tl s).drop b).take k) + (s[c].toNat - 48) := by subst hc; exact dv_step s b k h
def Rn2 (s : ByteArray) (b : Nat) (w : World) (i n lg : Value) (W : World) : Prop := ∃ k c : Nat, Hid (c = b + k) ∧ c ≤ s.size ∧ k ≤ Lx.sp Lx.isDig ((tl s).drop b) ∧ i = .int .i64 (c : Int) ∧ n = .int .i64 ((min (Lx.dv (((tl s).drop b).take k)) 2147483648 : Nat) : Int) ∧ lg = .bool (decide (2147483648 < Lx.dv (((tl s).drop b).take k))) ∧ W = w
/-- what number returns behind the digits: v their value, m behind them -/
def numEnd (bad : Bool) (lu : Bool) (a m : Nat) : Value := if bad then t3 0 a 2 else if lu then t3 0 m 4 else t3 m 0 0
theorem rnum_none_p (s : ByteArray) (a : Nat) (w : World) (hs : s.size ≤ 65536) (ha : a < s.size) (hc : (s[a] == 45) = false) (hn : Hid (Lx.sp Lx.isDig ((tl s).drop a) = 0)) : Calls Try.prog 28 #[.string s, .int .i64 (a : Int)] w fun e w' => e = .returned (t3 0 a 4) ∧ Below w.heap.size w w' := by
  have h6 := s[a].toNat_lt
  have h7 : ((s[a].toNat : Int) == 45) = false := by simp at hc ⊢; intro h8; exact hc (UInt8.toNat_inj.1 (by have h9 : (45 : UInt8).toNat = 45 := rfl; omega))
  have h7' : ((s[a].toNat : Int) != 45) = true := by simp at hc ⊢; intro h8; exact hc (UInt8.toNat_inj.1 (by have h9 : (45 : UInt8).toNat = 45 := rfl; omega))
  clear hc
  have hd : Hid (Lx.isDig s[a] = false) := Lib.hid (by
    cases h : Lx.isDig s[a] with
    | false => rfl
    | true => have := (sp_more s a 0 (by omega) (Nat.zero_le _)).1 h; rw [hn.out] at this; omega)
  go_enter Try.func28, Try.ntmps28
  go_wp2_with fail
  refine (rdig_any s[a] false _ hd.out).mono ?_
  rintro e w1 ⟨rfl, rfl⟩
  go_wp2_with fail
  go_ret3
  exact ⟨rfl, Below.refl _ _⟩
set_option maxHeartbeats 1000000 in
theorem rnum_p (s : ByteArray) (a n : Nat) (w : World) (hs : s.size ≤ 65536) (ha : a < s.size) (hc : (s[a] == 45) = false) (hn : Hid (Lx.sp Lx.isDig ((tl s).drop a) = n)) (h0 : 0 < n) (lu : Bool) (hlu : Hid (Lx.luAt ((tl s).drop (a + n)) = lu)) (res : Value) (hres : Hid (numEnd (decide (2147483647 < Lx.dv (((tl s).drop a).take n))) lu a (a + n) = res)) :
    Calls Try.prog 28 #[.string s, .int .i64 (a : Int)] w fun e w' => e = .returned res ∧ Below w.heap.size w w' := by
  have hfit := sp_fit hn.out (show a ≤ s.size by omega)
  have h6 := s[a].toNat_lt
  have h7 : ((s[a].toNat : Int) == 45) = false := by simp at hc ⊢; intro h8; exact hc (UInt8.toNat_inj.1 (by have h9 : (45 : UInt8).toNat = 45 := rfl; omega))
  have h7' : ((s[a].toNat : Int) != 45) = true := by simp at hc ⊢; intro h8; exact hc (UInt8.toNat_inj.1 (by have h9 : (45 : UInt8).toNat = 45 := rfl; omega))
  clear hc
  have hd : Hid (Lx.isDig s[a] = true) := Lib.hid ((sp_more s a 0 (by omega) (Nat.zero_le _)).2 (by rw [hn.out]; exact h0))
  have q1 : decide ((s.size : Int) ≤ (a : Int)) = false := by simp; omega
  have q2 : decide (s.size ≤ a) = false := by simp; omega
  go_enter Try.func28, Try.ntmps28
  go_wp2_with fail
  refine (rdig_any s[a] true _ hd.out).mono ?_
  rintro e w1 ⟨rfl, rfl⟩
  go_wp2_with fail
  go_loopw [7, 8, 9] (Rn2 s a w) (fun i _ _ _ => s.size - (intOf i).toNat)
  case atStart => exact ⟨0, a, Lib.hid rfl, by omega, Nat.zero_le _, val_int (by simp), rfl, rfl, rfl⟩
  case round =>
    obtain ⟨k, c, HC, hk, hkn, rfl, rfl, rfl, rfl⟩ := hrel
    rw [hn.out] at hkn
    by_cases hlt : k < n
    · have hcs : c < s.size := by have := HC.out; omega
      have hdk := Lib.hid ((sp_more' s a k c HC.out hcs (by rw [hn.out]; exact hkn)).2 (by rw [hn.out]; exact hlt))
      have hrg := dig_range hdk.out
      have hst := Lib.hid (dv_step' s a k c HC.out hcs)
      generalize Lx.dv (((tl s).drop a).take k) = V at *
      by_cases hV : V ≤ 2147483648
      · have hmn : min V 2147483648 = V := Nat.min_eq_left hV
        rw [hmn]
        have hdf : decide (2147483648 < V) = false := by simp; omega
        rw [hdf]
        clear hmn hdf
        by_cases hbig : 2147483648 < 10 * V + (s[c].toNat - 48)
        · have hbg : decide ((2147483648 : Int) < 10 * (V : Int) + ((s[c].toNat : Int) - 48)) = true := by simp; omega
          go_wp2_with fail
          refine (rdig_any s[c] true _ hdk.out).mono ?_
          rintro e w1 ⟨rfl, rfl⟩
          go_wp2_with fail
          go_roundw
          case rel => exact ⟨k + 1, c + 1, Lib.hid (by have := HC.out; omega), by omega, by rw [hn.out]; omega, by simp, val_int (by rw [hst.out, Nat.min_eq_right (by omega)]; rfl), val_bool (by rw [hst.out]; symm; rw [decide_eq_true_iff]; exact hbig), rfl⟩
          case measure => simp [intOf]; omega
        · have hbg : decide ((2147483648 : Int) < 10 * (V : Int) + ((s[c].toNat : Int) - 48)) = false := by simp; omega
          go_wp2_with fail
          refine (rdig_any s[c] true _ hdk.out).mono ?_
          rintro e w1 ⟨rfl, rfl⟩
          go_wp2_with fail
          go_roundw
          case rel => exact ⟨k + 1, c + 1, Lib.hid (by have := HC.out; omega), by omega, by rw [hn.out]; omega, by simp, val_int (by rw [hst.out, Nat.min_eq_left (by omega)]; omega), val_bool (by rw [hst.out]; symm; rw [decide_eq_false_iff_not]; exact hbig), rfl⟩
          case measure => simp [intOf]; omega
      · have hmn : min V 2147483648 = 2147483648 := Nat.min_eq_right (by omega)
        rw [hmn]
        have hdf : decide (2147483648 < V) = true := by simp; omega
        rw [hdf, show ((2147483648 : Nat) : Int) = 2147483648 from rfl]
        clear hmn hdf
        go_wp2_with fail
        refine (rdig_any s[c] true _ hdk.out).mono ?_
        rintro e w1 ⟨rfl, rfl⟩
        go_wp2_with fail
        go_roundw
        case rel => exact ⟨k + 1, c + 1, Lib.hid (by have := HC.out; omega), by omega, by rw [hn.out]; omega, by simp, val_int (by rw [hst.out, Nat.min_eq_right (by omega)]; rfl), val_bool (by rw [hst.out]; symm; rw [decide_eq_true_iff]; omega), rfl⟩
        case measure => simp [intOf]; omega
    · have hkk : k = n := by omega
      subst hkk
      have hlu2 : Hid (Lx.luAt ((tl s).drop c) = lu) := Lib.hid (by rw [HC.out]; exact hlu.out)
      generalize Lx.dv (((tl s).drop a).take k) = V at *
      have hout : Hid (∀ h : c < s.size, Lx.isDig s[c] = false) := Lib.hid (fun h => by
        cases h5 : Lx.isDig s[c] with
        | false => rfl
        | true => have := (sp_more' s a k c HC.out h (by rw [hn.out]; omega)).1 h5; rw [hn.out] at this; omega)
      by_cases hbad : 2147483647 < V
      · have hR := Lib.hid (show res = t3 0 a 2 by rw [← hres.out, numEnd, decide_eq_true hbad, if_pos rfl])
        by_cases hV : V ≤ 2147483648
        · have hV2 : V = 2147483648 := by omega
          have hmn : min V 2147483648 = 2147483648 := by rw [hV2]; rfl
          rw [hmn]
          have hdf : decide (2147483648 < V) = false := by simp; omega
          rw [hdf, show ((2147483648 : Nat) : Int) = 2147483648 from rfl]
          clear hmn hdf hV2
          by_cases hcs : c < s.size
          · go_wp2_with fail
            refine (rdig_any s[c] false _ (hout.out hcs)).mono ?_
            rintro e w1 ⟨rfl, rfl⟩
            go_wp2_with fail
            go_ret3
            exact ⟨ret_val (by rw [hR.out]; rfl), Below.refl _ _⟩
          · go_wp2_with fail
            go_ret3
            exact ⟨ret_val (by rw [hR.out]; rfl), Below.refl _ _⟩
        · have hmn : min V 2147483648 = 2147483648 := Nat.min_eq_right (by omega)
          rw [hmn]
          have hdf : decide (2147483648 < V) = true := by simp; omega
          rw [hdf, show ((2147483648 : Nat) : Int) = 2147483648 from rfl]
          clear hmn hdf
          by_cases hcs : c < s.size
          · go_wp2_with fail
            refine (rdig_any s[c] false _ (hout.out hcs)).mono ?_
            rintro e w1 ⟨rfl, rfl⟩
            go_wp2_with fail
            go_ret3
            exact ⟨ret_val (by rw [hR.out]; rfl), Below.refl _ _⟩
          · go_wp2_with fail
            go_ret3
            exact ⟨ret_val (by rw [hR.out]; rfl), Below.refl _ _⟩
      · have hR := Lib.hid (show res = if lu then t3 0 c 4 else t3 c 0 0 by rw [← hres.out, numEnd, decide_eq_false hbad, if_neg (by decide), ← HC.out])
        have hmn : min V 2147483648 = V := Nat.min_eq_left (by omega)
        rw [hmn]
        have hdf : decide (2147483648 < V) = false := by simp; omega
        rw [hdf]
        have hv0 : ((V : Int) == 2147483648) = false := by simp; omega
        clear hmn hdf
        by_cases hcs : c < s.size
        · have hlc : lu = Lx.isLU s[c] := by rw [← hlu2.out, drop_cons s hcs]; rfl
          rw [lu_split] at hlc
          have hc6 := s[c].toNat_lt
          cases hl1 : Lx.isLet s[c] with
          | true =>
            rw [hl1] at hlc
            subst hlc
            go_wp2_with fail
            refine (rdig_any s[c] false _ (hout.out hcs)).mono ?_
            rintro e w1 ⟨rfl, rfl⟩
            go_wp2_with fail
            refine (rlet_any s[c] true _ hl1).mono ?_
            rintro e w1 ⟨rfl, rfl⟩
            go_wp2_with fail
            go_ret3
            exact ⟨ret_val (by rw [hR.out]; rfl), Below.refl _ _⟩
          | false =>
            rw [hl1] at hlc
            by_cases h95 : s[c].toNat = 95
            · have n95 : ((s[c].toNat : Int) == 95) = true := by simp; omega
              have hl2 : lu = true := by rw [hlc]; simp [h95]
              subst hl2
              clear hlc h95
              go_wp2_with fail
              refine (rdig_any s[c] false _ (hout.out hcs)).mono ?_
              rintro e w1 ⟨rfl, rfl⟩
              go_wp2_with fail
              refine (rlet_any s[c] false _ hl1).mono ?_
              rintro e w1 ⟨rfl, rfl⟩
              go_wp2_with fail
              go_ret3
              exact ⟨ret_val (by rw [hR.out]; rfl), Below.refl _ _⟩
            · have n95 : ((s[c].toNat : Int) == 95) = false := by simp; omega
              have hl2 : lu = false := by rw [hlc]; simp [h95]
              subst hl2
              clear hlc h95
              go_wp2_with fail
              refine (rdig_any s[c] false _ (hout.out hcs)).mono ?_
              rintro e w1 ⟨rfl, rfl⟩
              go_wp2_with fail
              refine (rlet_any s[c] false _ hl1).mono ?_
              rintro e w1 ⟨rfl, rfl⟩
              go_wp2_with fail
              go_ret3
              exact ⟨ret_val (by rw [hR.out]; rfl), Below.refl _ _⟩
        · have hl2 : lu = false := by rw [← hlu2.out, List.drop_eq_nil_of_le (by rw [length_tl]; omega)]; rfl
          subst hl2
          go_wp2_with fail
          go_ret3
          exact ⟨ret_val (by rw [hR.out]; rfl), Below.refl _ _⟩
theorem rnum_none_m (s : ByteArray) (a : Nat) (w : World) (hs : s.size ≤ 65536) (ha : a < s.size) (hc : (s[a] == 45) = true) (hn : Hid (Lx.sp Lx.isDig ((tl s).drop (a + 1)) = 0)) : Calls Try.prog 28 #[.string s, .int .i64 (a : Int)] w fun e w' => e = .returned (t3 0 a 4) ∧ Below w.heap.size w w' := by
  have h6 := s[a].toNat_lt
  have h7 : ((s[a].toNat : Int) == 45) = true := by simp at hc ⊢; rw [hc]; rfl
  have h7' : ((s[a].toNat : Int) != 45) = false := by simp at hc ⊢; rw [hc]; rfl
  clear hc
  by_cases hlt : a + 1 < s.size
  · have hd : Hid (Lx.isDig s[a + 1] = false) := Lib.hid (by
      cases h : Lx.isDig s[a + 1] with
      | false => rfl
      | true => have := (sp_more s (a + 1) 0 (by omega) (Nat.zero_le _)).1 h; rw [hn.out] at this; omega)
    go_enter Try.func28, Try.ntmps28
    go_wp2_with fail
    refine (rdig_any s[a + 1] false _ hd.out).mono ?_
    rintro e w1 ⟨rfl, rfl⟩
    go_wp2_with fail
    go_ret3
    exact ⟨rfl, Below.refl _ _⟩
  · have e2 : decide ((s.size : Int) ≤ (a : Int) + 1) = true := by simp; omega
    go_enter Try.func28, Try.ntmps28
    go_wp2_with fail
    go_ret3
    exact ⟨rfl, Below.refl _ _⟩
set_option maxHeartbeats 1000000 in
theorem rnum_m (s : ByteArray) (a n : Nat) (w : World) (hs : s.size ≤ 65536) (ha : a < s.size) (hc : (s[a] == 45) = true) (hn : Hid (Lx.sp Lx.isDig ((tl s).drop (a + 1)) = n)) (h0 : 0 < n) (lu : Bool) (hlu : Hid (Lx.luAt ((tl s).drop (a + 1 + n)) = lu)) (res : Value) (hres : Hid (numEnd (decide (2147483648 < Lx.dv (((tl s).drop (a + 1)).take n))) lu a (a + 1 + n) = res)) :
    Calls Try.prog 28 #[.string s, .int .i64 (a : Int)] w fun e w' => e = .returned res ∧ Below w.heap.size w w' := by
  have hfit := sp_fit hn.out (show a + 1 ≤ s.size by omega)
  have h6 := s[a].toNat_lt
  have h7 : ((s[a].toNat : Int) == 45) = true := by simp at hc ⊢; rw [hc]; rfl
  have h7' : ((s[a].toNat : Int) != 45) = false := by simp at hc ⊢; rw [hc]; rfl
  clear hc
  have hd : Hid (Lx.isDig s[a + 1] = true) := Lib.hid ((sp_more s (a + 1) 0 (by omega) (Nat.zero_le _)).2 (by rw [hn.out]; exact h0))
  have q1 : decide ((s.size : Int) ≤ (a : Int) + 1) = false := by simp; omega
  go_enter Try.func28, Try.ntmps28
  go_wp2_with fail
  refine (rdig_any s[a + 1] true _ hd.out).mono ?_
  rintro e w1 ⟨rfl, rfl⟩
  go_wp2_with fail
  go_loopw [7, 8, 9] (Rn2 s (a + 1) w) (fun i _ _ _ => s.size - (intOf i).toNat)
  case atStart => exact ⟨0, (a + 1), Lib.hid rfl, by omega, Nat.zero_le _, val_int (by simp), rfl, rfl, rfl⟩
  case round =>
    obtain ⟨k, c, HC, hk, hkn, rfl, rfl, rfl, rfl⟩ := hrel
    rw [hn.out] at hkn
    by_cases hlt : k < n
    · have hcs : c < s.size := by have := HC.out; omega
      have hdk := Lib.hid ((sp_more' s (a + 1) k c HC.out hcs (by rw [hn.out]; exact hkn)).2 (by rw [hn.out]; exact hlt))
      have hrg := dig_range hdk.out
      have hst := Lib.hid (dv_step' s (a + 1) k c HC.out hcs)
      generalize Lx.dv (((tl s).drop (a + 1)).take k) = V at *
      by_cases hV : V ≤ 2147483648
      · have hmn : min V 2147483648 = V := Nat.min_eq_left hV
        rw [hmn]
        have hdf : decide (2147483648 < V) = false := by simp; omega
        rw [hdf]
        clear hmn hdf
        by_cases hbig : 2147483648 < 10 * V + (s[c].toNat - 48)
        · have hbg : decide ((2147483648 : Int) < 10 * (V : Int) + ((s[c].toNat : Int) - 48)) = true := by simp; omega
          go_wp2_with fail
          refine (rdig_any s[c] true _ hdk.out).mono ?_
          rintro e w1 ⟨rfl, rfl⟩
          go_wp2_with fail
          go_roundw
          case rel => exact ⟨k + 1, c + 1, Lib.hid (by have := HC.out; omega), by omega, by rw [hn.out]; omega, by simp, val_int (by rw [hst.out, Nat.min_eq_right (by omega)]; rfl), val_bool (by rw [hst.out]; symm; rw [decide_eq_true_iff]; exact hbig), rfl⟩
          case measure => simp [intOf]; omega
        · have hbg : decide ((2147483648 : Int) < 10 * (V : Int) + ((s[c].toNat : Int) - 48)) = false := by simp; omega
          go_wp2_with fail
          refine (rdig_any s[c] true _ hdk.out).mono ?_
          rintro e w1 ⟨rfl, rfl⟩
          go_wp2_with fail
          go_roundw
          case rel => exact ⟨k + 1, c + 1, Lib.hid (by have := HC.out; omega), by omega, by rw [hn.out]; omega, by simp, val_int (by rw [hst.out, Nat.min_eq_left (by omega)]; omega), val_bool (by rw [hst.out]; symm; rw [decide_eq_false_iff_not]; exact hbig), rfl⟩
          case measure => simp [intOf]; omega
      · have hmn : min V 2147483648 = 2147483648 := Nat.min_eq_right (by omega)
        rw [hmn]
        have hdf : decide (2147483648 < V) = true := by simp; omega
        rw [hdf, show ((2147483648 : Nat) : Int) = 2147483648 from rfl]
        clear hmn hdf
        go_wp2_with fail
        refine (rdig_any s[c] true _ hdk.out).mono ?_
        rintro e w1 ⟨rfl, rfl⟩
        go_wp2_with fail
        go_roundw
        case rel => exact ⟨k + 1, c + 1, Lib.hid (by have := HC.out; omega), by omega, by rw [hn.out]; omega, by simp, val_int (by rw [hst.out, Nat.min_eq_right (by omega)]; rfl), val_bool (by rw [hst.out]; symm; rw [decide_eq_true_iff]; omega), rfl⟩
        case measure => simp [intOf]; omega
    · have hkk : k = n := by omega
      subst hkk
      have hlu2 : Hid (Lx.luAt ((tl s).drop c) = lu) := Lib.hid (by rw [HC.out]; exact hlu.out)
      generalize Lx.dv (((tl s).drop (a + 1)).take k) = V at *
      have hout : Hid (∀ h : c < s.size, Lx.isDig s[c] = false) := Lib.hid (fun h => by
        cases h5 : Lx.isDig s[c] with
        | false => rfl
        | true => have := (sp_more' s (a + 1) k c HC.out h (by rw [hn.out]; omega)).1 h5; rw [hn.out] at this; omega)
      by_cases hbad : 2147483648 < V
      · have hR := Lib.hid (show res = t3 0 a 2 by rw [← hres.out, numEnd, decide_eq_true hbad, if_pos rfl])
        by_cases hV : V ≤ 2147483648
        · omega
        · have hmn : min V 2147483648 = 2147483648 := Nat.min_eq_right (by omega)
          rw [hmn]
          have hdf : decide (2147483648 < V) = true := by simp; omega
          rw [hdf, show ((2147483648 : Nat) : Int) = 2147483648 from rfl]
          clear hmn hdf
          by_cases hcs : c < s.size
          · go_wp2_with fail
            refine (rdig_any s[c] false _ (hout.out hcs)).mono ?_
            rintro e w1 ⟨rfl, rfl⟩
            go_wp2_with fail
            go_ret3
            exact ⟨ret_val (by rw [hR.out]; rfl), Below.refl _ _⟩
          · go_wp2_with fail
            go_ret3
            exact ⟨ret_val (by rw [hR.out]; rfl), Below.refl _ _⟩
      · have hR := Lib.hid (show res = if lu then t3 0 c 4 else t3 c 0 0 by rw [← hres.out, numEnd, decide_eq_false hbad, if_neg (by decide), ← HC.out])
        have hmn : min V 2147483648 = V := Nat.min_eq_left (by omega)
        rw [hmn]
        have hdf : decide (2147483648 < V) = false := by simp; omega
        rw [hdf]
        have hv1 : ((V : Int) == 2147483648) = true ∨ ((V : Int) == 2147483648) = false := by cases ((V : Int) == 2147483648) <;> simp
        rcases hv1 with hv0 | hv0
        all_goals
          clear hmn hdf
          by_cases hcs : c < s.size
          · have hlc : lu = Lx.isLU s[c] := by rw [← hlu2.out, drop_cons s hcs]; rfl
            rw [lu_split] at hlc
            have hc6 := s[c].toNat_lt
            cases hl1 : Lx.isLet s[c] with
            | true =>
              rw [hl1] at hlc
              subst hlc
              go_wp2_with fail
              refine (rdig_any s[c] false _ (hout.out hcs)).mono ?_
              rintro e w1 ⟨rfl, rfl⟩
              go_wp2_with fail
              refine (rlet_any s[c] true _ hl1).mono ?_
              rintro e w1 ⟨rfl, rfl⟩
              go_wp2_with fail
              go_ret3
              exact ⟨ret_val (by rw [hR.out]; rfl), Below.refl _ _⟩
            | false =>
              rw [hl1] at hlc
              by_cases h95 : s[c].toNat = 95
              · have n95 : ((s[c].toNat : Int) == 95) = true := by simp; omega
                have hl2 : lu = true := by rw [hlc]; simp [h95]
                subst hl2
                clear hlc h95
                go_wp2_with fail
                refine (rdig_any s[c] false _ (hout.out hcs)).mono ?_
                rintro e w1 ⟨rfl, rfl⟩
                go_wp2_with fail
                refine (rlet_any s[c] false _ hl1).mono ?_
                rintro e w1 ⟨rfl, rfl⟩
                go_wp2_with fail
                go_ret3
                exact ⟨ret_val (by rw [hR.out]; rfl), Below.refl _ _⟩
              · have n95 : ((s[c].toNat : Int) == 95) = false := by simp; omega
                have hl2 : lu = false := by rw [hlc]; simp [h95]
                subst hl2
                clear hlc h95
                go_wp2_with fail
                refine (rdig_any s[c] false _ (hout.out hcs)).mono ?_
                rintro e w1 ⟨rfl, rfl⟩
                go_wp2_with fail
                refine (rlet_any s[c] false _ hl1).mono ?_
                rintro e w1 ⟨rfl, rfl⟩
                go_wp2_with fail
                go_ret3
                exact ⟨ret_val (by rw [hR.out]; rfl), Below.refl _ _⟩
          · have hl2 : lu = false := by rw [← hlu2.out, List.drop_eq_nil_of_le (by rw [length_tl]; omega)]; rfl
            subst hl2
            go_wp2_with fail
            go_ret3
            exact ⟨ret_val (by rw [hR.out]; rfl), Below.refl _ _⟩
end Go.Proofs.Ytbepmakohjpioaa
