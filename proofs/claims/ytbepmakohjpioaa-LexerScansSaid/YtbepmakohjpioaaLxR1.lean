/-
  dominoref40: letter, digit, inName, run, word.
-/
import Derived.Test.YtbepmakohjpioaaLxK
namespace Go.Proofs.Ytbepmakohjpioaa
open Go.RowKit
set_option linter.unusedVariables false

theorem let_nat (c : UInt8) : Lx.isLet c = decide ((97 ≤ c.toNat ∧ c.toNat ≤ 122) ∨ (65 ≤ c.toNat ∧ c.toNat ≤ 90)) := by
  simpa using all_bytes (fun c => Lx.isLet c == decide ((97 ≤ c.toNat ∧ c.toNat ≤ 122) ∨ (65 ≤ c.toNat ∧ c.toNat ≤ 90))) (by decide +kernel) c
theorem dig_nat (c : UInt8) : Lx.isDig c = decide (48 ≤ c.toNat ∧ c.toNat ≤ 57) := by
  simpa using all_bytes (fun c => Lx.isDig c == decide (48 ≤ c.toNat ∧ c.toNat ≤ 57)) (by decide +kernel) c
theorem nm_split (c : UInt8) : Lx.isNm c = (Lx.isLet c || Lx.isDig c || decide (c.toNat = 95)) := by
  simpa using all_bytes (fun c => Lx.isNm c == (Lx.isLet c || Lx.isDig c || decide (c.toNat = 95))) (by decide +kernel) c
theorem rlet_any (c : UInt8) (v : Bool) (w : World) (hv : Lx.isLet c = v) : Calls Try.prog 25 #[.int .u8 (c.toNat : Int)] w fun e w' => e = .returned (.bool v) ∧ w = w' := by
  have hc := c.toNat_lt
  rw [let_nat] at hv
  subst hv
  generalize c.toNat = n at *
  go_enter Try.func25, Try.ntmps25
  go_wp2
  all_goals
    go_ret
    refine ⟨ret_bool ?_, rfl⟩
    first | (symm; rw [decide_eq_true_iff]; omega) | (symm; rw [decide_eq_false_iff_not]; omega) | (rw [Bool.eq_iff_iff]; simp; omega)
theorem rdig_any (c : UInt8) (v : Bool) (w : World) (hv : Lx.isDig c = v) : Calls Try.prog 27 #[.int .u8 (c.toNat : Int)] w fun e w' => e = .returned (.bool v) ∧ w = w' := by
  have hc := c.toNat_lt
  rw [dig_nat] at hv
  subst hv
  generalize c.toNat = n at *
  go_enter Try.func27, Try.ntmps27
  go_wp2
  all_goals
    go_ret
    refine ⟨ret_bool ?_, rfl⟩
    first | (symm; rw [decide_eq_true_iff]; omega) | (symm; rw [decide_eq_false_iff_not]; omega) | (rw [Bool.eq_iff_iff]; simp; omega)
theorem rin_any (c : UInt8) (v : Bool) (w : World) (hv : Lx.isNm c = v) : Calls Try.prog 42 #[.int .u8 (c.toNat : Int)] w fun e w' => e = .returned (.bool v) ∧ w = w' := by
  have hc := c.toNat_lt
  rw [nm_split] at hv
  cases h1 : Lx.isLet c with
  | true =>
    rw [h1] at hv
    subst hv
    go_enter Try.func42, Try.ntmps42
    go_wp2_with fail
    refine (rlet_any c true _ h1).mono ?_
    rintro e w1 ⟨rfl, rfl⟩
    go_wp2_with fail
    go_ret
    exact ⟨rfl, rfl⟩
  | false =>
    rw [h1] at hv
    cases h2 : Lx.isDig c with
    | true =>
      rw [h2] at hv
      subst hv
      go_enter Try.func42, Try.ntmps42
      go_wp2_with fail
      refine (rlet_any c false _ h1).mono ?_
      rintro e w1 ⟨rfl, rfl⟩
      go_wp2_with fail
      refine (rdig_any c true _ h2).mono ?_
      rintro e w1 ⟨rfl, rfl⟩
      go_wp2_with fail
      go_ret
      exact ⟨rfl, rfl⟩
    | false =>
      rw [h2] at hv
      subst hv
      go_enter Try.func42, Try.ntmps42
      go_wp2_with fail
      refine (rlet_any c false _ h1).mono ?_
      rintro e w1 ⟨rfl, rfl⟩
      go_wp2_with fail
      refine (rdig_any c false _ h2).mono ?_
      rintro e w1 ⟨rfl, rfl⟩
      go_wp2_with fail
      go_ret
      exact ⟨ret_bool (by rw [Bool.eq_iff_iff]; simp; omega), rfl⟩
theorem wd_split (c : UInt8) : Lx.isWd c = (Lx.isNm c || decide (c.toNat = 45)) := by
  simpa using all_bytes (fun c => Lx.isWd c == (Lx.isNm c || decide (c.toNat = 45))) (by decide +kernel) c
theorem WhRel.world {p : UInt8 → Bool} {s : ByteArray} {i : Nat} {w W : World} {v : Value} (h : WhRel p s i w v W) : Below w.heap.size w W := by
  obtain ⟨k, _, _, _, h⟩ := h; exact h
theorem run_nm (s : ByteArray) (x : Int) (i n : Nat) (w : World) (hx : x = i) (hn : Lx.sp Lx.isNm ((tl s).drop i) = n) (hs : s.size ≤ 65536) (hi : i ≤ s.size) :
    Calls Try.prog 26 #[.string s, .int .i64 x, .bool false] w fun e w' => e = .returned (.int .i64 (x + n)) ∧ Below w.heap.size w w' := by
  subst hx
  have HN := Lib.hid hn
  clear hn
  go_enter Try.func26, Try.ntmps26
  go_wp2
  go_loopw [1] (WhRel Lx.isNm s i w) (fun v _ => s.size - (intOf v).toNat)
  case atStart => exact WhRel.start hi
  case round =>
    obtain ⟨k, hk, rfl, he, hb⟩ := hrel
    have HE := Lib.hid he
    clear he
    by_cases hlt : k < s.size
    · cases hp : Lx.isNm s[k] with
      | true =>
        have HP := Lib.hid hp
        go_wp2_with fail
        refine (rin_any s[k] true _ HP.out).mono ?_
        rintro e w1 ⟨rfl, rfl⟩
        go_wp2_with fail
        go_roundw
        case rel => exact WhRel.next hlt HP.out HE.out hb
        case measure => simp [intOf]; omega
      | false =>
        have HP := Lib.hid hp
        go_wp2_with fail
        refine (rin_any s[k] false _ HP.out).mono ?_
        rintro e w1 ⟨rfl, rfl⟩
        go_wp2_with fail
        go_ret
        exact ⟨ret_int (by have h1 := HE.out; rw [HN.out, wh_stop hlt HP.out] at h1; omega), hb⟩
    · go_wp2_with fail
      go_ret
      exact ⟨ret_int (by have h1 := HE.out; rw [HN.out, wh_end hlt] at h1; omega), hb⟩
theorem run_wd (s : ByteArray) (x : Int) (i n : Nat) (w : World) (hx : x = i) (hn : Lx.sp Lx.isWd ((tl s).drop i) = n) (hs : s.size ≤ 65536) (hi : i ≤ s.size) :
    Calls Try.prog 26 #[.string s, .int .i64 x, .bool true] w fun e w' => e = .returned (.int .i64 (x + n)) ∧ Below w.heap.size w w' := by
  subst hx
  have HN := Lib.hid hn
  clear hn
  go_enter Try.func26, Try.ntmps26
  go_wp2
  go_loopw [1] (WhRel Lx.isWd s i w) (fun v _ => s.size - (intOf v).toNat)
  case atStart => exact WhRel.start hi
  case round =>
    obtain ⟨k, hk, rfl, he, hb⟩ := hrel
    have HE := Lib.hid he
    clear he
    by_cases hlt : k < s.size
    · have h6 := s[k].toNat_lt
      cases hp : Lx.isNm s[k] with
      | true =>
        have HP := Lib.hid hp
        have HW := Lib.hid (show Lx.isWd s[k] = true by rw [wd_split, hp]; rfl)
        clear hp
        go_wp2_with fail
        refine (rin_any s[k] true _ HP.out).mono ?_
        rintro e w1 ⟨rfl, rfl⟩
        go_wp2_with fail
        go_roundw
        case rel => exact WhRel.next hlt HW.out HE.out hb
        case measure => simp [intOf]; omega
      | false =>
        have HP := Lib.hid hp
        by_cases h45 : s[k].toNat = 45
        · have HW := Lib.hid (show Lx.isWd s[k] = true by rw [wd_split, hp]; simp [h45])
          have n45 : ((s[k].toNat : Int) == 45) = true := by simp; omega
          clear hp h45
          go_wp2_with fail
          refine (rin_any s[k] false _ HP.out).mono ?_
          rintro e w1 ⟨rfl, rfl⟩
          go_wp2_with fail
          go_roundw
          case rel => exact WhRel.next hlt HW.out HE.out hb
          case measure => simp [intOf]; omega
        · have HW := Lib.hid (show Lx.isWd s[k] = false by rw [wd_split, hp]; simp [h45])
          have n45 : ((s[k].toNat : Int) == 45) = false := by simp; omega
          clear hp h45
          go_wp2_with fail
          refine (rin_any s[k] false _ HP.out).mono ?_
          rintro e w1 ⟨rfl, rfl⟩
          go_wp2_with fail
          go_ret
          exact ⟨ret_int (by have h1 := HE.out; rw [HN.out, wh_stop hlt HW.out] at h1; omega), hb⟩
    · go_wp2_with fail
      go_ret
      exact ⟨ret_int (by have h1 := HE.out; rw [HN.out, wh_end hlt] at h1; omega), hb⟩
end Go.Proofs.Ytbepmakohjpioaa
