import Derived.Test.YtogmhaihmkcjgaaGreatDoorLxK2
/-
  dominoref40: letter, digit, inName, run, word.
-/
namespace Go.Proofs.YtogmhaihmkcjgaaGreatDoor
open Go.RowKit
set_option linter.unusedVariables false

theorem let_nat (c : UInt8) : Lx.isLet c = decide ((97 ≤ c.toNat ∧ c.toNat ≤ 122) ∨ (65 ≤ c.toNat ∧ c.toNat ≤ 90)) := by
  simpa using all_bytes (fun c => Lx.isLet c == decide ((97 ≤ c.toNat ∧ c.toNat ≤ 122) ∨ (65 ≤ c.toNat ∧ c.toNat ≤ 90))) (by decide +kernel) c
theorem dig_nat (c : UInt8) : Lx.isDig c = decide (48 ≤ c.toNat ∧ c.toNat ≤ 57) := by
  simpa using all_bytes (fun c => Lx.isDig c == decide (48 ≤ c.toNat ∧ c.toNat ≤ 57)) (by decide +kernel) c
theorem nm_split (c : UInt8) : Lx.isNm c = (Lx.isLet c || Lx.isDig c || decide (c.toNat = 95)) := by
  simpa using all_bytes (fun c => Lx.isNm c == (Lx.isLet c || Lx.isDig c || decide (c.toNat = 95))) (by decide +kernel) c
theorem rlet_any (c : UInt8) (v : Bool) (w : World) (hv : Lx.isLet c = v) : Calls Tryz.prog 150 #[.int .u8 (c.toNat : Int)] w fun e w' => e = .returned (.bool v) ∧ w = w' := by
  have hc := c.toNat_lt
  rw [let_nat] at hv
  subst hv
  generalize c.toNat = n at *
  go_enter Tryz.func150, Tryz.ntmps150
  go_wp2
  all_goals
    go_ret
    refine ⟨ret_bool ?_, rfl⟩
    first | (symm; rw [decide_eq_true_iff]; omega) | (symm; rw [decide_eq_false_iff_not]; omega) | (rw [Bool.eq_iff_iff]; simp; omega)
theorem rdig_any (c : UInt8) (v : Bool) (w : World) (hv : Lx.isDig c = v) : Calls Tryz.prog 153 #[.int .u8 (c.toNat : Int)] w fun e w' => e = .returned (.bool v) ∧ w = w' := by
  have hc := c.toNat_lt
  rw [dig_nat] at hv
  subst hv
  generalize c.toNat = n at *
  go_enter Tryz.func153, Tryz.ntmps153
  go_wp2
  all_goals
    go_ret
    refine ⟨ret_bool ?_, rfl⟩
    first | (symm; rw [decide_eq_true_iff]; omega) | (symm; rw [decide_eq_false_iff_not]; omega) | (rw [Bool.eq_iff_iff]; simp; omega)
theorem rin_any (c : UInt8) (v : Bool) (w : World) (hv : Lx.isNm c = v) : Calls Tryz.prog 224 #[.int .u8 (c.toNat : Int)] w fun e w' => e = .returned (.bool v) ∧ w = w' := by
  have hc := c.toNat_lt
  rw [nm_split] at hv
  cases h1 : Lx.isLet c with
  | true =>
    rw [h1] at hv
    subst hv
    go_enter Tryz.func224, Tryz.ntmps224
    go_wp2_with fail
    refine (rlet_any c true _ h1).mono ?_
    rintro e w1 ⟨rfl, rfl⟩
    go_wp2_with fail
    go_ret
    exact ⟨rfl, rfl⟩
  | false =>
    rw [h1] at hv
    cases h2 : Lx.isDig c with
    | true =>
      rw [h2] at hv
      subst hv
      go_enter Tryz.func224, Tryz.ntmps224
      go_wp2_with fail
      refine (rlet_any c false _ h1).mono ?_
      rintro e w1 ⟨rfl, rfl⟩
      go_wp2_with fail
      refine (rdig_any c true _ h2).mono ?_
      rintro e w1 ⟨rfl, rfl⟩
      go_wp2_with fail
      go_ret
      exact ⟨rfl, rfl⟩
    | false =>
      rw [h2] at hv
      subst hv
      go_enter Tryz.func224, Tryz.ntmps224
      go_wp2_with fail
      refine (rlet_any c false _ h1).mono ?_
      rintro e w1 ⟨rfl, rfl⟩
      go_wp2_with fail
      refine (rdig_any c false _ h2).mono ?_
      rintro e w1 ⟨rfl, rfl⟩
      go_wp2_with fail
      go_ret
      exact ⟨ret_bool (by rw [Bool.eq_iff_iff]; simp; omega), rfl⟩
theorem wd_split (c : UInt8) : Lx.isWd c = (Lx.isNm c || decide (c.toNat = 45)) := by
  simpa using all_bytes (fun c => Lx.isWd c == (Lx.isNm c || decide (c.toNat = 45))) (by decide +kernel) c
theorem WhRel.world {p : UInt8 → Bool} {s : ByteArray} {i : Nat} {w W : World} {v : Value} (h : WhRel p s i w v W) : Below w.heap.size w W := by
  obtain ⟨k, _, _, _, h⟩ := h; exact h
theorem run_nm (s : ByteArray) (x : Int) (i n : Nat) (w : World) (hx : x = i) (hn : Lx.sp Lx.isNm ((tl s).drop i) = n) (hs : s.size ≤ 65536) (hi : i ≤ s.size) :
    Calls Tryz.prog 151 #[.string s, .int .i64 x, .bool false] w fun e w' => e = .returned (.int .i64 (x + n)) ∧ Below w.heap.size w w' := by
  subst hx
  have HN := Lib.hid hn
  clear hn
  go_enter Tryz.func151, Tryz.ntmps151
  go_wp2
  go_loopw [1] (WhRel Lx.isNm s i w) (fun v _ => s.size - (intOf v).toNat)
  case atStart => exact WhRel.start hi
  case round =>
    obtain ⟨k, hk, rfl, he, hb⟩ := hrel
    have HE := Lib.hid he
    clear he
    by_cases hlt : k < s.size
    · cases hp : Lx.isNm s[k] with
      | true =>
        have HP := Lib.hid hp
        go_wp2_with fail
        refine (rin_any s[k] true _ HP.out).mono ?_
        rintro e w1 ⟨rfl, rfl⟩
        go_wp2_with fail
        go_roundw
        case rel => exact WhRel.next hlt HP.out HE.out hb
        case measure => simp [intOf]; omega
      | false =>
        have HP := Lib.hid hp
        go_wp2_with fail
        refine (rin_any s[k] false _ HP.out).mono ?_
        rintro e w1 ⟨rfl, rfl⟩
        go_wp2_with fail
        go_ret
        exact ⟨ret_int (by have h1 := HE.out; rw [HN.out, wh_stop hlt HP.out] at h1; omega), hb⟩
    · go_wp2_with fail
      go_ret
      exact ⟨ret_int (by have h1 := HE.out; rw [HN.out, wh_end hlt] at h1; omega), hb⟩
theorem run_wd (s : ByteArray) (x : Int) (i n : Nat) (w : World) (hx : x = i) (hn : Lx.sp Lx.isWd ((tl s).drop i) = n) (hs : s.size ≤ 65536) (hi : i ≤ s.size) :
    Calls Tryz.prog 151 #[.string s, .int .i64 x, .bool true] w fun e w' => e = .returned (.int .i64 (x + n)) ∧ Below w.heap.size w w' := by
  subst hx
  have HN := Lib.hid hn
  clear hn
  go_enter Tryz.func151, Tryz.ntmps151
  go_wp2
  go_loopw [1] (WhRel Lx.isWd s i w) (fun v _ => s.size - (intOf v).toNat)
  case atStart => exact WhRel.start hi
  case round =>
    obtain ⟨k, hk, rfl, he, hb⟩ := hrel
    have HE := Lib.hid he
    clear he
    by_cases hlt : k < s.size
    · have h6 := s[k].toNat_lt
      cases hp : Lx.isNm s[k] with
      | true =>
        have HP := Lib.hid hp
        have HW := Lib.hid (show Lx.isWd s[k] = true by rw [wd_split, hp]; rfl)
        clear hp
        go_wp2_with fail
        refine (rin_any s[k] true _ HP.out).mono ?_
        rintro e w1 ⟨rfl, rfl⟩
        go_wp2_with fail
        go_roundw
        case rel => exact WhRel.next hlt HW.out HE.out hb
        case measure => simp [intOf]; omega
      | false =>
        have HP := Lib.hid hp
        by_cases h45 : s[k].toNat = 45
        · have HW := Lib.hid (show Lx.isWd s[k] = true by rw [wd_split, hp]; simp [h45])
          have n45 : ((s[k].toNat : Int) == 45) = true := by simp; omega
          clear hp h45
          go_wp2_with fail
          refine (rin_any s[k] false _ HP.out).mono ?_
          rintro e w1 ⟨rfl, rfl⟩
          go_wp2_with fail
          go_roundw
          case rel => exact WhRel.next hlt HW.out HE.out hb
          case measure => simp [intOf]; omega
        · have HW := Lib.hid (show Lx.isWd s[k] = false by rw [wd_split, hp]; simp [h45])
          have n45 : ((s[k].toNat : Int) == 45) = false := by simp; omega
          clear hp h45
          go_wp2_with fail
          refine (rin_any s[k] false _ HP.out).mono ?_
          rintro e w1 ⟨rfl, rfl⟩
          go_wp2_with fail
          go_ret
          exact ⟨ret_int (by have h1 := HE.out; rw [HN.out, wh_stop hlt HW.out] at h1; omega), hb⟩
    · go_wp2_with fail
      go_ret
      exact ⟨ret_int (by have h1 := HE.out; rw [HN.out, wh_end hlt] at h1; omega), hb⟩
end Go.Proofs.YtogmhaihmkcjgaaGreatDoor

/-
  dominoref40: word, number.
-/
namespace Go.Proofs.YtogmhaihmkcjgaaGreatDoor
open Go.RowKit
set_option linter.unusedVariables false

section
variable (s : ByteArray) (a n : Nat) (w : World) (hs : s.size ≤ 65536) (ha : a < s.size)
include hs ha
theorem rword_long (hn : Hid (Lx.sp Lx.isWd ((tl s).drop (a + 1)) = n)) (h32 : 32 < n) : Calls Tryz.prog 155 #[.string s, .int .i64 (a : Int)] w fun e w' => e = .returned (t3 0 a 5) ∧ Below w.heap.size w w' := by
  have hfit := sp_fit hn.out (show a + 1 ≤ s.size by omega)
  go_enter Tryz.func155, Tryz.ntmps155
  go_wp2_with fail
  refine (run_wd s _ (a + 1) n _ (by simp) hn.out hs (by omega)).mono ?_
  rintro e w1 ⟨rfl, hb1⟩
  go_wp2_with fail
  go_ret3
  exact ⟨rfl, hb1⟩
theorem rword_empty (hn : Hid (Lx.sp Lx.isWd ((tl s).drop (a + 1)) = 0)) : Calls Tryz.prog 155 #[.string s, .int .i64 (a : Int)] w fun e w' => e = .returned (t3 0 a 4) ∧ Below w.heap.size w w' := by
  go_enter Tryz.func155, Tryz.ntmps155
  go_wp2_with fail
  refine (run_wd s _ (a + 1) 0 _ (by simp) hn.out hs (by omega)).mono ?_
  rintro e w1 ⟨rfl, hb1⟩
  go_wp2_with fail
  go_ret3
  exact ⟨rfl, hb1⟩
theorem rword_end (hn : Hid (Lx.sp Lx.isWd ((tl s).drop (a + 1)) = n)) (h32 : n ≤ 32) (h0 : 0 < n) (he : Hid (a + 1 + n = s.size)) : Calls Tryz.prog 155 #[.string s, .int .i64 (a : Int)] w fun e w' => e = .returned (t3 0 a 4) ∧ Below w.heap.size w w' := by
  have e1 : (((a : Int) + 1 + n) == ((a : Int) + 1)) = false := by simp; omega
  have e2 : decide ((s.size : Int) ≤ (a : Int) + 1 + n) = true := by have := he.out; simp; omega
  have hfit := sp_fit hn.out (show a + 1 ≤ s.size by omega)
  go_enter Tryz.func155, Tryz.ntmps155
  go_wp2_with fail
  refine (run_wd s _ (a + 1) n _ (by simp) hn.out hs (by omega)).mono ?_
  rintro e w1 ⟨rfl, hb1⟩
  go_wp2_with fail
  go_ret3
  exact ⟨rfl, hb1⟩
theorem rword_open (hn : Hid (Lx.sp Lx.isWd ((tl s).drop (a + 1)) = n)) (h32 : n ≤ 32) (h0 : 0 < n) (he : a + 1 + n < s.size) (hq : (s[a + 1 + n] == 39) = false) : Calls Tryz.prog 155 #[.string s, .int .i64 (a : Int)] w fun e w' => e = .returned (t3 0 a 4) ∧ Below w.heap.size w w' := by
  have e1 : (((a : Int) + 1 + n) == ((a : Int) + 1)) = false := by simp; omega
  have hq2 : ((s[a + 1 + n].toNat : Int) != 39) = true := by simp at hq ⊢; intro h8; exact hq (UInt8.toNat_inj.1 (by have h9 : (39 : UInt8).toNat = 39 := rfl; omega))
  clear hq
  go_enter Tryz.func155, Tryz.ntmps155
  go_wp2_with fail
  refine (run_wd s _ (a + 1) n _ (by simp) hn.out hs (by omega)).mono ?_
  rintro e w1 ⟨rfl, hb1⟩
  go_wp2_with fail
  go_ret3
  exact ⟨rfl, hb1⟩
theorem rword_ok (hn : Hid (Lx.sp Lx.isWd ((tl s).drop (a + 1)) = n)) (h32 : n ≤ 32) (h0 : 0 < n) (he : a + 1 + n < s.size) (hq : (s[a + 1 + n] == 39) = true) : Calls Tryz.prog 155 #[.string s, .int .i64 (a : Int)] w fun e w' => e = .returned (t3 ((a : Int) + 1 + n + 1) 0 0) ∧ Below w.heap.size w w' := by
  have e1 : (((a : Int) + 1 + n) == ((a : Int) + 1)) = false := by simp; omega
  have hq2 : ((s[a + 1 + n].toNat : Int) != 39) = false := by simp at hq ⊢; rw [hq]; rfl
  clear hq
  go_enter Tryz.func155, Tryz.ntmps155
  go_wp2_with fail
  refine (run_wd s _ (a + 1) n _ (by simp) hn.out hs (by omega)).mono ?_
  rintro e w1 ⟨rfl, hb1⟩
  go_wp2_with fail
  go_ret3
  exact ⟨rfl, hb1⟩
end
/-- number: the loop over digits from b on -/
def RnRel (s : ByteArray) (b : Nat) (w : World) (i n lg : Value) (W : World) : Prop := ∃ k : Nat, b + k ≤ s.size ∧ k ≤ Lx.sp Lx.isDig ((tl s).drop b) ∧ i = .int .i64 (((b + k : Nat)) : Int) ∧ n = .int .i64 ((min (Lx.dv (((tl s).drop b).take k)) 2147483648 : Nat) : Int) ∧ lg = .bool (decide (2147483648 < Lx.dv (((tl s).drop b).take k))) ∧ W = w
theorem dv_step (s : ByteArray) (b k : Nat) (h : b + k < s.size) : Lx.dv (((tl s).drop b).take (k + 1)) = 10 * Lx.dv (((tl s).drop b).take k) + (s[b + k].toNat - 48) := by
  have hl : k < ((tl s).drop b).length := by rw [List.length_drop, length_tl]; omega
  rw [List.take_succ_eq_append_getElem hl, Lx.dv_snoc, List.getElem_drop, tl_getElem s _ h]
theorem sp_more (s : ByteArray) (b k : Nat) (h : b + k < s.size) (hk : k ≤ Lx.sp Lx.isDig ((tl s).drop b)) : (Lx.isDig s[b + k] = true ↔ k < Lx.sp Lx.isDig ((tl s).drop b)) := by
  have hl : k < ((tl s).drop b).length := by rw [List.length_drop, length_tl]; omega
  have e : ((tl s).drop b)[k] = s[b + k] := by rw [List.getElem_drop, tl_getElem s _ h]
  constructor
  · intro hd
    rcases Nat.lt_or_ge k (Lx.sp Lx.isDig ((tl s).drop b)) with h1 | h1
    · exact h1
    · have h2 : k = Lx.sp Lx.isDig ((tl s).drop b) := by omega
      have h3 := Lx.sp_end (p := Lx.isDig) (l := (tl s).drop b) (by rw [← h2]; exact hl)
      simp only [← h2] at h3
      rw [e, hd] at h3
      cases h3
  · intro h1
    have h3 := Lx.sp_all (p := Lx.isDig) (l := (tl s).drop b) k h1 hl
    rw [e] at h3
    exact h3
end Go.Proofs.YtogmhaihmkcjgaaGreatDoor

/-
  dominoref40: number.
-/
namespace Go.Proofs.YtogmhaihmkcjgaaGreatDoor
open Go.RowKit
set_option linter.unusedVariables false

theorem lu_split (c : UInt8) : Lx.isLU c = (Lx.isLet c || decide (c.toNat = 95)) := by
  simpa using all_bytes (fun c => Lx.isLU c == (Lx.isLet c || decide (c.toNat = 95))) (by decide +kernel) c
theorem sp_more' (s : ByteArray) (b k c : Nat) (hc : c = b + k) (h : c < s.size) (hk : k ≤ Lx.sp Lx.isDig ((tl s).drop b)) : (Lx.isDig s[c] = true ↔ k < Lx.sp Lx.isDig ((tl s).drop b)) := by subst hc; exact sp_more s b k h hk
theorem dv_step' (s : ByteArray) (b k c : Nat) (hc : c = b + k) (h : c < s.size) : Lx.dv (((tl s).drop b).take (k + 1)) = 10 * Lx.dv (((tl s).drop b).take k) + (s[c].toNat - 48) := by subst hc; exact dv_step s b k h
def Rn2 (s : ByteArray) (b : Nat) (w : World) (i n lg : Value) (W : World) : Prop := ∃ k c : Nat, Hid (c = b + k) ∧ c ≤ s.size ∧ k ≤ Lx.sp Lx.isDig ((tl s).drop b) ∧ i = .int .i64 (c : Int) ∧ n = .int .i64 ((min (Lx.dv (((tl s).drop b).take k)) 2147483648 : Nat) : Int) ∧ lg = .bool (decide (2147483648 < Lx.dv (((tl s).drop b).take k))) ∧ W = w
/-- what number returns behind the digits: v their value, m behind them -/
def numEnd (bad : Bool) (lu : Bool) (a m : Nat) : Value := if bad then t3 0 a 2 else if lu then t3 0 m 4 else t3 m 0 0
theorem rnum_none_p (s : ByteArray) (a : Nat) (w : World) (hs : s.size ≤ 65536) (ha : a < s.size) (hc : (s[a] == 45) = false) (hn : Hid (Lx.sp Lx.isDig ((tl s).drop a) = 0)) : Calls Tryz.prog 154 #[.string s, .int .i64 (a : Int)] w fun e w' => e = .returned (t3 0 a 4) ∧ Below w.heap.size w w' := by
  have h6 := s[a].toNat_lt
  have h7 : ((s[a].toNat : Int) == 45) = false := by simp at hc ⊢; intro h8; exact hc (UInt8.toNat_inj.1 (by have h9 : (45 : UInt8).toNat = 45 := rfl; omega))
  have h7' : ((s[a].toNat : Int) != 45) = true := by simp at hc ⊢; intro h8; exact hc (UInt8.toNat_inj.1 (by have h9 : (45 : UInt8).toNat = 45 := rfl; omega))
  clear hc
  have hd : Hid (Lx.isDig s[a] = false) := Lib.hid (by
    cases h : Lx.isDig s[a] with
    | false => rfl
    | true => have := (sp_more s a 0 (by omega) (Nat.zero_le _)).1 h; rw [hn.out] at this; omega)
  go_enter Tryz.func154, Tryz.ntmps154
  go_wp2_with fail
  refine (rdig_any s[a] false _ hd.out).mono ?_
  rintro e w1 ⟨rfl, rfl⟩
  go_wp2_with fail
  go_ret3
  exact ⟨rfl, Below.refl _ _⟩
set_option maxHeartbeats 1000000 in
theorem rnum_p (s : ByteArray) (a n : Nat) (w : World) (hs : s.size ≤ 65536) (ha : a < s.size) (hc : (s[a] == 45) = false) (hn : Hid (Lx.sp Lx.isDig ((tl s).drop a) = n)) (h0 : 0 < n) (lu : Bool) (hlu : Hid (Lx.luAt ((tl s).drop (a + n)) = lu)) (res : Value) (hres : Hid (numEnd (decide (2147483647 < Lx.dv (((tl s).drop a).take n))) lu a (a + n) = res)) :
    Calls Tryz.prog 154 #[.string s, .int .i64 (a : Int)] w fun e w' => e = .returned res ∧ Below w.heap.size w w' := by
  have hfit := sp_fit hn.out (show a ≤ s.size by omega)
  have h6 := s[a].toNat_lt
  have h7 : ((s[a].toNat : Int) == 45) = false := by simp at hc ⊢; intro h8; exact hc (UInt8.toNat_inj.1 (by have h9 : (45 : UInt8).toNat = 45 := rfl; omega))
  have h7' : ((s[a].toNat : Int) != 45) = true := by simp at hc ⊢; intro h8; exact hc (UInt8.toNat_inj.1 (by have h9 : (45 : UInt8).toNat = 45 := rfl; omega))
  clear hc
  have hd : Hid (Lx.isDig s[a] = true) := Lib.hid ((sp_more s a 0 (by omega) (Nat.zero_le _)).2 (by rw [hn.out]; exact h0))
  have q1 : decide ((s.size : Int) ≤ (a : Int)) = false := by simp; omega
  have q2 : decide (s.size ≤ a) = false := by simp; omega
  go_enter Tryz.func154, Tryz.ntmps154
  go_wp2_with fail
  refine (rdig_any s[a] true _ hd.out).mono ?_
  rintro e w1 ⟨rfl, rfl⟩
  go_wp2_with fail
  go_loopw [7, 8, 9] (Rn2 s a w) (fun i _ _ _ => s.size - (intOf i).toNat)
  case atStart => exact ⟨0, a, Lib.hid rfl, by omega, Nat.zero_le _, val_int (by simp), rfl, rfl, rfl⟩
  case round =>
    obtain ⟨k, c, HC, hk, hkn, rfl, rfl, rfl, rfl⟩ := hrel
    rw [hn.out] at hkn
    by_cases hlt : k < n
    · have hcs : c < s.size := by have := HC.out; omega
      have hdk := Lib.hid ((sp_more' s a k c HC.out hcs (by rw [hn.out]; exact hkn)).2 (by rw [hn.out]; exact hlt))
      have hrg := dig_range hdk.out
      have hst := Lib.hid (dv_step' s a k c HC.out hcs)
      generalize Lx.dv (((tl s).drop a).take k) = V at *
      by_cases hV : V ≤ 2147483648
      · have hmn : min V 2147483648 = V := Nat.min_eq_left hV
        rw [hmn]
        have hdf : decide (2147483648 < V) = false := by simp; omega
        rw [hdf]
        clear hmn hdf
        by_cases hbig : 2147483648 < 10 * V + (s[c].toNat - 48)
        · have hbg : decide ((2147483648 : Int) < 10 * (V : Int) + ((s[c].toNat : Int) - 48)) = true := by simp; omega
          go_wp2_with fail
          refine (rdig_any s[c] true _ hdk.out).mono ?_
          rintro e w1 ⟨rfl, rfl⟩
          go_wp2_with fail
          go_roundw
          case rel => exact ⟨k + 1, c + 1, Lib.hid (by have := HC.out; omega), by omega, by rw [hn.out]; omega, by simp, val_int (by rw [hst.out, Nat.min_eq_right (by omega)]; rfl), val_bool (by rw [hst.out]; symm; rw [decide_eq_true_iff]; exact hbig), rfl⟩
          case measure => simp [intOf]; omega
        · have hbg : decide ((2147483648 : Int) < 10 * (V : Int) + ((s[c].toNat : Int) - 48)) = false := by simp; omega
          go_wp2_with fail
          refine (rdig_any s[c] true _ hdk.out).mono ?_
          rintro e w1 ⟨rfl, rfl⟩
          go_wp2_with fail
          go_roundw
          case rel => exact ⟨k + 1, c + 1, Lib.hid (by have := HC.out; omega), by omega, by rw [hn.out]; omega, by simp, val_int (by rw [hst.out, Nat.min_eq_left (by omega)]; omega), val_bool (by rw [hst.out]; symm; rw [decide_eq_false_iff_not]; exact hbig), rfl⟩
          case measure => simp [intOf]; omega
      · have hmn : min V 2147483648 = 2147483648 := Nat.min_eq_right (by omega)
        rw [hmn]
        have hdf : decide (2147483648 < V) = true := by simp; omega
        rw [hdf, show ((2147483648 : Nat) : Int) = 2147483648 from rfl]
        clear hmn hdf
        go_wp2_with fail
        refine (rdig_any s[c] true _ hdk.out).mono ?_
        rintro e w1 ⟨rfl, rfl⟩
        go_wp2_with fail
        go_roundw
        case rel => exact ⟨k + 1, c + 1, Lib.hid (by have := HC.out; omega), by omega, by rw [hn.out]; omega, by simp, val_int (by rw [hst.out, Nat.min_eq_right (by omega)]; rfl), val_bool (by rw [hst.out]; symm; rw [decide_eq_true_iff]; omega), rfl⟩
        case measure => simp [intOf]; omega
    · have hkk : k = n := by omega
      subst hkk
      have hlu2 : Hid (Lx.luAt ((tl s).drop c) = lu) := Lib.hid (by rw [HC.out]; exact hlu.out)
      generalize Lx.dv (((tl s).drop a).take k) = V at *
      have hout : Hid (∀ h : c < s.size, Lx.isDig s[c] = false) := Lib.hid (fun h => by
        cases h5 : Lx.isDig s[c] with
        | false => rfl
        | true => have := (sp_more' s a k c HC.out h (by rw [hn.out]; omega)).1 h5; rw [hn.out] at this; omega)
      by_cases hbad : 2147483647 < V
      · have hR := Lib.hid (show res = t3 0 a 2 by rw [← hres.out, numEnd, decide_eq_true hbad, if_pos rfl])
        by_cases hV : V ≤ 2147483648
        · have hV2 : V = 2147483648 := by omega
          have hmn : min V 2147483648 = 2147483648 := by rw [hV2]; rfl
          rw [hmn]
          have hdf : decide (2147483648 < V) = false := by simp; omega
          rw [hdf, show ((2147483648 : Nat) : Int) = 2147483648 from rfl]
          clear hmn hdf hV2
          by_cases hcs : c < s.size
          · go_wp2_with fail
            refine (rdig_any s[c] false _ (hout.out hcs)).mono ?_
            rintro e w1 ⟨rfl, rfl⟩
            go_wp2_with fail
            go_ret3
            exact ⟨ret_val (by rw [hR.out]; rfl), Below.refl _ _⟩
          · go_wp2_with fail
            go_ret3
            exact ⟨ret_val (by rw [hR.out]; rfl), Below.refl _ _⟩
        · have hmn : min V 2147483648 = 2147483648 := Nat.min_eq_right (by omega)
          rw [hmn]
          have hdf : decide (2147483648 < V) = true := by simp; omega
          rw [hdf, show ((2147483648 : Nat) : Int) = 2147483648 from rfl]
          clear hmn hdf
          by_cases hcs : c < s.size
          · go_wp2_with fail
            refine (rdig_any s[c] false _ (hout.out hcs)).mono ?_
            rintro e w1 ⟨rfl, rfl⟩
            go_wp2_with fail
            go_ret3
            exact ⟨ret_val (by rw [hR.out]; rfl), Below.refl _ _⟩
          · go_wp2_with fail
            go_ret3
            exact ⟨ret_val (by rw [hR.out]; rfl), Below.refl _ _⟩
      · have hR := Lib.hid (show res = if lu then t3 0 c 4 else t3 c 0 0 by rw [← hres.out, numEnd, decide_eq_false hbad, if_neg (by decide), ← HC.out])
        have hmn : min V 2147483648 = V := Nat.min_eq_left (by omega)
        rw [hmn]
        have hdf : decide (2147483648 < V) = false := by simp; omega
        rw [hdf]
        have hv0 : ((V : Int) == 2147483648) = false := by simp; omega
        clear hmn hdf
        by_cases hcs : c < s.size
        · have hlc : lu = Lx.isLU s[c] := by rw [← hlu2.out, drop_cons s hcs]; rfl
          rw [lu_split] at hlc
          have hc6 := s[c].toNat_lt
          cases hl1 : Lx.isLet s[c] with
          | true =>
            rw [hl1] at hlc
            subst hlc
            go_wp2_with fail
            refine (rdig_any s[c] false _ (hout.out hcs)).mono ?_
            rintro e w1 ⟨rfl, rfl⟩
            go_wp2_with fail
            refine (rlet_any s[c] true _ hl1).mono ?_
            rintro e w1 ⟨rfl, rfl⟩
            go_wp2_with fail
            go_ret3
            exact ⟨ret_val (by rw [hR.out]; rfl), Below.refl _ _⟩
          | false =>
            rw [hl1] at hlc
            by_cases h95 : s[c].toNat = 95
            · have n95 : ((s[c].toNat : Int) == 95) = true := by simp; omega
              have hl2 : lu = true := by rw [hlc]; simp [h95]
              subst hl2
              clear hlc h95
              go_wp2_with fail
              refine (rdig_any s[c] false _ (hout.out hcs)).mono ?_
              rintro e w1 ⟨rfl, rfl⟩
              go_wp2_with fail
              refine (rlet_any s[c] false _ hl1).mono ?_
              rintro e w1 ⟨rfl, rfl⟩
              go_wp2_with fail
              go_ret3
              exact ⟨ret_val (by rw [hR.out]; rfl), Below.refl _ _⟩
            · have n95 : ((s[c].toNat : Int) == 95) = false := by simp; omega
              have hl2 : lu = false := by rw [hlc]; simp [h95]
              subst hl2
              clear hlc h95
              go_wp2_with fail
              refine (rdig_any s[c] false _ (hout.out hcs)).mono ?_
              rintro e w1 ⟨rfl, rfl⟩
              go_wp2_with fail
              refine (rlet_any s[c] false _ hl1).mono ?_
              rintro e w1 ⟨rfl, rfl⟩
              go_wp2_with fail
              go_ret3
              exact ⟨ret_val (by rw [hR.out]; rfl), Below.refl _ _⟩
        · have hl2 : lu = false := by rw [← hlu2.out, List.drop_eq_nil_of_le (by rw [length_tl]; omega)]; rfl
          subst hl2
          go_wp2_with fail
          go_ret3
          exact ⟨ret_val (by rw [hR.out]; rfl), Below.refl _ _⟩
theorem rnum_none_m (s : ByteArray) (a : Nat) (w : World) (hs : s.size ≤ 65536) (ha : a < s.size) (hc : (s[a] == 45) = true) (hn : Hid (Lx.sp Lx.isDig ((tl s).drop (a + 1)) = 0)) : Calls Tryz.prog 154 #[.string s, .int .i64 (a : Int)] w fun e w' => e = .returned (t3 0 a 4) ∧ Below w.heap.size w w' := by
  have h6 := s[a].toNat_lt
  have h7 : ((s[a].toNat : Int) == 45) = true := by simp at hc ⊢; rw [hc]; rfl
  have h7' : ((s[a].toNat : Int) != 45) = false := by simp at hc ⊢; rw [hc]; rfl
  clear hc
  by_cases hlt : a + 1 < s.size
  · have hd : Hid (Lx.isDig s[a + 1] = false) := Lib.hid (by
      cases h : Lx.isDig s[a + 1] with
      | false => rfl
      | true => have := (sp_more s (a + 1) 0 (by omega) (Nat.zero_le _)).1 h; rw [hn.out] at this; omega)
    go_enter Tryz.func154, Tryz.ntmps154
    go_wp2_with fail
    refine (rdig_any s[a + 1] false _ hd.out).mono ?_
    rintro e w1 ⟨rfl, rfl⟩
    go_wp2_with fail
    go_ret3
    exact ⟨rfl, Below.refl _ _⟩
  · have e2 : decide ((s.size : Int) ≤ (a : Int) + 1) = true := by simp; omega
    go_enter Tryz.func154, Tryz.ntmps154
    go_wp2_with fail
    go_ret3
    exact ⟨rfl, Below.refl _ _⟩
set_option maxHeartbeats 1000000 in
theorem rnum_m (s : ByteArray) (a n : Nat) (w : World) (hs : s.size ≤ 65536) (ha : a < s.size) (hc : (s[a] == 45) = true) (hn : Hid (Lx.sp Lx.isDig ((tl s).drop (a + 1)) = n)) (h0 : 0 < n) (lu : Bool) (hlu : Hid (Lx.luAt ((tl s).drop (a + 1 + n)) = lu)) (res : Value) (hres : Hid (numEnd (decide (2147483648 < Lx.dv (((tl s).drop (a + 1)).take n))) lu a (a + 1 + n) = res)) :
    Calls Tryz.prog 154 #[.string s, .int .i64 (a : Int)] w fun e w' => e = .returned res ∧ Below w.heap.size w w' := by
  have hfit := sp_fit hn.out (show a + 1 ≤ s.size by omega)
  have h6 := s[a].toNat_lt
  have h7 : ((s[a].toNat : Int) == 45) = true := by simp at hc ⊢; rw [hc]; rfl
  have h7' : ((s[a].toNat : Int) != 45) = false := by simp at hc ⊢; rw [hc]; rfl
  clear hc
  have hd : Hid (Lx.isDig s[a + 1] = true) := Lib.hid ((sp_more s (a + 1) 0 (by omega) (Nat.zero_le _)).2 (by rw [hn.out]; exact h0))
  have q1 : decide ((s.size : Int) ≤ (a : Int) + 1) = false := by simp; omega
  go_enter Tryz.func154, Tryz.ntmps154
  go_wp2_with fail
  refine (rdig_any s[a + 1] true _ hd.out).mono ?_
  rintro e w1 ⟨rfl, rfl⟩
  go_wp2_with fail
  go_loopw [7, 8, 9] (Rn2 s (a + 1) w) (fun i _ _ _ => s.size - (intOf i).toNat)
  case atStart => exact ⟨0, (a + 1), Lib.hid rfl, by omega, Nat.zero_le _, val_int (by simp), rfl, rfl, rfl⟩
  case round =>
    obtain ⟨k, c, HC, hk, hkn, rfl, rfl, rfl, rfl⟩ := hrel
    rw [hn.out] at hkn
    by_cases hlt : k < n
    · have hcs : c < s.size := by have := HC.out; omega
      have hdk := Lib.hid ((sp_more' s (a + 1) k c HC.out hcs (by rw [hn.out]; exact hkn)).2 (by rw [hn.out]; exact hlt))
      have hrg := dig_range hdk.out
      have hst := Lib.hid (dv_step' s (a + 1) k c HC.out hcs)
      generalize Lx.dv (((tl s).drop (a + 1)).take k) = V at *
      by_cases hV : V ≤ 2147483648
      · have hmn : min V 2147483648 = V := Nat.min_eq_left hV
        rw [hmn]
        have hdf : decide (2147483648 < V) = false := by simp; omega
        rw [hdf]
        clear hmn hdf
        by_cases hbig : 2147483648 < 10 * V + (s[c].toNat - 48)
        · have hbg : decide ((2147483648 : Int) < 10 * (V : Int) + ((s[c].toNat : Int) - 48)) = true := by simp; omega
          go_wp2_with fail
          refine (rdig_any s[c] true _ hdk.out).mono ?_
          rintro e w1 ⟨rfl, rfl⟩
          go_wp2_with fail
          go_roundw
          case rel => exact ⟨k + 1, c + 1, Lib.hid (by have := HC.out; omega), by omega, by rw [hn.out]; omega, by simp, val_int (by rw [hst.out, Nat.min_eq_right (by omega)]; rfl), val_bool (by rw [hst.out]; symm; rw [decide_eq_true_iff]; exact hbig), rfl⟩
          case measure => simp [intOf]; omega
        · have hbg : decide ((2147483648 : Int) < 10 * (V : Int) + ((s[c].toNat : Int) - 48)) = false := by simp; omega
          go_wp2_with fail
          refine (rdig_any s[c] true _ hdk.out).mono ?_
          rintro e w1 ⟨rfl, rfl⟩
          go_wp2_with fail
          go_roundw
          case rel => exact ⟨k + 1, c + 1, Lib.hid (by have := HC.out; omega), by omega, by rw [hn.out]; omega, by simp, val_int (by rw [hst.out, Nat.min_eq_left (by omega)]; omega), val_bool (by rw [hst.out]; symm; rw [decide_eq_false_iff_not]; exact hbig), rfl⟩
          case measure => simp [intOf]; omega
      · have hmn : min V 2147483648 = 2147483648 := Nat.min_eq_right (by omega)
        rw [hmn]
        have hdf : decide (2147483648 < V) = true := by simp; omega
        rw [hdf, show ((2147483648 : Nat) : Int) = 2147483648 from rfl]
        clear hmn hdf
        go_wp2_with fail
        refine (rdig_any s[c] true _ hdk.out).mono ?_
        rintro e w1 ⟨rfl, rfl⟩
        go_wp2_with fail
        go_roundw
        case rel => exact ⟨k + 1, c + 1, Lib.hid (by have := HC.out; omega), by omega, by rw [hn.out]; omega, by simp, val_int (by rw [hst.out, Nat.min_eq_right (by omega)]; rfl), val_bool (by rw [hst.out]; symm; rw [decide_eq_true_iff]; omega), rfl⟩
        case measure => simp [intOf]; omega
    · have hkk : k = n := by omega
      subst hkk
      have hlu2 : Hid (Lx.luAt ((tl s).drop c) = lu) := Lib.hid (by rw [HC.out]; exact hlu.out)
      generalize Lx.dv (((tl s).drop (a + 1)).take k) = V at *
      have hout : Hid (∀ h : c < s.size, Lx.isDig s[c] = false) := Lib.hid (fun h => by
        cases h5 : Lx.isDig s[c] with
        | false => rfl
        | true => have := (sp_more' s (a + 1) k c HC.out h (by rw [hn.out]; omega)).1 h5; rw [hn.out] at this; omega)
      by_cases hbad : 2147483648 < V
      · have hR := Lib.hid (show res = t3 0 a 2 by rw [← hres.out, numEnd, decide_eq_true hbad, if_pos rfl])
        by_cases hV : V ≤ 2147483648
        · omega
        · have hmn : min V 2147483648 = 2147483648 := Nat.min_eq_right (by omega)
          rw [hmn]
          have hdf : decide (2147483648 < V) = true := by simp; omega
          rw [hdf, show ((2147483648 : Nat) : Int) = 2147483648 from rfl]
          clear hmn hdf
          by_cases hcs : c < s.size
          · go_wp2_with fail
            refine (rdig_any s[c] false _ (hout.out hcs)).mono ?_
            rintro e w1 ⟨rfl, rfl⟩
            go_wp2_with fail
            go_ret3
            exact ⟨ret_val (by rw [hR.out]; rfl), Below.refl _ _⟩
          · go_wp2_with fail
            go_ret3
            exact ⟨ret_val (by rw [hR.out]; rfl), Below.refl _ _⟩
      · have hR := Lib.hid (show res = if lu then t3 0 c 4 else t3 c 0 0 by rw [← hres.out, numEnd, decide_eq_false hbad, if_neg (by decide), ← HC.out])
        have hmn : min V 2147483648 = V := Nat.min_eq_left (by omega)
        rw [hmn]
        have hdf : decide (2147483648 < V) = false := by simp; omega
        rw [hdf]
        have hv1 : ((V : Int) == 2147483648) = true ∨ ((V : Int) == 2147483648) = false := by cases ((V : Int) == 2147483648) <;> simp
        rcases hv1 with hv0 | hv0
        all_goals
          clear hmn hdf
          by_cases hcs : c < s.size
          · have hlc : lu = Lx.isLU s[c] := by rw [← hlu2.out, drop_cons s hcs]; rfl
            rw [lu_split] at hlc
            have hc6 := s[c].toNat_lt
            cases hl1 : Lx.isLet s[c] with
            | true =>
              rw [hl1] at hlc
              subst hlc
              go_wp2_with fail
              refine (rdig_any s[c] false _ (hout.out hcs)).mono ?_
              rintro e w1 ⟨rfl, rfl⟩
              go_wp2_with fail
              refine (rlet_any s[c] true _ hl1).mono ?_
              rintro e w1 ⟨rfl, rfl⟩
              go_wp2_with fail
              go_ret3
              exact ⟨ret_val (by rw [hR.out]; rfl), Below.refl _ _⟩
            | false =>
              rw [hl1] at hlc
              by_cases h95 : s[c].toNat = 95
              · have n95 : ((s[c].toNat : Int) == 95) = true := by simp; omega
                have hl2 : lu = true := by rw [hlc]; simp [h95]
                subst hl2
                clear hlc h95
                go_wp2_with fail
                refine (rdig_any s[c] false _ (hout.out hcs)).mono ?_
                rintro e w1 ⟨rfl, rfl⟩
                go_wp2_with fail
                refine (rlet_any s[c] false _ hl1).mono ?_
                rintro e w1 ⟨rfl, rfl⟩
                go_wp2_with fail
                go_ret3
                exact ⟨ret_val (by rw [hR.out]; rfl), Below.refl _ _⟩
              · have n95 : ((s[c].toNat : Int) == 95) = false := by simp; omega
                have hl2 : lu = false := by rw [hlc]; simp [h95]
                subst hl2
                clear hlc h95
                go_wp2_with fail
                refine (rdig_any s[c] false _ (hout.out hcs)).mono ?_
                rintro e w1 ⟨rfl, rfl⟩
                go_wp2_with fail
                refine (rlet_any s[c] false _ hl1).mono ?_
                rintro e w1 ⟨rfl, rfl⟩
                go_wp2_with fail
                go_ret3
                exact ⟨ret_val (by rw [hR.out]; rfl), Below.refl _ _⟩
          · have hl2 : lu = false := by rw [← hlu2.out, List.drop_eq_nil_of_le (by rw [length_tl]; omega)]; rfl
            subst hl2
            go_wp2_with fail
            go_ret3
            exact ⟨ret_val (by rw [hR.out]; rfl), Below.refl _ _⟩
end Go.Proofs.YtogmhaihmkcjgaaGreatDoor

/-
  dominoref40: sign.
-/
namespace Go.Proofs.YtogmhaihmkcjgaaGreatDoor
open Go.RowKit
set_option linter.unusedVariables false
set_option linter.unusedSimpArgs false

def oneL : List UInt8 := [58, 46, 44, 40, 41, 123, 125, 61, 60, 62]
theorem one_mem (c : UInt8) : Lx.one c = oneL.contains c := by
  simpa using all_bytes (fun c => Lx.one c == oneL.contains c) (by decide +kernel) c
theorem u8_ne {c : UInt8} {n : Nat} (hn : n < 256) (h : c ≠ UInt8.ofNat n) : ((n : Int) == (c.toNat : Int)) = false := by
  rw [beq_eq_false_iff_ne]
  intro h2
  refine h (UInt8.toNat_inj.1 ?_)
  rw [UInt8.toNat_ofNat_of_lt' (by simpa using hn)]
  omega
def RsRel (c : UInt8) (w : World) (i : Value) (W : World) : Prop := ∃ k : Nat, k ≤ 10 ∧ i = .int .i64 (k : Int) ∧ (oneL.take k).contains c = false ∧ W.heap = w.heap ∧ Below w.heap.size w W
set_option maxHeartbeats 2000000 in
theorem rsign_end (s : ByteArray) (a : Nat) (w : World) (hs : s.size ≤ 65536) (ha : a < s.size) (he : Hid (a + 1 = s.size)) (res : Value) (hres : Hid ((.tuple #[.int .i64 (if Lx.one s[a] then (a : Int) + 1 else 0), .bool (Lx.one s[a])] : Value) = res)) :
    Calls Tryz.prog 156 #[.string s, .int .i64 (a : Int)] w fun e w' => e = .returned res ∧ Below w.heap.size w w' := by
  have h6 := s[a].toNat_lt
  have q1 : decide ((a : Int) + 1 < (s.size : Int)) = false := by have := he.out; simp; omega
  go_enter Tryz.func156, Tryz.ntmps156
  go_wp2_with fail
  go_loopw [8] (RsRel s[a] w) (fun i _ => 10 - (intOf i).toNat)
  case atStart => exact ⟨0, by omega, rfl, rfl, rfl, Below.refl _ _⟩
  case round =>
    obtain ⟨k, hk, rfl, hc, hh, hb⟩ := hrel
    have HC := Lib.hid hc
    have HH := Lib.hid hh
    clear hc hh
    have hk' : k = 0 ∨ k = 1 ∨ k = 2 ∨ k = 3 ∨ k = 4 ∨ k = 5 ∨ k = 6 ∨ k = 7 ∨ k = 8 ∨ k = 9 ∨ k = 10 := by omega
    rcases hk' with rfl | rfl | rfl | rfl | rfl | rfl | rfl | rfl | rfl | rfl | rfl
    · clear hk
      by_cases hx : s[a] = 58
      · have hx2 : (((⟨#[58, 46, 44, 40, 41, 123, 125, 61, 60, 62]⟩ : ByteArray)[0].toNat : Int) == (s[a].toNat : Int)) = true := by rw [hx]; rfl
        have H1 := Lib.hid (show Lx.one s[a] = true by rw [hx]; rfl)
        clear hx
        go_wp2_with fail
        go_quiet (fail)
        go_wp2_with fail
        go_ret2
        exact ⟨ret_val (by rw [← hres.out, H1.out]; rfl), bl_drewN hb _⟩
      · have hx2 : (((⟨#[58, 46, 44, 40, 41, 123, 125, 61, 60, 62]⟩ : ByteArray)[0].toNat : Int) == (s[a].toNat : Int)) = false := u8_ne (n := 58) (by decide) hx
        have H1 := Lib.hid (show (oneL.take 1).contains s[a] = false by have := HC.out; simp [oneL] at this ⊢; simp [this, hx])
        clear hx
        go_wp2_with fail
        go_quiet (fail)
        go_wp2_with fail
        go_roundw
        case rel => exact ⟨1, by omega, rfl, H1.out, HH.out, bl_drewN hb _⟩
        case measure => simp [intOf]
    · clear hk
      by_cases hx : s[a] = 46
      · have hx2 : (((⟨#[58, 46, 44, 40, 41, 123, 125, 61, 60, 62]⟩ : ByteArray)[1].toNat : Int) == (s[a].toNat : Int)) = true := by rw [hx]; rfl
        have H1 := Lib.hid (show Lx.one s[a] = true by rw [hx]; rfl)
        clear hx
        go_wp2_with fail
        go_quiet (fail)
        go_wp2_with fail
        go_ret2
        exact ⟨ret_val (by rw [← hres.out, H1.out]; rfl), bl_drewN hb _⟩
      · have hx2 : (((⟨#[58, 46, 44, 40, 41, 123, 125, 61, 60, 62]⟩ : ByteArray)[1].toNat : Int) == (s[a].toNat : Int)) = false := u8_ne (n := 46) (by decide) hx
        have H1 := Lib.hid (show (oneL.take 2).contains s[a] = false by have := HC.out; simp [oneL] at this ⊢; simp [this, hx])
        clear hx
        go_wp2_with fail
        go_quiet (fail)
        go_wp2_with fail
        go_roundw
        case rel => exact ⟨2, by omega, rfl, H1.out, HH.out, bl_drewN hb _⟩
        case measure => simp [intOf]
    · clear hk
      by_cases hx : s[a] = 44
      · have hx2 : (((⟨#[58, 46, 44, 40, 41, 123, 125, 61, 60, 62]⟩ : ByteArray)[2].toNat : Int) == (s[a].toNat : Int)) = true := by rw [hx]; rfl
        have H1 := Lib.hid (show Lx.one s[a] = true by rw [hx]; rfl)
        clear hx
        go_wp2_with fail
        go_quiet (fail)
        go_wp2_with fail
        go_ret2
        exact ⟨ret_val (by rw [← hres.out, H1.out]; rfl), bl_drewN hb _⟩
      · have hx2 : (((⟨#[58, 46, 44, 40, 41, 123, 125, 61, 60, 62]⟩ : ByteArray)[2].toNat : Int) == (s[a].toNat : Int)) = false := u8_ne (n := 44) (by decide) hx
        have H1 := Lib.hid (show (oneL.take 3).contains s[a] = false by have := HC.out; simp [oneL] at this ⊢; simp [this, hx])
        clear hx
        go_wp2_with fail
        go_quiet (fail)
        go_wp2_with fail
        go_roundw
        case rel => exact ⟨3, by omega, rfl, H1.out, HH.out, bl_drewN hb _⟩
        case measure => simp [intOf]
    · clear hk
      by_cases hx : s[a] = 40
      · have hx2 : (((⟨#[58, 46, 44, 40, 41, 123, 125, 61, 60, 62]⟩ : ByteArray)[3].toNat : Int) == (s[a].toNat : Int)) = true := by rw [hx]; rfl
        have H1 := Lib.hid (show Lx.one s[a] = true by rw [hx]; rfl)
        clear hx
        go_wp2_with fail
        go_quiet (fail)
        go_wp2_with fail
        go_ret2
        exact ⟨ret_val (by rw [← hres.out, H1.out]; rfl), bl_drewN hb _⟩
      · have hx2 : (((⟨#[58, 46, 44, 40, 41, 123, 125, 61, 60, 62]⟩ : ByteArray)[3].toNat : Int) == (s[a].toNat : Int)) = false := u8_ne (n := 40) (by decide) hx
        have H1 := Lib.hid (show (oneL.take 4).contains s[a] = false by have := HC.out; simp [oneL] at this ⊢; simp [this, hx])
        clear hx
        go_wp2_with fail
        go_quiet (fail)
        go_wp2_with fail
        go_roundw
        case rel => exact ⟨4, by omega, rfl, H1.out, HH.out, bl_drewN hb _⟩
        case measure => simp [intOf]
    · clear hk
      by_cases hx : s[a] = 41
      · have hx2 : (((⟨#[58, 46, 44, 40, 41, 123, 125, 61, 60, 62]⟩ : ByteArray)[4].toNat : Int) == (s[a].toNat : Int)) = true := by rw [hx]; rfl
        have H1 := Lib.hid (show Lx.one s[a] = true by rw [hx]; rfl)
        clear hx
        go_wp2_with fail
        go_quiet (fail)
        go_wp2_with fail
        go_ret2
        exact ⟨ret_val (by rw [← hres.out, H1.out]; rfl), bl_drewN hb _⟩
      · have hx2 : (((⟨#[58, 46, 44, 40, 41, 123, 125, 61, 60, 62]⟩ : ByteArray)[4].toNat : Int) == (s[a].toNat : Int)) = false := u8_ne (n := 41) (by decide) hx
        have H1 := Lib.hid (show (oneL.take 5).contains s[a] = false by have := HC.out; simp [oneL] at this ⊢; simp [this, hx])
        clear hx
        go_wp2_with fail
        go_quiet (fail)
        go_wp2_with fail
        go_roundw
        case rel => exact ⟨5, by omega, rfl, H1.out, HH.out, bl_drewN hb _⟩
        case measure => simp [intOf]
    · clear hk
      by_cases hx : s[a] = 123
      · have hx2 : (((⟨#[58, 46, 44, 40, 41, 123, 125, 61, 60, 62]⟩ : ByteArray)[5].toNat : Int) == (s[a].toNat : Int)) = true := by rw [hx]; rfl
        have H1 := Lib.hid (show Lx.one s[a] = true by rw [hx]; rfl)
        clear hx
        go_wp2_with fail
        go_quiet (fail)
        go_wp2_with fail
        go_ret2
        exact ⟨ret_val (by rw [← hres.out, H1.out]; rfl), bl_drewN hb _⟩
      · have hx2 : (((⟨#[58, 46, 44, 40, 41, 123, 125, 61, 60, 62]⟩ : ByteArray)[5].toNat : Int) == (s[a].toNat : Int)) = false := u8_ne (n := 123) (by decide) hx
        have H1 := Lib.hid (show (oneL.take 6).contains s[a] = false by have := HC.out; simp [oneL] at this ⊢; simp [this, hx])
        clear hx
        go_wp2_with fail
        go_quiet (fail)
        go_wp2_with fail
        go_roundw
        case rel => exact ⟨6, by omega, rfl, H1.out, HH.out, bl_drewN hb _⟩
        case measure => simp [intOf]
    · clear hk
      by_cases hx : s[a] = 125
      · have hx2 : (((⟨#[58, 46, 44, 40, 41, 123, 125, 61, 60, 62]⟩ : ByteArray)[6].toNat : Int) == (s[a].toNat : Int)) = true := by rw [hx]; rfl
        have H1 := Lib.hid (show Lx.one s[a] = true by rw [hx]; rfl)
        clear hx
        go_wp2_with fail
        go_quiet (fail)
        go_wp2_with fail
        go_ret2
        exact ⟨ret_val (by rw [← hres.out, H1.out]; rfl), bl_drewN hb _⟩
      · have hx2 : (((⟨#[58, 46, 44, 40, 41, 123, 125, 61, 60, 62]⟩ : ByteArray)[6].toNat : Int) == (s[a].toNat : Int)) = false := u8_ne (n := 125) (by decide) hx
        have H1 := Lib.hid (show (oneL.take 7).contains s[a] = false by have := HC.out; simp [oneL] at this ⊢; simp [this, hx])
        clear hx
        go_wp2_with fail
        go_quiet (fail)
        go_wp2_with fail
        go_roundw
        case rel => exact ⟨7, by omega, rfl, H1.out, HH.out, bl_drewN hb _⟩
        case measure => simp [intOf]
    · clear hk
      by_cases hx : s[a] = 61
      · have hx2 : (((⟨#[58, 46, 44, 40, 41, 123, 125, 61, 60, 62]⟩ : ByteArray)[7].toNat : Int) == (s[a].toNat : Int)) = true := by rw [hx]; rfl
        have H1 := Lib.hid (show Lx.one s[a] = true by rw [hx]; rfl)
        clear hx
        go_wp2_with fail
        go_quiet (fail)
        go_wp2_with fail
        go_ret2
        exact ⟨ret_val (by rw [← hres.out, H1.out]; rfl), bl_drewN hb _⟩
      · have hx2 : (((⟨#[58, 46, 44, 40, 41, 123, 125, 61, 60, 62]⟩ : ByteArray)[7].toNat : Int) == (s[a].toNat : Int)) = false := u8_ne (n := 61) (by decide) hx
        have H1 := Lib.hid (show (oneL.take 8).contains s[a] = false by have := HC.out; simp [oneL] at this ⊢; simp [this, hx])
        clear hx
        go_wp2_with fail
        go_quiet (fail)
        go_wp2_with fail
        go_roundw
        case rel => exact ⟨8, by omega, rfl, H1.out, HH.out, bl_drewN hb _⟩
        case measure => simp [intOf]
    · clear hk
      by_cases hx : s[a] = 60
      · have hx2 : (((⟨#[58, 46, 44, 40, 41, 123, 125, 61, 60, 62]⟩ : ByteArray)[8].toNat : Int) == (s[a].toNat : Int)) = true := by rw [hx]; rfl
        have H1 := Lib.hid (show Lx.one s[a] = true by rw [hx]; rfl)
        clear hx
        go_wp2_with fail
        go_quiet (fail)
        go_wp2_with fail
        go_ret2
        exact ⟨ret_val (by rw [← hres.out, H1.out]; rfl), bl_drewN hb _⟩
      · have hx2 : (((⟨#[58, 46, 44, 40, 41, 123, 125, 61, 60, 62]⟩ : ByteArray)[8].toNat : Int) == (s[a].toNat : Int)) = false := u8_ne (n := 60) (by decide) hx
        have H1 := Lib.hid (show (oneL.take 9).contains s[a] = false by have := HC.out; simp [oneL] at this ⊢; simp [this, hx])
        clear hx
        go_wp2_with fail
        go_quiet (fail)
        go_wp2_with fail
        go_roundw
        case rel => exact ⟨9, by omega, rfl, H1.out, HH.out, bl_drewN hb _⟩
        case measure => simp [intOf]
    · clear hk
      by_cases hx : s[a] = 62
      · have hx2 : (((⟨#[58, 46, 44, 40, 41, 123, 125, 61, 60, 62]⟩ : ByteArray)[9].toNat : Int) == (s[a].toNat : Int)) = true := by rw [hx]; rfl
        have H1 := Lib.hid (show Lx.one s[a] = true by rw [hx]; rfl)
        clear hx
        go_wp2_with fail
        go_quiet (fail)
        go_wp2_with fail
        go_ret2
        exact ⟨ret_val (by rw [← hres.out, H1.out]; rfl), bl_drewN hb _⟩
      · have hx2 : (((⟨#[58, 46, 44, 40, 41, 123, 125, 61, 60, 62]⟩ : ByteArray)[9].toNat : Int) == (s[a].toNat : Int)) = false := u8_ne (n := 62) (by decide) hx
        have H1 := Lib.hid (show (oneL.take 10).contains s[a] = false by have := HC.out; simp [oneL] at this ⊢; simp [this, hx])
        clear hx
        go_wp2_with fail
        go_quiet (fail)
        go_wp2_with fail
        go_roundw
        case rel => exact ⟨10, by omega, rfl, H1.out, HH.out, bl_drewN hb _⟩
        case measure => simp [intOf]
    · rw [show ((10 : Nat) : Int) = 10 from rfl]
      go_wp2_with fail
      go_ret2
      exact ⟨ret_val (by rw [← hres.out, one_mem, show oneL.contains s[a] = false from HC.out]; rfl), hb⟩
set_option maxHeartbeats 2000000 in
theorem rsign_one (s : ByteArray) (a : Nat) (w : World) (hs : s.size ≤ 65536) (ha : a + 1 < s.size) (t1 : ((s.extract a (a + 2)).toList == [33, 61]) = false) (t2 : ((s.extract a (a + 2)).toList == [60, 61]) = false) (t3' : ((s.extract a (a + 2)).toList == [62, 61]) = false) (res : Value) (hres : Hid ((.tuple #[.int .i64 (if Lx.one s[a] then (a : Int) + 1 else 0), .bool (Lx.one s[a])] : Value) = res)) :
    Calls Tryz.prog 156 #[.string s, .int .i64 (a : Int)] w fun e w' => e = .returned res ∧ Below w.heap.size w w' := by
  have h6 := s[a].toNat_lt
  have q1 : decide ((a : Int) + 1 < (s.size : Int)) = true := by simp; omega
  have ha' : a < s.size := by omega
  go_enter Tryz.func156, Tryz.ntmps156
  go_wp2_with fail
  go_loopw [8] (RsRel s[a] w) (fun i _ => 10 - (intOf i).toNat)
  case atStart => exact ⟨0, by omega, rfl, rfl, rfl, Below.refl _ _⟩
  case round =>
    obtain ⟨k, hk, rfl, hc, hh, hb⟩ := hrel
    have HC := Lib.hid hc
    have HH := Lib.hid hh
    clear hc hh
    have hk' : k = 0 ∨ k = 1 ∨ k = 2 ∨ k = 3 ∨ k = 4 ∨ k = 5 ∨ k = 6 ∨ k = 7 ∨ k = 8 ∨ k = 9 ∨ k = 10 := by omega
    rcases hk' with rfl | rfl | rfl | rfl | rfl | rfl | rfl | rfl | rfl | rfl | rfl
    · clear hk
      by_cases hx : s[a] = 58
      · have hx2 : (((⟨#[58, 46, 44, 40, 41, 123, 125, 61, 60, 62]⟩ : ByteArray)[0].toNat : Int) == (s[a].toNat : Int)) = true := by rw [hx]; rfl
        have H1 := Lib.hid (show Lx.one s[a] = true by rw [hx]; rfl)
        clear hx
        go_wp2_with fail
        go_quiet (fail)
        go_wp2_with fail
        go_ret2
        exact ⟨ret_val (by rw [← hres.out, H1.out]; rfl), bl_drewN hb _⟩
      · have hx2 : (((⟨#[58, 46, 44, 40, 41, 123, 125, 61, 60, 62]⟩ : ByteArray)[0].toNat : Int) == (s[a].toNat : Int)) = false := u8_ne (n := 58) (by decide) hx
        have H1 := Lib.hid (show (oneL.take 1).contains s[a] = false by have := HC.out; simp [oneL] at this ⊢; simp [this, hx])
        clear hx
        go_wp2_with fail
        go_quiet (fail)
        go_wp2_with fail
        go_roundw
        case rel => exact ⟨1, by omega, rfl, H1.out, HH.out, bl_drewN hb _⟩
        case measure => simp [intOf]
    · clear hk
      by_cases hx : s[a] = 46
      · have hx2 : (((⟨#[58, 46, 44, 40, 41, 123, 125, 61, 60, 62]⟩ : ByteArray)[1].toNat : Int) == (s[a].toNat : Int)) = true := by rw [hx]; rfl
        have H1 := Lib.hid (show Lx.one s[a] = true by rw [hx]; rfl)
        clear hx
        go_wp2_with fail
        go_quiet (fail)
        go_wp2_with fail
        go_ret2
        exact ⟨ret_val (by rw [← hres.out, H1.out]; rfl), bl_drewN hb _⟩
      · have hx2 : (((⟨#[58, 46, 44, 40, 41, 123, 125, 61, 60, 62]⟩ : ByteArray)[1].toNat : Int) == (s[a].toNat : Int)) = false := u8_ne (n := 46) (by decide) hx
        have H1 := Lib.hid (show (oneL.take 2).contains s[a] = false by have := HC.out; simp [oneL] at this ⊢; simp [this, hx])
        clear hx
        go_wp2_with fail
        go_quiet (fail)
        go_wp2_with fail
        go_roundw
        case rel => exact ⟨2, by omega, rfl, H1.out, HH.out, bl_drewN hb _⟩
        case measure => simp [intOf]
    · clear hk
      by_cases hx : s[a] = 44
      · have hx2 : (((⟨#[58, 46, 44, 40, 41, 123, 125, 61, 60, 62]⟩ : ByteArray)[2].toNat : Int) == (s[a].toNat : Int)) = true := by rw [hx]; rfl
        have H1 := Lib.hid (show Lx.one s[a] = true by rw [hx]; rfl)
        clear hx
        go_wp2_with fail
        go_quiet (fail)
        go_wp2_with fail
        go_ret2
        exact ⟨ret_val (by rw [← hres.out, H1.out]; rfl), bl_drewN hb _⟩
      · have hx2 : (((⟨#[58, 46, 44, 40, 41, 123, 125, 61, 60, 62]⟩ : ByteArray)[2].toNat : Int) == (s[a].toNat : Int)) = false := u8_ne (n := 44) (by decide) hx
        have H1 := Lib.hid (show (oneL.take 3).contains s[a] = false by have := HC.out; simp [oneL] at this ⊢; simp [this, hx])
        clear hx
        go_wp2_with fail
        go_quiet (fail)
        go_wp2_with fail
        go_roundw
        case rel => exact ⟨3, by omega, rfl, H1.out, HH.out, bl_drewN hb _⟩
        case measure => simp [intOf]
    · clear hk
      by_cases hx : s[a] = 40
      · have hx2 : (((⟨#[58, 46, 44, 40, 41, 123, 125, 61, 60, 62]⟩ : ByteArray)[3].toNat : Int) == (s[a].toNat : Int)) = true := by rw [hx]; rfl
        have H1 := Lib.hid (show Lx.one s[a] = true by rw [hx]; rfl)
        clear hx
        go_wp2_with fail
        go_quiet (fail)
        go_wp2_with fail
        go_ret2
        exact ⟨ret_val (by rw [← hres.out, H1.out]; rfl), bl_drewN hb _⟩
      · have hx2 : (((⟨#[58, 46, 44, 40, 41, 123, 125, 61, 60, 62]⟩ : ByteArray)[3].toNat : Int) == (s[a].toNat : Int)) = false := u8_ne (n := 40) (by decide) hx
        have H1 := Lib.hid (show (oneL.take 4).contains s[a] = false by have := HC.out; simp [oneL] at this ⊢; simp [this, hx])
        clear hx
        go_wp2_with fail
        go_quiet (fail)
        go_wp2_with fail
        go_roundw
        case rel => exact ⟨4, by omega, rfl, H1.out, HH.out, bl_drewN hb _⟩
        case measure => simp [intOf]
    · clear hk
      by_cases hx : s[a] = 41
      · have hx2 : (((⟨#[58, 46, 44, 40, 41, 123, 125, 61, 60, 62]⟩ : ByteArray)[4].toNat : Int) == (s[a].toNat : Int)) = true := by rw [hx]; rfl
        have H1 := Lib.hid (show Lx.one s[a] = true by rw [hx]; rfl)
        clear hx
        go_wp2_with fail
        go_quiet (fail)
        go_wp2_with fail
        go_ret2
        exact ⟨ret_val (by rw [← hres.out, H1.out]; rfl), bl_drewN hb _⟩
      · have hx2 : (((⟨#[58, 46, 44, 40, 41, 123, 125, 61, 60, 62]⟩ : ByteArray)[4].toNat : Int) == (s[a].toNat : Int)) = false := u8_ne (n := 41) (by decide) hx
        have H1 := Lib.hid (show (oneL.take 5).contains s[a] = false by have := HC.out; simp [oneL] at this ⊢; simp [this, hx])
        clear hx
        go_wp2_with fail
        go_quiet (fail)
        go_wp2_with fail
        go_roundw
        case rel => exact ⟨5, by omega, rfl, H1.out, HH.out, bl_drewN hb _⟩
        case measure => simp [intOf]
    · clear hk
      by_cases hx : s[a] = 123
      · have hx2 : (((⟨#[58, 46, 44, 40, 41, 123, 125, 61, 60, 62]⟩ : ByteArray)[5].toNat : Int) == (s[a].toNat : Int)) = true := by rw [hx]; rfl
        have H1 := Lib.hid (show Lx.one s[a] = true by rw [hx]; rfl)
        clear hx
        go_wp2_with fail
        go_quiet (fail)
        go_wp2_with fail
        go_ret2
        exact ⟨ret_val (by rw [← hres.out, H1.out]; rfl), bl_drewN hb _⟩
      · have hx2 : (((⟨#[58, 46, 44, 40, 41, 123, 125, 61, 60, 62]⟩ : ByteArray)[5].toNat : Int) == (s[a].toNat : Int)) = false := u8_ne (n := 123) (by decide) hx
        have H1 := Lib.hid (show (oneL.take 6).contains s[a] = false by have := HC.out; simp [oneL] at this ⊢; simp [this, hx])
        clear hx
        go_wp2_with fail
        go_quiet (fail)
        go_wp2_with fail
        go_roundw
        case rel => exact ⟨6, by omega, rfl, H1.out, HH.out, bl_drewN hb _⟩
        case measure => simp [intOf]
    · clear hk
      by_cases hx : s[a] = 125
      · have hx2 : (((⟨#[58, 46, 44, 40, 41, 123, 125, 61, 60, 62]⟩ : ByteArray)[6].toNat : Int) == (s[a].toNat : Int)) = true := by rw [hx]; rfl
        have H1 := Lib.hid (show Lx.one s[a] = true by rw [hx]; rfl)
        clear hx
        go_wp2_with fail
        go_quiet (fail)
        go_wp2_with fail
        go_ret2
        exact ⟨ret_val (by rw [← hres.out, H1.out]; rfl), bl_drewN hb _⟩
      · have hx2 : (((⟨#[58, 46, 44, 40, 41, 123, 125, 61, 60, 62]⟩ : ByteArray)[6].toNat : Int) == (s[a].toNat : Int)) = false := u8_ne (n := 125) (by decide) hx
        have H1 := Lib.hid (show (oneL.take 7).contains s[a] = false by have := HC.out; simp [oneL] at this ⊢; simp [this, hx])
        clear hx
        go_wp2_with fail
        go_quiet (fail)
        go_wp2_with fail
        go_roundw
        case rel => exact ⟨7, by omega, rfl, H1.out, HH.out, bl_drewN hb _⟩
        case measure => simp [intOf]
    · clear hk
      by_cases hx : s[a] = 61
      · have hx2 : (((⟨#[58, 46, 44, 40, 41, 123, 125, 61, 60, 62]⟩ : ByteArray)[7].toNat : Int) == (s[a].toNat : Int)) = true := by rw [hx]; rfl
        have H1 := Lib.hid (show Lx.one s[a] = true by rw [hx]; rfl)
        clear hx
        go_wp2_with fail
        go_quiet (fail)
        go_wp2_with fail
        go_ret2
        exact ⟨ret_val (by rw [← hres.out, H1.out]; rfl), bl_drewN hb _⟩
      · have hx2 : (((⟨#[58, 46, 44, 40, 41, 123, 125, 61, 60, 62]⟩ : ByteArray)[7].toNat : Int) == (s[a].toNat : Int)) = false := u8_ne (n := 61) (by decide) hx
        have H1 := Lib.hid (show (oneL.take 8).contains s[a] = false by have := HC.out; simp [oneL] at this ⊢; simp [this, hx])
        clear hx
        go_wp2_with fail
        go_quiet (fail)
        go_wp2_with fail
        go_roundw
        case rel => exact ⟨8, by omega, rfl, H1.out, HH.out, bl_drewN hb _⟩
        case measure => simp [intOf]
    · clear hk
      by_cases hx : s[a] = 60
      · have hx2 : (((⟨#[58, 46, 44, 40, 41, 123, 125, 61, 60, 62]⟩ : ByteArray)[8].toNat : Int) == (s[a].toNat : Int)) = true := by rw [hx]; rfl
        have H1 := Lib.hid (show Lx.one s[a] = true by rw [hx]; rfl)
        clear hx
        go_wp2_with fail
        go_quiet (fail)
        go_wp2_with fail
        go_ret2
        exact ⟨ret_val (by rw [← hres.out, H1.out]; rfl), bl_drewN hb _⟩
      · have hx2 : (((⟨#[58, 46, 44, 40, 41, 123, 125, 61, 60, 62]⟩ : ByteArray)[8].toNat : Int) == (s[a].toNat : Int)) = false := u8_ne (n := 60) (by decide) hx
        have H1 := Lib.hid (show (oneL.take 9).contains s[a] = false by have := HC.out; simp [oneL] at this ⊢; simp [this, hx])
        clear hx
        go_wp2_with fail
        go_quiet (fail)
        go_wp2_with fail
        go_roundw
        case rel => exact ⟨9, by omega, rfl, H1.out, HH.out, bl_drewN hb _⟩
        case measure => simp [intOf]
    · clear hk
      by_cases hx : s[a] = 62
      · have hx2 : (((⟨#[58, 46, 44, 40, 41, 123, 125, 61, 60, 62]⟩ : ByteArray)[9].toNat : Int) == (s[a].toNat : Int)) = true := by rw [hx]; rfl
        have H1 := Lib.hid (show Lx.one s[a] = true by rw [hx]; rfl)
        clear hx
        go_wp2_with fail
        go_quiet (fail)
        go_wp2_with fail
        go_ret2
        exact ⟨ret_val (by rw [← hres.out, H1.out]; rfl), bl_drewN hb _⟩
      · have hx2 : (((⟨#[58, 46, 44, 40, 41, 123, 125, 61, 60, 62]⟩ : ByteArray)[9].toNat : Int) == (s[a].toNat : Int)) = false := u8_ne (n := 62) (by decide) hx
        have H1 := Lib.hid (show (oneL.take 10).contains s[a] = false by have := HC.out; simp [oneL] at this ⊢; simp [this, hx])
        clear hx
        go_wp2_with fail
        go_quiet (fail)
        go_wp2_with fail
        go_roundw
        case rel => exact ⟨10, by omega, rfl, H1.out, HH.out, bl_drewN hb _⟩
        case measure => simp [intOf]
    · rw [show ((10 : Nat) : Int) = 10 from rfl]
      go_wp2_with fail
      go_ret2
      exact ⟨ret_val (by rw [← hres.out, one_mem, show oneL.contains s[a] = false from HC.out]; rfl), hb⟩
theorem rsign_two0 (s : ByteArray) (a : Nat) (w : World) (hs : s.size ≤ 65536) (ha : a + 1 < s.size) (t1 : ((s.extract a (a + 2)).toList == [33, 61]) = true) :
    Calls Tryz.prog 156 #[.string s, .int .i64 (a : Int)] w fun e w' => e = .returned (.tuple #[.int .i64 ((a : Int) + 2), .bool true]) ∧ Below w.heap.size w w' := by
  have q1 : decide ((a : Int) + 1 < (s.size : Int)) = true := by simp; omega
  go_enter Tryz.func156, Tryz.ntmps156
  go_wp2_with fail
  go_ret2
  exact ⟨rfl, Below.refl _ _⟩
theorem rsign_two1 (s : ByteArray) (a : Nat) (w : World) (hs : s.size ≤ 65536) (ha : a + 1 < s.size) (t1 : ((s.extract a (a + 2)).toList == [33, 61]) = false) (t2 : ((s.extract a (a + 2)).toList == [60, 61]) = true) :
    Calls Tryz.prog 156 #[.string s, .int .i64 (a : Int)] w fun e w' => e = .returned (.tuple #[.int .i64 ((a : Int) + 2), .bool true]) ∧ Below w.heap.size w w' := by
  have q1 : decide ((a : Int) + 1 < (s.size : Int)) = true := by simp; omega
  go_enter Tryz.func156, Tryz.ntmps156
  go_wp2_with fail
  go_ret2
  exact ⟨rfl, Below.refl _ _⟩
theorem rsign_two2 (s : ByteArray) (a : Nat) (w : World) (hs : s.size ≤ 65536) (ha : a + 1 < s.size) (t1 : ((s.extract a (a + 2)).toList == [33, 61]) = false) (t2 : ((s.extract a (a + 2)).toList == [60, 61]) = false) (t3 : ((s.extract a (a + 2)).toList == [62, 61]) = true) :
    Calls Tryz.prog 156 #[.string s, .int .i64 (a : Int)] w fun e w' => e = .returned (.tuple #[.int .i64 ((a : Int) + 2), .bool true]) ∧ Below w.heap.size w w' := by
  have q1 : decide ((a : Int) + 1 < (s.size : Int)) = true := by simp; omega
  go_enter Tryz.func156, Tryz.ntmps156
  go_wp2_with fail
  go_ret2
  exact ⟨rfl, Below.refl _ _⟩
/-- sign as the plain lexer has it -/
def sgV (a n : Nat) : Value := .tuple #[.int .i64 (if n = 0 then 0 else (a : Int) + n), .bool (decide (n ≠ 0))]
theorem rsign_any (s : ByteArray) (a : Nat) (w : World) (hs : s.size ≤ 65536) (ha : a < s.size) : Calls Tryz.prog 156 #[.string s, .int .i64 (a : Int)] w fun e w' => e = .returned (sgV a (Lx.sg ((tl s).drop a))) ∧ Below w.heap.size w w' := by
  by_cases hlt : a + 1 < s.size
  · have hd : (tl s).drop a = s[a] :: s[a + 1] :: (tl s).drop (a + 2) := by rw [drop_cons s ha, drop_cons s hlt]
    have ht : (s.extract a (a + 2)).toList = [s[a], s[a + 1]] := by
      rw [toList_tl, tl_extract, hd, Nat.add_sub_cancel_left]; rfl
    by_cases h61 : s[a + 1] = 61
    · by_cases c1 : s[a] = 33
      · have hg : Lx.sg ((tl s).drop a) = 2 := by rw [hd, c1, h61]; rfl
        rw [hg]
        exact rsign_two0 s a w hs hlt (by rw [ht, c1, h61]; rfl)
      · by_cases c2 : s[a] = 60
        · have hg : Lx.sg ((tl s).drop a) = 2 := by rw [hd, c2, h61]; rfl
          rw [hg]
          exact rsign_two1 s a w hs hlt (by rw [ht, c2, h61]; rfl) (by rw [ht, c2, h61]; rfl)
        · by_cases c3 : s[a] = 62
          · have hg : Lx.sg ((tl s).drop a) = 2 := by rw [hd, c3, h61]; rfl
            rw [hg]
            exact rsign_two2 s a w hs hlt (by rw [ht, c3, h61]; rfl) (by rw [ht, c3, h61]; rfl) (by rw [ht, c3, h61]; rfl)
          · refine rsign_one s a w hs hlt (by rw [ht]; simp [c1]) (by rw [ht]; simp [c2]) (by rw [ht]; simp [c3]) _ (Lib.hid ?_)
            have hg : Lx.sg ((tl s).drop a) = if Lx.one s[a] then 1 else 0 := by rw [hd, Lx.sg, if_neg (by simp [Lx.two, c1, c2, c3])]
            rw [hg, sgV]
            cases Lx.one s[a] <;> rfl
    · refine rsign_one s a w hs hlt (by rw [ht]; simp [h61]) (by rw [ht]; simp [h61]) (by rw [ht]; simp [h61]) _ (Lib.hid ?_)
      have hg : Lx.sg ((tl s).drop a) = if Lx.one s[a] then 1 else 0 := by rw [hd, Lx.sg, if_neg (by simp [Lx.two, h61])]
      rw [hg, sgV]
      cases Lx.one s[a] <;> rfl
  · have hd : (tl s).drop a = [s[a]] := by rw [drop_cons s ha, List.drop_eq_nil_of_le (by rw [length_tl]; omega)]
    refine rsign_end s a w hs ha (Lib.hid (by omega)) _ (Lib.hid ?_)
    rw [hd, Lx.sg, sgV]
    cases Lx.one s[a] <;> rfl
end Go.Proofs.YtogmhaihmkcjgaaGreatDoor

/-
  dominoref40: the outcome at an offset.
-/
namespace Go.Proofs.YtogmhaihmkcjgaaGreatDoor
open Go.RowKit
set_option linter.unusedVariables false

def Rf (f : Nat) (s : ByteArray) (b : Nat) (v : Value) : Prop := ∀ W : World, Calls Tryz.prog f #[.string s, .int .i64 (b : Int)] W fun e w' => e = .returned v ∧ Below W.heap.size W w'
inductive ROut (s : ByteArray) (b : Nat) (hb : b < s.size) : Prop
  | nerr (n : Nat) (hl : Lx.isLet s[b] = true) (hn : Lx.sp Lx.isNm ((tl s).drop b) = n) (h : 32 < n) (ht : Lx.tk ((tl s).drop b) = .inl 5)
  | ntok (n : Nat) (v : Bool) (hl : Lx.isLet s[b] = true) (hn : Lx.sp Lx.isNm ((tl s).drop b) = n) (h : n ≤ 32) (hk : Lx.kw (((tl s).drop b).take n) = v) (ht : Lx.tk ((tl s).drop b) = .inr (if v then 2 else 0, n))
  | uerr (p e : Nat) (hl : Lx.isLet s[b] = false) (hd : Lx.isDig s[b] = true ∨ (Lx.isDig s[b] = false ∧ s[b] = 45)) (hf : Rf 154 s b (t3 0 p e)) (he : e ≠ 0) (hr : (p = b ∧ Lx.tk ((tl s).drop b) = .inl e) ∨ (∃ n, Lx.tk ((tl s).drop b) = .inr (1, n) ∧ Lx.luAt ((tl s).drop (b + n)) = true ∧ p = b + n ∧ e = 4))
  | utok (n : Nat) (hl : Lx.isLet s[b] = false) (hd : Lx.isDig s[b] = true ∨ (Lx.isDig s[b] = false ∧ s[b] = 45)) (hf : Rf 154 s b (t3 ((b + n : Nat) : Int) 0 0)) (ht : Lx.tk ((tl s).drop b) = .inr (1, n)) (hlu : Lx.luAt ((tl s).drop (b + n)) = false)
  | werr (e : Nat) (hl : Lx.isLet s[b] = false) (hd : Lx.isDig s[b] = false) (hq : s[b] = 39) (hf : Rf 155 s b (t3 0 b e)) (he : e ≠ 0) (ht : Lx.tk ((tl s).drop b) = .inl e)
  | wtok (n : Nat) (hl : Lx.isLet s[b] = false) (hd : Lx.isDig s[b] = false) (hq : s[b] = 39) (hf : Rf 155 s b (t3 ((b + n : Nat) : Int) 0 0)) (ht : Lx.tk ((tl s).drop b) = .inr (0, n))
  | snone (hl : Lx.isLet s[b] = false) (hd : Lx.isDig s[b] = false) (hm : s[b] ≠ 45) (hq : s[b] ≠ 39) (hf : Rf 156 s b (.tuple #[.int .i64 0, .bool false])) (ht : Lx.tk ((tl s).drop b) = .inl 4)
  | stok (n : Nat) (hl : Lx.isLet s[b] = false) (hd : Lx.isDig s[b] = false) (hm : s[b] ≠ 45) (hq : s[b] ≠ 39) (hf : Rf 156 s b (.tuple #[.int .i64 ((b + n : Nat) : Int), .bool true])) (ht : Lx.tk ((tl s).drop b) = .inr (2, n))
theorem Rf.of {f : Nat} {s : ByteArray} {b : Nat} {v v' : Value} (h : Rf f s b v) (e : v = v') : Rf f s b v' := by rw [← e]; exact h
/-- numbers: begin behind the sign, n digits -/
theorem rout_num (s : ByteArray) (b : Nat) (hb : b < s.size) (hl : Lx.isLet s[b] = false) (hd : Lx.isDig s[b] = true ∨ (Lx.isDig s[b] = false ∧ s[b] = 45)) (V lim d n : Nat) (lu : Bool) (hlu : Lx.luAt ((tl s).drop (b + d + n)) = lu)
    (hf : ∀ res, numEnd (decide (lim < V)) lu b (b + d + n) = res → Rf 154 s b res) (ht : Lx.tk ((tl s).drop b) = if V ≤ lim then .inr (1, n + d) else .inl 2) : ROut s b hb := by
  by_cases hv : V ≤ lim
  · rw [if_pos hv] at ht
    have hv2 : decide (lim < V) = false := by simp; omega
    have e : b + (n + d) = b + d + n := by omega
    cases lu with
    | true => exact .uerr (b + d + n) 4 hl hd (hf _ (by rw [numEnd, hv2]; rfl)) (by decide) (.inr ⟨n + d, ht, by rw [e]; exact hlu, by omega, rfl⟩)
    | false => exact .utok (n + d) hl hd ((hf _ rfl).of (by rw [numEnd, hv2, e]; rfl)) ht (by rw [e]; exact hlu)
  · rw [if_neg hv] at ht
    have hv2 : decide (lim < V) = true := by simp; omega
    exact .uerr b 2 hl hd (hf _ (by rw [numEnd, hv2]; rfl)) (by decide) (.inl ⟨rfl, ht⟩)
theorem rout_of (s : ByteArray) (b : Nat) (hs : s.size ≤ 65536) (hb : b < s.size) : ROut s b hb := by
  have hd := drop_cons s hb
  cases hl : Lx.isLet s[b] with
  | true =>
    have ht : Lx.tk ((tl s).drop b) = Lx.tkName ((tl s).drop b) := by rw [hd, Lx.tk, if_pos hl]
    obtain ⟨n, hn⟩ : ∃ n, Lx.sp Lx.isNm ((tl s).drop b) = n := ⟨_, rfl⟩
    by_cases h32 : 32 < n
    · exact .nerr n hl hn h32 (by rw [ht, Lx.tkName, hn, if_pos h32])
    · exact .ntok n _ hl hn (by omega) rfl (by rw [ht, Lx.tkName, hn, if_neg h32])
  | false =>
    have hl' : ¬ Lx.isLet s[b] = true := by rw [hl]; decide
    by_cases hq : s[b] = 39
    · have hdg : Lx.isDig s[b] = false := by rw [hq]; rfl
      have hq2 : (s[b] == 39) = true := by simpa using hq
      have ht : Lx.tk ((tl s).drop b) = Lx.tkWord ((tl s).drop (b + 1)) := by rw [hd, Lx.tk, if_neg hl', if_pos hq2]
      obtain ⟨n, hn⟩ : ∃ n, Lx.sp Lx.isWd ((tl s).drop (b + 1)) = n := ⟨_, rfl⟩
      have hfit := sp_fit hn (show b + 1 ≤ s.size by omega)
      rw [Lx.tkWord, hn, List.getElem?_drop] at ht
      by_cases h32 : 32 < n
      · exact .werr 5 hl hdg hq (fun W => rword_long s b n W hs hb hn h32) (by decide) (by rw [ht, if_pos h32])
      · rw [if_neg h32] at ht
        by_cases hn0 : n = 0
        · exact .werr 4 hl hdg hq (fun W => rword_empty s b W hs hb (by rw [hn0] at hn; exact hn)) (by decide) (by rw [ht, if_pos (.inl hn0)])
        · by_cases he : b + 1 + n = s.size
          · refine .werr 4 hl hdg hq (fun W => rword_end s b n W hs hb hn (by omega) (by omega) he) (by decide) (by rw [ht, if_pos (.inr ?_)])
            rw [List.getElem?_eq_none (by rw [length_tl]; omega)]
            simp
          · have hlt : b + 1 + n < s.size := by omega
            have hget : (tl s)[b + 1 + n]? = some s[b + 1 + n] := by rw [List.getElem?_eq_getElem (by rw [length_tl]; exact hlt), tl_getElem s _ hlt]
            cases hq3 : (s[b + 1 + n] == 39) with
            | false =>
              refine .werr 4 hl hdg hq (fun W => rword_open s b n W hs hb hn (by omega) (by omega) hlt hq3) (by decide) (by rw [ht, if_pos (.inr ?_)])
              rw [hget]
              simpa using hq3
            | true =>
              have hno : ¬ (n = 0 ∨ (tl s)[b + 1 + n]? ≠ some 39) := by
                rw [hget]
                have h5 : s[b + 1 + n] = 39 := by simpa using hq3
                rw [h5]
                simp [hn0]
              refine .wtok (n + 2) hl hdg hq (Rf.of (fun W => rword_ok s b n W hs hb hn (by omega) (by omega) hlt hq3) ?_) (by rw [ht, if_neg hno])
              exact t3_eq (by omega) rfl rfl
    · have hq' : ¬ (s[b] == 39) = true := by simpa using hq
      by_cases hm : s[b] = 45
      · have hm2 : (s[b] == 45) = true := by simpa using hm
        have hdg : Lx.isDig s[b] = false := by rw [hm]; rfl
        obtain ⟨n, hn⟩ : ∃ n, Lx.sp Lx.isDig ((tl s).drop (b + 1)) = n := ⟨_, rfl⟩
        have ht : Lx.tk ((tl s).drop b) = if n = 0 then Lx.tkSign ((tl s).drop b) else if Lx.dv (((tl s).drop (b + 1)).take n) ≤ 2147483648 then .inr (1, n + 1) else .inl 2 := by
          rw [hd, Lx.tk, if_neg hl', if_neg hq', if_pos hm2, hn]
        by_cases hn0 : n = 0
        · rw [if_pos hn0] at ht
          have hsg : Lx.sg ((tl s).drop b) = 0 := by
            rw [hd, hm]
            cases (tl s).drop (b + 1) with
            | nil => rfl
            | cons c q => rw [Lx.sg, if_neg (by simp [Lx.two]), if_neg (by decide)]
          rw [Lx.tkSign, if_pos hsg] at ht
          exact .uerr b 4 hl (.inr ⟨hdg, hm⟩) (fun W => rnum_none_m s b W hs hb hm2 (by rw [hn0] at hn; exact hn)) (by decide) (.inl ⟨rfl, ht⟩)
        · rw [if_neg hn0] at ht
          exact rout_num s b hb hl (.inr ⟨hdg, hm⟩) _ 2147483648 1 n _ rfl (fun res hres W => rnum_m s b n W hs hb hm2 hn (by omega) _ rfl res hres) ht
      · have hm' : ¬ (s[b] == 45) = true := by simpa using hm
        have hm2 : (s[b] == 45) = false := by simpa using hm
        obtain ⟨n, hn⟩ : ∃ n, Lx.sp Lx.isDig ((tl s).drop b) = n := ⟨_, rfl⟩
        have ht : Lx.tk ((tl s).drop b) = if n = 0 then Lx.tkSign ((tl s).drop b) else if Lx.dv (((tl s).drop b).take n) ≤ 2147483647 then .inr (1, n) else .inl 2 := by
          rw [← hn, hd, Lx.tk, if_neg hl', if_neg hq', if_neg hm']
        by_cases hn0 : n = 0
        · have hdg : Lx.isDig s[b] = false := by
            cases h5 : Lx.isDig s[b] with
            | false => rfl
            | true => rw [hd, Lx.sp_succ h5] at hn; omega
          rw [if_pos hn0, Lx.tkSign] at ht
          have hf := fun W => rsign_any s b W hs hb
          by_cases hsg : Lx.sg ((tl s).drop b) = 0
          · rw [if_pos hsg] at ht
            exact .snone hl hdg hm hq (Rf.of hf (by rw [hsg]; rfl)) ht
          · rw [if_neg hsg] at ht
            exact .stok _ hl hdg hm hq (Rf.of hf (by rw [sgV, if_neg hsg]; simp [hsg])) ht
        · have hdg : Lx.isDig s[b] = true := by
            cases h5 : Lx.isDig s[b] with
            | true => rfl
            | false => rw [hd, Lx.sp_stop h5] at hn; omega
          rw [if_neg hn0] at ht
          exact rout_num s b hb hl (.inl hdg) _ 2147483647 0 n _ rfl (fun res hres W => rnum_p s b n W hs hb hm2 hn (by omega) _ rfl res hres) ht
end Go.Proofs.YtogmhaihmkcjgaaGreatDoor

/-
  dominoref40: Scan.
-/
namespace Go.Proofs.YtogmhaihmkcjgaaGreatDoor
open Go.RowKit
set_option linter.unusedVariables false

def RcRel (w : World) (s : ByteArray) (v at_ : Value) (W : World) : Prop := ∃ a out, at_ = .int .i64 ((a : Nat) : Int) ∧ W.ownsRow w.heap.size 158 3 v out.length (tokL out) ∧ Lx.SI (tl s) a out ∧ out.length ≤ a ∧ Below w.heap.size w W
theorem rc_push {w W W' : World} {v v' : Value} {out : List Lx.Tok} (t : Lx.Tok) (o : Obj) (hown0 : W.ownsRow w.heap.size 158 3 v out.length (tokL out)) (hb : Below w.heap.size w W) (hown : W'.ownsRow w.heap.size 158 3 v' (out.length + 1) (tokL out ++ [.int .i64 (t.kind : Int), .string (bs t.text), .int .i64 (t.at_ : Int)])) (hg : (W.alloc o).grownBy W' v.ownBlock) :
    W'.ownsRow w.heap.size 158 3 v' (out ++ [t]).length (tokL (out ++ [t])) ∧ Below w.heap.size w W' := by
  refine ⟨by rw [tokL_snoc, List.length_append]; exact hown, ?_⟩
  exact (hb.alloc hb.size o).grown hg (by have := hb.size; simp; omega) (fun k hk => (hown0.lt k hk).1)
theorem u8_ne' {c : UInt8} {n : Nat} (hn : n < 256) (h : c ≠ UInt8.ofNat n) : ((c.toNat : Int) == (n : Int)) = false := by
  rw [beq_eq_false_iff_ne]
  intro h2
  refine h (UInt8.toNat_inj.1 ?_)
  rw [UInt8.toNat_ofNat_of_lt' (by simpa using hn)]
  omega
theorem rkey_at (s : ByteArray) (a n : Nat) (v : Bool) (w : World) (h : Lx.kw (((tl s).drop a).take n) = v) (hs : (s.extract a (a + n)).size ≤ 1000000) : Calls Tryz.prog 152 #[.string (s.extract a (a + n))] w fun e w' => e = .returned (.bool v) ∧ Below w.heap.size w w' :=
  (rkey_any _ w hs).mono fun e w' ⟨he, hw⟩ => ⟨by rw [he, tl_extract, Nat.add_sub_cancel_left, h], hw⟩
theorem rlet_any' (c : UInt8) (x : Int) (v : Bool) (w : World) (hx : x = (c.toNat : Int)) (hv : Lx.isLet c = v) : Calls Tryz.prog 150 #[.int .u8 x] w fun e w' => e = .returned (.bool v) ∧ w = w' := by subst hx; exact rlet_any c v w hv
theorem rdig_any' (c : UInt8) (x : Int) (v : Bool) (w : World) (hx : x = (c.toNat : Int)) (hv : Lx.isDig c = v) : Calls Tryz.prog 153 #[.int .u8 x] w fun e w' => e = .returned (.bool v) ∧ w = w' := by subst hx; exact rdig_any c v w hv
theorem own_below {w W W' : World} {v : Value} {n : Nat} {xs : List Value} (h : W.ownsRow w.heap.size 158 3 v n xs) (hb : Below W.heap.size W W') : W'.ownsRow w.heap.size 158 3 v n xs :=
  h.kept (gb_below (r := none) hb) (by cases v.ownBlock <;> simp)
theorem wh_pos {p : UInt8 → Bool} {s : ByteArray} {a k : Nat} (he : a + Lx.sp p ((tl s).drop a) = k + Lx.sp p ((tl s).drop k)) (hlt : a < s.size) (hp : p s[a] = true) : a < k + Lx.sp p ((tl s).drop k) := by
  rw [← he, drop_cons s hlt, Lx.sp_succ hp]; omega
set_option maxRecDepth 100000 in
set_option maxHeartbeats 8000000 in
theorem rscan_any (s : ByteArray) (w : World) (hs : s.size ≤ 65536) : Calls Tryz.prog 76 #[.string s] w (ScanPost s w) := by
  go_enter Tryz.func76, Tryz.ntmps76
  go_wp2_with fail
  go_loopw [5, 6] (RcRel w s) (fun _ i _ => s.size - (intOf i).toNat)
  case atStart => exact ⟨0, [], rfl, World.ownsRow_nil _ _ _ _, Lx.SI.start _, Nat.le_refl _, Below.refl _ _⟩
  case round =>
    obtain ⟨a, out, rfl, hown, hI, hol, hb⟩ := hrel
    have hle := hI.le
    rw [length_tl] at hle
    obtain ⟨i0, hi0, hz0, hz1, hz2⟩ := info_parts tok_info
    have HI := Lib.hid hI
    clear hI
    by_cases hlt : a < s.size
    · have hlt' : a < (tl s).length := by rw [length_tl]; exact hlt
      have hget : (tl s)[a] = s[a] := tl_getElem s a hlt
      have HG := Lib.hid hget
      clear hget
      have h6 := s[a].toNat_lt
      by_cases hsp : Lx.isSp s[a] = true
      · have HSI := Lib.hid (HI.out.space hlt' (by rw [HG.out]; exact hsp))
        have hcs : s[a] = 32 ∨ s[a] = 9 ∨ s[a] = 13 ∨ s[a] = 10 := by
          simp [Lx.isSp] at hsp
          rcases hsp with ((h | h) | h) | h
          · exact .inl h
          · exact .inr (.inl h)
          · exact .inr (.inr (.inl h))
          · exact .inr (.inr (.inr h))
        clear hsp
        rcases hcs with hx | hx | hx | hx
        · have n10 : (s[a].toNat : Int) = 32 := by rw [hx]; rfl
          clear hx
          go_wp2_with fail
          go_roundw
          case rel => exact ⟨a + 1, out, by simp, hown, HSI.out, by omega, hb⟩
          case measure => simp [intOf]; omega
        · have n10 : (s[a].toNat : Int) = 9 := by rw [hx]; rfl
          clear hx
          go_wp2_with fail
          go_roundw
          case rel => exact ⟨a + 1, out, by simp, hown, HSI.out, by omega, hb⟩
          case measure => simp [intOf]; omega
        · have n10 : (s[a].toNat : Int) = 13 := by rw [hx]; rfl
          clear hx
          go_wp2_with fail
          go_roundw
          case rel => exact ⟨a + 1, out, by simp, hown, HSI.out, by omega, hb⟩
          case measure => simp [intOf]; omega
        · have n10 : (s[a].toNat : Int) = 10 := by rw [hx]; rfl
          clear hx
          go_wp2_with fail
          go_roundw
          case rel => exact ⟨a + 1, out, by simp, hown, HSI.out, by omega, hb⟩
          case measure => simp [intOf]; omega
      · by_cases h35 : s[a] = 35
        · have HSI := Lib.hid (HI.out.comment hlt' (by rw [HG.out]; exact h35))
          have n35 : (s[a].toNat : Int) = 35 := by rw [h35]; rfl
          have HP := Lib.hid (show (fun c : UInt8 => c != 10) s[a] = true by rw [h35]; rfl)
          clear h35 hsp
          go_wp2_with fail
          go_loopw [6] (WhRel (fun c => c != 10) s a wr) (fun v _ => s.size - (intOf v).toNat)
          case atStart => exact WhRel.start hle
          case round =>
            obtain ⟨k, hk, rfl, he, hbk⟩ := hrel
            have HE := Lib.hid he
            clear he
            by_cases hk2 : k < s.size
            · have h7 := s[k].toNat_lt
              by_cases h10 : s[k] = 10
              · have n10 : ((s[k].toNat : Int) != 10) = false := by rw [h10]; rfl
                have HQ := Lib.hid (show (fun c : UInt8 => c != 10) s[k] = false by rw [h10]; rfl)
                clear h10 n35
                go_wp2_with fail
                go_roundw
                case rel => exact ⟨k, out, rfl, own_below hown hbk, by have h8 := HE.out; rw [wh_stop (p := fun c => c != 10) hk2 HQ.out] at h8; have h9 := HSI.out; rw [h8] at h9; exact h9, by have h8 := wh_pos HE.out hlt HP.out; have h9 : Lx.sp (fun c => c != 10) ((tl s).drop k) = 0 := wh_stop (p := fun c => c != 10) hk2 HQ.out; omega, hb.trans (hbk.mono hb.size)⟩
                case measure => have h8 := wh_pos HE.out hlt HP.out; have h9 : Lx.sp (fun c => c != 10) ((tl s).drop k) = 0 := wh_stop (p := fun c => c != 10) hk2 HQ.out; simp [intOf]; omega
              · have n10 : ((s[k].toNat : Int) != 10) = true := by simp; intro h8; exact h10 (UInt8.toNat_inj.1 (by have h9 : (10 : UInt8).toNat = 10 := rfl; omega))
                have HQ := Lib.hid (show (fun c : UInt8 => c != 10) s[k] = true by simpa using h10)
                clear h10 n35
                go_wp2_with fail
                go_roundw
                case rel => exact WhRel.next hk2 HQ.out HE.out hbk
                case measure => simp [intOf]; omega
            · clear n35
              go_wp2_with fail
              go_roundw
              case rel => exact ⟨k, out, rfl, own_below hown hbk, by have h8 := HE.out; rw [wh_end hk2] at h8; have h9 := HSI.out; rw [h8] at h9; exact h9, by have h8 := wh_pos HE.out hlt HP.out; have h9 : Lx.sp (fun c => c != 10) ((tl s).drop k) = 0 := wh_end hk2; omega, hb.trans (hbk.mono hb.size)⟩
              case measure => have h8 := wh_pos HE.out hlt HP.out; have h9 : Lx.sp (fun c => c != 10) ((tl s).drop k) = 0 := wh_end hk2; simp [intOf]; omega
        · have hsp' : Lx.isSp s[a] = false := by simpa using hsp
          have hsk : Hid (Lx.sk false ((tl s).drop a) = 0) := Lib.hid (by rw [drop_cons s hlt]; exact Lx.sk_stop hsp' (by simpa using h35))
          have hno : s[a] ≠ 32 ∧ s[a] ≠ 9 ∧ s[a] ≠ 10 ∧ s[a] ≠ 13 := by
            simp [Lx.isSp] at hsp'
            exact ⟨hsp'.1.1.1, hsp'.1.1.2, hsp'.2, hsp'.1.2⟩
          have n1 : ((s[a].toNat : Int) == 32) = false := u8_ne' (n := 32) (by decide) hno.1
          have n2 : ((s[a].toNat : Int) == 9) = false := u8_ne' (n := 9) (by decide) hno.2.1
          have n3 : ((s[a].toNat : Int) == 10) = false := u8_ne' (n := 10) (by decide) hno.2.2.1
          have n4 : ((s[a].toNat : Int) == 13) = false := u8_ne' (n := 13) (by decide) hno.2.2.2
          have n5 : ((s[a].toNat : Int) == 35) = false := u8_ne' (n := 35) (by decide) h35
          clear hno h35 hsp hsp'
          cases rout_of s a hs hlt with
          | nerr n hl hn h ht =>
            have hfit := sp_fit hn hle
            have HN := Lib.hid hn
            have HT := Lib.hid ht
            clear hn ht
            go_wp2_with fail
            refine (rlet_any s[a] true _ hl).mono ?_
            rintro e' wa ⟨rfl, rfl⟩
            go_wp2_with fail
            refine (run_nm s _ a n _ rfl HN.out hs hle).mono ?_
            rintro e' wa ⟨rfl, hba⟩
            have hown := own_below hown hba
            have hb := hb.trans (hba.mono hb.size)
            clear hba
            go_wp2_with fail
            go_ret3
            exact ScanPost.err (HI.out.error hlt' hsk.out HT.out) rfl rfl hb
          | ntok n v hl hn h hk ht =>
            have HN := Lib.hid hn
            have HK := Lib.hid hk
            clear hn hk
            have HT := Lib.hid ht
            have hln := Lx.tk_len ht
            rw [List.length_drop, length_tl] at hln
            clear ht
            cases v with
            | true =>
              have hng : Hid (¬ (2 = 1 ∧ Lx.luAt ((tl s).drop (a + n)) = true)) := Lib.hid (fun h5 => absurd h5.1 (by decide))
              go_wp2_with fail
              refine (rlet_any s[a] true _ hl).mono ?_
              rintro e' wa ⟨rfl, rfl⟩
              go_wp2_with fail
              refine (run_nm s _ a n _ rfl HN.out hs hle).mono ?_
              rintro e' wa ⟨rfl, hba⟩
              have hown := own_below hown hba
              have hb := hb.trans (hba.mono hb.size)
              clear hba
              go_wp2_with fail
              refine (rkey_at s a n true _ HK.out (by rw [ByteArray.size_extract]; omega)).mono ?_
              rintro e' wz ⟨rfl, hba⟩
              have hown := own_below hown hba
              have hb := hb.trans (hba.mono hb.size)
              clear hba
              go_wp2_with (first | (at_builtin; refine wpList_append_own _ rfl _ _ 81 rfl w.heap.size 158 i0 _ 3 32 Tryz.underlying81 hi0 hz0 hz1 hz2 rfl (by decide) _ _ _ rfl (hown.alloc _) ⟨wz.heap.size, 0, none⟩ 1 1 [.int .i64 2, .string (s.extract a (a + n)), .int .i64 (a : Int)] rfl rfl (new3 _ _ _ _ _) ?c2 ?c3 ?c4 ?c5 ?_))
              case c2 => intro u hu; simp at hu; rcases hu with rfl | rfl | rfl <;> rfl
              case c3 => unfold maxLen; omega
              case c4 => omega
              case c5 => have := hb.size; simp; omega
              intro v' w9 hown9 hg9 _
              rw [ext_str s a n] at hown9 hg9
              obtain ⟨hown2, hb2⟩ := rc_push ⟨2, ((tl s).drop a).take n, a⟩ _ hown hb hown9 hg9
              clear hown9 hg9
              go_wp2_with fail
              go_roundw
              case rel => exact ⟨a + n, out ++ [⟨2, ((tl s).drop a).take n, a⟩], by simp, hown2, HI.out.token hlt' hsk.out HT.out hng.out, by rw [List.length_append]; simp; omega, hb2⟩
              case measure => simp [intOf]; omega
            | false =>
              have hng : Hid (¬ (0 = 1 ∧ Lx.luAt ((tl s).drop (a + n)) = true)) := Lib.hid (fun h5 => absurd h5.1 (by decide))
              go_wp2_with fail
              refine (rlet_any s[a] true _ hl).mono ?_
              rintro e' wa ⟨rfl, rfl⟩
              go_wp2_with fail
              refine (run_nm s _ a n _ rfl HN.out hs hle).mono ?_
              rintro e' wa ⟨rfl, hba⟩
              have hown := own_below hown hba
              have hb := hb.trans (hba.mono hb.size)
              clear hba
              go_wp2_with fail
              refine (rkey_at s a n false _ HK.out (by rw [ByteArray.size_extract]; omega)).mono ?_
              rintro e' wz ⟨rfl, hba⟩
              have hown := own_below hown hba
              have hb := hb.trans (hba.mono hb.size)
              clear hba
              go_wp2_with (first | (at_builtin; refine wpList_append_own _ rfl _ _ 81 rfl w.heap.size 158 i0 _ 3 32 Tryz.underlying81 hi0 hz0 hz1 hz2 rfl (by decide) _ _ _ rfl (hown.alloc _) ⟨wz.heap.size, 0, none⟩ 1 1 [.int .i64 0, .string (s.extract a (a + n)), .int .i64 (a : Int)] rfl rfl (new3 _ _ _ _ _) ?c2 ?c3 ?c4 ?c5 ?_))
              case c2 => intro u hu; simp at hu; rcases hu with rfl | rfl | rfl <;> rfl
              case c3 => unfold maxLen; omega
              case c4 => omega
              case c5 => have := hb.size; simp; omega
              intro v' w9 hown9 hg9 _
              rw [ext_str s a n] at hown9 hg9
              obtain ⟨hown2, hb2⟩ := rc_push ⟨0, ((tl s).drop a).take n, a⟩ _ hown hb hown9 hg9
              clear hown9 hg9
              go_wp2_with fail
              go_roundw
              case rel => exact ⟨a + n, out ++ [⟨0, ((tl s).drop a).take n, a⟩], by simp, hown2, HI.out.token hlt' hsk.out HT.out hng.out, by rw [List.length_append]; simp; omega, hb2⟩
              case measure => simp [intOf]; omega
          | uerr p e hl hd hf he hr =>
            have he2 : ((e : Int) != 0) = true := by simp; omega
            have HR : Hid (Lx.sc (tl s) = .err p e) := Lib.hid (by
              rcases hr with ⟨rfl, ht⟩ | ⟨n, ht, hlu, rfl, rfl⟩
              · exact HI.out.error hlt' hsk.out ht
              · exact HI.out.glued hlt' hsk.out ht hlu)
            clear hr
            have HF := Lib.hid hf
            clear hf
            rcases hd with hd | ⟨hd, h45⟩
            · go_wp2_with fail
              refine (rlet_any s[a] false _ hl).mono ?_
              rintro e' wa ⟨rfl, rfl⟩
              go_wp2_with fail
              refine (rdig_any s[a] true _ hd).mono ?_
              rintro e' wa ⟨rfl, rfl⟩
              go_wp2_with fail
              refine (HF.out _).mono ?_
              rintro e' wa ⟨rfl, hba⟩
              have hown := own_below hown hba
              have hb := hb.trans (hba.mono hb.size)
              clear hba
              go_wp2_with fail
              go_ret3
              exact ScanPost.err (HR.out) rfl rfl hb
            · have n45 : (s[a].toNat : Int) = 45 := by rw [h45]; rfl
              clear h45 n1 n2 n3 n4 n5
              go_wp2_with fail
              refine (rlet_any' s[a] 45 false _ n45.symm hl).mono ?_
              rintro e' wa ⟨rfl, rfl⟩
              go_wp2_with fail
              refine (rdig_any' s[a] 45 false _ n45.symm hd).mono ?_
              rintro e' wa ⟨rfl, rfl⟩
              go_wp2_with fail
              refine (HF.out _).mono ?_
              rintro e' wa ⟨rfl, hba⟩
              have hown := own_below hown hba
              have hb := hb.trans (hba.mono hb.size)
              clear hba
              go_wp2_with fail
              go_ret3
              exact ScanPost.err (HR.out) rfl rfl hb
          | utok n hl hd hf ht hlu =>
            have HT := Lib.hid ht
            have hln := Lx.tk_len ht
            rw [List.length_drop, length_tl] at hln
            clear ht
            have HF := Lib.hid hf
            clear hf
            have hng : Hid (¬ Lx.luAt ((tl s).drop (a + n)) = true) := Lib.hid (by rw [hlu]; decide)
            clear hlu
            rcases hd with hd | ⟨hd, h45⟩
            · go_wp2_with fail
              refine (rlet_any s[a] false _ hl).mono ?_
              rintro e' wa ⟨rfl, rfl⟩
              go_wp2_with fail
              refine (rdig_any s[a] true _ hd).mono ?_
              rintro e' wa ⟨rfl, rfl⟩
              go_wp2_with fail
              refine (HF.out _).mono ?_
              rintro e' wz ⟨rfl, hba⟩
              have hown := own_below hown hba
              have hb := hb.trans (hba.mono hb.size)
              clear hba
              go_wp2_with (first | (at_builtin; refine wpList_append_own _ rfl _ _ 81 rfl w.heap.size 158 i0 _ 3 32 Tryz.underlying81 hi0 hz0 hz1 hz2 rfl (by decide) _ _ _ rfl (hown.alloc _) ⟨wz.heap.size, 0, none⟩ 1 1 [.int .i64 1, .string (s.extract a (a + n)), .int .i64 (a : Int)] rfl rfl (new3 _ _ _ _ _) ?c2 ?c3 ?c4 ?c5 ?_))
              case c2 => intro u hu; simp at hu; rcases hu with rfl | rfl | rfl <;> rfl
              case c3 => unfold maxLen; omega
              case c4 => omega
              case c5 => have := hb.size; simp; omega
              intro v' w9 hown9 hg9 _
              rw [ext_str s a n] at hown9 hg9
              obtain ⟨hown2, hb2⟩ := rc_push ⟨1, ((tl s).drop a).take n, a⟩ _ hown hb hown9 hg9
              clear hown9 hg9
              go_wp2_with fail
              go_roundw
              case rel => exact ⟨a + n, out ++ [⟨1, ((tl s).drop a).take n, a⟩], by simp, hown2, HI.out.token hlt' hsk.out HT.out (fun h5 => hng.out h5.2), by rw [List.length_append]; simp; omega, hb2⟩
              case measure => simp [intOf]; omega
            · have n45 : (s[a].toNat : Int) = 45 := by rw [h45]; rfl
              clear h45 n1 n2 n3 n4 n5
              go_wp2_with fail
              refine (rlet_any' s[a] 45 false _ n45.symm hl).mono ?_
              rintro e' wa ⟨rfl, rfl⟩
              go_wp2_with fail
              refine (rdig_any' s[a] 45 false _ n45.symm hd).mono ?_
              rintro e' wa ⟨rfl, rfl⟩
              go_wp2_with fail
              refine (HF.out _).mono ?_
              rintro e' wz ⟨rfl, hba⟩
              have hown := own_below hown hba
              have hb := hb.trans (hba.mono hb.size)
              clear hba
              go_wp2_with (first | (at_builtin; refine wpList_append_own _ rfl _ _ 81 rfl w.heap.size 158 i0 _ 3 32 Tryz.underlying81 hi0 hz0 hz1 hz2 rfl (by decide) _ _ _ rfl (hown.alloc _) ⟨wz.heap.size, 0, none⟩ 1 1 [.int .i64 1, .string (s.extract a (a + n)), .int .i64 (a : Int)] rfl rfl (new3 _ _ _ _ _) ?c2 ?c3 ?c4 ?c5 ?_))
              case c2 => intro u hu; simp at hu; rcases hu with rfl | rfl | rfl <;> rfl
              case c3 => unfold maxLen; omega
              case c4 => omega
              case c5 => have := hb.size; simp; omega
              intro v' w9 hown9 hg9 _
              rw [ext_str s a n] at hown9 hg9
              obtain ⟨hown2, hb2⟩ := rc_push ⟨1, ((tl s).drop a).take n, a⟩ _ hown hb hown9 hg9
              clear hown9 hg9
              go_wp2_with fail
              go_roundw
              case rel => exact ⟨a + n, out ++ [⟨1, ((tl s).drop a).take n, a⟩], by simp, hown2, HI.out.token hlt' hsk.out HT.out (fun h5 => hng.out h5.2), by rw [List.length_append]; simp; omega, hb2⟩
              case measure => simp [intOf]; omega
          | werr e hl hd hq hf he ht =>
            have he2 : ((e : Int) != 0) = true := by simp; omega
            have n39 : (s[a].toNat : Int) = 39 := by rw [hq]; rfl
            have HT := Lib.hid ht
            clear ht hq n1 n2 n3 n4 n5
            have HF := Lib.hid hf
            clear hf
            go_wp2_with fail
            refine (rlet_any' s[a] 39 false _ n39.symm hl).mono ?_
            rintro e' wa ⟨rfl, rfl⟩
            go_wp2_with fail
            refine (rdig_any' s[a] 39 false _ n39.symm hd).mono ?_
            rintro e' wa ⟨rfl, rfl⟩
            go_wp2_with fail
            refine (HF.out _).mono ?_
            rintro e' wa ⟨rfl, hba⟩
            have hown := own_below hown hba
            have hb := hb.trans (hba.mono hb.size)
            clear hba
            go_wp2_with fail
            go_ret3
            exact ScanPost.err (HI.out.error hlt' hsk.out HT.out) rfl rfl hb
          | wtok n hl hd hq hf ht =>
            have n39 : (s[a].toNat : Int) = 39 := by rw [hq]; rfl
            have hng : Hid (¬ (0 = 1 ∧ Lx.luAt ((tl s).drop (a + n)) = true)) := Lib.hid (fun h5 => absurd h5.1 (by decide))
            clear hq n1 n2 n3 n4 n5
            have HT := Lib.hid ht
            have hln := Lx.tk_len ht
            rw [List.length_drop, length_tl] at hln
            clear ht
            have HF := Lib.hid hf
            clear hf
            go_wp2_with fail
            refine (rlet_any' s[a] 39 false _ n39.symm hl).mono ?_
            rintro e' wa ⟨rfl, rfl⟩
            go_wp2_with fail
            refine (rdig_any' s[a] 39 false _ n39.symm hd).mono ?_
            rintro e' wa ⟨rfl, rfl⟩
            go_wp2_with fail
            refine (HF.out _).mono ?_
            rintro e' wz ⟨rfl, hba⟩
            have hown := own_below hown hba
            have hb := hb.trans (hba.mono hb.size)
            clear hba
            go_wp2_with (first | (at_builtin; refine wpList_append_own _ rfl _ _ 81 rfl w.heap.size 158 i0 _ 3 32 Tryz.underlying81 hi0 hz0 hz1 hz2 rfl (by decide) _ _ _ rfl (hown.alloc _) ⟨wz.heap.size, 0, none⟩ 1 1 [.int .i64 0, .string (s.extract a (a + n)), .int .i64 (a : Int)] rfl rfl (new3 _ _ _ _ _) ?c2 ?c3 ?c4 ?c5 ?_))
            case c2 => intro u hu; simp at hu; rcases hu with rfl | rfl | rfl <;> rfl
            case c3 => unfold maxLen; omega
            case c4 => omega
            case c5 => have := hb.size; simp; omega
            intro v' w9 hown9 hg9 _
            rw [ext_str s a n] at hown9 hg9
            obtain ⟨hown2, hb2⟩ := rc_push ⟨0, ((tl s).drop a).take n, a⟩ _ hown hb hown9 hg9
            clear hown9 hg9
            go_wp2_with fail
            go_roundw
            case rel => exact ⟨a + n, out ++ [⟨0, ((tl s).drop a).take n, a⟩], by simp, hown2, HI.out.token hlt' hsk.out HT.out hng.out, by rw [List.length_append]; simp; omega, hb2⟩
            case measure => simp [intOf]; omega
          | snone hl hd hm hq hf ht =>
            have HT := Lib.hid ht
            clear ht
            have n45 : ((s[a].toNat : Int) == 45) = false := u8_ne' (n := 45) (by decide) hm
            have n39 : ((s[a].toNat : Int) == 39) = false := u8_ne' (n := 39) (by decide) hq
            clear hm hq
            have HF := Lib.hid hf
            clear hf
            go_wp2_with fail
            refine (rlet_any s[a] false _ hl).mono ?_
            rintro e' wa ⟨rfl, rfl⟩
            go_wp2_with fail
            refine (rdig_any s[a] false _ hd).mono ?_
            rintro e' wa ⟨rfl, rfl⟩
            go_wp2_with fail
            refine (HF.out _).mono ?_
            rintro e' wa ⟨rfl, hba⟩
            have hown := own_below hown hba
            have hb := hb.trans (hba.mono hb.size)
            clear hba
            go_wp2_with fail
            go_ret3
            exact ScanPost.err (HI.out.error hlt' hsk.out HT.out) rfl rfl hb
          | stok n hl hd hm hq hf ht =>
            have hng : Hid (¬ (2 = 1 ∧ Lx.luAt ((tl s).drop (a + n)) = true)) := Lib.hid (fun h5 => absurd h5.1 (by decide))
            have HT := Lib.hid ht
            have hln := Lx.tk_len ht
            rw [List.length_drop, length_tl] at hln
            clear ht
            have n45 : ((s[a].toNat : Int) == 45) = false := u8_ne' (n := 45) (by decide) hm
            have n39 : ((s[a].toNat : Int) == 39) = false := u8_ne' (n := 39) (by decide) hq
            clear hm hq
            have HF := Lib.hid hf
            clear hf
            go_wp2_with fail
            refine (rlet_any s[a] false _ hl).mono ?_
            rintro e' wa ⟨rfl, rfl⟩
            go_wp2_with fail
            refine (rdig_any s[a] false _ hd).mono ?_
            rintro e' wa ⟨rfl, rfl⟩
            go_wp2_with fail
            refine (HF.out _).mono ?_
            rintro e' wz ⟨rfl, hba⟩
            have hown := own_below hown hba
            have hb := hb.trans (hba.mono hb.size)
            clear hba
            go_wp2_with (first | (at_builtin; refine wpList_append_own _ rfl _ _ 81 rfl w.heap.size 158 i0 _ 3 32 Tryz.underlying81 hi0 hz0 hz1 hz2 rfl (by decide) _ _ _ rfl (hown.alloc _) ⟨wz.heap.size, 0, none⟩ 1 1 [.int .i64 2, .string (s.extract a (a + n)), .int .i64 (a : Int)] rfl rfl (new3 _ _ _ _ _) ?c2 ?c3 ?c4 ?c5 ?_))
            case c2 => intro u hu; simp at hu; rcases hu with rfl | rfl | rfl <;> rfl
            case c3 => unfold maxLen; omega
            case c4 => omega
            case c5 => have := hb.size; simp; omega
            intro v' w9 hown9 hg9 _
            rw [ext_str s a n] at hown9 hg9
            obtain ⟨hown2, hb2⟩ := rc_push ⟨2, ((tl s).drop a).take n, a⟩ _ hown hb hown9 hg9
            clear hown9 hg9
            go_wp2_with fail
            go_roundw
            case rel => exact ⟨a + n, out ++ [⟨2, ((tl s).drop a).take n, a⟩], by simp, hown2, HI.out.token hlt' hsk.out HT.out hng.out, by rw [List.length_append]; simp; omega, hb2⟩
            case measure => simp [intOf]; omega
    · have hae : a = s.size := by omega
      go_wp2_with (first | (at_builtin; refine wpList_append_own _ rfl _ _ 81 rfl w.heap.size 158 i0 _ 3 32 Tryz.underlying81 hi0 hz0 hz1 hz2 rfl (by decide) _ _ _ rfl (hown.alloc _) ⟨wr.heap.size, 0, none⟩ 1 1 [.int .i64 3, .string ⟨#[]⟩, .int .i64 (s.size : Int)] rfl rfl (new3 _ _ _ _ _) ?c2 ?c3 ?c4 ?c5 ?_))
      case c2 => intro u hu; simp at hu; rcases hu with rfl | rfl | rfl <;> rfl
      case c3 => unfold maxLen; omega
      case c4 => omega
      case c5 => have := hb.size; simp; omega
      intro v' w9 hown9 hg9 _
      obtain ⟨hown2, hb2⟩ := rc_push ⟨3, [], s.size⟩ _ hown hb hown9 hg9
      clear hown9 hg9
      go_wp2_with fail
      go_ret3
      have h5 := HI.out.atEnd (by rw [length_tl]; exact hae)
      rw [hae] at h5
      exact ScanPost.ok h5 hown2 (Nat.le_refl _) hb2
end Go.Proofs.YtogmhaihmkcjgaaGreatDoor
