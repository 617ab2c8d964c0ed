/-
  Walks over natural: compare, Cmp, digit, fitting.
-/
import Derived.Test.YtlagcdgfmgkooaaDoorNat1
import Derived.Test.YtlagcdgfmgkooaaDoorShelf
namespace Go.Proofs.YtlagcdgfmgkooaaDoor
open Go.RowKit
set_option linter.unusedVariables false

theorem compareBytes_val : ∀ {l m : List UInt8}, l.length = m.length → Lib.compareBytes l m = Dm.cmpN (Dm.val l) (Dm.val m)
  | [], [], _ => rfl
  | [], _ :: _, h => by simp at h
  | _ :: _, [], h => by simp at h
  | a :: l, b :: m, h => by
    have hl : l.length = m.length := by simpa using h
    rw [Lib.compareBytes, Dm.val_cons, Dm.val_cons, hl]
    have h1 := Dm.val_lt l
    have h2 := Dm.val_lt m
    rw [hl] at h1
    by_cases hab : a < b
    · rw [if_pos hab]
      have h3 : a.toNat + 1 ≤ b.toNat := UInt8.lt_iff_toNat_lt.1 hab
      have h4 := Nat.mul_le_mul_right (256 ^ m.length) h3
      rw [Nat.add_mul, Nat.one_mul] at h4
      rw [Dm.cmpN_lt (by omega)]
    · rw [if_neg hab]
      by_cases hba : b < a
      · rw [if_pos hba]
        have h3 : b.toNat + 1 ≤ a.toNat := UInt8.lt_iff_toNat_lt.1 hba
        have h4 := Nat.mul_le_mul_right (256 ^ m.length) h3
        rw [Nat.add_mul, Nat.one_mul] at h4
        rw [Dm.cmpN_gt (by omega)]
      · rw [if_neg hba]
        have h3 : ¬ a.toNat < b.toNat := fun h => hab (UInt8.lt_iff_toNat_lt.2 h)
        have h4 : ¬ b.toNat < a.toNat := fun h => hba (UInt8.lt_iff_toNat_lt.2 h)
        have e : a.toNat = b.toNat := by omega
        rw [compareBytes_val hl, e, Dm.cmpN_add]

set_option maxHeartbeats 400000 in
theorem cmpint_lt (a b : Int) (w : World) (h : a < b) :
    Calls Tryd.prog 86 #[.int .i64 a, .int .i64 b] w fun e w' => e = .returned (.int .i64 (-1)) ∧ w = w' := by
  go_enter Tryd.func86, Tryd.ntmps86
  go_wp2
  go_ret
  exact ⟨rfl, rfl⟩
set_option maxHeartbeats 400000 in
theorem cmpint_gt (a b : Int) (w : World) (h : b < a) :
    Calls Tryd.prog 86 #[.int .i64 a, .int .i64 b] w fun e w' => e = .returned (.int .i64 1) ∧ w = w' := by
  go_enter Tryd.func86, Tryd.ntmps86
  go_wp2
  go_ret
  exact ⟨rfl, rfl⟩
set_option maxHeartbeats 400000 in
theorem cmpint_eq (a : Int) (w : World) :
    Calls Tryd.prog 86 #[.int .i64 a, .int .i64 a] w fun e w' => e = .returned (.int .i64 0) ∧ w = w' := by
  go_enter Tryd.func86, Tryd.ntmps86
  go_wp2
  go_ret
  exact ⟨rfl, rfl⟩

set_option maxHeartbeats 400000 in
theorem compare_any (s t : ByteArray) (w : World) (hs : Dm.canon (tl s) = true) (ht : Dm.canon (tl t) = true) (h1 : s.size ≤ 1073741824) (h2 : t.size ≤ 1073741824) :
    Calls Tryd.prog 63 #[.string s, .string t] w fun e w' => e = .returned (.int .i64 (Dm.cmpN (Dm.val (tl s)) (Dm.val (tl t)))) ∧ w = w' := by
  have HS := Lib.hid hs
  have HT := Lib.hid ht
  clear hs ht
  rcases Nat.lt_trichotomy s.size t.size with h | h | h
  · have HV := Lib.hid (Dm.cmpN_lt (Dm.val_lt_of_length (l := tl s) HT.out (by rw [length_tl, length_tl]; exact h)))
    go_enter Tryd.func63, Tryd.ntmps63
    go_wp2_with (first | (go_at_call 86; refine (cmpint_lt _ _ _ (by omega)).mono ?_; rintro e w' ⟨rfl, rfl⟩))
    go_ret
    exact ⟨ret_int (by rw [HV.out]), rfl⟩
  · have hc := compareBytes_val (l := tl s) (m := tl t) (by rw [length_tl, length_tl]; exact h)
    have HC := Lib.hid hc
    have HE := Lib.hid h
    clear h hc
    go_enter Tryd.func63, Tryd.ntmps63
    go_wp2_with (first | (go_at_call 86; rw [HE.out]; refine (cmpint_eq _ _).mono ?_; rintro e w' ⟨rfl, rfl⟩) | (go_at_call 87; refine (Tryd.strings_Compare s t _).mono ?_; rintro e w' ⟨rfl, rfl⟩))
    go_ret
    exact ⟨ret_int HC.out, rfl⟩
  · have HV := Lib.hid (Dm.cmpN_gt (Dm.val_lt_of_length (l := tl t) HS.out (by rw [length_tl, length_tl]; exact h)))
    go_enter Tryd.func63, Tryd.ntmps63
    go_wp2_with (first | (go_at_call 86; refine (cmpint_gt _ _ _ (by omega)).mono ?_; rintro e w' ⟨rfl, rfl⟩))
    go_ret
    exact ⟨ret_int (by rw [HV.out]), rfl⟩

theorem validB_canon {l : List UInt8} (h : validB l = true) : Dm.canon l = true := by unfold validB at h; simp at h; exact h.2
theorem validB_len {l : List UInt8} (h : validB l = true) : l.length ≤ 128 := by unfold validB at h; simp at h; exact h.1
theorem validB_size {s : ByteArray} (h : validB (tl s) = true) : s.size ≤ 128 := by rw [← length_tl]; exact validB_len h

def cmpV (l m : List UInt8) : Int := if validB l && validB m then Dm.cmpN (Dm.val l) (Dm.val m) else 0
set_option maxHeartbeats 400000 in
theorem Cmp_any (s t : ByteArray) (w : World) (h1 : s.size ≤ 1073741824) (h2 : t.size ≤ 1073741824) :
    Calls Tryd.prog 25 #[.string s, .string t] w fun e w' => e = .returned (.int .i64 (cmpV (tl s) (tl t))) ∧ w = w' := by
  cases hs : validB (tl s) with
  | false =>
    have HS := Lib.hid hs
    clear hs
    go_enter Tryd.func25, Tryd.ntmps25
    go_wp2_with (first | (go_at_call 22; refine (valid_at s false _ h1 HS.out).mono ?_; rintro e w' ⟨rfl, rfl⟩))
    go_ret
    exact ⟨ret_int (by rw [cmpV, HS.out]; rfl), rfl⟩
  | true =>
    have HS := Lib.hid hs
    clear hs
    cases ht : validB (tl t) with
    | false =>
      have HT := Lib.hid ht
      clear ht
      go_enter Tryd.func25, Tryd.ntmps25
      go_wp2_with fail
      refine (valid_at s true _ h1 HS.out).mono ?_
      rintro e w' ⟨rfl, rfl⟩
      go_wp2_with fail
      refine (valid_at t false _ h2 HT.out).mono ?_
      rintro e w' ⟨rfl, rfl⟩
      go_wp2_with fail
      go_ret
      exact ⟨ret_int (by rw [cmpV, HS.out, HT.out]; rfl), rfl⟩
    | true =>
      have HT := Lib.hid ht
      clear ht
      go_enter Tryd.func25, Tryd.ntmps25
      go_wp2_with fail
      refine (valid_at s true _ h1 HS.out).mono ?_
      rintro e w' ⟨rfl, rfl⟩
      go_wp2_with fail
      refine (valid_at t true _ h2 HT.out).mono ?_
      rintro e w' ⟨rfl, rfl⟩
      go_wp2_with fail
      refine (compare_any s t _ (validB_canon HS.out) (validB_canon HT.out) h1 h2).mono ?_
      rintro e w' ⟨rfl, rfl⟩
      go_wp2_with fail
      go_ret
      exact ⟨ret_int (by rw [cmpV, HS.out, HT.out]; rfl), rfl⟩

theorem dig_at (s : ByteArray) (i : Nat) (h : i < s.size) : Dm.dig (tl s) i = s[s.size - 1 - i] := by
  unfold Dm.dig
  rw [if_pos (by rw [length_tl]; exact h), ← tl_getElem s _ (by omega)]
  rw [List.getD_eq_getElem?_getD, List.getElem?_eq_getElem (by rw [length_tl]; omega)]
  simp only [Option.getD_some, length_tl]
theorem dig_out (s : ByteArray) (i : Nat) (h : s.size ≤ i) : Dm.dig (tl s) i = 0 := by
  unfold Dm.dig
  rw [if_neg (by rw [length_tl]; omega)]
set_option maxHeartbeats 400000 in
theorem digit_any (s : ByteArray) (i : Nat) (w : World) (h1 : s.size ≤ 1073741824) (h2 : i ≤ 1073741824) :
    Calls Tryd.prog 74 #[.string s, .int .i64 i] w fun e w' => e = .returned (.int .i64 ((Dm.dig (tl s) i).toNat : Int)) ∧ w = w' := by
  by_cases h : i < s.size
  · have HD := Lib.hid (dig_at s i h)
    go_enter Tryd.func74, Tryd.ntmps74
    go_wp2
    go_ret
    refine ⟨ret_int ?_, rfl⟩
    rw [HD.out, wrap64_u8]
  · have HD := Lib.hid (dig_out s i (by omega))
    go_enter Tryd.func74, Tryd.ntmps74
    go_wp2
    go_ret
    exact ⟨ret_int (by rw [HD.out]; rfl), rfl⟩
theorem digit_at (s : ByteArray) (a : Int) (i : Nat) (w : World) (ha : a = i) (h1 : s.size ≤ 1073741824) (h2 : i ≤ 1073741824) :
    Calls Tryd.prog 74 #[.string s, .int .i64 a] w fun e w' => e = .returned (.int .i64 ((Dm.dig (tl s) i).toNat : Int)) ∧ w = w' := by
  subst ha
  exact digit_any s i w h1 h2

/-- a number or ErrLong -/
def fitV (l : List UInt8) : Value := if l.length ≤ 128 then .tuple #[Sv l, .int .i64 0] else .tuple #[Sv [], .int .i64 5]
set_option maxHeartbeats 400000 in
theorem fitting_any (s : ByteArray) (w : World) (h1 : s.size ≤ 1073741824) :
    Calls Tryd.prog 75 #[.string s] w fun e w' => e = .returned (fitV (tl s)) ∧ w = w' := by
  by_cases h : s.size ≤ 128
  · go_enter Tryd.func75, Tryd.ntmps75
    go_wp2
    go_ret2
    exact ⟨by rw [fitV, if_pos (by rw [length_tl]; exact h), Sv, bs_tl]; rfl, rfl⟩
  · go_enter Tryd.func75, Tryd.ntmps75
    go_wp2
    go_ret2
    exact ⟨by rw [fitV, if_neg (by rw [length_tl]; exact h)]; rfl, rfl⟩
end Go.Proofs.YtlagcdgfmgkooaaDoor
