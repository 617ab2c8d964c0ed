import Derived.Test.YtlagcdgfmgkooaaDoorIntA
import Derived.Test.YtlagcdgfmgkooaaDoorIntB
import Derived.Test.YtlagcdgfmgkooaaDoorRef5
import Derived.Test.YtlagcdgfmgkooaaDoorInt13
import Derived.Test.YtlagcdgfmgkooaaDoorIntC
import Derived.BigRegion
import Derived.RegionTactic
/-
  dominolaw02.long at one and at two integers.
-/
namespace Go.Proofs.YtlagcdgfmgkooaaDoor
open Go.RowKit
set_option linter.unusedVariables false

set_option maxHeartbeats 1000000 in
theorem long2_no (n k : Bool) (s t : ByteArray) (g : Nat) (w : World) (h : Blk w g 24 [.bool n, .string s, .bool k, .string t]) (h1 : s.size ≤ 140) (h2 : t.size ≤ 140) :
    Calls Tryd.prog 12 #[.slice (some ⟨g, 0, none⟩) 2 2] w fun e w' => e = .returned (.bool false) ∧ w = w' := by
  have c0 := h.cell 0
  have c1 := h.cell 1
  have c2 := h.cell 2
  have c3 := h.cell 3
  simp at c0 c1 c2 c3
  go_enter Tryd.func12, Tryd.ntmps12
  go_wp2_with fail
  refine wp_loop_rounds 3 ?_
  rw [rounds_succ]
  go_wp2_with fail
  rw [rounds_succ]
  go_wp2_with fail
  rw [rounds_succ]
  go_wp2_with fail
  go_ret
  exact ⟨rfl, rfl⟩
set_option maxHeartbeats 1000000 in
theorem long2_yes (n k : Bool) (s t : ByteArray) (hs : s.size ≤ maxLen) (ht : t.size ≤ maxLen) (g : Nat) (w : World) (h : Blk w g 24 [.bool n, .string s, .bool k, .string t]) (h1 : ¬ (s.size ≤ 140 ∧ t.size ≤ 140)) :
    Calls Tryd.prog 12 #[.slice (some ⟨g, 0, none⟩) 2 2] w fun e w' => e = .returned (.bool true) ∧ w = w' := by
  have c0 := h.cell 0
  have c1 := h.cell 1
  have c2 := h.cell 2
  have c3 := h.cell 3
  simp at c0 c1 c2 c3
  unfold maxLen at hs ht
  by_cases h2 : s.size ≤ 140
  · have h3 : ¬ t.size ≤ 140 := fun h3 => h1 ⟨h2, h3⟩
    clear h1
    go_enter Tryd.func12, Tryd.ntmps12
    go_wp2_with fail
    refine wp_loop_rounds 3 ?_
    rw [rounds_succ]
    go_wp2_with fail
    rw [rounds_succ]
    go_wp2_with fail
    go_ret
    exact ⟨rfl, rfl⟩
  · clear h1
    go_enter Tryd.func12, Tryd.ntmps12
    go_wp2_with fail
    refine wp_loop_rounds 3 ?_
    rw [rounds_succ]
    go_wp2_with fail
    go_ret
    exact ⟨rfl, rfl⟩
set_option maxHeartbeats 1000000 in
theorem long1_no (n : Bool) (s : ByteArray) (g : Nat) (w : World) (h : Blk w g 24 [.bool n, .string s]) (h1 : s.size ≤ 140) :
    Calls Tryd.prog 12 #[.slice (some ⟨g, 0, none⟩) 1 1] w fun e w' => e = .returned (.bool false) ∧ w = w' := by
  have c0 := h.cell 0
  have c1 := h.cell 1
  simp at c0 c1
  go_enter Tryd.func12, Tryd.ntmps12
  go_wp2_with fail
  refine wp_loop_rounds 3 ?_
  rw [rounds_succ]
  go_wp2_with fail
  rw [rounds_succ]
  go_wp2_with fail
  go_ret
  exact ⟨rfl, rfl⟩
set_option maxHeartbeats 1000000 in
theorem long1_yes (n : Bool) (s : ByteArray) (hs : s.size ≤ maxLen) (g : Nat) (w : World) (h : Blk w g 24 [.bool n, .string s]) (h1 : ¬ s.size ≤ 140) :
    Calls Tryd.prog 12 #[.slice (some ⟨g, 0, none⟩) 1 1] w fun e w' => e = .returned (.bool true) ∧ w = w' := by
  have c0 := h.cell 0
  have c1 := h.cell 1
  simp at c0 c1
  unfold maxLen at hs
  go_enter Tryd.func12, Tryd.ntmps12
  go_wp2_with fail
  refine wp_loop_rounds 3 ?_
  rw [rounds_succ]
  go_wp2_with fail
  go_ret
  exact ⟨rfl, rfl⟩
theorem nm_val {n : Bool} {s : ByteArray} (h : validI n (tl s) = true) : ∃ m, Nm n m ∧ s = bs (Dm.str m) := by
  have h' := h
  unfold validI at h
  rw [Bool.and_eq_true] at h
  have hc := validB_canon h.1
  refine ⟨Dm.val (tl s), ⟨fun hn => ?_, ?_⟩, ?_⟩
  · subst hn
    intro h0
    have : tl s ≠ [] := by simpa using h.2
    exact this (by rw [← Dm.str_val_canon hc, h0]; rfl)
  · have h2 := Dm.val_lt (tl s)
    rw [length_tl] at h2
    exact Nat.lt_of_lt_of_le h2 (Nat.pow_le_pow_right (by omega) (validB_size h.1))
  · rw [Dm.str_val_canon hc, bs_tl]
theorem nat_val {s : ByteArray} (h : validB (tl s) = true) : ∃ m, m < 256 ^ 128 ∧ s = bs (Dm.str m) := by
  obtain ⟨m, h1, h2⟩ := nm_val (n := false) (s := s) (by unfold validI; rw [h]; rfl)
  exact ⟨m, h1.lt, h2⟩
end Go.Proofs.YtlagcdgfmgkooaaDoor

/-
  integer.Small and dominoref02.Small.
-/
namespace Go.Proofs.YtlagcdgfmgkooaaDoor
open Go.RowKit
set_option linter.unusedVariables false

def smallI (n : Bool) (l : List UInt8) : Value := if validI n l = true ∧ l.length ≤ 8 ∧ Dm.val l ≤ (if n then 9223372036854775808 else 9223372036854775807) then .tuple #[.int .i64 (zOf n l), .bool true] else .tuple #[.int .i64 0, .bool false]
theorem smallV_form2 (l : List UInt8) : ∃ (m : Nat) (ok : Bool), smallV l = .tuple #[.int .u64 (m : Int), .bool ok] ∧ (ok = true → m = Dm.val l ∧ m < 18446744073709551616) ∧ ok = (validB l && decide (l.length ≤ 8)) := by
  unfold smallV
  by_cases h : (validB l && decide (l.length ≤ 8)) = true
  · rw [if_pos h]
    refine ⟨Dm.val l, true, rfl, fun _ => ⟨rfl, ?_⟩, h.symm⟩
    have h1 := Dm.val_lt l
    rw [Bool.and_eq_true] at h
    have h2 : l.length ≤ 8 := by simpa using h.2
    have h3 : (256 : Nat) ^ l.length ≤ 256 ^ 8 := Nat.pow_le_pow_right (by omega) h2
    have h4 : (256 : Nat) ^ 8 = 18446744073709551616 := rfl
    omega
  · rw [if_neg h]
    exact ⟨0, false, rfl, (fun h => by cases h), by simpa using h⟩
theorem smallI_no (n : Bool) (l : List UInt8) (h : ¬ (validI n l = true ∧ l.length ≤ 8)) : smallI n l = .tuple #[.int .i64 0, .bool false] := by
  unfold smallI
  rw [if_neg (fun h2 => h ⟨h2.1, h2.2.1⟩)]
theorem zOf_t (l : List UInt8) : zOf true l = -(Dm.val l : Int) := rfl
theorem zOf_f (l : List UInt8) : zOf false l = (Dm.val l : Int) := rfl
set_option maxRecDepth 20000 in
set_option maxHeartbeats 1000000 in
theorem iSmall_any (n : Bool) (s : ByteArray) (w : World) (hl : s.size ≤ 1073741824) :
    Calls Tryd.prog 35 #[.agg #[.bool n, .string s]] w fun e w' => e = .returned (smallI n (tl s)) ∧ Below w.heap.size w w' := by
  obtain ⟨m, ok, h1, h2, h3⟩ := smallV_form2 (tl s)
  have hi := I1.start w (.bool n) (.string s)
  have hS := fun W : World => small_any s W hl
  rw [h1] at hS
  have HS := Lib.hid hS
  clear hS h1
  cases ok with
  | false =>
    have HV : Hid (smallI n (tl s) = .tuple #[.int .i64 0, .bool false]) := by
      refine smallI_no _ _ (fun h => ?_)
      unfold validI at h
      have h4 := h.1
      rw [Bool.and_eq_true] at h4
      rw [h4.1] at h3
      simp at h3
      have h5 := h.2
      rw [length_tl] at h5
      omega
    clear h2 h3
    go_enter Tryd.func35, Tryd.ntmps35
    go_wp2_with fail
    refine (HS.out _).mono ?_
    rintro e w1 ⟨rfl, rfl⟩
    go_wp2_with fail
    go_ret2
    exact ⟨by rw [HV.out]; rfl, hi.below⟩
  | true =>
    obtain ⟨h4, h5⟩ := h2 rfl
    have h6 : (tl s).length ≤ 8 := by
      have := h3.symm
      rw [Bool.and_eq_true] at this
      simpa using this.2
    clear h2 h3
    cases hv : validI n (tl s) with
    | false =>
      have HV : Hid (smallI n (tl s) = .tuple #[.int .i64 0, .bool false]) := smallI_no _ _ (fun h => by rw [hv] at h; cases h.1)
      have HW := Lib.hid hv
      clear hv h4 h5 h6
      go_enter Tryd.func35, Tryd.ntmps35
      go_wp2_with fail
      refine (HS.out _).mono ?_
      rintro e w1 ⟨rfl, rfl⟩
      go_wp2_with fail
      refine (iValid_at n s false _ hl HW.out).mono ?_
      rintro e w2 ⟨rfl, hb⟩
      have hi1 := hi.next hb
      go_wp2_with fail
      go_ret2
      exact ⟨by rw [HV.out]; rfl, hi1.below⟩
    | true =>
      have HW := Lib.hid hv
      have hsv : smallI n (tl s) = if m ≤ (if n then 9223372036854775808 else 9223372036854775807) then .tuple #[.int .i64 (zOf n (tl s)), .bool true] else .tuple #[.int .i64 0, .bool false] := by
        unfold smallI
        rw [← h4]
        by_cases h7 : m ≤ (if n then 9223372036854775808 else 9223372036854775807)
        · rw [if_pos ⟨hv, h6, h7⟩, if_pos h7]
        · rw [if_neg (fun h => h7 h.2.2), if_neg h7]
      clear hv h6
      cases n with
      | false =>
        by_cases h7 : m ≤ 9223372036854775807
        · have HV : Hid (smallI false (tl s) = .tuple #[.int .i64 (m : Int), .bool true]) := by
            show _ = _
            rw [hsv, zOf_f, ← h4, if_pos (by simpa using h7)]
          clear hsv h4
          go_enter Tryd.func35, Tryd.ntmps35
          go_wp2_with fail
          refine (HS.out _).mono ?_
          rintro e w1 ⟨rfl, rfl⟩
          go_wp2_with fail
          refine (iValid_at false s true _ hl HW.out).mono ?_
          rintro e w2 ⟨rfl, hb⟩
          have hi1 := hi.next hb
          obtain ⟨c0, c1, f0, f1⟩ := hi1.cells
          go_wp2_with fail
          go_ret2
          refine ⟨?_, hi1.below⟩
          rw [HV.out]
          refine ret_two (val_int ?_) rfl
          first | rfl | (simp only [IntKind.wrap_i64]; omega) | (simp only [wrap64]; omega) | (simp only [wrap64, IntKind.wrap_u64]; omega)
        · have HV : Hid (smallI false (tl s) = .tuple #[.int .i64 0, .bool false]) := by
            show _ = _
            rw [hsv, if_neg (by simpa using h7)]
          clear hsv h4
          go_enter Tryd.func35, Tryd.ntmps35
          go_wp2_with fail
          refine (HS.out _).mono ?_
          rintro e w1 ⟨rfl, rfl⟩
          go_wp2_with fail
          refine (iValid_at false s true _ hl HW.out).mono ?_
          rintro e w2 ⟨rfl, hb⟩
          have hi1 := hi.next hb
          obtain ⟨c0, c1, f0, f1⟩ := hi1.cells
          go_wp2_with fail
          go_ret2
          exact ⟨by rw [HV.out]; rfl, hi1.below⟩
      | true =>
        by_cases h7 : m ≤ 9223372036854775808
        · have HV : Hid (smallI true (tl s) = .tuple #[.int .i64 (-(m : Int)), .bool true]) := by
            show _ = _
            rw [hsv, zOf_t, ← h4, if_pos (by simpa using h7)]
          clear hsv h4
          go_enter Tryd.func35, Tryd.ntmps35
          go_wp2_with fail
          refine (HS.out _).mono ?_
          rintro e w1 ⟨rfl, rfl⟩
          go_wp2_with fail
          refine (iValid_at true s true _ hl HW.out).mono ?_
          rintro e w2 ⟨rfl, hb⟩
          have hi1 := hi.next hb
          obtain ⟨c0, c1, f0, f1⟩ := hi1.cells
          go_wp2_with fail
          go_ret2
          refine ⟨?_, hi1.below⟩
          rw [HV.out]
          refine ret_two (val_int ?_) rfl
          first | rfl | (simp only [IntKind.wrap_i64]; omega) | (simp only [wrap64]; omega) | (simp only [wrap64, IntKind.wrap_u64]; omega)
        · have HV : Hid (smallI true (tl s) = .tuple #[.int .i64 0, .bool false]) := by
            show _ = _
            rw [hsv, if_neg (by simpa using h7)]
          clear hsv h4
          go_enter Tryd.func35, Tryd.ntmps35
          go_wp2_with fail
          refine (HS.out _).mono ?_
          rintro e w1 ⟨rfl, rfl⟩
          go_wp2_with fail
          refine (iValid_at true s true _ hl HW.out).mono ?_
          rintro e w2 ⟨rfl, hb⟩
          have hi1 := hi.next hb
          obtain ⟨c0, c1, f0, f1⟩ := hi1.cells
          go_wp2_with fail
          go_ret2
          exact ⟨by rw [HV.out]; rfl, hi1.below⟩
set_option maxRecDepth 20000 in
set_option maxHeartbeats 1000000 in
theorem rSmall_any (n : Bool) (s : ByteArray) (w : World) (hl : s.size ≤ 1073741824) :
    Calls Tryd.prog 36 #[.agg #[.bool n, .string s]] w fun e w' => e = .returned (smallI n (tl s)) ∧ Below w.heap.size w w' := by
  obtain ⟨m, ok, h1, h2, h3⟩ := smallV_form2 (tl s)
  have hi := I1.start w (.bool n) (.string s)
  have hS := fun W : World => ref_small_any s W hl
  rw [h1] at hS
  have HS := Lib.hid hS
  clear hS h1
  cases ok with
  | false =>
    have HV : Hid (smallI n (tl s) = .tuple #[.int .i64 0, .bool false]) := by
      refine smallI_no _ _ (fun h => ?_)
      unfold validI at h
      have h4 := h.1
      rw [Bool.and_eq_true] at h4
      rw [h4.1] at h3
      simp at h3
      have h5 := h.2
      rw [length_tl] at h5
      omega
    clear h2 h3
    cases hv : validI n (tl s) with
    | false =>
      have HW := Lib.hid hv
      clear hv
      go_enter Tryd.func36, Tryd.ntmps36
      go_wp2_with fail
      refine (rValid_at n s false _ hl HW.out).mono ?_
      rintro e w2 ⟨rfl, hb⟩
      have hi1 := hi.next hb
      go_wp2_with fail
      go_ret2
      exact ⟨by rw [HV.out]; rfl, hi1.below⟩
    | true =>
      have HW := Lib.hid hv
      clear hv
      go_enter Tryd.func36, Tryd.ntmps36
      go_wp2_with fail
      refine (rValid_at n s true _ hl HW.out).mono ?_
      rintro e w2 ⟨rfl, hb⟩
      have hi1 := hi.next hb
      obtain ⟨c0, c1, f0, f1⟩ := hi1.cells
      go_wp2_with fail
      refine (HS.out _).mono ?_
      rintro e w1 ⟨rfl, rfl⟩
      go_wp2_with fail
      go_ret2
      exact ⟨by rw [HV.out]; rfl, hi1.below⟩
  | true =>
    obtain ⟨h4, h5⟩ := h2 rfl
    have h6 : (tl s).length ≤ 8 := by
      have := h3.symm
      rw [Bool.and_eq_true] at this
      simpa using this.2
    clear h2 h3
    cases hv : validI n (tl s) with
    | false =>
      have HV : Hid (smallI n (tl s) = .tuple #[.int .i64 0, .bool false]) := smallI_no _ _ (fun h => by rw [hv] at h; cases h.1)
      have HW := Lib.hid hv
      clear hv h4 h5 h6
      go_enter Tryd.func36, Tryd.ntmps36
      go_wp2_with fail
      refine (rValid_at n s false _ hl HW.out).mono ?_
      rintro e w2 ⟨rfl, hb⟩
      have hi1 := hi.next hb
      go_wp2_with fail
      go_ret2
      exact ⟨by rw [HV.out]; rfl, hi1.below⟩
    | true =>
      have HW := Lib.hid hv
      have hsv : smallI n (tl s) = if m ≤ (if n then 9223372036854775808 else 9223372036854775807) then .tuple #[.int .i64 (zOf n (tl s)), .bool true] else .tuple #[.int .i64 0, .bool false] := by
        unfold smallI
        rw [← h4]
        by_cases h7 : m ≤ (if n then 9223372036854775808 else 9223372036854775807)
        · rw [if_pos ⟨hv, h6, h7⟩, if_pos h7]
        · rw [if_neg (fun h => h7 h.2.2), if_neg h7]
      clear hv h6
      cases n with
      | false =>
        by_cases h7 : m ≤ 9223372036854775807
        · have HV : Hid (smallI false (tl s) = .tuple #[.int .i64 (m : Int), .bool true]) := by
            show _ = _
            rw [hsv, zOf_f, ← h4, if_pos (by simpa using h7)]
          have T1 := Lib.hid h7
          have t1 : decide ((m : Int) < 9223372036854775808) = true := by simp; omega
          clear hsv h4 h7
          go_enter Tryd.func36, Tryd.ntmps36
          go_wp2_with fail
          refine (rValid_at false s true _ hl HW.out).mono ?_
          rintro e w2 ⟨rfl, hb⟩
          have hi1 := hi.next hb
          obtain ⟨c0, c1, f0, f1⟩ := hi1.cells
          go_wp2_with fail
          refine (HS.out _).mono ?_
          rintro e w1 ⟨rfl, rfl⟩
          go_wp2_with fail
          go_ret2
          refine ⟨?_, hi1.below⟩
          rw [HV.out]
          refine ret_two (val_int ?_) rfl
          have h7 := T1.out
          clear t1
          first | rfl | (simp only [IntKind.wrap_i64]; omega) | (simp only [wrap64]; omega) | (simp only [wrap64, IntKind.wrap_u64]; omega)
        · have HV : Hid (smallI false (tl s) = .tuple #[.int .i64 0, .bool false]) := by
            show _ = _
            rw [hsv, if_neg (by simpa using h7)]
          have T1 := Lib.hid h7
          have t1 : decide ((m : Int) < 9223372036854775808) = false := by simp; omega
          clear hsv h4 h7
          go_enter Tryd.func36, Tryd.ntmps36
          go_wp2_with fail
          refine (rValid_at false s true _ hl HW.out).mono ?_
          rintro e w2 ⟨rfl, hb⟩
          have hi1 := hi.next hb
          obtain ⟨c0, c1, f0, f1⟩ := hi1.cells
          go_wp2_with fail
          refine (HS.out _).mono ?_
          rintro e w1 ⟨rfl, rfl⟩
          go_wp2_with fail
          go_ret2
          exact ⟨by rw [HV.out]; rfl, hi1.below⟩
      | true =>
        by_cases h7 : m ≤ 9223372036854775808
        · have HV : Hid (smallI true (tl s) = .tuple #[.int .i64 (-(m : Int)), .bool true]) := by
            show _ = _
            rw [hsv, zOf_t, ← h4, if_pos (by simpa using h7)]
          have T1 := Lib.hid h7
          have t1 : decide ((m : Int) ≤ 9223372036854775808) = true := by simp; omega
          clear hsv h4 h7
          go_enter Tryd.func36, Tryd.ntmps36
          go_wp2_with fail
          refine (rValid_at true s true _ hl HW.out).mono ?_
          rintro e w2 ⟨rfl, hb⟩
          have hi1 := hi.next hb
          obtain ⟨c0, c1, f0, f1⟩ := hi1.cells
          go_wp2_with fail
          refine (HS.out _).mono ?_
          rintro e w1 ⟨rfl, rfl⟩
          go_wp2_with fail
          go_ret2
          refine ⟨?_, hi1.below⟩
          rw [HV.out]
          refine ret_two (val_int ?_) rfl
          have h7 := T1.out
          clear t1
          first | rfl | (simp only [IntKind.wrap_i64]; omega) | (simp only [wrap64]; omega) | (simp only [wrap64, IntKind.wrap_u64]; omega)
        · have HV : Hid (smallI true (tl s) = .tuple #[.int .i64 0, .bool false]) := by
            show _ = _
            rw [hsv, if_neg (by simpa using h7)]
          have T1 := Lib.hid h7
          have t1 : decide ((m : Int) ≤ 9223372036854775808) = false := by simp; omega
          clear hsv h4 h7
          go_enter Tryd.func36, Tryd.ntmps36
          go_wp2_with fail
          refine (rValid_at true s true _ hl HW.out).mono ?_
          rintro e w2 ⟨rfl, hb⟩
          have hi1 := hi.next hb
          obtain ⟨c0, c1, f0, f1⟩ := hi1.cells
          go_wp2_with fail
          refine (HS.out _).mono ?_
          rintro e w1 ⟨rfl, rfl⟩
          go_wp2_with fail
          go_ret2
          exact ⟨by rw [HV.out]; rfl, hi1.below⟩
end Go.Proofs.YtlagcdgfmgkooaaDoor

/-
  integer and dominoref02: Extended, Text and Mod at invalid arguments; Mod at valid ones.
-/
namespace Go.Proofs.YtlagcdgfmgkooaaDoor
open Go.RowKit
set_option linter.unusedVariables false

set_option maxHeartbeats 1000000 in
theorem Ext_bad (s t : ByteArray) (w : World) (hl : s.size ≤ 1073741824) (hl2 : t.size ≤ 1073741824) (hv : (validB (tl s) && validB (tl t)) = false) :
    Calls Tryd.prog 20 #[.string s, .string t] w fun e w' => e = .returned (.tuple #[.string ⟨#[]⟩, intE, intE, .int .i64 3]) ∧ Below w.heap.size w w' := by
  have hi := U2.start w (.bool false) (.string ⟨#[]⟩) (.bool false) (.string ⟨#[]⟩)
  obtain ⟨c0, c1, c2, c3⟩ := hi.cells
  obtain ⟨f0, f1, f2, f3⟩ := hi.free
  cases h1 : validB (tl s) with
  | false =>
    have HV := Lib.hid h1
    clear h1 hv
    go_enter Tryd.func20, Tryd.ntmps20
    go_wp2_with fail
    refine (valid_at s false _ hl HV.out).mono ?_
    rintro e w1 ⟨rfl, rfl⟩
    go_wp2_with fail
    refine bodyPost_ret (v := .tuple #[.string ⟨#[]⟩, .agg #[.bool false, .string ⟨#[]⟩], .agg #[.bool false, .string ⟨#[]⟩], .int .i64 3]) (by simp [results, Tryd.results20, go_sem]) rfl ⟨rfl, ?_⟩
    exact hi.below
  | true =>
    rw [h1, Bool.true_and] at hv
    have HV := Lib.hid h1
    have HW := Lib.hid hv
    clear h1 hv
    go_enter Tryd.func20, Tryd.ntmps20
    go_wp2_with fail
    refine (valid_at s true _ hl HV.out).mono ?_
    rintro e w1 ⟨rfl, rfl⟩
    go_wp2_with fail
    refine (valid_at t false _ hl2 HW.out).mono ?_
    rintro e w1 ⟨rfl, rfl⟩
    go_wp2_with fail
    refine bodyPost_ret (v := .tuple #[.string ⟨#[]⟩, .agg #[.bool false, .string ⟨#[]⟩], .agg #[.bool false, .string ⟨#[]⟩], .int .i64 3]) (by simp [results, Tryd.results20, go_sem]) rfl ⟨rfl, ?_⟩
    exact hi.below
set_option maxHeartbeats 1000000 in
theorem iText_bad (n : Bool) (s : ByteArray) (w : World) (hl : s.size ≤ 1073741824) (hv : validI n (tl s) = false) :
    Calls Tryd.prog 43 #[.agg #[.bool n, .string s]] w fun e w' => e = .returned (.tuple #[.string ⟨#[]⟩, .int .i64 3]) ∧ Below w.heap.size w w' := by
  have HV := Lib.hid hv
  clear hv
  go_enter Tryd.func43, Tryd.ntmps43
  go_wp2_with fail
  refine (iValid_at n s false _ hl HV.out).mono ?_
  rintro e w1 ⟨rfl, hb1⟩
  go_wp2_with fail
  go_ret2
  exact ⟨rfl, ((Below.refl _ _).alloc (Nat.le_refl _) _).trans (hb1.mono (by simp))⟩
set_option maxHeartbeats 1000000 in
theorem rText_bad (n : Bool) (s : ByteArray) (w : World) (hl : s.size ≤ 1073741824) (hv : validI n (tl s) = false) :
    Calls Tryd.prog 44 #[.agg #[.bool n, .string s]] w fun e w' => e = .returned (.tuple #[.string ⟨#[]⟩, .int .i64 3]) ∧ Below w.heap.size w w' := by
  have HV := Lib.hid hv
  clear hv
  go_enter Tryd.func44, Tryd.ntmps44
  go_wp2_with fail
  refine (rValid_at n s false _ hl HV.out).mono ?_
  rintro e w1 ⟨rfl, hb1⟩
  go_wp2_with fail
  go_ret2
  exact ⟨rfl, ((Below.refl _ _).alloc (Nat.le_refl _) _).trans (hb1.mono (by simp))⟩
end Go.Proofs.YtlagcdgfmgkooaaDoor

/-
  integer.Mod.
-/
namespace Go.Proofs.YtlagcdgfmgkooaaDoor
open Go.RowKit
set_option linter.unusedVariables false

set_option maxHeartbeats 1000000 in
theorem iMod_nm {n : Bool} {m l : Nat} (h1 : Nm n m) (hl : l < 256 ^ 128) (h0 : l ≠ 0) (w : World) :
    Calls Tryd.prog 28 #[.agg #[.bool n, Sv (Dm.str m)], Sv (Dm.str l)] w fun e w' => e = .returned (.tuple #[Sv (Dm.str (rN n m l)), .int .i64 0]) ∧ Below w.heap.size w w' := by
  have hm := h1.2
  have hv : Nm false l := ⟨(fun h => by cases h), hl⟩
  have hsl : (bs (Dm.str l)).size ≤ 128 := hv.str
  have HVL := Lib.hid (show validB (tl (bs (Dm.str l))) = true by rw [tl_bs]; exact hv.vB)
  obtain ⟨l1, l2⟩ := str_pos h0
  have hrl : m % l < l := Nat.mod_lt _ (Nat.pos_of_ne_zero h0)
  have hi := I1.start w (.bool n) (Sv (Dm.str m))
  have HD := Lib.hid (fun W : World => nDiv m l hm hl h0 W)
  have HS := Lib.hid (fun W : World => nSub l (m % l) hl (Nat.le_of_lt hrl) W)
  have HV := Lib.hid (fun W : World => iValid_nm h1 W)
  cases n with
  | false =>
    have HR := Lib.hid (show rN false m l = m % l by rw [rN, if_neg (by simp)])
    clear hm hl
    go_enter Tryd.func28, Tryd.ntmps28
    go_wp2_with fail
    refine (HV.out _).mono ?_
    rintro e w1 ⟨rfl, hb1⟩
    have hi1 := hi.next hb1
    obtain ⟨c0, c1, -, -⟩ := hi1.cells
    clear hb1
    go_wp2_with fail
    refine (valid_at _ true _ (by omega) HVL.out).mono ?_
    rintro e w2 ⟨rfl, rfl⟩
    go_wp2_with fail
    refine (HD.out _).mono ?_
    rintro e w3 ⟨rfl, hb3⟩
    have hi3 := hi1.next hb3
    clear c0 c1
    obtain ⟨c0, c1, -, -⟩ := hi3.cells
    clear hb3
    go_wp2_with fail
    go_ret2
    exact ⟨by rw [HR.out]; rfl, hi3.below⟩
  | true =>
    by_cases hr0 : m % l = 0
    · have HR := Lib.hid (show rN true m l = m % l by rw [rN, if_neg (by simp [hr0])])
      obtain ⟨z1, z2⟩ := str_zero hr0
      clear hm hl
      go_enter Tryd.func28, Tryd.ntmps28
      go_wp2_with fail
      refine (HV.out _).mono ?_
      rintro e w1 ⟨rfl, hb1⟩
      have hi1 := hi.next hb1
      obtain ⟨c0, c1, -, -⟩ := hi1.cells
      clear hb1
      go_wp2_with fail
      refine (valid_at _ true _ (by omega) HVL.out).mono ?_
      rintro e w2 ⟨rfl, rfl⟩
      go_wp2_with fail
      refine (HD.out _).mono ?_
      rintro e w3 ⟨rfl, hb3⟩
      have hi3 := hi1.next hb3
      clear c0 c1
      obtain ⟨c0, c1, -, -⟩ := hi3.cells
      clear hb3 hr0
      go_wp2_with fail
      go_ret2
      exact ⟨by rw [HR.out]; rfl, hi3.below⟩
    · have HR := Lib.hid (show rN true m l = l - m % l by rw [rN, if_pos ⟨rfl, hr0⟩])
      obtain ⟨z1, z2⟩ := str_pos hr0
      clear hm hl
      go_enter Tryd.func28, Tryd.ntmps28
      go_wp2_with fail
      refine (HV.out _).mono ?_
      rintro e w1 ⟨rfl, hb1⟩
      have hi1 := hi.next hb1
      obtain ⟨c0, c1, -, -⟩ := hi1.cells
      clear hb1
      go_wp2_with fail
      refine (valid_at _ true _ (by omega) HVL.out).mono ?_
      rintro e w2 ⟨rfl, rfl⟩
      go_wp2_with fail
      refine (HD.out _).mono ?_
      rintro e w3 ⟨rfl, hb3⟩
      have hi3 := hi1.next hb3
      clear c0 c1
      obtain ⟨c0, c1, -, -⟩ := hi3.cells
      clear hb3 hr0
      go_wp2_with fail
      refine (HS.out _).mono ?_
      rintro e w4 ⟨rfl, hb4⟩
      have hi4 := hi3.next hb4
      go_wp2_with fail
      go_ret2
      exact ⟨by rw [HR.out]; rfl, hi4.below⟩
set_option maxHeartbeats 1000000 in
theorem iMod_zero {n : Bool} {m : Nat} (h1 : Nm n m) (w : World) :
    Calls Tryd.prog 28 #[.agg #[.bool n, Sv (Dm.str m)], Sv (Dm.str 0)] w fun e w' => e = .returned (.tuple #[.string ⟨#[]⟩, .int .i64 11]) ∧ Below w.heap.size w w' := by
  have HVL := Lib.hid (show validB (tl (bs (Dm.str 0))) = true by rw [tl_bs]; rfl)
  obtain ⟨l1, l2⟩ := str_zero (n := 0) rfl
  have hi := I1.start w (.bool n) (Sv (Dm.str m))
  have HV := Lib.hid (fun W : World => iValid_nm h1 W)
  go_enter Tryd.func28, Tryd.ntmps28
  go_wp2_with fail
  refine (HV.out _).mono ?_
  rintro e w1 ⟨rfl, hb1⟩
  have hi1 := hi.next hb1
  clear hb1
  go_wp2_with fail
  refine (valid_at _ true _ (by rw [size_bs]; decide) HVL.out).mono ?_
  rintro e w2 ⟨rfl, rfl⟩
  go_wp2_with fail
  go_ret2
  exact ⟨rfl, hi1.below⟩
set_option maxHeartbeats 1000000 in
theorem iMod_bad (n : Bool) (s t : ByteArray) (w : World) (hl : s.size ≤ 1073741824) (hl2 : t.size ≤ 1073741824) (hv : (validI n (tl s) && validB (tl t)) = false) :
    Calls Tryd.prog 28 #[.agg #[.bool n, .string s], .string t] w fun e w' => e = .returned (.tuple #[.string ⟨#[]⟩, .int .i64 3]) ∧ Below w.heap.size w w' := by
  have hi := I1.start w (.bool n) (.string s)
  cases h1 : validI n (tl s) with
  | false =>
    have HV := Lib.hid h1
    clear h1 hv
    go_enter Tryd.func28, Tryd.ntmps28
    go_wp2_with fail
    refine (iValid_at n s false _ hl HV.out).mono ?_
    rintro e w1 ⟨rfl, hb1⟩
    go_wp2_with fail
    go_ret2
    exact ⟨rfl, (hi.next hb1).below⟩
  | true =>
    rw [h1, Bool.true_and] at hv
    have HV := Lib.hid h1
    have HW := Lib.hid hv
    clear h1 hv
    go_enter Tryd.func28, Tryd.ntmps28
    go_wp2_with fail
    refine (iValid_at n s true _ hl HV.out).mono ?_
    rintro e w1 ⟨rfl, hb1⟩
    go_wp2_with fail
    refine (valid_at t false _ hl2 HW.out).mono ?_
    rintro e w2 ⟨rfl, rfl⟩
    go_wp2_with fail
    go_ret2
    exact ⟨rfl, (hi.next hb1).below⟩
end Go.Proofs.YtlagcdgfmgkooaaDoor

/-
  dominoref02.Mod.
-/
namespace Go.Proofs.YtlagcdgfmgkooaaDoor
open Go.RowKit
set_option linter.unusedVariables false

theorem kp_c01 {w W : World} {g : Nat} {t : TypeId} {x y : Value} {bl : List (Nat × TypeId × List Value)} (h : Kp w bl W) (hm : (g, t, [x, y]) ∈ bl) : W.cell? ⟨g, 0, none⟩ = some x ∧ W.cell? ⟨g, 1, none⟩ = some y := ⟨(h.blk _ hm).cell 0, (h.blk _ hm).cell 1⟩
theorem kp_f01 {w W : World} {g : Nat} {t : TypeId} {x y : Value} {bl : List (Nat × TypeId × List Value)} (h : Kp w bl W) (hm : (g, t, [x, y]) ∈ bl) : W.frozen? ⟨g, 0, none⟩ = false ∧ W.frozen? ⟨g, 1, none⟩ = false := ⟨(h.blk _ hm).frozen 0, (h.blk _ hm).frozen 1⟩
theorem set_keep {W : World} {g b : Nat} {u v x y : Value} (h : W.cell? ⟨b, 0, none⟩ = some x ∧ W.cell? ⟨b, 1, none⟩ = some y) (hne : b ≠ g) : ((W.setCell ⟨g, 0, none⟩ u).setCell ⟨g, 1, none⟩ v).cell? ⟨b, 0, none⟩ = some x ∧ ((W.setCell ⟨g, 0, none⟩ u).setCell ⟨g, 1, none⟩ v).cell? ⟨b, 1, none⟩ = some y := by
  have e : ∀ i, ((W.setCell ⟨g, 0, none⟩ u).setCell ⟨g, 1, none⟩ v).cell? ⟨b, i, none⟩ = W.cell? ⟨b, i, none⟩ := fun i => World.cell?_of_block ((Below.heap_setCell _ _ _ _ hne).trans (Below.heap_setCell _ _ _ _ hne))
  exact ⟨(e 0).trans h.1, (e 1).trans h.2⟩
theorem rfromN (m : Nat) (hm : m < 256 ^ 128) (w : World) :
    Calls Tryd.prog 39 #[Sv (Dm.str m)] w fun e w' => e = .returned (.agg #[.bool false, Sv (Dm.str m)]) ∧ Below w.heap.size w w' :=
  (rFrom_nm m hm w).mono fun e w' ⟨he, hw⟩ => ⟨by rw [he]; refine ret_val ?_; rw [show ((m : Nat) : Int) = zz false m from rfl, iV_zz (by intro h; cases h)], hw⟩
set_option maxHeartbeats 2000000 in
theorem rMod_gen {n : Bool} {m l : Nat} (h1 : Nm n m) (hl : l < 256 ^ 128) (x : Bool) (y r : ByteArray) (er : Int) (hD : Hid (∀ W : World, Calls Tryd.prog 27 #[.agg #[.bool n, Sv (Dm.str m)], .agg #[.bool false, Sv (Dm.str l)]] W fun e w' => e = .returned (.tuple #[.agg #[.bool x, .string y], .string r, .int .i64 er]) ∧ Below W.heap.size W w')) (w : World) :
    Calls Tryd.prog 29 #[.agg #[.bool n, Sv (Dm.str m)], Sv (Dm.str l)] w fun e w' => e = .returned (.tuple #[.string r, .int .i64 er]) ∧ Below w.heap.size w w' := by
  have hv : Nm false l := ⟨(fun h => by cases h), hl⟩
  have hsl : (bs (Dm.str l)).size ≤ 128 := hv.str
  have HVL := Lib.hid (show validB (tl (bs (Dm.str l))) = true by rw [tl_bs]; exact hv.vB)
  have HV := Lib.hid (fun W : World => rValid_nm h1 W)
  have HF := Lib.hid (fun W : World => rfromN l hl W)
  have hk := (Kp.start w).new 24 [.bool n, Sv (Dm.str m)]
  clear hl
  go_enter Tryd.func29, Tryd.ntmps29
  go_wp2_with fail
  refine (HV.out _).mono ?_
  rintro e w1 ⟨rfl, hb1⟩
  have hk1 := hk.next hb1
  clear hk hb1
  go_wp2_with fail
  refine (ref_valid_at _ true _ (by omega) HVL.out).mono ?_
  rintro e w2 ⟨rfl, rfl⟩
  go_wp2_with fail
  have hkd := hk1.drew
  have hkn := (hk1.new 24 [.bool false, .string ⟨#[]⟩]).drew
  have hz0 : w.heap.size < w1.heap.size := (hk1.blk _ (List.mem_cons_self ..)).lt
  clear hk1
  go_region_held3 (fun w' => w'.cell? ⟨w.heap.size, 0, none⟩ = some (.bool n) ∧ w'.cell? ⟨w.heap.size, 1, none⟩ = some (Sv (Dm.str m)))
    (first | exact kp_c01 (w := w) (by assumption) (List.mem_cons_self ..) | exact kp_c01 (w := w) (by assumption) (List.mem_cons_of_mem _ (List.mem_cons_self ..)) | exact kp_c01 (w := w) (Kp.alloc (by assumption) _) (List.mem_cons_self ..) | exact set_keep (kp_c01 (w := w) (by assumption) (List.mem_cons_of_mem _ (List.mem_cons_self ..))) (by omega) | exact set_keep (kp_c01 (w := w) (by assumption) (List.mem_cons_self ..)) (by omega))
    (first | (go_at_call 39; refine (HF.out _).mono ?_; rintro e wa ⟨rfl, hba⟩; (first | (have hka := Kp.next (w := w) (by assumption) hba) | (have hka := Kp.next (w := w) (Kp.new (by assumption) 24 [.bool false, .string ⟨#[]⟩]) hba)); (first | (have hza := (hka.blk _ (List.mem_cons_of_mem _ (List.mem_cons_self ..))).lt) | (have hza := (hka.blk _ (List.mem_cons_self ..)).lt))) | (go_at_call 27; refine (hD.out _).mono ?_; rintro e wb ⟨rfl, hbb⟩; (first | (have hkb := Kp.next (w := w) (by assumption) hbb) | (have hkb := Kp.next (w := w) (Kp.new (by assumption) 24 [.bool false, .string ⟨#[]⟩]) hbb)); (try obtain ⟨p0, p1⟩ := kp_c01 hkb (List.mem_cons_self ..)); (try obtain ⟨q0, q1⟩ := kp_f01 hkb (List.mem_cons_self ..))))
  all_goals
    go_wp2_with fail
    go_ret2
    refine ⟨rfl, ?_⟩
    first | exact (hkb.alloc _).below | exact (hkb.below.setCell (by simp; omega) _).setCell (by simp; omega) _
theorem rMod_nm {n : Bool} {m l : Nat} (h1 : Nm n m) (hl : l < 256 ^ 128) (h0 : l ≠ 0) (w : World) :
    Calls Tryd.prog 29 #[.agg #[.bool n, Sv (Dm.str m)], Sv (Dm.str l)] w fun e w' => e = .returned (.tuple #[Sv (Dm.str (rN n m l)), .int .i64 0]) ∧ Below w.heap.size w w' :=
  rMod_gen h1 hl _ _ _ 0 (Lib.hid fun W => (rDivMod_nm h1 ⟨(fun h => by cases h), hl⟩ W).mono fun e w' ⟨he, hw⟩ => ⟨by rw [he, divI_nm _ _ _ _ h0]; rfl, hw⟩) w
theorem rMod_zero {n : Bool} {m : Nat} (h1 : Nm n m) (w : World) :
    Calls Tryd.prog 29 #[.agg #[.bool n, Sv (Dm.str m)], Sv (Dm.str 0)] w fun e w' => e = .returned (.tuple #[.string ⟨#[]⟩, .int .i64 11]) ∧ Below w.heap.size w w' :=
  have hp : 0 < 256 ^ 128 := Nat.pos_of_ne_zero (by decide +kernel)
  rMod_gen h1 hp false ⟨#[]⟩ ⟨#[]⟩ 11 (Lib.hid fun W => (rDivMod_nm h1 ⟨(fun h => by cases h), hp⟩ W).mono fun e w' ⟨he, hw⟩ => ⟨by rw [he, divI_zero]; rfl, hw⟩) w
set_option maxHeartbeats 1000000 in
theorem rMod_bad (n : Bool) (s t : ByteArray) (w : World) (hl : s.size ≤ 1073741824) (hl2 : t.size ≤ 1073741824) (hv : (validI n (tl s) && validB (tl t)) = false) :
    Calls Tryd.prog 29 #[.agg #[.bool n, .string s], .string t] w fun e w' => e = .returned (.tuple #[.string ⟨#[]⟩, .int .i64 3]) ∧ Below w.heap.size w w' := by
  have hi := I1.start w (.bool n) (.string s)
  cases h1 : validI n (tl s) with
  | false =>
    have HV := Lib.hid h1
    clear h1 hv
    go_enter Tryd.func29, Tryd.ntmps29
    go_wp2_with fail
    refine (rValid_at n s false _ hl HV.out).mono ?_
    rintro e w1 ⟨rfl, hb1⟩
    go_wp2_with fail
    go_ret2
    exact ⟨rfl, (hi.next hb1).below⟩
  | true =>
    rw [h1, Bool.true_and] at hv
    have HV := Lib.hid h1
    have HW := Lib.hid hv
    clear h1 hv
    go_enter Tryd.func29, Tryd.ntmps29
    go_wp2_with fail
    refine (rValid_at n s true _ hl HV.out).mono ?_
    rintro e w1 ⟨rfl, hb1⟩
    go_wp2_with fail
    refine (ref_valid_at t false _ hl2 HW.out).mono ?_
    rintro e w2 ⟨rfl, rfl⟩
    go_wp2_with fail
    go_ret2
    exact ⟨rfl, (hi.next hb1).below⟩
end Go.Proofs.YtlagcdgfmgkooaaDoor

/-
  The plain law of the recursive extended algorithm: coefficients and their bounds. No program in sight.
-/
namespace Go.Proofs.YtlagcdgfmgkooaaDoor

/-- the coefficients, with so much fuel -/
def bzF : Nat → Nat → Nat → Int × Int
  | 0, _, _ => (1, 0)
  | f + 1, a, b => if b = 0 then (1, 0) else ((bzF f b (a % b)).2, (bzF f b (a % b)).1 - ((a / b : Nat) : Int) * (bzF f b (a % b)).2)
theorem bz_zero (f a : Nat) : bzF f a 0 = (1, 0) := by cases f <;> simp [bzF]
theorem bz_sum (f : Nat) : ∀ a b : Nat, b < f → (a : Int) * (bzF f a b).1 + (b : Int) * (bzF f a b).2 = (Nat.gcd a b : Int) := by
  induction f with
  | zero => intro a b h; omega
  | succ f ih =>
    intro a b h
    by_cases hb : b = 0
    · subst hb
      rw [bz_zero]
      simp
    · have hlt : a % b < b := Nat.mod_lt _ (Nat.pos_of_ne_zero hb)
      have h1 := ih b (a % b) (by omega)
      rw [bzF, if_neg hb]
      have h2 : (a : Int) = (b : Int) * ((a / b : Nat) : Int) + ((a % b : Nat) : Int) := by
        have := Nat.div_add_mod a b
        rw [← Int.natCast_mul, ← Int.natCast_add, this]
      have h3 : Nat.gcd a b = Nat.gcd b (a % b) := by rw [Nat.gcd_comm, Nat.gcd_rec, Nat.gcd_comm]
      rw [h3, ← h1]
      show (a : Int) * (bzF f b (a % b)).2 + (b : Int) * ((bzF f b (a % b)).1 - ((a / b : Nat) : Int) * (bzF f b (a % b)).2) = _
      generalize (bzF f b (a % b)).1 = x
      generalize (bzF f b (a % b)).2 = y
      generalize ((a / b : Nat) : Int) = q at *
      generalize ((a % b : Nat) : Int) = r at *
      rw [h2, Int.add_mul, Int.mul_sub]
      have e : (b : Int) * q * y = b * (q * y) := Int.mul_assoc _ _ _
      omega
theorem bz_step {a b : Nat} {x y : Int} (_ : b ≠ 0) (h : a % b = 0 → x = 1 ∧ y = 0) (h2 : a % b ≠ 0 → x.natAbs ≤ a % b ∧ y.natAbs ≤ b) :
    y.natAbs ≤ b ∧ (((a / b : Nat) : Int) * y).natAbs ≤ a ∧ (x - ((a / b : Nat) : Int) * y).natAbs ≤ max a 1 := by
  have hdm := Nat.div_add_mod a b
  by_cases h0 : a % b = 0
  · obtain ⟨rfl, rfl⟩ := h h0
    simp
    omega
  · obtain ⟨h3, h4⟩ := h2 h0
    have h5 : (((a / b : Nat) : Int) * y).natAbs = (a / b) * y.natAbs := by rw [Int.natAbs_mul, Int.natAbs_natCast]
    have h6 : (a / b) * y.natAbs ≤ (a / b) * b := Nat.mul_le_mul_left _ h4
    have h7 : (a / b) * b = b * (a / b) := Nat.mul_comm _ _
    refine ⟨h4, by omega, ?_⟩
    have h8 := Int.natAbs_sub_le x (((a / b : Nat) : Int) * y)
    omega
theorem bz_bound (f : Nat) : ∀ a b : Nat, b < f → b ≠ 0 → (bzF f a b).1.natAbs ≤ b ∧ (bzF f a b).2.natAbs ≤ max a 1 := by
  induction f with
  | zero => intro a b h; omega
  | succ f ih =>
    intro a b h hb
    have hlt : a % b < b := Nat.mod_lt _ (Nat.pos_of_ne_zero hb)
    have h1 := bz_step (a := a) (b := b) (x := (bzF f b (a % b)).1) (y := (bzF f b (a % b)).2) hb
      (fun h0 => by rw [h0, bz_zero]; exact ⟨rfl, rfl⟩) (fun h0 => by have := ih b (a % b) (by omega) h0; omega)
    rw [bzF, if_neg hb]
    exact ⟨h1.1, h1.2.2⟩
theorem bz_prod (f a b : Nat) (hf : b ≤ f) (hb : b ≠ 0) : (((a / b : Nat) : Int) * (bzF f b (a % b)).2).natAbs ≤ a := by
  have hlt : a % b < b := Nat.mod_lt _ (Nat.pos_of_ne_zero hb)
  exact (bz_step (a := a) (b := b) (x := (bzF f b (a % b)).1) (y := (bzF f b (a % b)).2) hb (fun h0 => by rw [h0, bz_zero]; exact ⟨rfl, rfl⟩) (fun h0 => by have := bz_bound f b (a % b) (by omega) h0; omega)).2.1
/-- the first coefficient reduced, the second changed accordingly -/
theorem bz_reduced {a b : Nat} {x y : Int} (hb : b ≠ 0) (h : (a : Int) * x + b * y = Nat.gcd a b) : EZ a b (x % ((b / Nat.gcd a b : Nat) : Int)) (y + x / ((b / Nat.gcd a b : Nat) : Int) * ((a / Nat.gcd a b : Nat) : Int)) := by
  have hg : 0 < Nat.gcd a b := Nat.gcd_pos_of_pos_right a (Nat.pos_of_ne_zero hb)
  obtain ⟨A, hA⟩ := Nat.gcd_dvd_left a b
  obtain ⟨B, hB⟩ := Nat.gcd_dvd_right a b
  have hAd : a / Nat.gcd a b = A := by rw [Nat.div_eq_of_eq_mul_right hg hA]
  have hBd : b / Nat.gcd a b = B := by rw [Nat.div_eq_of_eq_mul_right hg hB]
  have hBp : B ≠ 0 := by rintro rfl; rw [Nat.mul_zero] at hB; exact hb hB
  have hB0 : (0 : Int) < (B : Int) := by omega
  rw [hAd, hBd]
  have hdm := Int.emod_add_mul_ediv x (B : Int)
  have hlt := Int.emod_lt_of_pos x hB0
  have hnn := Int.emod_nonneg x (by omega : (B : Int) ≠ 0)
  refine ⟨?_, hnn, ?_⟩
  · have hAB : (a : Int) * B = (b : Int) * A := by
      rw [← Int.natCast_mul, ← Int.natCast_mul]
      congr 1
      calc a * B = Nat.gcd a b * A * B := by rw [← hA]
        _ = Nat.gcd a b * B * A := by rw [Nat.mul_assoc, Nat.mul_comm A B, ← Nat.mul_assoc]
        _ = b * A := by rw [← hB]
    generalize hq : x / (B : Int) = q at *
    generalize hr : x % (B : Int) = r at *
    have hx : x = r + B * q := by omega
    rw [hx, Int.mul_add, ← Int.mul_assoc, hAB] at h
    rw [Int.mul_add, ← h]
    have e1 : (b : Int) * A * q = b * (q * A) := by rw [Int.mul_assoc, Int.mul_comm (A : Int) q]
    omega
  · have h5 : (b : Int) = B * (Nat.gcd a b : Int) := by rw [← Int.natCast_mul, Nat.mul_comm, ← hB]
    rw [h5]
    exact Int.mul_lt_mul_of_pos_right hlt (by omega)
end Go.Proofs.YtlagcdgfmgkooaaDoor

/-
  dominoref02.bezout.
-/
namespace Go.Proofs.YtlagcdgfmgkooaaDoor
open Go.RowKit
set_option linter.unusedVariables false

abbrev az (z : Int) : Value := .agg #[.bool (decide (z < 0)), Sv (Dm.str z.natAbs)]
theorem rofG (z : Int) (h1 : -9223372036854775808 ≤ z) (h2 : z ≤ 9223372036854775807) (w : World) :
    Calls Tryd.prog 38 #[.int .i64 z] w fun e w' => e = .returned (.agg #[.bool (decide (z < 0)), Sv (Dm.str z.natAbs)]) ∧ Below w.heap.size w w' := rOf_any z h1 h2 w
theorem kp_set2 {w W : World} {g : Nat} {t : TypeId} {u0 v0 : Value} {bl : List (Nat × TypeId × List Value)} (h : Kp w ((g, t, [u0, v0]) :: bl) W) (hg : w.heap.size ≤ g) (hd : ∀ x ∈ bl, x.1 ≠ g) (u v : Value) : Kp w ((g, t, [u, v]) :: bl) ((W.setCell ⟨g, 0, none⟩ u).setCell ⟨g, 1, none⟩ v) := by
  refine ⟨fun x hx => ?_, (h.below.setCell (by simpa using hg) _).setCell (by simpa using hg) _⟩
  rcases List.mem_cons.1 hx with rfl | hx'
  · exact ((h.blk _ (List.mem_cons_self ..)).set_ 0 u).set_ 1 v
  · have h1 := h.blk x (List.mem_cons_of_mem _ hx')
    have h2 := hd x hx'
    exact (h1.far (by simpa using h2) _).far (by simpa using h2) _
set_option maxHeartbeats 2000000 in
theorem bezout_zero (a : Nat) (w : World) :
    Calls Tryd.prog 60 #[Sv (Dm.str a), Sv (Dm.str 0)] w fun e w' => e = .returned (.tuple #[Sv (Dm.str a), az 1, az 0]) ∧ Below w.heap.size w w' := by
  obtain ⟨l1, l2⟩ := str_zero (n := 0) rfl
  have hu := U2.start w (.bool false) (.string ⟨#[]⟩) (.bool false) (.string ⟨#[]⟩)
  go_enter Tryd.func60, Tryd.ntmps60
  go_wp2_with fail
  refine (rofG 1 (by decide) (by decide) _).mono ?_
  rintro e w1 ⟨rfl, hb1⟩
  have hu1 := hu.next hb1
  go_wp2_with fail
  refine (rofG 0 (by decide) (by decide) _).mono ?_
  rintro e w2 ⟨rfl, hb2⟩
  have hu2 := hu1.next hb2
  obtain ⟨c0, c1, c2, c3⟩ := hu2.cells
  obtain ⟨f0, f1, f2, f3⟩ := hu2.free
  clear hu hu1 hb1 hb2
  go_wp2_with fail
  exact bodyPost_ret (v := .tuple #[Sv (Dm.str a), .agg #[.bool false, Sv (Dm.str 1)], .agg #[.bool false, Sv (Dm.str 0)]]) (by simp [results, Tryd.results60, go_sem, c0, c1, c2, c3]) rfl ⟨rfl, (hu2.set (.bool false) (Sv (Dm.str 1)) (.bool false) (Sv (Dm.str 0))).below⟩
theorem rmulZ {n k : Bool} {m l : Nat} (h1 : Nm n m) (h2 : Nm k l) (p : Int) (hp : zz n m * zz k l = p) (hf : Fits p) (w : World) :
    Calls Tryd.prog 19 #[.agg #[.bool n, Sv (Dm.str m)], .agg #[.bool k, Sv (Dm.str l)]] w fun e w' => e = .returned (.tuple #[.agg #[.bool (decide (p < 0)), Sv (Dm.str p.natAbs)], .int .i64 0]) ∧ Below w.heap.size w w' :=
  (rMul_nm h1 h2 w).mono fun e w' ⟨he, hw⟩ => ⟨by rw [he, hp, fitI_ok hf]; rfl, hw⟩
theorem rsubZ {n k : Bool} {m l : Nat} (h1 : Nm n m) (h2 : Nm k l) (p : Int) (hp : zz n m - zz k l = p) (hf : Fits p) (w : World) :
    Calls Tryd.prog 17 #[.agg #[.bool n, Sv (Dm.str m)], .agg #[.bool k, Sv (Dm.str l)]] w fun e w' => e = .returned (.tuple #[.agg #[.bool (decide (p < 0)), Sv (Dm.str p.natAbs)], .int .i64 0]) ∧ Below w.heap.size w w' :=
  (rSub_nm h1 h2 w).mono fun e w' ⟨he, hw⟩ => ⟨by rw [he, hp, fitI_ok hf]; rfl, hw⟩
theorem raddZ {n k : Bool} {m l : Nat} (h1 : Nm n m) (h2 : Nm k l) (p : Int) (hp : zz n m + zz k l = p) (hf : Fits p) (w : World) :
    Calls Tryd.prog 15 #[.agg #[.bool n, Sv (Dm.str m)], .agg #[.bool k, Sv (Dm.str l)]] w fun e w' => e = .returned (.tuple #[.agg #[.bool (decide (p < 0)), Sv (Dm.str p.natAbs)], .int .i64 0]) ∧ Below w.heap.size w w' :=
  (rAdd_nm h1 h2 w).mono fun e w' ⟨he, hw⟩ => ⟨by rw [he, hp, fitI_ok hf]; rfl, hw⟩
end Go.Proofs.YtlagcdgfmgkooaaDoor

/-
  dominoref02.bezout: one step. (under way)
-/
namespace Go.Proofs.YtlagcdgfmgkooaaDoor
open Go.RowKit
set_option linter.unusedVariables false

abbrev azL (z : Int) : List Value := [.bool (decide (z < 0)), Sv (Dm.str z.natAbs)]
theorem kp_c01' {w W : World} {g : Nat} {t : TypeId} {x y : Value} {bl : List (Nat × TypeId × List Value)} (i : Nat) (h : Kp w bl W) (hm : bl[i]? = some (g, t, [x, y])) : W.cell? ⟨g, 0, none⟩ = some x ∧ W.cell? ⟨g, 1, none⟩ = some y := kp_c01 h (List.mem_of_getElem? hm)
theorem kp_f01' {w W : World} {g : Nat} {t : TypeId} {x y : Value} {bl : List (Nat × TypeId × List Value)} (i : Nat) (h : Kp w bl W) (hm : bl[i]? = some (g, t, [x, y])) : W.frozen? ⟨g, 0, none⟩ = false ∧ W.frozen? ⟨g, 1, none⟩ = false := kp_f01 h (List.mem_of_getElem? hm)
theorem kp_l {w W : World} {g : Nat} {t : TypeId} {l : List Value} {bl : List (Nat × TypeId × List Value)} (i : Nat) (h : Kp w bl W) (hm : bl[i]? = some (g, t, l)) : g < W.heap.size := (h.blk _ (List.mem_of_getElem? hm)).lt
set_option maxHeartbeats 4000000 in
theorem bezout_step (a b : Nat) (ha : a < 256 ^ 128) (hb : b < 256 ^ 128) (hb0 : b ≠ 0) (G : Nat) (x y p z : Int)
    (hR : Hid (∀ W : World, Calls Tryd.prog 60 #[Sv (Dm.str b), Sv (Dm.str (a % b))] W fun e w' => e = .returned (.tuple #[Sv (Dm.str G), az x, az y]) ∧ Below W.heap.size W w'))
    (fx : Fits x) (fy : Fits y) (hp : ((a / b : Nat) : Int) * y = p) (hz : x - p = z) (fp : Fits p) (fz : Fits z) (w : World) :
    Calls Tryd.prog 60 #[Sv (Dm.str a), Sv (Dm.str b)] w fun e w' => e = .returned (.tuple #[Sv (Dm.str G), az y, az z]) ∧ Below w.heap.size w w' := by
  obtain ⟨l1, l2⟩ := str_pos hb0
  have hq : a / b < 256 ^ 128 := Nat.lt_of_le_of_lt (Nat.div_le_self a b) ha
  have HF := Lib.hid (fun W : World => rfromN (a / b) hq W)
  have HM := Lib.hid (fun W : World => rmulZ (n := false) (m := a / b) ⟨(fun h => by cases h), hq⟩ (nm_of y fy) p (by rw [zz_of]; exact hp) fp W)
  have HS := Lib.hid (fun W : World => rsubZ (nm_of x fx) (nm_of p fp) z (by rw [zz_of, zz_of]; exact hz) fz W)
  have HD := Lib.hid (fun W : World => rDiv a b ha hb hb0 W)
  have hk0 : Kp w [(w.heap.size + 1, 24, [.bool false, .string ⟨#[]⟩]), (w.heap.size, 24, [.bool false, .string ⟨#[]⟩])] ((w.alloc (.cells #[.bool false, .string ⟨#[]⟩] 24)).alloc (.cells #[.bool false, .string ⟨#[]⟩] 24)) := by
    have := ((Kp.start w).new 24 [.bool false, .string ⟨#[]⟩]).new 24 [.bool false, .string ⟨#[]⟩]
    simpa using this
  clear ha hb hq hp hz fp fz fx fy
  generalize a % b = r at *
  generalize a / b = q at *
  go_enter Tryd.func60, Tryd.ntmps60
  go_wp2_with fail
  refine (HD.out _).mono ?_
  rintro e w1 ⟨rfl, hb1⟩
  have hk1 := hk0.next hb1
  clear hk0 hb1
  go_wp2_with fail
  refine (hR.out _).mono ?_
  rintro e w2 ⟨rfl, hb2⟩
  have HZ2 : w.heap.size + 1 < w2.heap.size := kp_l 0 (hk1.next hb2) rfl
  have hk2 := (hk1.next hb2).new 24 (azL x)
  have hk3 := hk2.new 24 (azL y)
  have hsz : (w2.alloc (.cells (azL x).toArray 24)).heap.size = w2.heap.size + 1 := by simp
  rw [hsz] at hk3
  clear hk1 hb2 hk2 hsz
  have hz1 : w.heap.size + 1 < w2.heap.size := HZ2
  go_wp2_with fail
  have hz3 : w2.heap.size + 1 < ((w2.alloc (.cells #[.bool (decide (x < 0)), .string (bs (Dm.str x.natAbs))] 24)).alloc (.cells #[.bool (decide (y < 0)), .string (bs (Dm.str y.natAbs))] 24)).heap.size := by simp
  have hk4 : Kp w [(w2.heap.size + 1, 24, azL y), (w2.heap.size, 24, azL x), (w.heap.size + 1, 24, [.bool false, .string ⟨#[]⟩]), (w.heap.size, 24, [.bool false, .string ⟨#[]⟩])] ((w2.alloc (.cells #[.bool (decide (x < 0)), .string (bs (Dm.str x.natAbs))] 24)).alloc (.cells #[.bool (decide (y < 0)), .string (bs (Dm.str y.natAbs))] 24)) := hk3
  clear hk3
  generalize (w2.alloc (.cells #[.bool (decide (x < 0)), .string (bs (Dm.str x.natAbs))] 24)).alloc (.cells #[.bool (decide (y < 0)), .string (bs (Dm.str y.natAbs))] 24) = W3 at *
  have hz2 : w2.heap.size < w2.heap.size + 1 := Nat.lt_succ_self _
  generalize w2.heap.size + 1 = g12 at *
  generalize w2.heap.size = g11 at *
  have hkd := hk4.drew
  have hkn := (hk4.new 24 [.bool false, .string ⟨#[]⟩]).drew
  clear hk4
  go_region_held3 (fun w' => w'.cell? ⟨g12, 0, none⟩ = some (.bool (decide (y < 0))) ∧ w'.cell? ⟨g12, 1, none⟩ = some (Sv (Dm.str y.natAbs)))
    (first | exact kp_c01' (w := w) 0 (by assumption) rfl | exact kp_c01' (w := w) 1 (by assumption) rfl | exact kp_c01' (w := w) 0 (Kp.alloc (by assumption) _) rfl | exact set_keep (kp_c01' (w := w) 1 (by assumption) rfl) (by omega) | exact set_keep (kp_c01' (w := w) 0 (by assumption) rfl) (by omega))
    (first | (go_at_call 39; refine (HF.out _).mono ?_; rintro e wa ⟨rfl, hba⟩; (first | (have hka := Kp.next (w := w) (by assumption) hba) | (have hka := Kp.next (w := w) (Kp.new (by assumption) 24 [.bool false, .string ⟨#[]⟩]) hba)); (first | (have hza : g12 < wa.heap.size := kp_l 0 hka rfl) | (have hza : g12 < wa.heap.size := kp_l 1 hka rfl))) | (go_at_call 19; refine (HM.out _).mono ?_; rintro e wb ⟨rfl, hbb⟩; (first | (have hkb := Kp.next (w := w) (by assumption) hbb) | (have hkb := Kp.next (w := w) (Kp.new (by assumption) 24 [.bool false, .string ⟨#[]⟩]) hbb)); (try obtain ⟨p0, p1⟩ := kp_c01' 0 hkb rfl); (try obtain ⟨q0, q1⟩ := kp_f01' 0 hkb rfl)))
  · rename_i hHeld
    have hk5 : Kp w [(wb.heap.size, 24, azL p), (g12, 24, azL y), (g11, 24, azL x), (w.heap.size + 1, 24, [.bool false, .string ⟨#[]⟩]), (w.heap.size, 24, [.bool false, .string ⟨#[]⟩])] (wb.alloc (.cells #[.bool (decide (p < 0)), .string (bs (Dm.str p.natAbs))] 24)) := hkb.new 24 (azL p)
    have hz5 : g12 < wb.heap.size := kp_l 0 hkb rfl
    clear hkd hkn hka hkb hba hbb hza p0 p1 q0 q1
    generalize wb.alloc (.cells #[.bool (decide (p < 0)), .string (bs (Dm.str p.natAbs))] 24) = W4 at *
    generalize wb.heap.size = g13 at *
    clear hHeld HM HF hR HD
    obtain ⟨r0, r1⟩ := kp_c01' 0 hk5 rfl
    obtain ⟨s0, s1⟩ := kp_c01' 2 hk5 rfl
    go_wp2_with fail
    refine (HS.out _).mono ?_
    rintro e w5 ⟨rfl, hb5⟩
    have hzz : g13 < w5.heap.size := kp_l 0 (hk5.next hb5) rfl
    have hk6 := (hk5.next hb5).new 24 (azL z)
    clear r0 r1 s0 s1 hk5 hb5
    have hz6 : g13 < w5.heap.size := hzz
    go_wp2_with fail
    have hk7 : Kp w [(w5.heap.size, 24, azL z), (g13, 24, azL p), (g12, 24, azL y), (g11, 24, azL x), (w.heap.size + 1, 24, [.bool false, .string ⟨#[]⟩]), (w.heap.size, 24, [.bool false, .string ⟨#[]⟩])] (w5.alloc (.cells #[.bool (decide (z < 0)), .string (bs (Dm.str z.natAbs))] 24)) := hk6
    clear hk6
    generalize w5.alloc (.cells #[.bool (decide (z < 0)), .string (bs (Dm.str z.natAbs))] 24) = W6 at *
    generalize w5.heap.size = g15 at *
    have hkd := hk7.drew
    obtain ⟨a0, a1⟩ := kp_c01' 0 hk7 rfl
    obtain ⟨b0, b1⟩ := kp_c01' 2 hk7 rfl
    obtain ⟨c0, c1⟩ := kp_c01' 4 hk7 rfl
    obtain ⟨d0, d1⟩ := kp_c01' 5 hk7 rfl
    obtain ⟨e0, e1⟩ := kp_f01' 4 hk7 rfl
    obtain ⟨f0, f1⟩ := kp_f01' 5 hk7 rfl
    go_region
    go_wp2_with fail
    refine bodyPost_ret (v := .tuple #[Sv (Dm.str G), az y, az z]) (by simp [results, Tryd.results60, go_sem, c0, c1, d0, d1]) rfl ⟨rfl, ?_⟩
    exact ((((hk7.below.setCell (by simp) _).setCell (by simp) _).setCell (by simp) _).setCell (by simp) _).drew
  · rename_i hHeld
    have hk5 := kp_set2 hkb (by omega) (by intro x' hx'; simp at hx'; rcases hx' with rfl | rfl | rfl | rfl <;> simp <;> omega) (.bool (decide (p < 0))) (.string (bs (Dm.str p.natAbs)))
    have hz5 : g12 < wa.heap.size := hza
    clear hkd hkn hka hkb hba hbb hza p0 p1 q0 q1
    generalize ((wb.setCell ⟨wa.heap.size, 0, none⟩ (.bool (decide (p < 0)))).setCell ⟨wa.heap.size, 1, none⟩ (.string (bs (Dm.str p.natAbs)))) = W4 at *
    generalize wa.heap.size = g13 at *
    clear hHeld HM HF hR HD
    obtain ⟨r0, r1⟩ := kp_c01' 0 hk5 rfl
    obtain ⟨s0, s1⟩ := kp_c01' 2 hk5 rfl
    go_wp2_with fail
    refine (HS.out _).mono ?_
    rintro e w5 ⟨rfl, hb5⟩
    have hzz : g13 < w5.heap.size := kp_l 0 (hk5.next hb5) rfl
    have hk6 := (hk5.next hb5).new 24 (azL z)
    clear r0 r1 s0 s1 hk5 hb5
    have hz6 : g13 < w5.heap.size := hzz
    go_wp2_with fail
    have hk7 : Kp w [(w5.heap.size, 24, azL z), (g13, 24, azL p), (g12, 24, azL y), (g11, 24, azL x), (w.heap.size + 1, 24, [.bool false, .string ⟨#[]⟩]), (w.heap.size, 24, [.bool false, .string ⟨#[]⟩])] (w5.alloc (.cells #[.bool (decide (z < 0)), .string (bs (Dm.str z.natAbs))] 24)) := hk6
    clear hk6
    generalize w5.alloc (.cells #[.bool (decide (z < 0)), .string (bs (Dm.str z.natAbs))] 24) = W6 at *
    generalize w5.heap.size = g15 at *
    have hkd := hk7.drew
    obtain ⟨a0, a1⟩ := kp_c01' 0 hk7 rfl
    obtain ⟨b0, b1⟩ := kp_c01' 2 hk7 rfl
    obtain ⟨c0, c1⟩ := kp_c01' 4 hk7 rfl
    obtain ⟨d0, d1⟩ := kp_c01' 5 hk7 rfl
    obtain ⟨e0, e1⟩ := kp_f01' 4 hk7 rfl
    obtain ⟨f0, f1⟩ := kp_f01' 5 hk7 rfl
    go_region
    go_wp2_with fail
    refine bodyPost_ret (v := .tuple #[Sv (Dm.str G), az y, az z]) (by simp [results, Tryd.results60, go_sem, c0, c1, d0, d1]) rfl ⟨rfl, ?_⟩
    exact ((((hk7.below.setCell (by simp) _).setCell (by simp) _).setCell (by simp) _).setCell (by simp) _).drew
  · rename_i hHeld
    have hk5 := kp_set2 hkb (by omega) (by intro x' hx'; simp at hx'; rcases hx' with rfl | rfl | rfl | rfl <;> simp <;> omega) (.bool (decide (p < 0))) (.string (bs (Dm.str p.natAbs)))
    have hz5 : g12 < W3.heap.size := hz3
    clear hkd hkn hka hkb hba hbb hza p0 p1 q0 q1
    generalize ((wb.setCell ⟨W3.heap.size, 0, none⟩ (.bool (decide (p < 0)))).setCell ⟨W3.heap.size, 1, none⟩ (.string (bs (Dm.str p.natAbs)))) = W4 at *
    generalize W3.heap.size = g13 at *
    clear hHeld HM HF hR HD
    obtain ⟨r0, r1⟩ := kp_c01' 0 hk5 rfl
    obtain ⟨s0, s1⟩ := kp_c01' 2 hk5 rfl
    go_wp2_with fail
    refine (HS.out _).mono ?_
    rintro e w5 ⟨rfl, hb5⟩
    have hzz : g13 < w5.heap.size := kp_l 0 (hk5.next hb5) rfl
    have hk6 := (hk5.next hb5).new 24 (azL z)
    clear r0 r1 s0 s1 hk5 hb5
    have hz6 : g13 < w5.heap.size := hzz
    go_wp2_with fail
    have hk7 : Kp w [(w5.heap.size, 24, azL z), (g13, 24, azL p), (g12, 24, azL y), (g11, 24, azL x), (w.heap.size + 1, 24, [.bool false, .string ⟨#[]⟩]), (w.heap.size, 24, [.bool false, .string ⟨#[]⟩])] (w5.alloc (.cells #[.bool (decide (z < 0)), .string (bs (Dm.str z.natAbs))] 24)) := hk6
    clear hk6
    generalize w5.alloc (.cells #[.bool (decide (z < 0)), .string (bs (Dm.str z.natAbs))] 24) = W6 at *
    generalize w5.heap.size = g15 at *
    have hkd := hk7.drew
    obtain ⟨a0, a1⟩ := kp_c01' 0 hk7 rfl
    obtain ⟨b0, b1⟩ := kp_c01' 2 hk7 rfl
    obtain ⟨c0, c1⟩ := kp_c01' 4 hk7 rfl
    obtain ⟨d0, d1⟩ := kp_c01' 5 hk7 rfl
    obtain ⟨e0, e1⟩ := kp_f01' 4 hk7 rfl
    obtain ⟨f0, f1⟩ := kp_f01' 5 hk7 rfl
    go_region
    go_wp2_with fail
    refine bodyPost_ret (v := .tuple #[Sv (Dm.str G), az y, az z]) (by simp [results, Tryd.results60, go_sem, c0, c1, d0, d1]) rfl ⟨rfl, ?_⟩
    exact ((((hk7.below.setCell (by simp) _).setCell (by simp) _).setCell (by simp) _).setCell (by simp) _).drew
end Go.Proofs.YtlagcdgfmgkooaaDoor

/-
  dominoref02.bezout.
-/
namespace Go.Proofs.YtlagcdgfmgkooaaDoor
open Go.RowKit
set_option linter.unusedVariables false

theorem bz_fits (f a b : Nat) (hf : b < f) (M : Nat) (hM : 1 < M) (ha : a < M) (hb : b < M) : (bzF f a b).1.natAbs < M ∧ (bzF f a b).2.natAbs < M := by
  by_cases h0 : b = 0
  · subst h0
    rw [bz_zero]
    exact ⟨hM, by show 0 < M; omega⟩
  · have := bz_bound f a b hf h0
    omega
theorem bezout_any (f : Nat) : ∀ (a b : Nat) (w : World), b < f → a < 256 ^ 128 → b < 256 ^ 128 → Calls Tryd.prog 60 #[Sv (Dm.str a), Sv (Dm.str b)] w fun e w' => e = .returned (.tuple #[Sv (Dm.str (Nat.gcd a b)), az (bzF f a b).1, az (bzF f a b).2]) ∧ Below w.heap.size w w' := by
  induction f with
  | zero => intro a b w h; omega
  | succ f ih =>
    intro a b w h ha hb
    by_cases h0 : b = 0
    · subst h0
      rw [bz_zero, Nat.gcd_zero_right]
      exact bezout_zero a w
    · have hlt : a % b < b := Nat.mod_lt _ (Nat.pos_of_ne_zero h0)
      have hM : 1 < 256 ^ 128 := Nat.lt_of_lt_of_le (show 1 < 256 by decide) (Nat.le_self_pow (by decide) 256)
      have h3 : Nat.gcd a b = Nat.gcd b (a % b) := by rw [Nat.gcd_comm, Nat.gcd_rec, Nat.gcd_comm]
      have hx := bz_fits f b (a % b) (by omega) _ hM hb (Nat.lt_trans hlt hb)
      have hp := bz_prod f a b (by omega) h0
      have hz := (bz_bound (f + 1) a b h h0).2
      rw [bzF, if_neg h0] at hz
      rw [h3, bzF, if_neg h0]
      refine bezout_step a b ha hb h0 _ _ _ _ _ (Lib.hid fun W => ih b (a % b) W (by omega) hb (Nat.lt_trans hlt hb)) hx.1 hx.2 rfl rfl ?_ ?_ w
      · exact Nat.lt_of_le_of_lt hp ha
      · exact Nat.lt_of_le_of_lt hz (by omega)
end Go.Proofs.YtlagcdgfmgkooaaDoor

/-
  dominoref02.Extended at invalid arguments and at 0.
-/
namespace Go.Proofs.YtlagcdgfmgkooaaDoor
open Go.RowKit
set_option linter.unusedVariables false

set_option maxHeartbeats 1000000 in
theorem rExt_bad (s t : ByteArray) (w : World) (hl : s.size ≤ 1073741824) (hl2 : t.size ≤ 1073741824) (hv : (validB (tl s) && validB (tl t)) = false) :
    Calls Tryd.prog 21 #[.string s, .string t] w fun e w' => e = .returned (.tuple #[.string ⟨#[]⟩, intE, intE, .int .i64 3]) ∧ Below w.heap.size w w' := by
  have hi := U2.start w (.bool false) (.string ⟨#[]⟩) (.bool false) (.string ⟨#[]⟩)
  obtain ⟨c0, c1, c2, c3⟩ := hi.cells
  obtain ⟨f0, f1, f2, f3⟩ := hi.free
  cases h1 : validB (tl s) with
  | false =>
    have HV := Lib.hid h1
    clear h1 hv
    go_enter Tryd.func21, Tryd.ntmps21
    go_wp2_with fail
    refine (ref_valid_at s false _ hl HV.out).mono ?_
    rintro e w1 ⟨rfl, rfl⟩
    go_wp2_with fail
    refine bodyPost_ret (v := .tuple #[.string ⟨#[]⟩, .agg #[.bool false, .string ⟨#[]⟩], .agg #[.bool false, .string ⟨#[]⟩], .int .i64 3]) (by simp [results, Tryd.results21, go_sem]) rfl ⟨rfl, ?_⟩
    exact hi.below
  | true =>
    rw [h1, Bool.true_and] at hv
    have HV := Lib.hid h1
    have HW := Lib.hid hv
    clear h1 hv
    go_enter Tryd.func21, Tryd.ntmps21
    go_wp2_with fail
    refine (ref_valid_at s true _ hl HV.out).mono ?_
    rintro e w1 ⟨rfl, rfl⟩
    go_wp2_with fail
    refine (ref_valid_at t false _ hl2 HW.out).mono ?_
    rintro e w1 ⟨rfl, rfl⟩
    go_wp2_with fail
    refine bodyPost_ret (v := .tuple #[.string ⟨#[]⟩, .agg #[.bool false, .string ⟨#[]⟩], .agg #[.bool false, .string ⟨#[]⟩], .int .i64 3]) (by simp [results, Tryd.results21, go_sem]) rfl ⟨rfl, ?_⟩
    exact hi.below
set_option maxHeartbeats 1000000 in
theorem rExt_zero (a : Nat) (ha : a < 256 ^ 128) (w : World) :
    Calls Tryd.prog 21 #[Sv (Dm.str a), Sv (Dm.str 0)] w fun e w' => e = .returned (.tuple #[Sv (Dm.str a), az 1, az 0, .int .i64 0]) ∧ Below w.heap.size w w' := by
  have hA : Nm false a := ⟨(fun h => by cases h), ha⟩
  have hsa : (bs (Dm.str a)).size ≤ 128 := hA.str
  have HA := Lib.hid (show validB (tl (bs (Dm.str a))) = true by rw [tl_bs]; exact hA.vB)
  have H0 := Lib.hid (show validB (tl (bs (Dm.str 0))) = true by rw [tl_bs]; rfl)
  obtain ⟨l1, l2⟩ := str_zero (n := 0) rfl
  have hu := U2.start w (.bool false) (.string ⟨#[]⟩) (.bool false) (.string ⟨#[]⟩)
  clear ha
  go_enter Tryd.func21, Tryd.ntmps21
  go_wp2_with fail
  refine (ref_valid_at _ true _ (by omega) HA.out).mono ?_
  rintro e w0 ⟨rfl, rfl⟩
  go_wp2_with fail
  refine (ref_valid_at _ true _ (by rw [size_bs]; decide) H0.out).mono ?_
  rintro e w0 ⟨rfl, rfl⟩
  go_wp2_with fail
  refine (rofG 1 (by decide) (by decide) _).mono ?_
  rintro e w1 ⟨rfl, hb1⟩
  have hu1 := hu.next hb1
  go_wp2_with fail
  refine (rofG 0 (by decide) (by decide) _).mono ?_
  rintro e w2 ⟨rfl, hb2⟩
  have hu2 := hu1.next hb2
  obtain ⟨c0, c1, c2, c3⟩ := hu2.cells
  obtain ⟨f0, f1, f2, f3⟩ := hu2.free
  clear hu hu1 hb1 hb2
  go_wp2_with fail
  exact bodyPost_ret (v := .tuple #[Sv (Dm.str a), .agg #[.bool false, Sv (Dm.str 1)], .agg #[.bool false, Sv (Dm.str 0)], .int .i64 0]) (by simp [results, Tryd.results21, go_sem, c0, c1, c2, c3]) rfl ⟨rfl, (hu2.set (.bool false) (Sv (Dm.str 1)) (.bool false) (Sv (Dm.str 0))).below⟩
end Go.Proofs.YtlagcdgfmgkooaaDoor
