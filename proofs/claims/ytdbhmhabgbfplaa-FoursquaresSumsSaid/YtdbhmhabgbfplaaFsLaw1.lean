/-
  The walks of the laws FoursquaresPairs, Triples, Quadruples.
-/
import Derived.Test.YtdbhmhabgbfplaaFsAwake
namespace Go.Proofs.Ytdbhmhabgbfplaa
open Go.RowKit
set_option linter.unusedVariables false

theorem TwoV_form (l : List UInt8) : ∃ a b ok e, TwoV .i64 l = .tuple #[.agg #[.string a, .string b], .bool ok, .int .i64 e] := by
  unfold TwoV; split
  · exact ⟨_, _, _, _, rfl⟩
  · exact ⟨_, _, _, _, rfl⟩
theorem ThreeW_form (l : List UInt8) : ∃ a b c ok e, ThreeW l = .tuple #[.agg #[.string a, .string b, .string c], .bool ok, .int .i64 e] := by
  unfold ThreeW; split
  · exact ⟨_, _, _, _, _, rfl⟩
  · exact ⟨_, _, _, _, _, rfl⟩
theorem FourW_form (l : List UInt8) : ∃ a b c d e, FourW l = .tuple #[.agg #[.string a, .string b, .string c, .string d], .int .i64 e] := by
  unfold FourW; split
  · exact ⟨_, _, _, _, _, rfl⟩
  · exact ⟨_, _, _, _, _, rfl⟩


set_option maxHeartbeats 1000000 in
theorem pairs_walk (s : ByteArray) (hl : s.size ≤ maxLen) (w : World) :
    Calls Try.prog 3 #[.string s] w fun e w' => e = .returned (.bool true) ∧ Below w.heap.size w w' := by
  by_cases h : s.size ≤ 200
  · clear hl
    have hl : s.size ≤ 1073741824 := by omega
    obtain ⟨a, b, ok, er, hv⟩ := TwoV_form (tl s)
    have HV := Lib.hid hv
    clear hv
    have heq : ∀ w, (binOp .eql 24 (.agg #[.string a, .string b]) (.agg #[.string a, .string b])).run Try.prog w = .ok (.bool true) w := fun w => by
      rw [show (Value.agg #[.string a, .string b]) = .agg (([a, b] : List ByteArray).map Value.string).toArray from rfl, run_eql_strs 2 _ 22 Try.underlying24 Try.underlying22 (by kernel_rfl) _ _ rfl rfl]; simp
    go_enter Try.func3, Try.ntmps3
    go_wp2_with fail
    refine (Two_any s _ hl).mono ?_
    rintro e w1 ⟨rfl, hb1⟩
    rw [HV.out]
    go_wp2_with fail
    refine (ref_Two_any s _ hl).mono ?_
    rintro e w2 ⟨rfl, hb2⟩
    rw [HV.out]
    have hk := ((((Kp.start w).next hb1).new 24 [.string a, .string b]).next hb2).new 24 [.string a, .string b]
    have hc0 := awake_cell hk 0 0
    have hd0 := awake_cell hk 1 0
    have hc1 := awake_cell hk 0 1
    have hd1 := awake_cell hk 1 1
    have hz : w1.heap.size < w2.heap.size := by have := hb2.size; simp at this; omega
    simp only [List.getElem_cons_zero, List.getElem_cons_succ] at hc0 hd0 hc1 hd1
    go_wp2_with (first | (go_at_call 10; refine (awake_any _).mono ?_; rintro e w3 ⟨rfl, hb3⟩))
    go_ret
    exact ⟨rfl, (hk.next hb3).below⟩
  · unfold maxLen at hl
    go_enter Try.func3, Try.ntmps3
    go_wp2_with (go_at_call 10; refine (awake_any _).mono ?_; rintro e w' ⟨rfl, hb⟩)
    go_ret
    exact ⟨rfl, hb⟩

set_option maxHeartbeats 1000000 in
theorem triples_walk (s : ByteArray) (hl : s.size ≤ maxLen) (w : World) :
    Calls Try.prog 4 #[.string s] w fun e w' => e = .returned (.bool true) ∧ Below w.heap.size w w' := by
  by_cases h : s.size ≤ 200
  · clear hl
    have hl : s.size ≤ 1073741824 := by omega
    obtain ⟨a, b, c, ok, er, hv⟩ := ThreeW_form (tl s)
    have HV := Lib.hid hv
    clear hv
    have heq : ∀ w, (binOp .eql 31 (.agg #[.string a, .string b, .string c]) (.agg #[.string a, .string b, .string c])).run Try.prog w = .ok (.bool true) w := fun w => by
      rw [show (Value.agg #[.string a, .string b, .string c]) = .agg (([a, b, c] : List ByteArray).map Value.string).toArray from rfl, run_eql_strs 3 _ 22 Try.underlying31 Try.underlying22 (by kernel_rfl) _ _ rfl rfl]; simp
    go_enter Try.func4, Try.ntmps4
    go_wp2_with fail
    refine (Three_any s _ hl).mono ?_
    rintro e w1 ⟨rfl, hb1⟩
    rw [HV.out]
    go_wp2_with fail
    refine (ref_Three_any s _ hl).mono ?_
    rintro e w2 ⟨rfl, hb2⟩
    rw [HV.out]
    have hk := ((((Kp.start w).next hb1).new 31 [.string a, .string b, .string c]).next hb2).new 31 [.string a, .string b, .string c]
    have hc0 := awake_cell hk 0 0
    have hd0 := awake_cell hk 1 0
    have hc1 := awake_cell hk 0 1
    have hd1 := awake_cell hk 1 1
    have hc2 := awake_cell hk 0 2
    have hd2 := awake_cell hk 1 2
    have hz : w1.heap.size < w2.heap.size := by have := hb2.size; simp at this; omega
    simp only [List.getElem_cons_zero, List.getElem_cons_succ] at hc0 hd0 hc1 hd1 hc2 hd2
    go_wp2_with (first | (go_at_call 10; refine (awake_any _).mono ?_; rintro e w3 ⟨rfl, hb3⟩))
    go_ret
    exact ⟨rfl, (hk.next hb3).below⟩
  · unfold maxLen at hl
    go_enter Try.func4, Try.ntmps4
    go_wp2_with (go_at_call 10; refine (awake_any _).mono ?_; rintro e w' ⟨rfl, hb⟩)
    go_ret
    exact ⟨rfl, hb⟩

set_option maxHeartbeats 1000000 in
theorem quads_walk (s : ByteArray) (hl : s.size ≤ maxLen) (w : World) :
    Calls Try.prog 5 #[.string s] w fun e w' => e = .returned (.bool true) ∧ Below w.heap.size w w' := by
  by_cases h : s.size ≤ 200
  · clear hl
    have hl : s.size ≤ 1073741824 := by omega
    obtain ⟨a, b, c, d, er, hv⟩ := FourW_form (tl s)
    have HV := Lib.hid hv
    clear hv
    have heq : ∀ w, (binOp .eql 36 (.agg #[.string a, .string b, .string c, .string d]) (.agg #[.string a, .string b, .string c, .string d])).run Try.prog w = .ok (.bool true) w := fun w => by
      rw [show (Value.agg #[.string a, .string b, .string c, .string d]) = .agg (([a, b, c, d] : List ByteArray).map Value.string).toArray from rfl, run_eql_strs 4 _ 22 Try.underlying36 Try.underlying22 (by kernel_rfl) _ _ rfl rfl]; simp
    go_enter Try.func5, Try.ntmps5
    go_wp2_with fail
    refine (Four_any s _ hl).mono ?_
    rintro e w1 ⟨rfl, hb1⟩
    rw [HV.out]
    go_wp2_with fail
    refine (ref_Four_any s _ hl).mono ?_
    rintro e w2 ⟨rfl, hb2⟩
    rw [HV.out]
    have hk := ((((Kp.start w).next hb1).new 36 [.string a, .string b, .string c, .string d]).next hb2).new 36 [.string a, .string b, .string c, .string d]
    have hc0 := awake_cell hk 0 0
    have hd0 := awake_cell hk 1 0
    have hc1 := awake_cell hk 0 1
    have hd1 := awake_cell hk 1 1
    have hc2 := awake_cell hk 0 2
    have hd2 := awake_cell hk 1 2
    have hc3 := awake_cell hk 0 3
    have hd3 := awake_cell hk 1 3
    have hz : w1.heap.size < w2.heap.size := by have := hb2.size; simp at this; omega
    simp only [List.getElem_cons_zero, List.getElem_cons_succ] at hc0 hd0 hc1 hd1 hc2 hd2 hc3 hd3
    go_wp2_with (first | (go_at_call 10; refine (awake_any _).mono ?_; rintro e w3 ⟨rfl, hb3⟩))
    go_ret
    exact ⟨rfl, (hk.next hb3).below⟩
  · unfold maxLen at hl
    go_enter Try.func5, Try.ntmps5
    go_wp2_with (go_at_call 10; refine (awake_any _).mono ?_; rintro e w' ⟨rfl, hb⟩)
    go_ret
    exact ⟨rfl, hb⟩
end Go.Proofs.Ytdbhmhabgbfplaa
