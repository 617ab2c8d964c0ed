/-
  The walk of the law IntegerDivides.
-/
import Derived.Test.YtlagcdgfmgkooaaDoorIntE
namespace Go.Proofs.YtlagcdgfmgkooaaDoor
open Go.RowKit
set_option linter.unusedVariables false

set_option maxHeartbeats 4000000 in
theorem divides_gen (n k : Bool) (s t u : ByteArray) (hl : s.size ≤ 140 ∧ t.size ≤ 140) (hu : u.size ≤ 140) (b1 b3 : Bool) (s1 r1 r2 s3 : ByteArray) (e1 e2 e3 : Int)
    (h1 : Hid (∀ W : World, Calls Tryd.prog 26 #[.agg #[.bool n, .string s], .agg #[.bool k, .string t]] W fun e w' => e = .returned (.tuple #[.agg #[.bool b1, .string s1], .string r1, .int .i64 e1]) ∧ Below W.heap.size W w'))
    (h2 : Hid (∀ W : World, Calls Tryd.prog 27 #[.agg #[.bool n, .string s], .agg #[.bool k, .string t]] W fun e w' => e = .returned (.tuple #[.agg #[.bool b1, .string s1], .string r1, .int .i64 e1]) ∧ Below W.heap.size W w'))
    (h3 : Hid (∀ W : World, Calls Tryd.prog 28 #[.agg #[.bool n, .string s], .string u] W fun e w' => e = .returned (.tuple #[.string r2, .int .i64 e2]) ∧ Below W.heap.size W w'))
    (h4 : Hid (∀ W : World, Calls Tryd.prog 29 #[.agg #[.bool n, .string s], .string u] W fun e w' => e = .returned (.tuple #[.string r2, .int .i64 e2]) ∧ Below W.heap.size W w'))
    (h5 : Hid (∀ W : World, Calls Tryd.prog 30 #[.agg #[.bool n, .string s], .agg #[.bool k, .string t]] W fun e w' => e = .returned (.tuple #[.agg #[.bool b3, .string s3], .int .i64 e3]) ∧ Below W.heap.size W w'))
    (h6 : Hid (∀ W : World, Calls Tryd.prog 31 #[.agg #[.bool n, .string s], .agg #[.bool k, .string t]] W fun e w' => e = .returned (.tuple #[.agg #[.bool b3, .string s3], .int .i64 e3]) ∧ Below W.heap.size W w'))
    (w : World) :
    Calls Tryd.prog 6 #[.agg #[.bool n, .string s], .agg #[.bool k, .string t], .string u] w fun e w' => e = .returned (.bool true) ∧ Below w.heap.size w w' := by
  have hk0 := ((Kp.start w).new 24 [.bool n, .string s]).new 24 [.bool k, .string t]
  have hk1 := hk0.new 24 [.bool n, .string s, .bool k, .string t]
  clear hk0
  simp at hk1
  go_enter Tryd.func6, Tryd.ntmps6
  go_wp2_with fail
  refine (long2_no n k s t _ _ (hk1.blk _ (List.mem_cons_self ..)) hl.1 hl.2).mono ?_
  rintro e w0 ⟨rfl, rfl⟩
  generalize ((w.alloc (.cells #[.bool n, .string s] 24)).alloc (.cells #[.bool k, .string t] 24)).alloc (.cells #[.bool n, .string s, .bool k, .string t] 24) = W0 at *
  generalize w.heap.size + 1 + 1 = g2 at *
  generalize w.heap.size + 1 = g1 at *
  generalize hg0 : w.heap.size = g0 at *
  clear hg0
  obtain ⟨ca0, ca1⟩ := kp_c01' 2 hk1 rfl
  obtain ⟨cb0, cb1⟩ := kp_c01' 1 hk1 rfl
  go_wp2_with fail
  refine (h1.out _).mono ?_
  rintro e w1 ⟨rfl, hb⟩
  clear ca0 ca1 cb0 cb1
  have k1 := Kp.next hk1 hb
  clear hb hk1
  have j1 := Kp.new k1 24 [.bool b1, .string s1]
  obtain ⟨ca0, ca1⟩ := kp_c01' 2 k1 rfl
  obtain ⟨cb0, cb1⟩ := kp_c01' 1 k1 rfl
  obtain ⟨da0, da1⟩ := kp_c01' 3 j1 rfl
  obtain ⟨db0, db1⟩ := kp_c01' 2 j1 rfl
  go_wp2_with fail
  refine (h2.out _).mono ?_
  rintro e w2 ⟨rfl, hb⟩
  clear ca0 ca1 cb0 cb1 da0 da1 db0 db1
  have k2 := Kp.next j1 hb
  clear hb j1
  have j2 := Kp.new k2 24 [.bool b1, .string s1]
  obtain ⟨ca0, ca1⟩ := kp_c01' 3 k2 rfl
  obtain ⟨da0, da1⟩ := kp_c01' 4 j2 rfl
  go_wp2_with fail
  refine (h3.out _).mono ?_
  rintro e w3 ⟨rfl, hb⟩
  clear ca0 ca1 da0 da1
  have k3 := Kp.next j2 hb
  clear hb j2
  obtain ⟨ca0, ca1⟩ := kp_c01' 4 k3 rfl
  go_wp2_with fail
  refine (h4.out _).mono ?_
  rintro e w4 ⟨rfl, hb⟩
  clear ca0 ca1
  have k4 := Kp.next k3 hb
  clear hb k3
  obtain ⟨ca0, ca1⟩ := kp_c01' 4 k4 rfl
  obtain ⟨cb0, cb1⟩ := kp_c01' 3 k4 rfl
  go_wp2_with fail
  refine (h5.out _).mono ?_
  rintro e w5 ⟨rfl, hb⟩
  clear ca0 ca1 cb0 cb1
  have k5 := Kp.next k4 hb
  clear hb k4
  have j5 := Kp.new k5 24 [.bool b3, .string s3]
  obtain ⟨ca0, ca1⟩ := kp_c01' 4 k5 rfl
  obtain ⟨cb0, cb1⟩ := kp_c01' 3 k5 rfl
  obtain ⟨da0, da1⟩ := kp_c01' 5 j5 rfl
  obtain ⟨db0, db1⟩ := kp_c01' 4 j5 rfl
  go_wp2_with fail
  refine (h6.out _).mono ?_
  rintro e w6 ⟨rfl, hb⟩
  clear ca0 ca1 cb0 cb1 da0 da1 db0 db1
  have k6 := Kp.next j5 hb
  clear hb j5
  have j6 := Kp.new k6 24 [.bool b3, .string s3]
  go_wp2_with fail
  refine (awakeI_any _).mono ?_
  rintro e w7 ⟨rfl, hb⟩
  have k7 := Kp.next j6 hb
  clear hb j6
  obtain ⟨cq0, cq1⟩ := kp_c01' 3 k7 rfl
  obtain ⟨cx0, cx1⟩ := kp_c01' 2 k7 rfl
  obtain ⟨cd0, cd1⟩ := kp_c01' 1 k7 rfl
  obtain ⟨cz0, cz1⟩ := kp_c01' 0 k7 rfl
  go_wp2_with fail
  go_ret
  exact ⟨by first | rfl | (simp; done), k7.below⟩
theorem divI_form (z y : Int) : ∃ b s r e, divI z y = .tuple #[.agg #[.bool b, .string s], .string r, .int .i64 e] := by
  unfold divI
  by_cases h : y = 0
  · rw [if_pos h]; exact ⟨_, _, _, _, rfl⟩
  · rw [if_neg h]; exact ⟨_, _, _, _, rfl⟩
theorem divideI_form (z y : Int) : ∃ b s e, divideI z y = .tuple #[.agg #[.bool b, .string s], .int .i64 e] := by
  unfold divideI
  by_cases h : y = 0
  · rw [if_pos h]; exact ⟨_, _, _, rfl⟩
  · rw [if_neg h]
    by_cases h2 : z % y = 0
    · rw [if_pos h2]; exact ⟨_, _, _, rfl⟩
    · rw [if_neg h2]; exact ⟨_, _, _, rfl⟩
theorem mods (n : Bool) (s u : ByteArray) (hs : s.size ≤ 140) (hu : u.size ≤ 140) : ∃ r2 e2, (∀ W : World, Calls Tryd.prog 28 #[.agg #[.bool n, .string s], .string u] W fun e w' => e = .returned (.tuple #[.string r2, .int .i64 e2]) ∧ Below W.heap.size W w') ∧
    (∀ W : World, Calls Tryd.prog 29 #[.agg #[.bool n, .string s], .string u] W fun e w' => e = .returned (.tuple #[.string r2, .int .i64 e2]) ∧ Below W.heap.size W w') := by
  cases hv : validI n (tl s) && validB (tl u) with
  | false => exact ⟨_, _, fun W => iMod_bad n s u W (by omega) (by omega) hv, fun W => rMod_bad n s u W (by omega) (by omega) hv⟩
  | true =>
    rw [Bool.and_eq_true] at hv
    obtain ⟨m, h1, rfl⟩ := nm_val hv.1
    obtain ⟨l, h2, rfl⟩ := nat_val hv.2
    by_cases h0 : l = 0
    · subst h0; exact ⟨_, _, fun W => iMod_zero h1 W, fun W => rMod_zero h1 W⟩
    · exact ⟨_, _, fun W => iMod_nm h1 h2 h0 W, fun W => rMod_nm h1 h2 h0 W⟩
set_option maxHeartbeats 4000000 in
theorem divides_walk (n : Bool) (s : ByteArray) (k : Bool) (t u : ByteArray) (hs : s.size ≤ maxLen) (ht : t.size ≤ maxLen) (hu : u.size ≤ maxLen) (w : World) :
    Calls Tryd.prog 6 #[.agg #[.bool n, .string s], .agg #[.bool k, .string t], .string u] w fun e w' => e = .returned (.bool true) ∧ Below w.heap.size w w' := by
  by_cases hl : s.size ≤ 140 ∧ t.size ≤ 140
  · by_cases hu2 : u.size ≤ 140
    · obtain ⟨r2, e2, m1, m2⟩ := mods n s u hl.1 hu2
      cases hv : validI n (tl s) && validI k (tl t) with
      | false =>
        have l1 : s.size ≤ 1073741824 := by omega
        have l2 : t.size ≤ 1073741824 := by omega
        exact divides_gen n k s t u hl hu2 _ _ _ _ _ _ _ _ _ (Lib.hid fun W => iDivMod_bad n k s t W l1 l2 hv) (Lib.hid fun W => rDivMod_bad n k s t W l1 l2 hv) (Lib.hid m1) (Lib.hid m2) (Lib.hid fun W => iDivide_bad n k s t W l1 l2 hv) (Lib.hid fun W => rDivide_bad n k s t W l1 l2 hv) w
      | true =>
        rw [Bool.and_eq_true] at hv
        obtain ⟨m, h1, rfl⟩ := nm_val hv.1
        obtain ⟨l, h2, rfl⟩ := nm_val hv.2
        obtain ⟨b1, s1, r1, e1, p1⟩ := divI_form (zz n m) (zz k l)
        obtain ⟨b3, s3, e3, p3⟩ := divideI_form (zz n m) (zz k l)
        exact divides_gen n k _ _ u hl hu2 _ _ _ _ _ _ _ _ _ (Lib.hid fun W => p1 ▸ iDivMod_nm h1 h2 W) (Lib.hid fun W => p1 ▸ rDivMod_nm h1 h2 W) (Lib.hid m1) (Lib.hid m2) (Lib.hid fun W => p3 ▸ iDivide_nm h1 h2 W) (Lib.hid fun W => p3 ▸ rDivide_nm h1 h2 W) w
    · unfold maxLen at hu
      have hk0 := ((Kp.start w).new 24 [.bool n, .string s]).new 24 [.bool k, .string t]
      have hk1 := hk0.new 24 [.bool n, .string s, .bool k, .string t]
      clear hk0
      simp at hk1
      go_enter Tryd.func6, Tryd.ntmps6
      go_wp2_with fail
      refine (long2_no n k s t _ _ (hk1.blk _ (List.mem_cons_self ..)) hl.1 hl.2).mono ?_
      rintro e w0 ⟨rfl, rfl⟩
      go_wp2_with fail
      refine (awakeI_any _).mono ?_
      rintro e w1 ⟨rfl, hb⟩
      have hk2 := hk1.next hb
      go_wp2_with fail
      go_ret
      exact ⟨rfl, hk2.below⟩
  · have hk0 := ((Kp.start w).new 24 [.bool n, .string s]).new 24 [.bool k, .string t]
    have hk1 := hk0.new 24 [.bool n, .string s, .bool k, .string t]
    clear hk0
    simp at hk1
    go_enter Tryd.func6, Tryd.ntmps6
    go_wp2_with fail
    refine (long2_yes n k s t hs ht _ _ (hk1.blk _ (List.mem_cons_self ..)) hl).mono ?_
    rintro e w0 ⟨rfl, rfl⟩
    go_wp2_with fail
    refine (awakeI_any _).mono ?_
    rintro e w1 ⟨rfl, hb⟩
    have hk2 := hk1.next hb
    go_wp2_with fail
    go_ret
    exact ⟨rfl, hk2.below⟩
end Go.Proofs.YtlagcdgfmgkooaaDoor
