/-
  The walk of the law IntegerAdds.
-/
import Derived.Test.YtlagcdgfmgkooaaDoorInt13
import Derived.Test.YtlagcdgfmgkooaaDoorIntL
import Derived.Test.YtlagcdgfmgkooaaDoorIntI
namespace Go.Proofs.YtlagcdgfmgkooaaDoor
open Go.RowKit
set_option linter.unusedVariables false

/-- the result of a function of integers: a value, and an error beside which it is 0 -/
structure Rs (b : Bool) (s : ByteArray) (er : Int) : Prop where
  out : (er = 0) ∨ (er ≠ 0 ∧ b = false ∧ s = ⟨#[]⟩)
set_option maxHeartbeats 4000000 in
theorem adds_gen (n k : Bool) (s t : ByteArray) (hs : s.size ≤ maxLen) (ht : t.size ≤ maxLen) (hl : s.size ≤ 140 ∧ t.size ≤ 140)
    (b1 b2 b3 : Bool) (s1 s2 s3 : ByteArray) (e1 e2 e3 : Int) (r1 : Rs b1 s1 e1) (r2 : Rs b2 s2 e2) (r3 : Rs b3 s3 e3)
    (hA : Hid (∀ W : World, Calls Tryd.prog 14 #[.agg #[.bool n, .string s], .agg #[.bool k, .string t]] W fun e w' => e = .returned (.tuple #[.agg #[.bool b1, .string s1], .int .i64 e1]) ∧ Below W.heap.size W w'))
    (hA2 : Hid (∀ W : World, Calls Tryd.prog 15 #[.agg #[.bool n, .string s], .agg #[.bool k, .string t]] W fun e w' => e = .returned (.tuple #[.agg #[.bool b1, .string s1], .int .i64 e1]) ∧ Below W.heap.size W w'))
    (hS : Hid (∀ W : World, Calls Tryd.prog 16 #[.agg #[.bool n, .string s], .agg #[.bool k, .string t]] W fun e w' => e = .returned (.tuple #[.agg #[.bool b2, .string s2], .int .i64 e2]) ∧ Below W.heap.size W w'))
    (hS2 : Hid (∀ W : World, Calls Tryd.prog 17 #[.agg #[.bool n, .string s], .agg #[.bool k, .string t]] W fun e w' => e = .returned (.tuple #[.agg #[.bool b2, .string s2], .int .i64 e2]) ∧ Below W.heap.size W w'))
    (hM : Hid (∀ W : World, Calls Tryd.prog 18 #[.agg #[.bool n, .string s], .agg #[.bool k, .string t]] W fun e w' => e = .returned (.tuple #[.agg #[.bool b3, .string s3], .int .i64 e3]) ∧ Below W.heap.size W w'))
    (hM2 : Hid (∀ W : World, Calls Tryd.prog 19 #[.agg #[.bool n, .string s], .agg #[.bool k, .string t]] W fun e w' => e = .returned (.tuple #[.agg #[.bool b3, .string s3], .int .i64 e3]) ∧ Below W.heap.size W w'))
    (w : World) :
    Calls Tryd.prog 3 #[.agg #[.bool n, .string s], .agg #[.bool k, .string t]] w fun e w' => e = .returned (.bool true) ∧ Below w.heap.size w w' := by
  have hk0 := ((Kp.start w).new 24 [.bool n, .string s]).new 24 [.bool k, .string t]
  have hk1 := hk0.new 24 [.bool n, .string s, .bool k, .string t]
  clear hk0
  simp at hk1
  rcases r1.out with rfl | ⟨he1, rfl, rfl⟩ <;> rcases r2.out with rfl | ⟨he2, rfl, rfl⟩ <;> rcases r3.out with rfl | ⟨he3, rfl, rfl⟩
  all_goals
    try have t1 : (e1 != 0) = true := by simpa using he1
    try have t2 : (e2 != 0) = true := by simpa using he2
    try have t3 : (e3 != 0) = true := by simpa using he3
    try clear he1
    try clear he2
    try clear he3
    clear r1 r2 r3
    go_enter Tryd.func3, Tryd.ntmps3
    go_wp2_with fail
    refine (long2_no n k s t _ _ (hk1.blk _ (List.mem_cons_self ..)) hl.1 hl.2).mono ?_
    rintro e w0 ⟨rfl, rfl⟩
    generalize ((w.alloc (.cells #[.bool n, .string s] 24)).alloc (.cells #[.bool k, .string t] 24)).alloc (.cells #[.bool n, .string s, .bool k, .string t] 24) = W0 at *
    generalize w.heap.size + 1 + 1 = g2 at *
    generalize w.heap.size + 1 = g1 at *
    generalize hg0 : w.heap.size = g0 at *
    clear hg0
    obtain ⟨ca0, ca1⟩ := kp_c01' 2 hk1 rfl
    obtain ⟨cb0, cb1⟩ := kp_c01' 1 hk1 rfl
    go_wp2_with fail
    refine (hA.out _).mono ?_
    rintro e w1 ⟨rfl, hb⟩
    clear ca0 ca1 cb0 cb1
    have k1 := Kp.next hk1 hb
    clear hb hk1
    first | have j1 := Kp.new k1 24 [.bool b1, .string s1] | have j1 := Kp.new k1 24 [.bool false, .string ⟨#[]⟩]
    obtain ⟨ca0, ca1⟩ := kp_c01' 2 k1 rfl
    obtain ⟨cb0, cb1⟩ := kp_c01' 1 k1 rfl
    obtain ⟨da0, da1⟩ := kp_c01' 3 j1 rfl
    obtain ⟨db0, db1⟩ := kp_c01' 2 j1 rfl
    go_wp2_with fail
    refine (hA2.out _).mono ?_
    rintro e w2 ⟨rfl, hb⟩
    clear ca0 ca1 cb0 cb1 da0 da1 db0 db1
    have k2 := Kp.next j1 hb
    clear hb j1
    first | have j2 := Kp.new k2 24 [.bool b1, .string s1] | have j2 := Kp.new k2 24 [.bool false, .string ⟨#[]⟩]
    obtain ⟨ca0, ca1⟩ := kp_c01' 3 k2 rfl
    obtain ⟨cb0, cb1⟩ := kp_c01' 2 k2 rfl
    obtain ⟨da0, da1⟩ := kp_c01' 4 j2 rfl
    obtain ⟨db0, db1⟩ := kp_c01' 3 j2 rfl
    obtain ⟨f0, f1⟩ := kp_f01' 0 j2 rfl
    go_wp2_with fail
    refine (hS.out _).mono ?_
    rintro e w3 ⟨rfl, hb⟩
    clear ca0 ca1 cb0 cb1 da0 da1 db0 db1 f0 f1
    first | (have k3 := Kp.next j2 hb) | (have k3 := Kp.next (kp_set2 j2 (by have := k2.below.size; omega) (by intro x' hx'; have := (k2.blk x' hx').lt; omega) _ _) hb)
    clear hb j2
    first | have j3 := Kp.new k3 24 [.bool b2, .string s2] | have j3 := Kp.new k3 24 [.bool false, .string ⟨#[]⟩]
    obtain ⟨ca0, ca1⟩ := kp_c01' 4 k3 rfl
    obtain ⟨cb0, cb1⟩ := kp_c01' 3 k3 rfl
    obtain ⟨da0, da1⟩ := kp_c01' 5 j3 rfl
    obtain ⟨db0, db1⟩ := kp_c01' 4 j3 rfl
    go_wp2_with fail
    refine (hS2.out _).mono ?_
    rintro e w4 ⟨rfl, hb⟩
    clear ca0 ca1 cb0 cb1 da0 da1 db0 db1
    have k4 := Kp.next j3 hb
    clear hb j3
    first | have j4 := Kp.new k4 24 [.bool b2, .string s2] | have j4 := Kp.new k4 24 [.bool false, .string ⟨#[]⟩]
    obtain ⟨ca0, ca1⟩ := kp_c01' 5 k4 rfl
    obtain ⟨cb0, cb1⟩ := kp_c01' 4 k4 rfl
    obtain ⟨da0, da1⟩ := kp_c01' 6 j4 rfl
    obtain ⟨db0, db1⟩ := kp_c01' 5 j4 rfl
    obtain ⟨f0, f1⟩ := kp_f01' 0 j4 rfl
    go_wp2_with fail
    refine (hM.out _).mono ?_
    rintro e w5 ⟨rfl, hb⟩
    clear ca0 ca1 cb0 cb1 da0 da1 db0 db1 f0 f1
    first | (have k5 := Kp.next j4 hb) | (have k5 := Kp.next (kp_set2 j4 (by have := k4.below.size; omega) (by intro x' hx'; have := (k4.blk x' hx').lt; omega) _ _) hb)
    clear hb j4
    first | have j5 := Kp.new k5 24 [.bool b3, .string s3] | have j5 := Kp.new k5 24 [.bool false, .string ⟨#[]⟩]
    obtain ⟨ca0, ca1⟩ := kp_c01' 6 k5 rfl
    obtain ⟨cb0, cb1⟩ := kp_c01' 5 k5 rfl
    obtain ⟨da0, da1⟩ := kp_c01' 7 j5 rfl
    obtain ⟨db0, db1⟩ := kp_c01' 6 j5 rfl
    go_wp2_with fail
    refine (hM2.out _).mono ?_
    rintro e w6 ⟨rfl, hb⟩
    clear ca0 ca1 cb0 cb1 da0 da1 db0 db1
    have k6 := Kp.next j5 hb
    clear hb j5
    first | have j6 := Kp.new k6 24 [.bool b3, .string s3] | have j6 := Kp.new k6 24 [.bool false, .string ⟨#[]⟩]
    obtain ⟨ca0, ca1⟩ := kp_c01' 7 k6 rfl
    obtain ⟨cb0, cb1⟩ := kp_c01' 6 k6 rfl
    obtain ⟨da0, da1⟩ := kp_c01' 8 j6 rfl
    obtain ⟨db0, db1⟩ := kp_c01' 7 j6 rfl
    obtain ⟨f0, f1⟩ := kp_f01' 0 j6 rfl
    go_wp2_with fail
    refine (awakeI_any _).mono ?_
    rintro e w7 ⟨rfl, hb⟩
    clear ca0 ca1 cb0 cb1 da0 da1 db0 db1 f0 f1
    first | (have k7 := Kp.next j6 hb) | (have k7 := Kp.next (kp_set2 j6 (by have := k6.below.size; omega) (by intro x' hx'; have := (k6.blk x' hx').lt; omega) _ _) hb)
    clear hb j6 k6
    obtain ⟨z0a, z0b⟩ := kp_c01' 0 k7 rfl
    obtain ⟨z1a, z1b⟩ := kp_c01' 1 k7 rfl
    obtain ⟨z2a, z2b⟩ := kp_c01' 2 k7 rfl
    obtain ⟨z3a, z3b⟩ := kp_c01' 3 k7 rfl
    obtain ⟨z4a, z4b⟩ := kp_c01' 4 k7 rfl
    obtain ⟨z5a, z5b⟩ := kp_c01' 5 k7 rfl
    go_wp2_with fail
    go_ret
    exact ⟨by first | rfl | (simp; done), k7.below⟩
theorem fitI_rs (z : Int) : ∃ b s er, fitI z = .tuple #[.agg #[.bool b, .string s], .int .i64 er] ∧ Rs b s er := by
  unfold fitI
  by_cases h : z.natAbs < 256 ^ 128
  · rw [if_pos h]; exact ⟨_, _, _, rfl, ⟨.inl rfl⟩⟩
  · rw [if_neg h]; exact ⟨_, _, _, rfl, ⟨.inr ⟨by decide, rfl, rfl⟩⟩⟩
theorem nm_val {n : Bool} {s : ByteArray} (h : validI n (tl s) = true) : ∃ m, Nm n m ∧ s = bs (Dm.str m) := by
  have h' := h
  unfold validI at h
  rw [Bool.and_eq_true] at h
  have hc := validB_canon h.1
  refine ⟨Dm.val (tl s), ⟨fun hn => ?_, ?_⟩, ?_⟩
  · subst hn
    intro h0
    have : tl s ≠ [] := by simpa using h.2
    exact this (by rw [← Dm.str_val_canon hc, h0]; rfl)
  · have h2 := Dm.val_lt (tl s)
    rw [length_tl] at h2
    exact Nat.lt_of_lt_of_le h2 (Nat.pow_le_pow_right (by omega) (validB_size h.1))
  · rw [Dm.str_val_canon hc, bs_tl]
set_option maxHeartbeats 4000000 in
theorem adds_walk (n k : Bool) (s t : ByteArray) (hs : s.size ≤ maxLen) (ht : t.size ≤ maxLen) (w : World) :
    Calls Tryd.prog 3 #[.agg #[.bool n, .string s], .agg #[.bool k, .string t]] w fun e w' => e = .returned (.bool true) ∧ Below w.heap.size w w' := by
  by_cases hl : s.size ≤ 140 ∧ t.size ≤ 140
  · cases hv : validI n (tl s) && validI k (tl t) with
    | false =>
      have l1 : s.size ≤ 1073741824 := by omega
      have l2 : t.size ≤ 1073741824 := by omega
      have hr : Rs false ⟨#[]⟩ 3 := ⟨.inr ⟨by decide, rfl, rfl⟩⟩
      exact adds_gen n k s t hs ht hl _ _ _ _ _ _ _ _ _ hr hr hr (Lib.hid fun W => iAdd_bad n k s t W l1 l2 hv) (Lib.hid fun W => rAdd_bad n k s t W l1 l2 hv) (Lib.hid fun W => iSub_bad n k s t W l1 l2 hv) (Lib.hid fun W => rSub_bad n k s t W l1 l2 hv) (Lib.hid fun W => iMul_bad n k s t W l1 l2 hv) (Lib.hid fun W => rMul_bad n k s t W l1 l2 hv) w
    | true =>
      rw [Bool.and_eq_true] at hv
      obtain ⟨m, h1, rfl⟩ := nm_val hv.1
      obtain ⟨l, h2, rfl⟩ := nm_val hv.2
      obtain ⟨b1, s1, e1, p1, r1⟩ := fitI_rs (zz n m + zz k l)
      obtain ⟨b2, s2, e2, p2, r2⟩ := fitI_rs (zz n m - zz k l)
      obtain ⟨b3, s3, e3, p3, r3⟩ := fitI_rs (zz n m * zz k l)
      exact adds_gen n k _ _ hs ht hl _ _ _ _ _ _ _ _ _ r1 r2 r3 (Lib.hid fun W => p1 ▸ iAdd_nm h1 h2 W) (Lib.hid fun W => p1 ▸ rAdd_nm h1 h2 W) (Lib.hid fun W => p2 ▸ iSub_nm h1 h2 W) (Lib.hid fun W => p2 ▸ rSub_nm h1 h2 W) (Lib.hid fun W => p3 ▸ iMul_nm h1 h2 W) (Lib.hid fun W => p3 ▸ rMul_nm h1 h2 W) w
  · have hk0 := ((Kp.start w).new 24 [.bool n, .string s]).new 24 [.bool k, .string t]
    have hk1 := hk0.new 24 [.bool n, .string s, .bool k, .string t]
    clear hk0
    simp at hk1
    go_enter Tryd.func3, Tryd.ntmps3
    go_wp2_with fail
    refine (long2_yes n k s t hs ht _ _ (hk1.blk _ (List.mem_cons_self ..)) hl).mono ?_
    rintro e w0 ⟨rfl, rfl⟩
    go_wp2_with fail
    refine (awakeI_any _).mono ?_
    rintro e w1 ⟨rfl, hb⟩
    have hk2 := hk1.next hb
    go_wp2_with fail
    go_ret
    exact ⟨rfl, hk2.below⟩
end Go.Proofs.YtlagcdgfmgkooaaDoor
