/-
  The walk of the law IntegerTexts.
-/
import Derived.Test.YtlagcdgfmgkooaaDoorIntE
namespace Go.Proofs.YtlagcdgfmgkooaaDoor
open Go.RowKit
set_option linter.unusedVariables false

set_option maxHeartbeats 4000000 in
theorem texts_bad (n : Bool) (s : ByteArray) (hl : s.size ≤ 140)
    (h1 : Hid (∀ W : World, Calls Tryd.prog 43 #[.agg #[.bool n, .string s]] W fun e w' => e = .returned (.tuple #[.string ⟨#[]⟩, .int .i64 3]) ∧ Below W.heap.size W w'))
    (h2 : Hid (∀ W : World, Calls Tryd.prog 44 #[.agg #[.bool n, .string s]] W fun e w' => e = .returned (.tuple #[.string ⟨#[]⟩, .int .i64 3]) ∧ Below W.heap.size W w'))
    (w : World) :
    Calls Tryd.prog 10 #[.agg #[.bool n, .string s]] w fun e w' => e = .returned (.bool true) ∧ Below w.heap.size w w' := by
  have hk1 := ((Kp.start w).new 24 [.bool n, .string s]).new 24 [.bool n, .string s]
  simp at hk1
  go_enter Tryd.func10, Tryd.ntmps10
  go_wp2_with fail
  refine (long1_no n s _ _ (hk1.blk _ (List.mem_cons_self ..)) hl).mono ?_
  rintro e w0 ⟨rfl, rfl⟩
  generalize (w.alloc (.cells #[.bool n, .string s] 24)).alloc (.cells #[.bool n, .string s] 24) = W0 at *
  generalize w.heap.size + 1 = g1 at *
  generalize hg0 : w.heap.size = g0 at *
  clear hg0
  obtain ⟨ca0, ca1⟩ := kp_c01' 1 hk1 rfl
  go_wp2_with fail
  refine (h1.out _).mono ?_
  rintro e w1 ⟨rfl, hb⟩
  clear ca0 ca1
  have k1 := Kp.next hk1 hb
  clear hb hk1
  obtain ⟨ca0, ca1⟩ := kp_c01' 1 k1 rfl
  go_wp2_with fail
  refine (h2.out _).mono ?_
  rintro e w2 ⟨rfl, hb⟩
  clear ca0 ca1
  have k2 := Kp.next k1 hb
  clear hb k1
  go_wp2_with fail
  refine (awakeI_any _).mono ?_
  rintro e w3 ⟨rfl, hb⟩
  have k3 := Kp.next k2 hb
  clear hb k2
  go_wp2_with fail
  go_ret
  exact ⟨by first | rfl | (simp; done), k3.below⟩
set_option maxHeartbeats 4000000 in
theorem texts_ok (n : Bool) (s x : ByteArray) (hl : s.size ≤ 140)
    (h1 : Hid (∀ W : World, Calls Tryd.prog 43 #[.agg #[.bool n, .string s]] W fun e w' => e = .returned (.tuple #[.string x, .int .i64 0]) ∧ Below W.heap.size W w'))
    (h2 : Hid (∀ W : World, Calls Tryd.prog 44 #[.agg #[.bool n, .string s]] W fun e w' => e = .returned (.tuple #[.string x, .int .i64 0]) ∧ Below W.heap.size W w'))
    (h3 : Hid (∀ W : World, Calls Tryd.prog 45 #[.string x] W fun e w' => e = .returned (.tuple #[.agg #[.bool n, .string s], .int .i64 0]) ∧ Below W.heap.size W w'))
    (w : World) :
    Calls Tryd.prog 10 #[.agg #[.bool n, .string s]] w fun e w' => e = .returned (.bool true) ∧ Below w.heap.size w w' := by
  have hk1 := ((Kp.start w).new 24 [.bool n, .string s]).new 24 [.bool n, .string s]
  simp at hk1
  go_enter Tryd.func10, Tryd.ntmps10
  go_wp2_with fail
  refine (long1_no n s _ _ (hk1.blk _ (List.mem_cons_self ..)) hl).mono ?_
  rintro e w0 ⟨rfl, rfl⟩
  generalize (w.alloc (.cells #[.bool n, .string s] 24)).alloc (.cells #[.bool n, .string s] 24) = W0 at *
  generalize w.heap.size + 1 = g1 at *
  generalize hg0 : w.heap.size = g0 at *
  clear hg0
  obtain ⟨ca0, ca1⟩ := kp_c01' 1 hk1 rfl
  go_wp2_with fail
  refine (h1.out _).mono ?_
  rintro e w1 ⟨rfl, hb⟩
  clear ca0 ca1
  have k1 := Kp.next hk1 hb
  clear hb hk1
  obtain ⟨ca0, ca1⟩ := kp_c01' 1 k1 rfl
  go_wp2_with fail
  refine (h2.out _).mono ?_
  rintro e w2 ⟨rfl, hb⟩
  clear ca0 ca1
  have k2 := Kp.next k1 hb
  clear hb k1
  go_wp2_with fail
  refine (h3.out _).mono ?_
  rintro e w3 ⟨rfl, hb⟩
  have k3 := Kp.next k2 hb
  clear hb k2
  have j3 := Kp.new k3 24 [.bool n, .string s]
  go_wp2_with fail
  refine (awakeI_any _).mono ?_
  rintro e w4 ⟨rfl, hb⟩
  have k4 := Kp.next j3 hb
  clear hb j3
  obtain ⟨ca0, ca1⟩ := kp_c01' 2 k4 rfl
  obtain ⟨cb0, cb1⟩ := kp_c01' 0 k4 rfl
  go_wp2_with fail
  go_ret
  exact ⟨by first | rfl | (simp; done), k4.below⟩
theorem parse_text {n : Bool} {m : Nat} (h : Nm n m) : parseI (textL n m) = .tuple #[.agg #[.bool n, Sv (Dm.str m)], .int .i64 0] := by
  have ho := Dm.okDec_dec m
  have hd := Dm.dv_dec m
  have hng : negL (textL n m) = n ∧ digL (textL n m) = Dm.dec m := by
    cases n with
    | true => exact ⟨rfl, rfl⟩
    | false =>
      have h2 : negL (Dm.dec m) = false := by
        cases hc : Dm.dec m with
        | nil => rfl
        | cons c l =>
          rw [hc] at ho
          unfold Dm.okDec at ho
          rw [Bool.and_eq_true] at ho
          have h3 := (Dm.digs_cons.1 ho.2).1
          have h4 : ((45 : UInt8) == c) = false := by
            rw [beq_eq_false_iff_ne]
            rintro rfl
            have : (45 : UInt8).toNat = 45 := rfl
            omega
          show ((45 : UInt8) == c && true) = false
          rw [h4]; rfl
      refine ⟨h2, ?_⟩
      show Lib.trimPrefix (Dm.dec m) [45] = Dm.dec m
      unfold Lib.trimPrefix
      unfold negL at h2
      rw [if_neg (by rw [h2]; exact Bool.false_ne_true)]
  unfold parseI
  rw [hng.1, hng.2, hd, if_pos ho, if_pos (Dm.length_str_le.2 h.lt), if_neg (fun h2 => h.ne h2.1 h2.2), iV_zz h.ne]
theorem textL_len {n : Bool} {m : Nat} (h : Nm n m) : (textL n m).length ≤ 1000000 := by
  have := dec_len h.lt
  cases n
  · show (Dm.dec m).length ≤ _; omega
  · show (Dm.dec m).length + 1 ≤ _; omega
theorem texts_walk (n : Bool) (s : ByteArray) (hs : s.size ≤ maxLen) (w : World) :
    Calls Tryd.prog 10 #[.agg #[.bool n, .string s]] w fun e w' => e = .returned (.bool true) ∧ Below w.heap.size w w' := by
  by_cases hl : s.size ≤ 140
  · cases hv : validI n (tl s) with
    | false => exact texts_bad n s hl (Lib.hid fun W => iText_bad n s W (by omega) hv) (Lib.hid fun W => rText_bad n s W (by omega) hv) w
    | true =>
      obtain ⟨m, h1, rfl⟩ := nm_val hv
      refine texts_ok n _ (bs (textL n m)) hl (Lib.hid fun W => iText_nm h1 W) (Lib.hid fun W => rText_nm h1 W) (Lib.hid fun W => (iParse_any _ W ?_).mono fun e w' ⟨he, hb⟩ => ⟨?_, hb⟩) w
      · rw [size_bs]; exact textL_len h1
      · rw [he, tl_bs, parse_text h1]
  · have hk1 := ((Kp.start w).new 24 [.bool n, .string s]).new 24 [.bool n, .string s]
    simp at hk1
    go_enter Tryd.func10, Tryd.ntmps10
    go_wp2_with fail
    refine (long1_yes n s hs _ _ (hk1.blk _ (List.mem_cons_self ..)) hl).mono ?_
    rintro e w0 ⟨rfl, rfl⟩
    go_wp2_with fail
    refine (awakeI_any _).mono ?_
    rintro e w1 ⟨rfl, hb⟩
    have hk2 := hk1.next hb
    go_wp2_with fail
    go_ret
    exact ⟨rfl, hk2.below⟩
end Go.Proofs.YtlagcdgfmgkooaaDoor
