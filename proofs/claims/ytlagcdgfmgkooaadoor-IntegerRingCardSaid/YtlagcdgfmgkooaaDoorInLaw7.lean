/-
  The walk of the law IntegerExtends.
-/
import Derived.Test.YtlagcdgfmgkooaaDoorIntP
namespace Go.Proofs.YtlagcdgfmgkooaaDoor
open Go.RowKit
set_option linter.unusedVariables false

set_option maxHeartbeats 4000000 in
theorem extends_gen (s t : ByteArray) (hs : s.size ≤ 60) (ht : t.size ≤ 60) (gs xs ys : ByteArray) (xb yb : Bool) (er : Int)
    (h1 : Hid (∀ W : World, Calls Tryd.prog 20 #[.string s, .string t] W fun e w' => e = .returned (.tuple #[.string gs, .agg #[.bool xb, .string xs], .agg #[.bool yb, .string ys], .int .i64 er]) ∧ Below W.heap.size W w'))
    (h2 : Hid (∀ W : World, Calls Tryd.prog 21 #[.string s, .string t] W fun e w' => e = .returned (.tuple #[.string gs, .agg #[.bool xb, .string xs], .agg #[.bool yb, .string ys], .int .i64 er]) ∧ Below W.heap.size W w'))
    (w : World) :
    Calls Tryd.prog 4 #[.string s, .string t] w fun e w' => e = .returned (.bool true) ∧ Below w.heap.size w w' := by
  go_enter Tryd.func4, Tryd.ntmps4
  go_wp2_with fail
  refine (h1.out _).mono ?_
  rintro e w1 ⟨rfl, hb⟩
  have k1 := Kp.next (Kp.start w) hb
  clear hb
  have j1 := Kp.new k1 24 [.bool xb, .string xs]
  have j1x := Kp.new j1 24 [.bool yb, .string ys]
  have hsz : (w1.alloc (.cells #[.bool xb, .string xs] 24)).heap.size = w1.heap.size + 1 := by simp
  rw [hsz] at j1x
  clear hsz
  go_wp2_with fail
  refine (h2.out _).mono ?_
  rintro e w2 ⟨rfl, hb⟩
  have k2 := Kp.next j1x hb
  clear hb j1x
  have j2 := Kp.new k2 24 [.bool xb, .string xs]
  have j2x := Kp.new j2 24 [.bool yb, .string ys]
  have hsz : (w2.alloc (.cells #[.bool xb, .string xs] 24)).heap.size = w2.heap.size + 1 := by simp
  rw [hsz] at j2x
  clear hsz
  go_wp2_with fail
  refine (awakeI_any _).mono ?_
  rintro e w3 ⟨rfl, hb⟩
  have k3 := Kp.next j2x hb
  clear hb j2x
  obtain ⟨cx0, cx1⟩ := kp_c01' 3 k3 rfl
  obtain ⟨cy0, cy1⟩ := kp_c01' 2 k3 rfl
  obtain ⟨cu0, cu1⟩ := kp_c01' 1 k3 rfl
  obtain ⟨cv0, cv1⟩ := kp_c01' 0 k3 rfl
  go_wp2_with fail
  go_ret
  exact ⟨by first | rfl | (simp; done), k3.below⟩
theorem nat_short {s : ByteArray} {K : Nat} (h : validB (tl s) = true) (hs : s.size ≤ K) : ∃ m, m < 256 ^ K ∧ s = bs (Dm.str m) := by
  have hc := validB_canon h
  refine ⟨Dm.val (tl s), ?_, by rw [Dm.str_val_canon hc, bs_tl]⟩
  have h2 := Dm.val_lt (tl s)
  rw [length_tl] at h2
  exact Nat.lt_of_lt_of_le h2 (Nat.pow_le_pow_right (by omega) hs)
theorem ez_ex (a b : Nat) (hb : b ≠ 0) : ∃ x y, EZ a b x y := ⟨_, _, bz_reduced hb (bz_sum (b + 1) a b (Nat.lt_succ_self b))⟩
theorem iExt_at (a b : Nat) (ha : a < 256 ^ 128) (hb : b < 256 ^ 128) (hb0 : b ≠ 0) (x y : Int) (hE : EZ a b x y) (w : World) :
    Calls Tryd.prog 20 #[Sv (Dm.str a), Sv (Dm.str b)] w fun e w' => e = .returned (.tuple #[Sv (Dm.str (Nat.gcd a b)), az x, az y, .int .i64 0]) ∧ Below w.heap.size w w' := by
  refine (Ext_nm a b ha hb hb0 w).mono ?_
  rintro e w' ⟨⟨x', y', h1, h2, h3, rfl⟩, hb⟩
  obtain ⟨rfl, rfl⟩ := hE.unique hb0 h1
  exact ⟨rfl, hb⟩
set_option maxHeartbeats 4000000 in
theorem extends_walk (s t : ByteArray) (hs : s.size ≤ maxLen) (ht : t.size ≤ maxLen) (w : World) :
    Calls Tryd.prog 4 #[.string s, .string t] w fun e w' => e = .returned (.bool true) ∧ Below w.heap.size w w' := by
  by_cases h1 : s.size ≤ 60
  · by_cases h2 : t.size ≤ 60
    · cases hv : validB (tl s) && validB (tl t) with
      | false => exact extends_gen s t h1 h2 _ _ _ _ _ _ (Lib.hid fun W => Ext_bad s t W (by omega) (by omega) hv) (Lib.hid fun W => rExt_bad s t W (by omega) (by omega) hv) w
      | true =>
        rw [Bool.and_eq_true] at hv
        obtain ⟨a, ha, rfl⟩ := nat_short hv.1 h1
        obtain ⟨b, hb, rfl⟩ := nat_short hv.2 h2
        have ha' : a < 256 ^ 128 := Nat.lt_trans ha p60'
        have hb' : b < 256 ^ 128 := Nat.lt_trans hb p60'
        by_cases h0 : b = 0
        · subst h0
          exact extends_gen _ _ h1 h2 _ _ _ _ _ _ (Lib.hid fun W => Ext_zero a ha' W) (Lib.hid fun W => rExt_zero a ha' W) w
        · obtain ⟨x, y, hE⟩ := ez_ex a b h0
          exact extends_gen _ _ h1 h2 _ _ _ _ _ _ (Lib.hid fun W => iExt_at a b ha' hb' h0 x y hE W) (Lib.hid fun W => rExt_nm a b ha hb h0 x y hE W) w
    · unfold maxLen at ht
      go_enter Tryd.func4, Tryd.ntmps4
      go_wp2_with fail
      refine (awakeI_any _).mono ?_
      rintro e w1 ⟨rfl, hb⟩
      go_wp2_with fail
      go_ret
      exact ⟨rfl, hb⟩
  · unfold maxLen at hs
    go_enter Tryd.func4, Tryd.ntmps4
    go_wp2_with fail
    refine (awakeI_any _).mono ?_
    rintro e w1 ⟨rfl, hb⟩
    go_wp2_with fail
    go_ret
    exact ⟨rfl, hb⟩
end Go.Proofs.YtlagcdgfmgkooaaDoor
