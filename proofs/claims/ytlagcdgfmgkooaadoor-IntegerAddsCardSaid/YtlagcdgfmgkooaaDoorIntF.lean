/-
  integer.Mod.
-/
import Derived.Test.YtlagcdgfmgkooaaDoorIntE
namespace Go.Proofs.YtlagcdgfmgkooaaDoor
open Go.RowKit
set_option linter.unusedVariables false

set_option maxHeartbeats 1000000 in
theorem iMod_nm {n : Bool} {m l : Nat} (h1 : Nm n m) (hl : l < 256 ^ 128) (h0 : l ≠ 0) (w : World) :
    Calls Tryd.prog 28 #[.agg #[.bool n, Sv (Dm.str m)], Sv (Dm.str l)] w fun e w' => e = .returned (.tuple #[Sv (Dm.str (rN n m l)), .int .i64 0]) ∧ Below w.heap.size w w' := by
  have hm := h1.2
  have hv : Nm false l := ⟨(fun h => by cases h), hl⟩
  have hsl : (bs (Dm.str l)).size ≤ 128 := hv.str
  have HVL := Lib.hid (show validB (tl (bs (Dm.str l))) = true by rw [tl_bs]; exact hv.vB)
  obtain ⟨l1, l2⟩ := str_pos h0
  have hrl : m % l < l := Nat.mod_lt _ (Nat.pos_of_ne_zero h0)
  have hi := I1.start w (.bool n) (Sv (Dm.str m))
  have HD := Lib.hid (fun W : World => nDiv m l hm hl h0 W)
  have HS := Lib.hid (fun W : World => nSub l (m % l) hl (Nat.le_of_lt hrl) W)
  have HV := Lib.hid (fun W : World => iValid_nm h1 W)
  cases n with
  | false =>
    have HR := Lib.hid (show rN false m l = m % l by rw [rN, if_neg (by simp)])
    clear hm hl
    go_enter Tryd.func28, Tryd.ntmps28
    go_wp2_with fail
    refine (HV.out _).mono ?_
    rintro e w1 ⟨rfl, hb1⟩
    have hi1 := hi.next hb1
    obtain ⟨c0, c1, -, -⟩ := hi1.cells
    clear hb1
    go_wp2_with fail
    refine (valid_at _ true _ (by omega) HVL.out).mono ?_
    rintro e w2 ⟨rfl, rfl⟩
    go_wp2_with fail
    refine (HD.out _).mono ?_
    rintro e w3 ⟨rfl, hb3⟩
    have hi3 := hi1.next hb3
    clear c0 c1
    obtain ⟨c0, c1, -, -⟩ := hi3.cells
    clear hb3
    go_wp2_with fail
    go_ret2
    exact ⟨by rw [HR.out]; rfl, hi3.below⟩
  | true =>
    by_cases hr0 : m % l = 0
    · have HR := Lib.hid (show rN true m l = m % l by rw [rN, if_neg (by simp [hr0])])
      obtain ⟨z1, z2⟩ := str_zero hr0
      clear hm hl
      go_enter Tryd.func28, Tryd.ntmps28
      go_wp2_with fail
      refine (HV.out _).mono ?_
      rintro e w1 ⟨rfl, hb1⟩
      have hi1 := hi.next hb1
      obtain ⟨c0, c1, -, -⟩ := hi1.cells
      clear hb1
      go_wp2_with fail
      refine (valid_at _ true _ (by omega) HVL.out).mono ?_
      rintro e w2 ⟨rfl, rfl⟩
      go_wp2_with fail
      refine (HD.out _).mono ?_
      rintro e w3 ⟨rfl, hb3⟩
      have hi3 := hi1.next hb3
      clear c0 c1
      obtain ⟨c0, c1, -, -⟩ := hi3.cells
      clear hb3 hr0
      go_wp2_with fail
      go_ret2
      exact ⟨by rw [HR.out]; rfl, hi3.below⟩
    · have HR := Lib.hid (show rN true m l = l - m % l by rw [rN, if_pos ⟨rfl, hr0⟩])
      obtain ⟨z1, z2⟩ := str_pos hr0
      clear hm hl
      go_enter Tryd.func28, Tryd.ntmps28
      go_wp2_with fail
      refine (HV.out _).mono ?_
      rintro e w1 ⟨rfl, hb1⟩
      have hi1 := hi.next hb1
      obtain ⟨c0, c1, -, -⟩ := hi1.cells
      clear hb1
      go_wp2_with fail
      refine (valid_at _ true _ (by omega) HVL.out).mono ?_
      rintro e w2 ⟨rfl, rfl⟩
      go_wp2_with fail
      refine (HD.out _).mono ?_
      rintro e w3 ⟨rfl, hb3⟩
      have hi3 := hi1.next hb3
      clear c0 c1
      obtain ⟨c0, c1, -, -⟩ := hi3.cells
      clear hb3 hr0
      go_wp2_with fail
      refine (HS.out _).mono ?_
      rintro e w4 ⟨rfl, hb4⟩
      have hi4 := hi3.next hb4
      go_wp2_with fail
      go_ret2
      exact ⟨by rw [HR.out]; rfl, hi4.below⟩
set_option maxHeartbeats 1000000 in
theorem iMod_zero {n : Bool} {m : Nat} (h1 : Nm n m) (w : World) :
    Calls Tryd.prog 28 #[.agg #[.bool n, Sv (Dm.str m)], Sv (Dm.str 0)] w fun e w' => e = .returned (.tuple #[.string ⟨#[]⟩, .int .i64 11]) ∧ Below w.heap.size w w' := by
  have HVL := Lib.hid (show validB (tl (bs (Dm.str 0))) = true by rw [tl_bs]; rfl)
  obtain ⟨l1, l2⟩ := str_zero (n := 0) rfl
  have hi := I1.start w (.bool n) (Sv (Dm.str m))
  have HV := Lib.hid (fun W : World => iValid_nm h1 W)
  go_enter Tryd.func28, Tryd.ntmps28
  go_wp2_with fail
  refine (HV.out _).mono ?_
  rintro e w1 ⟨rfl, hb1⟩
  have hi1 := hi.next hb1
  clear hb1
  go_wp2_with fail
  refine (valid_at _ true _ (by rw [size_bs]; decide) HVL.out).mono ?_
  rintro e w2 ⟨rfl, rfl⟩
  go_wp2_with fail
  go_ret2
  exact ⟨rfl, hi1.below⟩
set_option maxHeartbeats 1000000 in
theorem iMod_bad (n : Bool) (s t : ByteArray) (w : World) (hl : s.size ≤ 1073741824) (hl2 : t.size ≤ 1073741824) (hv : (validI n (tl s) && validB (tl t)) = false) :
    Calls Tryd.prog 28 #[.agg #[.bool n, .string s], .string t] w fun e w' => e = .returned (.tuple #[.string ⟨#[]⟩, .int .i64 3]) ∧ Below w.heap.size w w' := by
  have hi := I1.start w (.bool n) (.string s)
  cases h1 : validI n (tl s) with
  | false =>
    have HV := Lib.hid h1
    clear h1 hv
    go_enter Tryd.func28, Tryd.ntmps28
    go_wp2_with fail
    refine (iValid_at n s false _ hl HV.out).mono ?_
    rintro e w1 ⟨rfl, hb1⟩
    go_wp2_with fail
    go_ret2
    exact ⟨rfl, (hi.next hb1).below⟩
  | true =>
    rw [h1, Bool.true_and] at hv
    have HV := Lib.hid h1
    have HW := Lib.hid hv
    clear h1 hv
    go_enter Tryd.func28, Tryd.ntmps28
    go_wp2_with fail
    refine (iValid_at n s true _ hl HV.out).mono ?_
    rintro e w1 ⟨rfl, hb1⟩
    go_wp2_with fail
    refine (valid_at t false _ hl2 HW.out).mono ?_
    rintro e w2 ⟨rfl, rfl⟩
    go_wp2_with fail
    go_ret2
    exact ⟨rfl, (hi.next hb1).below⟩
end Go.Proofs.YtlagcdgfmgkooaaDoor
