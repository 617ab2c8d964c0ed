/-
  integer and dominoref02: Extended, Text and Mod at invalid arguments; Mod at valid ones.
-/
import Derived.Test.YtlagcdgfmgkooaaDoorInt13
namespace Go.Proofs.YtlagcdgfmgkooaaDoor
open Go.RowKit
set_option linter.unusedVariables false

set_option maxHeartbeats 1000000 in
theorem Ext_bad (s t : ByteArray) (w : World) (hl : s.size ≤ 1073741824) (hl2 : t.size ≤ 1073741824) (hv : (validB (tl s) && validB (tl t)) = false) :
    Calls Tryd.prog 20 #[.string s, .string t] w fun e w' => e = .returned (.tuple #[.string ⟨#[]⟩, intE, intE, .int .i64 3]) ∧ Below w.heap.size w w' := by
  have hi := U2.start w (.bool false) (.string ⟨#[]⟩) (.bool false) (.string ⟨#[]⟩)
  obtain ⟨c0, c1, c2, c3⟩ := hi.cells
  obtain ⟨f0, f1, f2, f3⟩ := hi.free
  cases h1 : validB (tl s) with
  | false =>
    have HV := Lib.hid h1
    clear h1 hv
    go_enter Tryd.func20, Tryd.ntmps20
    go_wp2_with fail
    refine (valid_at s false _ hl HV.out).mono ?_
    rintro e w1 ⟨rfl, rfl⟩
    go_wp2_with fail
    refine bodyPost_ret (v := .tuple #[.string ⟨#[]⟩, .agg #[.bool false, .string ⟨#[]⟩], .agg #[.bool false, .string ⟨#[]⟩], .int .i64 3]) (by simp [results, Tryd.results20, go_sem]) rfl ⟨rfl, ?_⟩
    exact hi.below
  | true =>
    rw [h1, Bool.true_and] at hv
    have HV := Lib.hid h1
    have HW := Lib.hid hv
    clear h1 hv
    go_enter Tryd.func20, Tryd.ntmps20
    go_wp2_with fail
    refine (valid_at s true _ hl HV.out).mono ?_
    rintro e w1 ⟨rfl, rfl⟩
    go_wp2_with fail
    refine (valid_at t false _ hl2 HW.out).mono ?_
    rintro e w1 ⟨rfl, rfl⟩
    go_wp2_with fail
    refine bodyPost_ret (v := .tuple #[.string ⟨#[]⟩, .agg #[.bool false, .string ⟨#[]⟩], .agg #[.bool false, .string ⟨#[]⟩], .int .i64 3]) (by simp [results, Tryd.results20, go_sem]) rfl ⟨rfl, ?_⟩
    exact hi.below
set_option maxHeartbeats 1000000 in
theorem iText_bad (n : Bool) (s : ByteArray) (w : World) (hl : s.size ≤ 1073741824) (hv : validI n (tl s) = false) :
    Calls Tryd.prog 43 #[.agg #[.bool n, .string s]] w fun e w' => e = .returned (.tuple #[.string ⟨#[]⟩, .int .i64 3]) ∧ Below w.heap.size w w' := by
  have HV := Lib.hid hv
  clear hv
  go_enter Tryd.func43, Tryd.ntmps43
  go_wp2_with fail
  refine (iValid_at n s false _ hl HV.out).mono ?_
  rintro e w1 ⟨rfl, hb1⟩
  go_wp2_with fail
  go_ret2
  exact ⟨rfl, ((Below.refl _ _).alloc (Nat.le_refl _) _).trans (hb1.mono (by simp))⟩
set_option maxHeartbeats 1000000 in
theorem rText_bad (n : Bool) (s : ByteArray) (w : World) (hl : s.size ≤ 1073741824) (hv : validI n (tl s) = false) :
    Calls Tryd.prog 44 #[.agg #[.bool n, .string s]] w fun e w' => e = .returned (.tuple #[.string ⟨#[]⟩, .int .i64 3]) ∧ Below w.heap.size w w' := by
  have HV := Lib.hid hv
  clear hv
  go_enter Tryd.func44, Tryd.ntmps44
  go_wp2_with fail
  refine (rValid_at n s false _ hl HV.out).mono ?_
  rintro e w1 ⟨rfl, hb1⟩
  go_wp2_with fail
  go_ret2
  exact ⟨rfl, ((Below.refl _ _).alloc (Nat.le_refl _) _).trans (hb1.mono (by simp))⟩
end Go.Proofs.YtlagcdgfmgkooaaDoor
