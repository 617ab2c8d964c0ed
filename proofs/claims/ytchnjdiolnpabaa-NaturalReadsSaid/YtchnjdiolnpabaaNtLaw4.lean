/-
  The walk of the law NaturalReads.
-/
import Derived.Test.YtchnjdiolnpabaaNtLaw3
import Derived.Test.YtchnjdiolnpabaaRef6
namespace Go.Proofs.Ytchnjdiolnpabaa
open Go.RowKit
set_option linter.unusedVariables false

set_option maxHeartbeats 1000000 in
theorem reads_walk (s : ByteArray) (i : Int) (h1 : s.size ≤ maxLen) (hi : (Lit.int .i64 i).wf = true) (w : World) :
    Calls Try.prog 6 #[.string s, .int .i64 i] w fun e w' => e = .returned (.bool true) ∧ Below w.heap.size w w' := by
  obtain ⟨n, b, hr, hn, _⟩ := smallV_form (tl s)
  have HI : Hid (i ≤ 9223372036854775807) := by
    have h : -9223372036854775808 ≤ i ∧ i ≤ 9223372036854775807 := by simpa [Lit.wf, IntKind.min, IntKind.max, IntKind.signed, IntKind.bits] using hi
    exact h.2
  clear hi
  have HR := Lib.hid hr
  clear hr
  have hin : ∀ x ∈ [s], x.size ≤ maxLen := by
    intro x hx
    rw [List.mem_singleton.1 hx]; exact h1
  have HFw := Lib.hid (few_any [s] w.heap.size 22 (w.alloc (.cells #[.string s] 22)) (by simp) (Blk.new w _ [.string s]) hin)
  clear hin
  have k0 := (Kp.start w).alloc (.cells #[.string s] 22)
  cases hf : few [s] with
  | false =>
    have HF := Lib.hid hf
    clear hf h1
    go_enter Try.func6, Try.ntmps6
    go_wp2_with fail
    refine HFw.out.mono ?_
    rintro e w' ⟨rfl, rfl⟩
    rw [HF.out]
    go_wp2_with fail
    refine (awake_any _).mono ?_
    rintro e w8 ⟨rfl, hb⟩
    go_wp2_with fail
    go_ret
    exact ⟨rfl, (k0.next hb).below⟩
  | true =>
    have HF := Lib.hid hf
    have l1 : s.size ≤ 200 := by simp [few] at hf; exact hf
    clear hf h1
    go_enter Try.func6, Try.ntmps6
    go_wp2_with fail
    refine HFw.out.mono ?_
    rintro e w' ⟨rfl, rfl⟩
    rw [HF.out]
    go_wp2_with fail
    refine (small_any s _ (by omega)).mono ?_
    rintro e w1 ⟨rfl, rfl⟩
    rw [HR.out]
    go_wp2_with fail
    refine (ref_small_any s _ (by omega)).mono ?_
    rintro e w1 ⟨rfl, rfl⟩
    rw [HR.out]
    go_wp2_with fail
    refine (awake_any _).mono ?_
    rintro e w5 ⟨rfl, hb⟩
    have k5 := k0.next hb
    clear hb k0
    go_wp2_with fail
    refine (valid_any s _ (by omega)).mono ?_
    rintro e w6 ⟨rfl, rfl⟩
    go_wp2_with fail
    refine (ref_valid_any s _ (by omega)).mono ?_
    rintro e w6 ⟨rfl, rfl⟩
    go_wp2_with fail
    refine (Bits_any s _ (by omega)).mono ?_
    rintro e w6 ⟨rfl, rfl⟩
    go_wp2_with fail
    refine (ref_Bits_any s _ (by omega)).mono ?_
    rintro e w6 ⟨rfl, rfl⟩
    go_wp2_with fail
    refine (Bit_any s i _ (by omega) HI.out).mono ?_
    rintro e w6 ⟨rfl, rfl⟩
    go_wp2_with fail
    refine (ref_Bit_any s i _ (by omega)).mono ?_
    rintro e w6 ⟨rfl, rfl⟩
    go_wp2_with fail
    go_ret
    exact ⟨by first | rfl | (simp; done), k5.below⟩
end Go.Proofs.Ytchnjdiolnpabaa
