/-
  The walks of the laws NaturalMultiplies and NaturalRoots.
-/
import Derived.Test.YtchnjdiolnpabaaNtLaw3
import Derived.Test.YtchnjdiolnpabaaRef9
import Derived.Test.YtchnjdiolnpabaaDiv1
namespace Go.Proofs.Ytchnjdiolnpabaa
open Go.RowKit
set_option linter.unusedVariables false

theorem mulV_form (l m : List UInt8) : ∃ r e, mulV l m = .tuple #[.string r, .int .i64 e] := by
  unfold mulV; split
  · exact fitV_form _
  · exact ⟨_, _, rfl⟩
theorem dmV_form (l m : List UInt8) : ∃ q r e, dmV l m = .tuple #[.string q, .string r, .int .i64 e] := by
  unfold dmV; split
  · split
    · exact ⟨_, _, _, rfl⟩
    · exact ⟨_, _, _, rfl⟩
  · exact ⟨_, _, _, rfl⟩
theorem gcdV_form (l m : List UInt8) : ∃ r e, gcdV l m = .tuple #[.string r, .int .i64 e] := by
  unfold gcdV; split
  · exact ⟨_, _, rfl⟩
  · exact ⟨_, _, rfl⟩
theorem sqrtV_form (l : List UInt8) : ∃ r e, sqrtV l = .tuple #[.string r, .int .i64 e] := by
  unfold sqrtV; split
  · exact ⟨_, _, rfl⟩
  · exact ⟨_, _, rfl⟩
theorem DivMod_all (s t : ByteArray) (w : World) (h1 : s.size ≤ 1073741824) (h2 : t.size ≤ 1073741824) :
    Calls Try.prog 14 #[.string s, .string t] w fun e w' => e = .returned (dmV (tl s) (tl t)) ∧ Below w.heap.size w w' :=
  DivMod_any 128 div128 s t w h1 h2 (by
    cases h : validB (tl s) with
    | false => exact Or.inr rfl
    | true => exact Or.inl (validB_size h))
theorem Gcd_all (s t : ByteArray) (w : World) (h1 : s.size ≤ 1073741824) (h2 : t.size ≤ 1073741824) :
    Calls Try.prog 16 #[.string s, .string t] w fun e w' => e = .returned (gcdV (tl s) (tl t)) ∧ Below w.heap.size w w' :=
  Gcd_any 128 div128 s t w h1 h2 (fun h h' => ⟨validB_size h, validB_size h'⟩)
theorem Sqrt_all (s : ByteArray) (w : World) (h1 : s.size ≤ 1073741824) :
    Calls Try.prog 18 #[.string s] w fun e w' => e = .returned (sqrtV (tl s)) ∧ Below w.heap.size w w' :=
  Sqrt_any 128 div128 (by omega) s w h1 (fun h => validB_size h)
set_option maxHeartbeats 1000000 in
theorem multiplies_walk (s t : ByteArray) (h1 : s.size ≤ maxLen) (h2 : t.size ≤ maxLen) (w : World) :
    Calls Try.prog 3 #[.string s, .string t] w fun e w' => e = .returned (.bool true) ∧ Below w.heap.size w w' := by
  obtain ⟨r, er, hr⟩ := mulV_form (tl s) (tl t)
  obtain ⟨q, d, ed, hd⟩ := dmV_form (tl s) (tl t)
  have HR := Lib.hid hr
  have HD := Lib.hid hd
  clear hr hd
  have hin : ∀ x ∈ [s, t], x.size ≤ maxLen := by
    intro x hx
    rcases List.mem_cons.1 hx with h | h
    · rw [h]; exact h1
    · rw [List.mem_singleton.1 h]; exact h2
  have HFw := Lib.hid (few_any [s, t] w.heap.size 22 (w.alloc (.cells #[.string s, .string t] 22)) (by simp) (Blk.new w _ [.string s, .string t]) hin)
  clear hin
  have k0 := (Kp.start w).alloc (.cells #[.string s, .string t] 22)
  cases hf : few [s, t] with
  | false =>
    have HF := Lib.hid hf
    clear hf h1 h2
    go_enter Try.func3, Try.ntmps3
    go_wp2_with fail
    refine HFw.out.mono ?_
    rintro e w' ⟨rfl, rfl⟩
    rw [HF.out]
    go_wp2_with fail
    refine (awake_any _).mono ?_
    rintro e w8 ⟨rfl, hb⟩
    go_wp2_with fail
    go_ret
    exact ⟨rfl, (k0.next hb).below⟩
  | true =>
    have HF := Lib.hid hf
    have l1 : s.size ≤ 200 := by simp [few] at hf; exact hf.1
    have l2 : t.size ≤ 200 := by simp [few] at hf; exact hf.2
    clear hf h1 h2
    go_enter Try.func3, Try.ntmps3
    go_wp2_with fail
    refine HFw.out.mono ?_
    rintro e w' ⟨rfl, rfl⟩
    rw [HF.out]
    go_wp2_with fail
    refine (Mul_any s t _ (by omega) (by omega)).mono ?_
    rintro e w1 ⟨rfl, hb⟩
    have k1 := k0.next hb
    clear hb k0
    rw [HR.out]
    go_wp2_with fail
    refine (ref_Mul_any s t _ (by omega) (by omega)).mono ?_
    rintro e w2 ⟨rfl, hb⟩
    have k2 := k1.next hb
    clear hb k1
    rw [HR.out]
    go_wp2_with fail
    refine (DivMod_all s t _ (by omega) (by omega)).mono ?_
    rintro e w3 ⟨rfl, hb⟩
    have k3 := k2.next hb
    clear hb k2
    rw [HD.out]
    go_wp2_with fail
    refine (ref_DivMod_any s t _ (by omega) (by omega)).mono ?_
    rintro e w4 ⟨rfl, hb⟩
    have k4 := k3.next hb
    clear hb k3
    rw [HD.out]
    go_wp2_with fail
    refine (awake_any _).mono ?_
    rintro e w5 ⟨rfl, hb⟩
    have k5 := k4.next hb
    clear hb k4
    go_wp2_with fail
    go_ret
    exact ⟨by first | rfl | (simp; done), k5.below⟩
set_option maxHeartbeats 1000000 in
theorem roots_walk (s t : ByteArray) (h1 : s.size ≤ maxLen) (h2 : t.size ≤ maxLen) (w : World) :
    Calls Try.prog 4 #[.string s, .string t] w fun e w' => e = .returned (.bool true) ∧ Below w.heap.size w w' := by
  obtain ⟨r, er, hr⟩ := gcdV_form (tl s) (tl t)
  obtain ⟨d, ed, hd⟩ := sqrtV_form (tl s)
  have HR := Lib.hid hr
  have HD := Lib.hid hd
  clear hr hd
  unfold maxLen at h1 h2
  by_cases l1 : s.size ≤ 60
  · by_cases l2 : t.size ≤ 60
    · go_enter Try.func4, Try.ntmps4
      go_wp2_with fail
      refine (Gcd_all s t _ (by omega) (by omega)).mono ?_
      rintro e w1 ⟨rfl, hb⟩
      have k1 := (Kp.start w).next hb
      clear hb
      rw [HR.out]
      go_wp2_with fail
      refine (ref_Gcd_any s t _ (by omega) (by omega)).mono ?_
      rintro e w2 ⟨rfl, hb⟩
      have k2 := k1.next hb
      clear hb k1
      rw [HR.out]
      go_wp2_with fail
      refine (Sqrt_all s _ (by omega)).mono ?_
      rintro e w3 ⟨rfl, hb⟩
      have k3 := k2.next hb
      clear hb k2
      rw [HD.out]
      go_wp2_with fail
      refine (ref_Sqrt_any s _ (by omega)).mono ?_
      rintro e w4 ⟨rfl, hb⟩
      have k4 := k3.next hb
      clear hb k3
      rw [HD.out]
      go_wp2_with fail
      refine (awake_any _).mono ?_
      rintro e w5 ⟨rfl, hb⟩
      have k5 := k4.next hb
      clear hb k4
      go_wp2_with fail
      go_ret
      exact ⟨by first | rfl | (simp; done), k5.below⟩
    · go_enter Try.func4, Try.ntmps4
      go_wp2_with fail
      refine (awake_any _).mono ?_
      rintro e w8 ⟨rfl, hb⟩
      go_wp2_with fail
      go_ret
      exact ⟨rfl, hb⟩
  · go_enter Try.func4, Try.ntmps4
    go_wp2_with fail
    refine (awake_any _).mono ?_
    rintro e w8 ⟨rfl, hb⟩
    go_wp2_with fail
    go_ret
    exact ⟨rfl, hb⟩
end Go.Proofs.Ytchnjdiolnpabaa
