/-
  The walks of the laws NaturalTexts and NaturalParses.
-/
import Derived.Test.YtchnjdiolnpabaaDoorNtLaw3
import Derived.Test.YtchnjdiolnpabaaDoorRef10
import Derived.Test.YtchnjdiolnpabaaDoorDiv1
namespace Go.Proofs.YtchnjdiolnpabaaDoor
open Go.RowKit
set_option linter.unusedVariables false

theorem Text_all (s : ByteArray) (w : World) (h1 : s.size ≤ 1073741824) :
    Calls Tryd.prog 7 #[.string s] w fun e w' => e = .returned (textV (tl s)) ∧ Below w.heap.size w w' :=
  Text_any 128 div128 s w h1 (fun h => validB_size h)
theorem parseV_form (l : List UInt8) : ∃ r e, parseV l = .tuple #[.string r, .int .i64 e] := by
  unfold parseV; split
  · exact fitV_form _
  · exact ⟨_, _, rfl⟩
theorem dec_len {n : Nat} (h : n < 256 ^ 128) : (Dm.dec n).length ≤ 400 := by
  have h1 := Dm.okDec_dec n
  by_cases h2 : (Dm.dec n).length ≤ 1
  · omega
  · have h3 := Dm.okDec_long h1 (by omega)
    rw [Dm.dv_dec] at h3
    have := digits_bound h3 h
    omega
set_option maxHeartbeats 1000000 in
theorem parses_walk (s : ByteArray) (h1 : s.size ≤ maxLen) (w : World) :
    Calls Tryd.prog 4 #[.string s] w fun e w' => e = .returned (.bool true) ∧ Below w.heap.size w w' := by
  unfold maxLen at h1
  by_cases ls : s.size ≤ 400
  · obtain ⟨r, er, hr⟩ := parseV_form (tl s)
    have HR := Lib.hid hr
    clear hr
    go_enter Tryd.func4, Tryd.ntmps4
    go_wp2_with fail
    refine (Parse_any s _ (by omega)).mono ?_
    rintro e w1 ⟨rfl, hb⟩
    have k1 := (Kp.start w).next hb
    clear hb
    rw [HR.out]
    go_wp2_with fail
    refine (ref_Parse_any s _ (by omega)).mono ?_
    rintro e w2 ⟨rfl, hb⟩
    have k2 := k1.next hb
    clear hb k1
    rw [HR.out]
    go_wp2_with fail
    refine (awake_any _).mono ?_
    rintro e w3 ⟨rfl, hb⟩
    have k3 := k2.next hb
    clear hb k2
    go_wp2_with fail
    go_ret
    exact ⟨by first | rfl | (simp; done), k3.below⟩
  · go_enter Tryd.func4, Tryd.ntmps4
    go_wp2_with fail
    refine (awake_any _).mono ?_
    rintro e w8 ⟨rfl, hb⟩
    go_wp2_with fail
    go_ret
    exact ⟨rfl, hb⟩
set_option maxHeartbeats 1000000 in
theorem texts_walk (s : ByteArray) (h1 : s.size ≤ maxLen) (w : World) :
    Calls Tryd.prog 3 #[.string s] w fun e w' => e = .returned (.bool true) ∧ Below w.heap.size w w' := by
  have hin : ∀ x ∈ [s], x.size ≤ maxLen := by
    intro x hx
    rw [List.mem_singleton.1 hx]; exact h1
  have HFw := Lib.hid (few_any [s] w.heap.size 22 (w.alloc (.cells #[.string s] 22)) (by simp) (Blk.new w _ [.string s]) hin)
  clear hin
  have k0 := (Kp.start w).alloc (.cells #[.string s] 22)
  cases hf : few [s] with
  | false =>
    have HF := Lib.hid hf
    clear hf h1
    go_enter Tryd.func3, Tryd.ntmps3
    go_wp2_with fail
    refine HFw.out.mono ?_
    rintro e w' ⟨rfl, rfl⟩
    rw [HF.out]
    go_wp2_with fail
    refine (awake_any _).mono ?_
    rintro e w8 ⟨rfl, hb⟩
    go_wp2_with fail
    go_ret
    exact ⟨rfl, (k0.next hb).below⟩
  | true =>
    have HF := Lib.hid hf
    have l1 : s.size ≤ 200 := by simp [few] at hf; exact hf
    clear hf h1
    cases hs : validB (tl s) with
    | false =>
      have HT : Hid (textV (tl s) = .tuple #[.string ⟨#[]⟩, .int .i64 3]) := by show _ = _; rw [textV, hs]; rfl
      clear hs
      go_enter Tryd.func3, Tryd.ntmps3
      go_wp2_with fail
      refine HFw.out.mono ?_
      rintro e w' ⟨rfl, rfl⟩
      rw [HF.out]
      go_wp2_with fail
      refine (Text_all s _ (by omega)).mono ?_
      rintro e w1 ⟨rfl, hb⟩
      have k1 := k0.next hb
      clear hb k0
      rw [HT.out]
      go_wp2_with fail
      refine (ref_Text_any s _ (by omega)).mono ?_
      rintro e w2 ⟨rfl, hb⟩
      have k2 := k1.next hb
      clear hb k1
      rw [HT.out]
      go_wp2_with fail
      refine (awake_any _).mono ?_
      rintro e w3 ⟨rfl, hb⟩
      have k3 := k2.next hb
      clear hb k2
      go_wp2_with fail
      go_ret
      exact ⟨by first | rfl | (simp; done), k3.below⟩
    | true =>
      have hsv := valid_sv s hs
      have hvl := Dm.val_lt (tl s)
      rw [length_tl] at hvl
      have hv : Dm.val (tl s) < 256 ^ 128 := Nat.lt_of_lt_of_le hvl (Nat.pow_le_pow_right (by omega) (validB_size hs))
      have hdl := dec_len hv
      have HT : Hid (textV (tl s) = .tuple #[Sv (Dm.dec (Dm.val (tl s))), .int .i64 0]) := by show _ = _; rw [textV, hs]; rfl
      have HP : Hid (parseV (Dm.dec (Dm.val (tl s))) = .tuple #[.string s, .int .i64 0]) := by
        show _ = _
        rw [parseV, if_pos (Dm.okDec_dec _), Dm.dv_dec, fit_of hv (Nat.le_refl _), Sv, ← hsv]
      have hds : (bs (Dm.dec (Dm.val (tl s)))).size ≤ 1000000 := by rw [size_bs]; omega
      clear hs hsv hvl hv hdl
      generalize Dm.dec (Dm.val (tl s)) = D at *
      go_enter Tryd.func3, Tryd.ntmps3
      go_wp2_with fail
      refine HFw.out.mono ?_
      rintro e w' ⟨rfl, rfl⟩
      rw [HF.out]
      go_wp2_with fail
      refine (Text_all s _ (by omega)).mono ?_
      rintro e w1 ⟨rfl, hb⟩
      have k1 := k0.next hb
      clear hb k0
      rw [HT.out]
      go_wp2_with fail
      refine (ref_Text_any s _ (by omega)).mono ?_
      rintro e w2 ⟨rfl, hb⟩
      have k2 := k1.next hb
      clear hb k1
      rw [HT.out]
      go_wp2_with fail
      refine (Parse_any (bs D) _ hds).mono ?_
      rintro e w3 ⟨rfl, hb⟩
      have k3 := k2.next hb
      clear hb k2
      rw [tl_bs, HP.out]
      go_wp2_with fail
      refine (awake_any _).mono ?_
      rintro e w4 ⟨rfl, hb⟩
      have k4 := k3.next hb
      clear hb k3
      go_wp2_with fail
      go_ret
      exact ⟨by first | rfl | (simp; done), k4.below⟩
end Go.Proofs.YtchnjdiolnpabaaDoor
