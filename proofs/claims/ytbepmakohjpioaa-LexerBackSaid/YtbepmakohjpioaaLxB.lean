/-
  The walk of the law LexerBack.
-/
import Derived.Test.YtbepmakohjpioaaLxJ2
namespace Go.Proofs.Ytbepmakohjpioaa
open Go.RowKit
set_option linter.unusedVariables false

theorem sumL_eq (us : List Lx.Tok) : sumL us = (us.map fun t => t.text.length).sum + us.length := by
  induction us with
  | nil => rfl
  | cons t us ih => simp only [sumL, List.map_cons, List.sum_cons, List.length_cons] at ih ⊢; omega
theorem len_sum (us : List Lx.Tok) (h : ∀ t ∈ us, t.kind ≤ 2 ∧ t.text ≠ []) : us.length ≤ (us.map fun t => t.text.length).sum := by
  induction us with
  | nil => simp
  | cons u us ih =>
    have h8 := (h u (List.mem_cons_self ..)).2
    have h9 := ih (fun t ht => h t (List.mem_cons_of_mem _ ht))
    have h10 : 0 < u.text.length := List.length_pos_iff.2 h8
    simp only [List.map_cons, List.sum_cons, List.length_cons]
    omega
set_option maxHeartbeats 1000000 in
theorem back_walk (s : ByteArray) (h1 : s.size ≤ maxLen) (w : World) :
    Calls Try.prog 8 #[.string s] w fun e w' => e = .returned (.bool true) ∧ Below w.heap.size w w' := by
  unfold maxLen at h1
  by_cases hl : s.size ≤ 1000
  · cases hsc : Lx.sc (tl s) with
    | err p e =>
      have hne := sc_err_ne hsc
      have hne2 : ((e : Int) != 0) = true := by simp; omega
      have HS := Lib.hid hsc
      clear hsc
      go_enter Try.func8, Try.ntmps8
      go_wp2_with fail
      refine (scan_err s p e _ (by omega) HS.out).mono ?_
      rintro e' w1 ⟨rfl, hb1⟩
      go_wp2_with fail
      refine (awake_any _).mono ?_
      rintro e' w2 ⟨rfl, hb2⟩
      go_wp2_with fail
      go_ret
      exact ⟨rfl, hb1.trans (hb2.mono hb1.size)⟩
    | ok ts =>
      obtain ⟨us, e, hts, hek, het, hea, hus, hsm, hjn⟩ := (Lx.sc_iff.1 hsc).join
      obtain ⟨vs, hv1, hv2⟩ := hjn 0
      subst hts
      have hvs := Lib.hid (Lx.sc_iff.2 hv1)
      have hkt := Lib.hid hv2
      have hlu := len_sum us hus
      have hsl := sumL_eq us
      rw [length_tl] at hsm
      have hs4 : sumL us ≤ 4000 := by omega
      have hu2 : us.length ≤ 2000 := by omega
      have hus' := Lib.hid hus
      have HS := Lib.hid hsc
      have hl1 : Hid ((us ++ [e]).length = us.length + 1) := Lib.hid (by simp)
      have hlv : Hid (vs.length = us.length + 1) := Lib.hid (by have h5 := congrArg List.length hkt.out; simpa using h5)
      clear hv1 hv2 hjn hus hsc hsl hea het hsm hlu
      have HEK := Lib.hid hek
      clear hek
      go_enter Try.func8, Try.ntmps8
      go_wp2_with fail
      refine (scan_ok s (us ++ [e]) _ (by omega) HS.out (by rw [hl1.out]; omega)).mono ?_
      rintro e' w1 ⟨g, cap, rfl, ht, hc, hb1⟩
      rw [hl1.out] at hc ⊢
      go_wp2_with fail
      refine (join_any us e HEK.out hus' hs4 hu2 g cap _ ht hc vs hvs hkt).mono ?_
      rintro e' w2 ⟨rfl, hb2⟩
      go_wp2_with fail
      refine (scan_ok (bs (Lx.jn us)) vs _ (by rw [size_bs]; have := jn_len us; omega) (by rw [tl_bs]; exact hvs.out) (by rw [hlv.out]; omega)).mono ?_
      rintro e' w3 ⟨g3, c3, rfl, ht3, hc3, hb3⟩
      have htb := (ht.below hb2 (Nat.le_refl _)).below hb3 (Nat.le_refl _)
      go_wp2_with fail
      have hal := alike_true (us ++ [e]) vs g cap g3 c3 vs.length w3 htb ht3 (Lib.hid hkt.out.symm) (by rw [hl1.out]; omega) rfl
      rw [hl1.out] at hal
      refine hal.mono ?_
      rintro e' w4 ⟨rfl, hb4⟩
      go_wp2_with fail
      refine (awake_any _).mono ?_
      rintro e' w5 ⟨rfl, hb5⟩
      go_wp2_with fail
      go_ret
      exact ⟨rfl, (((Kp.start w).next hb1).next hb2 |>.next hb3 |>.next hb4 |>.next hb5).below⟩
  · go_enter Try.func8, Try.ntmps8
    go_wp2_with fail
    refine (awake_any _).mono ?_
    rintro e w3 ⟨rfl, hb3⟩
    go_wp2_with fail
    go_ret
    exact ⟨rfl, hb3⟩
end Go.Proofs.Ytbepmakohjpioaa
