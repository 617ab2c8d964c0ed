/-
  slices.Equal on tokens; the walk of the law LexerScans.
-/
import Derived.Test.YtbepmakohjpioaaLxS
import Derived.Test.YtbepmakohjpioaaLxR6
namespace Go.Proofs.Ytbepmakohjpioaa
open Go.RowKit
set_option linter.unusedVariables false

set_option maxHeartbeats 1000000 in
theorem eqt_true (ts : List Lx.Tok) (g1 c1 g2 c2 : Nat) (w : World) (h1 : TokIn w g1 ts) (h2 : TokIn w g2 ts) (hl : ts.length ≤ 65537) :
    Calls Try.prog 12 #[.slice (some ⟨g1, 0, none⟩) ts.length c1, .slice (some ⟨g2, 0, none⟩) ts.length c2] w fun e w' => e = .returned (.bool true) ∧ Below w.heap.size w w' := by
  go_enter Try.func12, Try.ntmps12
  go_wp2_with fail
  go_loopw [13] (AkRel ts.length w) (fun i _ => ts.length - (intOf i).toNat)
  case atStart => exact ⟨0, Nat.zero_le _, rfl, Below.refl _ _⟩
  case round =>
    obtain ⟨k, hk1, rfl, hb⟩ := hrel
    by_cases hlt : k < ts.length
    · obtain ⟨c0, c1', c2'⟩ := (h1.below hb (Nat.le_refl _)).at k hlt
      obtain ⟨d0, d1, d2⟩ := (h2.below hb (Nat.le_refl _)).at k hlt
      generalize ts[k].kind = kd at *
      generalize ts[k].text = tx at *
      generalize ts[k].at_ = a1 at *
      have i1 : (k : Int) < (ts.length : Int) := by omega
      go_wp2_with fail
      go_quiet (fail)
      go_wp2_with fail
      go_roundw
      case rel => exact ⟨k + 1, by omega, by simp, bl_drewN hb _⟩
      case measure => simp [intOf]; omega
    · go_wp2_with fail
      go_ret
      exact ⟨rfl, hb⟩
theorem eqt_nil (w : World) : Calls Try.prog 12 #[.slice none 0 0, .slice none 0 0] w fun e w' => e = .returned (.bool true) ∧ Below w.heap.size w w' := by
  go_enter Try.func12, Try.ntmps12
  go_wp2_with fail
  refine wp_loop_rounds 1 ?_
  rw [rounds_succ]
  go_wp2_with fail
  go_ret
  exact ⟨rfl, Below.refl _ _⟩
theorem rscan_ok (s : ByteArray) (ts : List Lx.Tok) (w : World) (hs : s.size ≤ 65536) (h : Lx.sc (tl s) = .ok ts) (h0 : 0 < ts.length) :
    Calls Try.prog 11 #[.string s] w fun e w' => ∃ g cap, e = .returned (.tuple #[.slice (some ⟨g, 0, none⟩) ts.length cap, .int .i64 0, .int .i64 0]) ∧ TokIn w' g ts ∧ ts.length ≤ cap ∧ Below w.heap.size w w' :=
  (rscan_any s w hs).mono fun e w' hp => by
    unfold ScanPost at hp
    rw [h] at hp
    obtain ⟨v, he, hown, hb⟩ := hp
    obtain ⟨g, cap, rfl, _, ht, hc, _⟩ := own_tok hown h0
    exact ⟨g, cap, he, ht, hc, hb⟩
theorem rscan_err (s : ByteArray) (a n : Nat) (w : World) (hs : s.size ≤ 65536) (h : Lx.sc (tl s) = .err a n) :
    Calls Try.prog 11 #[.string s] w fun e w' => e = .returned (.tuple #[.slice none 0 0, .int .i64 (a : Int), .int .i64 (n : Int)]) ∧ Below w.heap.size w w' :=
  (rscan_any s w hs).mono fun e w' hp => by
    unfold ScanPost at hp
    rw [h] at hp
    exact hp
theorem tok_cnt {l : List UInt8} {ts : List Lx.Tok} (h : Lx.sc l = .ok ts) : 0 < ts.length ∧ ts.length ≤ l.length + 1 := by
  obtain ⟨us, e, rfl, h2, h3, h4, h5, h6, h7⟩ := (Lx.sc_iff.1 h).join
  refine ⟨by simp, ?_⟩
  have hlen : us.length ≤ (us.map fun t => t.text.length).sum := by
    clear h7 h6 h h4
    induction us with
    | nil => simp
    | cons u us ih =>
      have h8 := (h5 u (List.mem_cons_self ..)).2
      have h9 := ih (fun t ht => h5 t (List.mem_cons_of_mem _ ht))
      have h10 : 0 < u.text.length := List.length_pos_iff.2 h8
      simp only [List.map_cons, List.sum_cons, List.length_cons]
      omega
  simp
  omega
set_option maxHeartbeats 1000000 in
theorem scans_walk (s : ByteArray) (h1 : s.size ≤ maxLen) (w : World) :
    Calls Try.prog 3 #[.string s] w fun e w' => e = .returned (.bool true) ∧ Below w.heap.size w w' := by
  unfold maxLen at h1
  by_cases hl : s.size ≤ 1000
  · cases hsc : Lx.sc (tl s) with
    | err p e =>
      have HS := Lib.hid hsc
      clear hsc
      go_enter Try.func3, Try.ntmps3
      go_wp2_with fail
      refine (scan_err s p e _ (by omega) HS.out).mono ?_
      rintro e' w1 ⟨rfl, hb1⟩
      go_wp2_with fail
      refine (rscan_err s p e _ (by omega) HS.out).mono ?_
      rintro e' w2 ⟨rfl, hb2⟩
      go_wp2_with fail
      refine (eqt_nil _).mono ?_
      rintro e' w3 ⟨rfl, hb3⟩
      go_wp2_with fail
      refine (awake_any _).mono ?_
      rintro e' w4 ⟨rfl, hb4⟩
      go_wp2_with fail
      go_ret
      exact ⟨by first | rfl | (simp; done), (((Kp.start w).next hb1).next hb2 |>.next hb3 |>.next hb4).below⟩
    | ok ts =>
      obtain ⟨hp, hq⟩ := tok_cnt hsc
      rw [length_tl] at hq
      have HS := Lib.hid hsc
      clear hsc
      go_enter Try.func3, Try.ntmps3
      go_wp2_with fail
      refine (scan_ok s ts _ (by omega) HS.out hp).mono ?_
      rintro e' w1 ⟨g, cap, rfl, ht, hc, hb1⟩
      go_wp2_with fail
      refine (rscan_ok s ts _ (by omega) HS.out hp).mono ?_
      rintro e' w2 ⟨g2, cap2, rfl, ht2, hc2, hb2⟩
      go_wp2_with fail
      refine (eqt_true ts g cap g2 cap2 _ (ht.below hb2 (Nat.le_refl _)) ht2 (by omega)).mono ?_
      rintro e' w3 ⟨rfl, hb3⟩
      go_wp2_with fail
      refine (awake_any _).mono ?_
      rintro e' w4 ⟨rfl, hb4⟩
      go_wp2_with fail
      go_ret
      exact ⟨by first | rfl | (simp; done), (((Kp.start w).next hb1).next hb2 |>.next hb3 |>.next hb4).below⟩
  · go_enter Try.func3, Try.ntmps3
    go_wp2_with fail
    refine (awake_any _).mono ?_
    rintro e w3 ⟨rfl, hb3⟩
    go_wp2_with fail
    go_ret
    exact ⟨rfl, hb3⟩
end Go.Proofs.Ytbepmakohjpioaa
