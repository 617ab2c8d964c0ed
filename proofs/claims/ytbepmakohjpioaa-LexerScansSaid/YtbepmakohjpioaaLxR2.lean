/-
  dominoref40: word, number.
-/
import Derived.Test.YtbepmakohjpioaaLxR1
namespace Go.Proofs.Ytbepmakohjpioaa
open Go.RowKit
set_option linter.unusedVariables false

section
variable (s : ByteArray) (a n : Nat) (w : World) (hs : s.size ≤ 65536) (ha : a < s.size)
include hs ha
theorem rword_long (hn : Hid (Lx.sp Lx.isWd ((tl s).drop (a + 1)) = n)) (h32 : 32 < n) : Calls Try.prog 29 #[.string s, .int .i64 (a : Int)] w fun e w' => e = .returned (t3 0 a 5) ∧ Below w.heap.size w w' := by
  have hfit := sp_fit hn.out (show a + 1 ≤ s.size by omega)
  go_enter Try.func29, Try.ntmps29
  go_wp2_with fail
  refine (run_wd s _ (a + 1) n _ (by simp) hn.out hs (by omega)).mono ?_
  rintro e w1 ⟨rfl, hb1⟩
  go_wp2_with fail
  go_ret3
  exact ⟨rfl, hb1⟩
theorem rword_empty (hn : Hid (Lx.sp Lx.isWd ((tl s).drop (a + 1)) = 0)) : Calls Try.prog 29 #[.string s, .int .i64 (a : Int)] w fun e w' => e = .returned (t3 0 a 4) ∧ Below w.heap.size w w' := by
  go_enter Try.func29, Try.ntmps29
  go_wp2_with fail
  refine (run_wd s _ (a + 1) 0 _ (by simp) hn.out hs (by omega)).mono ?_
  rintro e w1 ⟨rfl, hb1⟩
  go_wp2_with fail
  go_ret3
  exact ⟨rfl, hb1⟩
theorem rword_end (hn : Hid (Lx.sp Lx.isWd ((tl s).drop (a + 1)) = n)) (h32 : n ≤ 32) (h0 : 0 < n) (he : Hid (a + 1 + n = s.size)) : Calls Try.prog 29 #[.string s, .int .i64 (a : Int)] w fun e w' => e = .returned (t3 0 a 4) ∧ Below w.heap.size w w' := by
  have e1 : (((a : Int) + 1 + n) == ((a : Int) + 1)) = false := by simp; omega
  have e2 : decide ((s.size : Int) ≤ (a : Int) + 1 + n) = true := by have := he.out; simp; omega
  have hfit := sp_fit hn.out (show a + 1 ≤ s.size by omega)
  go_enter Try.func29, Try.ntmps29
  go_wp2_with fail
  refine (run_wd s _ (a + 1) n _ (by simp) hn.out hs (by omega)).mono ?_
  rintro e w1 ⟨rfl, hb1⟩
  go_wp2_with fail
  go_ret3
  exact ⟨rfl, hb1⟩
theorem rword_open (hn : Hid (Lx.sp Lx.isWd ((tl s).drop (a + 1)) = n)) (h32 : n ≤ 32) (h0 : 0 < n) (he : a + 1 + n < s.size) (hq : (s[a + 1 + n] == 39) = false) : Calls Try.prog 29 #[.string s, .int .i64 (a : Int)] w fun e w' => e = .returned (t3 0 a 4) ∧ Below w.heap.size w w' := by
  have e1 : (((a : Int) + 1 + n) == ((a : Int) + 1)) = false := by simp; omega
  have hq2 : ((s[a + 1 + n].toNat : Int) != 39) = true := by simp at hq ⊢; intro h8; exact hq (UInt8.toNat_inj.1 (by have h9 : (39 : UInt8).toNat = 39 := rfl; omega))
  clear hq
  go_enter Try.func29, Try.ntmps29
  go_wp2_with fail
  refine (run_wd s _ (a + 1) n _ (by simp) hn.out hs (by omega)).mono ?_
  rintro e w1 ⟨rfl, hb1⟩
  go_wp2_with fail
  go_ret3
  exact ⟨rfl, hb1⟩
theorem rword_ok (hn : Hid (Lx.sp Lx.isWd ((tl s).drop (a + 1)) = n)) (h32 : n ≤ 32) (h0 : 0 < n) (he : a + 1 + n < s.size) (hq : (s[a + 1 + n] == 39) = true) : Calls Try.prog 29 #[.string s, .int .i64 (a : Int)] w fun e w' => e = .returned (t3 ((a : Int) + 1 + n + 1) 0 0) ∧ Below w.heap.size w w' := by
  have e1 : (((a : Int) + 1 + n) == ((a : Int) + 1)) = false := by simp; omega
  have hq2 : ((s[a + 1 + n].toNat : Int) != 39) = false := by simp at hq ⊢; rw [hq]; rfl
  clear hq
  go_enter Try.func29, Try.ntmps29
  go_wp2_with fail
  refine (run_wd s _ (a + 1) n _ (by simp) hn.out hs (by omega)).mono ?_
  rintro e w1 ⟨rfl, hb1⟩
  go_wp2_with fail
  go_ret3
  exact ⟨rfl, hb1⟩
end
/-- number: the loop over digits from b on -/
def RnRel (s : ByteArray) (b : Nat) (w : World) (i n lg : Value) (W : World) : Prop := ∃ k : Nat, b + k ≤ s.size ∧ k ≤ Lx.sp Lx.isDig ((tl s).drop b) ∧ i = .int .i64 (((b + k : Nat)) : Int) ∧ n = .int .i64 ((min (Lx.dv (((tl s).drop b).take k)) 2147483648 : Nat) : Int) ∧ lg = .bool (decide (2147483648 < Lx.dv (((tl s).drop b).take k))) ∧ W = w
theorem dv_step (s : ByteArray) (b k : Nat) (h : b + k < s.size) : Lx.dv (((tl s).drop b).take (k + 1)) = 10 * Lx.dv (((tl s).drop b).take k) + (s[b + k].toNat - 48) := by
  have hl : k < ((tl s).drop b).length := by rw [List.length_drop, length_tl]; omega
  rw [List.take_succ_eq_append_getElem hl, Lx.dv_snoc, List.getElem_drop, tl_getElem s _ h]
theorem sp_more (s : ByteArray) (b k : Nat) (h : b + k < s.size) (hk : k ≤ Lx.sp Lx.isDig ((tl s).drop b)) : (Lx.isDig s[b + k] = true ↔ k < Lx.sp Lx.isDig ((tl s).drop b)) := by
  have hl : k < ((tl s).drop b).length := by rw [List.length_drop, length_tl]; omega
  have e : ((tl s).drop b)[k] = s[b + k] := by rw [List.getElem_drop, tl_getElem s _ h]
  constructor
  · intro hd
    rcases Nat.lt_or_ge k (Lx.sp Lx.isDig ((tl s).drop b)) with h1 | h1
    · exact h1
    · have h2 : k = Lx.sp Lx.isDig ((tl s).drop b) := by omega
      have h3 := Lx.sp_end (p := Lx.isDig) (l := (tl s).drop b) (by rw [← h2]; exact hl)
      simp only [← h2] at h3
      rw [e, hd] at h3
      cases h3
  · intro h1
    have h3 := Lx.sp_all (p := Lx.isDig) (l := (tl s).drop b) k h1 hl
    rw [e] at h3
    exact h3
end Go.Proofs.Ytbepmakohjpioaa
