/-
  The walk of the law FoursquaresSevens.
-/
import Derived.Test.YtdbhmhabgbfplaaFsLaw3
import Derived.Test.YtdbhmhabgbfplaaTriAll
namespace Go.Proofs.Ytdbhmhabgbfplaa
open Go.RowKit
set_option linter.unusedVariables false

def SevnRel (n : Nat) (x : Value) : Prop := ∃ k : Nat, x = .int .u32 (k : Int) ∧ Dm.seven k = Dm.seven n ∧ k ≤ n
theorem sevens_end {n k : Nat} (hs : Dm.seven k = Dm.seven n) (hn : n < 4294967296) (h : ¬ (0 < k ∧ k % 4 = 0)) : (threeOf (Dm.str n)).isSome = ((k : Int) % 8 != 7) := by
  rw [threeOf_str hn, Dm.three_iff hn, ← hs, Dm.seven_end h, Bool.eq_iff_iff]
  simp
  omega
set_option maxRecDepth 20000 in
set_option maxHeartbeats 1000000 in
theorem sevens_nat (n : Nat) (hn : n < 4294967296) (w : World) :
    Calls Try.prog 6 #[.int .u32 n] w fun e w' => e = .returned (.bool true) ∧ Below w.heap.size w w' := by
  have HT := Lib.hid (ThreeW_str hn)
  go_enter Try.func6, Try.ntmps6
  go_wp2
  go_loop [3] (SevnRel n) (fun b => (intOf b).toNat)
  case atStart => exact ⟨n, rfl, rfl, Nat.le_refl _⟩
  case round =>
    obtain ⟨k, rfl, hs, hk⟩ := hrel
    have HS := Lib.hid hs
    clear hs
    by_cases h0 : 0 < k ∧ (k : Int) % 4 = 0
    · obtain ⟨h0, h4⟩ := h0
      have H4 := Lib.hid h4
      have h4' : ((k : Int) % 4 == 0) = true := by simpa using h4
      clear h4
      go_wp2
      go_round
      case rel => exact ⟨k / 4, by go_num, by rw [← HS.out]; exact (Dm.seven_div h0 (by have := H4.out; omega)).symm, by omega⟩
      case measure => simp [intOf]; omega
    · have HE := Lib.hid (sevens_end HS.out hn (by omega))
      by_cases h0' : 0 < k
      · have h4 : ((k : Int) % 4 == 0) = false := by rw [beq_eq_false_iff_ne]; omega
        clear h0
        go_wp2_with fail
        refine (of_at _ n _ rfl (by omega)).mono ?_
        rintro e w1 ⟨rfl, hb1⟩
        go_wp2_with fail
        refine (Three_any _ _ (by rw [size_bs]; have := length_str4 hn; omega)).mono ?_
        rintro e w2 ⟨rfl, hb2⟩
        rw [tl_bs, HT.out, HE.out]
        have hk1 := (((Kp.start w).next hb1).next hb2).alloc (.cells #[Sv (Dm.str (tripleOf (threeOf (Dm.str n))).1), Sv (Dm.str (tripleOf (threeOf (Dm.str n))).2.1), Sv (Dm.str (tripleOf (threeOf (Dm.str n))).2.2)] 31)
        go_wp2_with (first | (go_at_call 10; refine (awake_any _).mono ?_; rintro e w3 ⟨rfl, hb3⟩))
        go_ret
        exact ⟨rfl, (hk1.next hb3).below⟩
      · have hz : k = 0 := by omega
        subst hz
        clear h0 h0'
        go_wp2_with fail
        refine (of_at _ n _ rfl (by omega)).mono ?_
        rintro e w1 ⟨rfl, hb1⟩
        go_wp2_with fail
        refine (Three_any _ _ (by rw [size_bs]; have := length_str4 hn; omega)).mono ?_
        rintro e w2 ⟨rfl, hb2⟩
        rw [tl_bs, HT.out, HE.out]
        have hk1 := (((Kp.start w).next hb1).next hb2).alloc (.cells #[Sv (Dm.str (tripleOf (threeOf (Dm.str n))).1), Sv (Dm.str (tripleOf (threeOf (Dm.str n))).2.1), Sv (Dm.str (tripleOf (threeOf (Dm.str n))).2.2)] 31)
        go_wp2_with (first | (go_at_call 10; refine (awake_any _).mono ?_; rintro e w3 ⟨rfl, hb3⟩))
        go_ret
        exact ⟨rfl, (hk1.next hb3).below⟩
theorem sevens_walk (a : Int) (ha : (Lit.int .u32 a).wf = true) (w : World) :
    Calls Try.prog 6 #[.int .u32 a] w fun e w' => e = .returned (.bool true) ∧ Below w.heap.size w w' := by
  have hx : 0 ≤ a ∧ a ≤ 4294967295 := by simpa [Lit.wf, IntKind.min, IntKind.max, IntKind.signed, IntKind.bits] using ha
  obtain ⟨n, rfl⟩ : ∃ n : Nat, a = n := ⟨a.toNat, by omega⟩
  exact sevens_nat n (by omega) w
end Go.Proofs.Ytdbhmhabgbfplaa
