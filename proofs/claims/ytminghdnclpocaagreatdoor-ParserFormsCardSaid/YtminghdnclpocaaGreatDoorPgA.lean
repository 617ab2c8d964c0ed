/-
  slices.Equal at uses and at references. Printed by mkpga.py.
-/
import Derived.Test.YtminghdnclpocaaGreatDoorPcH
import Derived.Deep.LoopGhost
import Derived.Deep.QuietTactic
import Derived.BigQuiet
namespace Go.Proofs.YtminghdnclpocaaGreatDoor
open Go.RowKit
set_option linter.unusedVariables false

theorem eq_take {α : Type} {x y : List α} (hl : x.length = y.length) (h : ∀ j, j < x.length → x[j]? = y[j]?) : x = y := by
  apply List.ext_getElem?
  intro j
  rcases Nat.lt_or_ge j x.length with h1 | h1
  · exact h j h1
  · rw [List.getElem?_eq_none h1, List.getElem?_eq_none (by omega)]
theorem strs_eqd (s t : ByteArray) : (s.toList == t.toList) = decide (s = t) := strs_eq
set_option maxRecDepth 20000 in
set_option maxHeartbeats 4000000 in
theorem equal_use (A B : Option Addr) (c d : Nat) (x y : List Bp) (W : World) (hx : Prs W A x) (hy : Prs W B y) (hxl : x.length ≤ 1000000) (hyl : y.length ≤ 1000000) :
    Calls Tryz.prog 34 #[.slice A x.length c, .slice B y.length d] W fun e w' => e = .returned (.bool (decide (x = y))) ∧ Below W.heap.size W w' := by
  by_cases hl : x.length = y.length
  · have hne : ((x.length : Int) == (y.length : Int)) = true := by rw [hl]; simp
    have HLn := Lib.hid hl
    clear hl
    go_enter Tryz.func34, Tryz.ntmps34
    go_upto_region 4 with fail
    go_loopg [13] x.length (fun m s13 wx => ∃ i : Nat, i ≤ x.length ∧ m = x.length - i ∧ s13 = .int .i64 (i : Int) ∧ Below W.heap.size W wx ∧ Hid (∀ j, j < i → x[j]? = y[j]?))
    case atStart => exact ⟨0, Nat.zero_le _, rfl, rfl, Below.refl _ _, Lib.hid (fun j hj => absurd hj (Nat.not_lt_zero _))⟩
    case round =>
      obtain ⟨i, hi, rfl, rfl, hb, HI⟩ := hrel
      by_cases hil : i < x.length
      · have hii : (i : Int) < (x.length : Int) := by omega
        have hi0 : (0 : Int) ≤ (i : Int) := by omega
        have hiy : (i : Int) < (y.length : Int) := by have := HLn.out; omega
        obtain ⟨⟨a1, a2⟩, ha⟩ : ∃ a, x[i]? = some a := ⟨_, List.getElem?_eq_getElem hil⟩
        obtain ⟨⟨b1, b2⟩, hb9⟩ : ∃ b, y[i]? = some b := ⟨_, List.getElem?_eq_getElem (by have := HLn.out; omega)⟩
        obtain ⟨ad, rfl, ca, cb⟩ := (hx.up hb).at_ i _ ha
        obtain ⟨bd, rfl, da, db⟩ := (hy.up hb).at_ i _ hb9
        simp only at ca cb da db
        have hca := strs_eqd a1 b1
        have hcb := strs_eqd a2 b2
        by_cases h1 : a1 = b1
        · by_cases h2 : a2 = b2
          · subst h1 h2
            have HI2 : Hid (∀ j, j < i + 1 → x[j]? = y[j]?) := by
              refine Lib.hid fun j hj => ?_
              rcases Nat.lt_or_ge j i with h | h
              · exact HI.out j h
              · obtain rfl : j = i := by omega
                rw [ha, hb9]
            clear ha hb9 hca hcb
            go_upto_region 6 with fail
            go_quiet (fail)
            go_wp2_with fail
            go_roundg (x.length - (i + 1))
            case measure => omega
            case rel => exact ⟨i + 1, hil, rfl, by first | rfl | simp, by first | exact below_drewN' hb _ | exact hb | exact hb.drew, HI2⟩
          · rw [decide_eq_false h2] at hcb
            subst h1
            have HD : Hid (decide (x = y) = false) := Lib.hid (by
              rw [decide_eq_false_iff_not]
              rintro rfl
              rw [ha] at hb9
              simp only [Option.some.injEq, Prod.mk.injEq] at hb9
              exact h2 hb9.2)
            clear ha hb9 hca
            go_upto_region 6 with fail
            go_quiet (fail)
            go_wp2_with fail
            go_ret
            exact ⟨ret_val (by first | (rw [HD.out]; rfl) | rw [HD.out]), by first | exact below_drewN' hb _ | exact hb | exact hb.drew⟩
        · rw [decide_eq_false h1] at hca
          have HD : Hid (decide (x = y) = false) := Lib.hid (by
            rw [decide_eq_false_iff_not]
            rintro rfl
            rw [ha] at hb9
            simp only [Option.some.injEq, Prod.mk.injEq] at hb9
            exact h1 hb9.1)
          clear ha hb9 hcb
          go_upto_region 6 with fail
          go_quiet (fail)
          go_wp2_with fail
          go_ret
          exact ⟨ret_val (by first | (rw [HD.out]; rfl) | rw [HD.out]), by first | exact below_drewN' hb _ | exact hb | exact hb.drew⟩
      · obtain rfl : i = x.length := by omega
        have hii : ¬ (x.length : Int) < (x.length : Int) := by omega
        have HD : Hid (decide (x = y) = true) := Lib.hid (by rw [decide_eq_true_iff]; exact eq_take HLn.out HI.out)
        go_wp2_with fail
        go_ret
        exact ⟨ret_val (by first | (rw [HD.out]; rfl) | rw [HD.out]), hb⟩
  · have hne : ((x.length : Int) == (y.length : Int)) = false := by simp; omega
    have HD : Hid (decide (x = y) = false) := Lib.hid (by rw [decide_eq_false_iff_not]; rintro rfl; exact hl rfl)
    go_enter Tryz.func34, Tryz.ntmps34
    go_wp2_with fail
    go_ret
    exact ⟨ret_val (by first | (rw [HD.out]; rfl) | rw [HD.out]), Below.refl _ _⟩
set_option maxRecDepth 20000 in
set_option maxHeartbeats 4000000 in
theorem equal_ref (A B : Option Addr) (c d : Nat) (x y : List Bp) (W : World) (hx : Prs W A x) (hy : Prs W B y) (hxl : x.length ≤ 1000000) (hyl : y.length ≤ 1000000) :
    Calls Tryz.prog 35 #[.slice A x.length c, .slice B y.length d] W fun e w' => e = .returned (.bool (decide (x = y))) ∧ Below W.heap.size W w' := by
  by_cases hl : x.length = y.length
  · have hne : ((x.length : Int) == (y.length : Int)) = true := by rw [hl]; simp
    have HLn := Lib.hid hl
    clear hl
    go_enter Tryz.func35, Tryz.ntmps35
    go_upto_region 4 with fail
    go_loopg [13] x.length (fun m s13 wx => ∃ i : Nat, i ≤ x.length ∧ m = x.length - i ∧ s13 = .int .i64 (i : Int) ∧ Below W.heap.size W wx ∧ Hid (∀ j, j < i → x[j]? = y[j]?))
    case atStart => exact ⟨0, Nat.zero_le _, rfl, rfl, Below.refl _ _, Lib.hid (fun j hj => absurd hj (Nat.not_lt_zero _))⟩
    case round =>
      obtain ⟨i, hi, rfl, rfl, hb, HI⟩ := hrel
      by_cases hil : i < x.length
      · have hii : (i : Int) < (x.length : Int) := by omega
        have hi0 : (0 : Int) ≤ (i : Int) := by omega
        have hiy : (i : Int) < (y.length : Int) := by have := HLn.out; omega
        obtain ⟨⟨a1, a2⟩, ha⟩ : ∃ a, x[i]? = some a := ⟨_, List.getElem?_eq_getElem hil⟩
        obtain ⟨⟨b1, b2⟩, hb9⟩ : ∃ b, y[i]? = some b := ⟨_, List.getElem?_eq_getElem (by have := HLn.out; omega)⟩
        obtain ⟨ad, rfl, ca, cb⟩ := (hx.up hb).at_ i _ ha
        obtain ⟨bd, rfl, da, db⟩ := (hy.up hb).at_ i _ hb9
        simp only at ca cb da db
        have hca := strs_eqd a1 b1
        have hcb := strs_eqd a2 b2
        by_cases h1 : a1 = b1
        · by_cases h2 : a2 = b2
          · subst h1 h2
            have HI2 : Hid (∀ j, j < i + 1 → x[j]? = y[j]?) := by
              refine Lib.hid fun j hj => ?_
              rcases Nat.lt_or_ge j i with h | h
              · exact HI.out j h
              · obtain rfl : j = i := by omega
                rw [ha, hb9]
            clear ha hb9 hca hcb
            go_upto_region 6 with fail
            go_quiet (fail)
            go_wp2_with fail
            go_roundg (x.length - (i + 1))
            case measure => omega
            case rel => exact ⟨i + 1, hil, rfl, by first | rfl | simp, by first | exact below_drewN' hb _ | exact hb | exact hb.drew, HI2⟩
          · rw [decide_eq_false h2] at hcb
            subst h1
            have HD : Hid (decide (x = y) = false) := Lib.hid (by
              rw [decide_eq_false_iff_not]
              rintro rfl
              rw [ha] at hb9
              simp only [Option.some.injEq, Prod.mk.injEq] at hb9
              exact h2 hb9.2)
            clear ha hb9 hca
            go_upto_region 6 with fail
            go_quiet (fail)
            go_wp2_with fail
            go_ret
            exact ⟨ret_val (by first | (rw [HD.out]; rfl) | rw [HD.out]), by first | exact below_drewN' hb _ | exact hb | exact hb.drew⟩
        · rw [decide_eq_false h1] at hca
          have HD : Hid (decide (x = y) = false) := Lib.hid (by
            rw [decide_eq_false_iff_not]
            rintro rfl
            rw [ha] at hb9
            simp only [Option.some.injEq, Prod.mk.injEq] at hb9
            exact h1 hb9.1)
          clear ha hb9 hcb
          go_upto_region 6 with fail
          go_quiet (fail)
          go_wp2_with fail
          go_ret
          exact ⟨ret_val (by first | (rw [HD.out]; rfl) | rw [HD.out]), by first | exact below_drewN' hb _ | exact hb | exact hb.drew⟩
      · obtain rfl : i = x.length := by omega
        have hii : ¬ (x.length : Int) < (x.length : Int) := by omega
        have HD : Hid (decide (x = y) = true) := Lib.hid (by rw [decide_eq_true_iff]; exact eq_take HLn.out HI.out)
        go_wp2_with fail
        go_ret
        exact ⟨ret_val (by first | (rw [HD.out]; rfl) | rw [HD.out]), hb⟩
  · have hne : ((x.length : Int) == (y.length : Int)) = false := by simp; omega
    have HD : Hid (decide (x = y) = false) := Lib.hid (by rw [decide_eq_false_iff_not]; rintro rfl; exact hl rfl)
    go_enter Tryz.func35, Tryz.ntmps35
    go_wp2_with fail
    go_ret
    exact ⟨ret_val (by first | (rw [HD.out]; rfl) | rw [HD.out]), Below.refl _ _⟩
end Go.Proofs.YtminghdnclpocaaGreatDoor
