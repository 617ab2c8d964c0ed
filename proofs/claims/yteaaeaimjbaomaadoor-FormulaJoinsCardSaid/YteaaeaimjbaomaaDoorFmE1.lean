/-
  slices.Equal at []int and []bool, over slices that came in.
-/
import Derived.Test.YteaaeaimjbaomaaDoorFmC
import Derived.Test.YteaaeaimjbaomaaDoorFmT
import Derived.Deep.LoopGhost
import Derived.Deep.QuietTactic
import Derived.BigQuiet
namespace Go.Proofs.YteaaeaimjbaomaaDoor
open Go.RowKit
set_option linter.unusedVariables false

theorem Bools.read {w W : World} {B : Nat} {A : Option Addr} {l : List Bool} (hI : Bools w B A l) (hb : Below B w W) {j : Nat} {x : Bool} (hx : l[j]? = some x) : ∃ ad, A = some ad ∧ W.cell? (ad.add j) = some (.bool x) := by
  obtain ⟨ad, h1, h2, h3⟩ := (hI.keep hb (Nat.le_refl _)).some_ (by rintro rfl; simp at hx)
  exact ⟨ad, h1, h3 j _ (by rw [blv, List.getElem?_map, hx]; rfl)⟩
theorem below_drewN {B : Nat} {A C : World} (h : Below B A C) (n : Nat) : Below B A (C.drewN n) := h.trans ⟨rfl, rfl, rfl, Nat.le_refl _, fun _ _ => rfl⟩
theorem eq_take {α : Type} {x y : List α} (hl : x.length = y.length) (h : ∀ j, j < x.length → x[j]? = y[j]?) : x = y := by
  apply List.ext_getElem?
  intro j
  rcases Nat.lt_or_ge j x.length with h1 | h1
  · exact h j h1
  · rw [List.getElem?_eq_none h1, List.getElem?_eq_none (by omega)]
set_option maxRecDepth 20000 in
set_option maxHeartbeats 4000000 in
theorem equal_ints (A B : Option Addr) (c d : Nat) (x y : List Int) (W : World) (hx : Ints W W.heap.size A x) (hy : Ints W W.heap.size B y) (hxl : x.length ≤ 1000000) (hyl : y.length ≤ 1000000) :
    Calls Tryd.prog 28 #[.slice A x.length c, .slice B y.length d] W fun e w' => e = .returned (.bool (decide (x = y))) ∧ Below W.heap.size W w' := by
  by_cases hl : x.length = y.length
  · have hne : ((x.length : Int) == (y.length : Int)) = true := by rw [hl]; simp
    have HLn := Lib.hid hl
    clear hl
    go_enter Tryd.func28, Tryd.ntmps28
    go_upto_region 4 with fail
    go_loopg [13] x.length (fun m s13 wx => ∃ i : Nat, i ≤ x.length ∧ m = x.length - i ∧ s13 = .int .i64 (i : Int) ∧ Below W.heap.size W wx ∧ Hid (∀ j, j < i → x[j]? = y[j]?))
    case atStart => exact ⟨0, Nat.zero_le _, rfl, rfl, Below.refl _ _, Lib.hid (fun j hj => absurd hj (Nat.not_lt_zero _))⟩
    case round =>
      obtain ⟨i, hi, rfl, rfl, hb, HI⟩ := hrel
      by_cases hil : i < x.length
      · have hii : (i : Int) < (x.length : Int) := by omega
        have hi0 : (0 : Int) ≤ (i : Int) := by omega
        have hiy : (i : Int) < (y.length : Int) := by have := HLn.out; omega
        obtain ⟨a, ha⟩ : ∃ a, x[i]? = some a := ⟨_, List.getElem?_eq_getElem hil⟩
        obtain ⟨b, hb9⟩ : ∃ b, y[i]? = some b := ⟨_, List.getElem?_eq_getElem (by have := HLn.out; omega)⟩
        obtain ⟨ad, rfl, ca⟩ := hx.read hb ha
        obtain ⟨bd, rfl, cb⟩ := hy.read hb hb9
        by_cases hab : a = b
        · subst hab
          have HI2 : Hid (∀ j, j < i + 1 → x[j]? = y[j]?) := by
            refine Lib.hid fun j hj => ?_
            by_cases hji : j = i
            · rw [hji, ha, hb9]
            · exact HI.out j (by omega)
          have htt : (a == a) = true := by simp
          clear HI ha hb9
          go_upto_region 6 with fail
          go_quiet (fail)
          go_wp2_with fail
          go_roundg (x.length - (i + 1))
          case measure => omega
          case rel => exact ⟨i + 1, hil, rfl, by first | rfl | simp, below_drewN hb nq, HI2⟩
        · have hff : (a == b) = false := by rw [beq_eq_false_iff_ne]; exact hab
          have HV : Hid (decide (x = y) = false) := by
            refine Lib.hid (decide_eq_false ?_)
            rintro rfl
            rw [ha] at hb9
            exact hab (Option.some.inj hb9)
          clear HI ha hb9 hab
          go_upto_region 6 with fail
          go_quiet (fail)
          go_wp2_with fail
          go_ret
          rw [HV.out]
          exact ⟨rfl, below_drewN hb nq⟩
      · have hii : ¬ (i : Int) < (x.length : Int) := by omega
        have HV : Hid (decide (x = y) = true) := by
          refine Lib.hid (decide_eq_true (eq_take HLn.out fun j hj => HI.out j (by omega)))
        clear HI
        go_wp2_with fail
        go_ret
        rw [HV.out]
        exact ⟨rfl, hb⟩
  · have hne : ((x.length : Int) == (y.length : Int)) = false := by rw [beq_eq_false_iff_ne]; omega
    have HV : Hid (decide (x = y) = false) := Lib.hid (decide_eq_false fun h => hl (congrArg List.length h))
    clear hl
    go_enter Tryd.func28, Tryd.ntmps28
    go_wp2_with fail
    go_ret
    rw [HV.out]
    exact ⟨rfl, Below.refl _ _⟩
set_option maxRecDepth 20000 in
set_option maxHeartbeats 4000000 in
theorem equal_bools (A B : Option Addr) (c d : Nat) (x y : List Bool) (W : World) (hx : Bools W W.heap.size A x) (hy : Bools W W.heap.size B y) (hxl : x.length ≤ 1000000) (hyl : y.length ≤ 1000000) :
    Calls Tryd.prog 20 #[.slice A x.length c, .slice B y.length d] W fun e w' => e = .returned (.bool (decide (x = y))) ∧ Below W.heap.size W w' := by
  by_cases hl : x.length = y.length
  · have hne : ((x.length : Int) == (y.length : Int)) = true := by rw [hl]; simp
    have HLn := Lib.hid hl
    clear hl
    go_enter Tryd.func20, Tryd.ntmps20
    go_upto_region 4 with fail
    go_loopg [13] x.length (fun m s13 wx => ∃ i : Nat, i ≤ x.length ∧ m = x.length - i ∧ s13 = .int .i64 (i : Int) ∧ Below W.heap.size W wx ∧ Hid (∀ j, j < i → x[j]? = y[j]?))
    case atStart => exact ⟨0, Nat.zero_le _, rfl, rfl, Below.refl _ _, Lib.hid (fun j hj => absurd hj (Nat.not_lt_zero _))⟩
    case round =>
      obtain ⟨i, hi, rfl, rfl, hb, HI⟩ := hrel
      by_cases hil : i < x.length
      · have hii : (i : Int) < (x.length : Int) := by omega
        have hi0 : (0 : Int) ≤ (i : Int) := by omega
        have hiy : (i : Int) < (y.length : Int) := by have := HLn.out; omega
        obtain ⟨a, ha⟩ : ∃ a, x[i]? = some a := ⟨_, List.getElem?_eq_getElem hil⟩
        obtain ⟨b, hb9⟩ : ∃ b, y[i]? = some b := ⟨_, List.getElem?_eq_getElem (by have := HLn.out; omega)⟩
        obtain ⟨ad, rfl, ca⟩ := hx.read hb ha
        obtain ⟨bd, rfl, cb⟩ := hy.read hb hb9
        by_cases hab : a = b
        · subst hab
          have HI2 : Hid (∀ j, j < i + 1 → x[j]? = y[j]?) := by
            refine Lib.hid fun j hj => ?_
            by_cases hji : j = i
            · rw [hji, ha, hb9]
            · exact HI.out j (by omega)
          have htt : (a == a) = true := by simp
          clear HI ha hb9
          go_upto_region 6 with fail
          go_quiet (fail)
          go_wp2_with fail
          go_roundg (x.length - (i + 1))
          case measure => omega
          case rel => exact ⟨i + 1, hil, rfl, by first | rfl | simp, below_drewN hb nq, HI2⟩
        · have hff : (a == b) = false := by rw [beq_eq_false_iff_ne]; exact hab
          have HV : Hid (decide (x = y) = false) := by
            refine Lib.hid (decide_eq_false ?_)
            rintro rfl
            rw [ha] at hb9
            exact hab (Option.some.inj hb9)
          clear HI ha hb9 hab
          go_upto_region 6 with fail
          go_quiet (fail)
          go_wp2_with fail
          go_ret
          rw [HV.out]
          exact ⟨rfl, below_drewN hb nq⟩
      · have hii : ¬ (i : Int) < (x.length : Int) := by omega
        have HV : Hid (decide (x = y) = true) := by
          refine Lib.hid (decide_eq_true (eq_take HLn.out fun j hj => HI.out j (by omega)))
        clear HI
        go_wp2_with fail
        go_ret
        rw [HV.out]
        exact ⟨rfl, hb⟩
  · have hne : ((x.length : Int) == (y.length : Int)) = false := by rw [beq_eq_false_iff_ne]; omega
    have HV : Hid (decide (x = y) = false) := Lib.hid (decide_eq_false fun h => hl (congrArg List.length h))
    clear hl
    go_enter Tryd.func20, Tryd.ntmps20
    go_wp2_with fail
    go_ret
    rw [HV.out]
    exact ⟨rfl, Below.refl _ _⟩
end Go.Proofs.YteaaeaimjbaomaaDoor
