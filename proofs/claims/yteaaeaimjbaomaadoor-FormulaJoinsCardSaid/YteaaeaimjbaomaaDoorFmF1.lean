/-
  dominolaw20.Few, dominoref20.Same.
-/
import Derived.Test.YteaaeaimjbaomaaDoorFmT
import Derived.Test.YteaaeaimjbaomaaDoorHp
import Derived.Deep.QuietTactic
import Derived.BigQuiet
namespace Go.Proofs.YteaaeaimjbaomaaDoor
open Go.RowKit
set_option linter.unusedVariables false

def fewP (F : List Gt) : Bool := decide (F.length ≤ 40) && F.all fun g => decide (g.kids.length ≤ 40)
theorem fewP_iff {F : List Gt} : fewP F = true ↔ F.length ≤ 40 ∧ ∀ g ∈ F, g.kids.length ≤ 40 := by
  unfold fewP
  simp [List.all_eq_true]
set_option maxHeartbeats 2000000 in
theorem few_any (A : Option Addr) (c : Nat) (F : List Gt) (w : World) (hG : Gates w w.heap.size A F) :
    Calls Tryd.prog 12 #[.agg #[.slice A F.length c]] w fun e w' => e = .returned (.bool (fewP F)) ∧ Below w.heap.size w w' := by
  have hk := (Kp.start w).new 24 [.slice A F.length c]
  have hb := hk.below
  have b0 := (hk.at_ 0 rfl).cell 0
  simp only [List.getElem?_cons_zero] at b0
  have b0' : (w.alloc (.cells #[.slice A F.length c] 24)).cell? ⟨w.heap.size, 0, none⟩ = some (.slice A F.length c) := b0
  clear b0
  go_enter Tryd.func12, Tryd.ntmps12
  go_upto_region 2 with fail
  have hb2 : Below w.heap.size w (w.alloc (.cells #[.slice A F.length c] 24)) := hb
  clear hk hb
  generalize w.alloc (.cells #[.slice A F.length c] 24) = W at *
  go_loopg [3] 41 (fun m s3 wx => W = wx ∧ ∃ i : Nat, i ≤ 41 ∧ i ≤ F.length ∧ m = 41 - i ∧ s3 = .int .i64 (i : Int) ∧ Hid (∀ j g, j < i → F[j]? = some g → g.kids.length ≤ 40))
  case atStart => exact ⟨rfl, 0, by omega, Nat.zero_le _, rfl, rfl, Lib.hid (fun j g hj => absurd hj (Nat.not_lt_zero _))⟩
  case round =>
    obtain ⟨rfl, i, h41, hil, rfl, rfl, HI⟩ := hrel
    by_cases hlt : i < F.length
    · have t1 : decide ((i : Int) < (F.length : Int)) = true := by rw [decide_eq_true_iff]; omega
      by_cases h40 : i < 41
      · have t2 : decide ((i : Int) < 41) = true := by rw [decide_eq_true_iff]; omega
        obtain ⟨g, hg⟩ : ∃ g, F[i]? = some g := ⟨_, List.getElem?_eq_getElem hlt⟩
        obtain ⟨ad, hA, KA, kc, gn, gk, gl, gi⟩ := hG.read hb2 hg
        subst hA
        clear gn gl gi
        by_cases hkk : 40 < g.kids.length
        · have HV : Hid (fewP F = false) := by
            refine Lib.hid ?_
            rw [Bool.eq_false_iff]
            intro h9
            have := (fewP_iff.1 h9).2 g (List.mem_of_getElem? hg)
            omega
          have t3 : (40 : Int) < (g.kids.length : Int) := by omega
          clear hg hG
          go_wp2_with fail
          go_ret
          rw [HV.out]
          exact ⟨rfl, hb2⟩
        · have HI2 : Hid (∀ j g, j < i + 1 → F[j]? = some g → g.kids.length ≤ 40) := by
            refine Lib.hid fun j g' hj hg' => ?_
            by_cases hji : j = i
            · subst hji; rw [hg] at hg'; cases hg'; omega
            · exact HI.out j g' (by omega) hg'
          have t3 : ¬ (40 : Int) < (g.kids.length : Int) := by omega
          clear hg hG HI
          go_wp2_with fail
          go_roundg (41 - (i + 1))
          case measure => omega
          case rel => exact ⟨rfl, i + 1, by omega, by omega, rfl, by first | rfl | simp, HI2⟩
      · have t2 : decide ((i : Int) < 41) = false := by rw [decide_eq_false_iff_not]; omega
        have HV : Hid (fewP F = false) := by
          refine Lib.hid ?_
          rw [Bool.eq_false_iff]
          intro h9
          have := (fewP_iff.1 h9).1
          omega
        have t4 : decide ((F.length : Int) ≤ 40) = false := by rw [decide_eq_false_iff_not]; omega
        clear hG HI
        go_wp2_with fail
        go_ret
        rw [HV.out]
        exact ⟨by first | rfl | (simp; omega), hb2⟩
    · have t1 : decide ((i : Int) < (F.length : Int)) = false := by rw [decide_eq_false_iff_not]; omega
      have hall : ∀ g ∈ F, g.kids.length ≤ 40 := fun g hg => by
        obtain ⟨j, hj⟩ := List.mem_iff_getElem?.1 hg
        have hjl := (List.getElem?_eq_some_iff.1 hj).1
        exact HI.out j g (by omega) hj
      by_cases h40 : F.length ≤ 40
      · have HV : Hid (fewP F = true) := Lib.hid (fewP_iff.2 ⟨h40, hall⟩)
        have t4 : decide ((F.length : Int) ≤ 40) = true := by rw [decide_eq_true_iff]; omega
        clear hG HI hall
        go_wp2_with fail
        go_ret
        rw [HV.out]
        exact ⟨by first | rfl | (simp; omega), hb2⟩
      · have HV : Hid (fewP F = false) := by
          refine Lib.hid ?_
          rw [Bool.eq_false_iff]
          intro h9
          have := (fewP_iff.1 h9).1
          omega
        have t4 : decide ((F.length : Int) ≤ 40) = false := by rw [decide_eq_false_iff_not]; omega
        clear hG HI hall
        go_wp2_with fail
        go_ret
        rw [HV.out]
        exact ⟨by first | rfl | (simp; omega), hb2⟩
end Go.Proofs.YteaaeaimjbaomaaDoor
