/-
  formula.Minimal: the closures holds, minimal, possible.
-/
import Derived.Test.YteaaeaimjbaomaaDoorFm9
import Derived.Test.YteaaeaimjbaomaaDoorFmM1
import Derived.Test.YteaaeaimjbaomaaDoorHp
import Derived.Deep.LoopGhost
import Derived.Deep.QuietTactic
import Derived.BigQuiet
namespace Go.Proofs.YteaaeaimjbaomaaDoor
open Go.RowKit
set_option linter.unusedVariables false

set_option maxHeartbeats 2000000 in
theorem holds_any (gf : Nat) (A LA : Option Addr) (c lc : Nat) (F : List Gt) (L : List Bool) (hF : F.length ≤ 512) (hK : ∀ g ∈ F, g.kids.length ≤ 1000000) (hV : Valid F L) (w : World) (hc : w.cell? ⟨gf, 0, none⟩ = some (.slice A F.length c)) (hG : Gates w w.heap.size A F) (hL : Bools w w.heap.size LA L) (hLl : L.length ≤ 1000000) :
    Calls Tryd.prog 54 #[.slice LA L.length lc, .pointer (some ⟨gf, 0, none⟩)] w fun e w' => e = .returned (.bool (holdsP F L)) ∧ Below w.heap.size w w' := by
  by_cases hz : F = []
  · have HV : Hid (holdsP F L = true) := by refine Lib.hid ?_; rw [holdsP, decide_eq_true hz]; rfl
    subst hz
    go_enter Tryd.func54, Tryd.ntmps54
    go_wp2_with fail
    refine (truth_nil A LA c lc L.length w).mono ?_
    rintro e w1 ⟨rfl, hb1⟩
    go_wp2_with fail
    go_ret
    rw [HV.out]
    exact ⟨rfl, hb1⟩
  · have hpos : 0 < F.length := by
      rcases Nat.eq_zero_or_pos F.length with h | h
      · exact absurd (List.eq_nil_of_length_eq_zero h) hz
      · exact h
    have hlp := truthP_length F L
    obtain ⟨t0, ht0⟩ : ∃ t0, (truthP F L)[0]? = some t0 := ⟨_, List.getElem?_eq_getElem (by omega)⟩
    have HV : Hid (holdsP F L = t0) := by
      refine Lib.hid ?_
      rw [holdsP, decide_eq_false hz, Bool.false_or]
      unfold gb
      rw [List.getD_eq_getElem?_getD, ht0]; rfl
    have HC := Lib.hid (truth_any A LA c lc F L hF hK hV w hG hL hLl hz)
    have hzz : ((F.length : Int) == 0) = false := by rw [beq_eq_false_iff_ne]; omega
    clear hz
    go_enter Tryd.func54, Tryd.ntmps54
    go_wp2_with fail
    refine HC.out.mono ?_
    rintro e w1 ⟨⟨g, rfl, hg, -⟩, hb1⟩
    have ct : w1.cell? ⟨g, 0, none⟩ = some (.bool t0) := by rw [hg.cell 0, blv, List.getElem?_map, ht0]; rfl
    clear HC hg ht0
    go_wp2_with fail
    go_ret
    rw [HV.out]
    exact ⟨rfl, hb1⟩
end Go.Proofs.YteaaeaimjbaomaaDoor
