/-
  dominolaw20.FormulaParses.
-/
import Derived.Test.YteaaeaimjbaomaaDoorFmLaw1
import Derived.Test.YteaaeaimjbaomaaDoorFmR10
import Derived.Test.YteaaeaimjbaomaaDoorFmF2
namespace Go.Proofs.YteaaeaimjbaomaaDoor
open Go.RowKit
set_option linter.unusedVariables false

theorem parse_len (l : List UInt8) : (parseP l).1.length ≤ 512 := by
  unfold parseP
  split
  · simp
  · split
    · simp
    · split
      · simp
      · rename_i h9
        exact Nat.not_lt.1 (fun h8 => h9 (.inr h8))

set_option maxRecDepth 20000 in
set_option maxHeartbeats 8000000 in
theorem fmparses_walk (s : ByteArray) (w : World) :
    Calls Tryd.prog 9 #[.string s] w fun e w' => e = .returned (.bool true) ∧ Below w.heap.size w w' := by
  by_cases hs : s.size ≤ 400
  · have hi : ¬ (400 : Int) < (s.size : Int) := by omega
    have HPa := Lib.hid (Parse_any s (by omega) w)
    have HPb := Lib.hid (fun w => rParse_any s (by omega) w)
    have hl := parse_len (tl s)
    have hk := parse_kids (l := tl s) (b := 400) (by rw [length_tl]; exact hs)
    generalize parseP (tl s) = r at *
    obtain ⟨F, n1, n2⟩ := r
    simp only at hl hk
    have HK := Lib.hid hk
    clear hk
    go_enter Tryd.func9, Tryd.ntmps9
    go_wp2_with fail
    refine HPa.out.mono ?_
    rintro e w1 ⟨⟨A, c, rfl, hG⟩, hb1⟩
    simp only at hG
    have hB := Lw.box w1 A c F hG
    have hL1 : Lw w w1.heap.size A c F (w1.alloc (.cells #[.slice A F.length c] 24)) := ⟨hB.cell, hB.lt, hB.gates, hb1.trans (hB.below.mono hb1.size)⟩
    clear HPa hB hG hb1
    go_wp2_with fail
    refine (HPb.out _).mono ?_
    rintro e w2 ⟨⟨B, d, rfl, hH⟩, hb2⟩
    simp only at hH
    have hL2 := hL1.next hb2
    have hL3 := hL2.next ((Below.refl _ _).alloc (Nat.le_refl _) (.cells #[.slice B F.length d] 24))
    have hM := Lw.box w2 B d F hH
    clear HPb hL1 hL2 hb2 hH
    have hH3 : Gates (w2.alloc (.cells #[.slice B F.length d] 24)) (w2.alloc (.cells #[.slice B F.length d] 24)).heap.size B F := hM.gates
    have c2 : (w2.alloc (.cells #[.slice B F.length d] 24)).cell? ⟨w2.heap.size, 0, none⟩ = some (.slice B F.length d) := hM.cell
    clear hM
    go_upto_region 5 with fail
    generalize w2.alloc (.cells #[.slice B F.length d] 24) = W2 at *
    generalize w2.heap.size = g2 at *
    have c1 := hL3.cell
    have HS := same_any A B c d F F (by omega) (fun g hg => by have := HK.out g hg; omega) (by omega) (fun g hg => by have := HK.out g hg; omega) W2 hL3.gates hH3
    rw [decide_eq_true rfl] at HS
    have HS := Lib.hid HS
    go_wp2_with fail
    refine HS.out.mono ?_
    rintro e w5 ⟨rfl, hb5⟩
    have hL5 := hL3.next hb5
    clear hL3 HS hH3 hb5 c1 c2
    go_wp2_with fail
    refine hL5.awake.mono ?_
    rintro e w6 ⟨rfl, hL6⟩
    go_wp2_with fail
    go_ret
    exact ⟨rfl, hL6.below⟩
  · have hi : (400 : Int) < (s.size : Int) := by omega
    go_enter Tryd.func9, Tryd.ntmps9
    go_wp2_with fail
    refine (awake_any _).mono ?_
    rintro e w2 ⟨rfl, hb⟩
    go_wp2_with fail
    go_ret
    exact ⟨rfl, hb⟩
end Go.Proofs.YteaaeaimjbaomaaDoor
