/-
  The walk of the law IntegerParses.
-/
import Derived.Test.YtlagcdgfmgkooaaDoorInt13
import Derived.Test.YtlagcdgfmgkooaaDoorIntD
namespace Go.Proofs.YtlagcdgfmgkooaaDoor
open Go.RowKit
set_option linter.unusedVariables false

theorem parseI_form (l : List UInt8) : (∃ e : Int, (e = 4 ∨ e = 5) ∧ parseI l = .tuple #[.agg #[.bool false, .string ⟨#[]⟩], .int .i64 e]) ∨
    (∃ n m, Nm n m ∧ textL n m = l ∧ parseI l = .tuple #[.agg #[.bool n, Sv (Dm.str m)], .int .i64 0]) := by
  unfold parseI
  by_cases h1 : Dm.okDec (digL l) = true
  · rw [if_pos h1]
    by_cases h2 : (Dm.str (Dm.dv (digL l))).length ≤ 128
    · rw [if_pos h2]
      by_cases h3 : negL l = true ∧ Dm.dv (digL l) = 0
      · rw [if_pos h3]
        exact .inl ⟨4, .inl rfl, rfl⟩
      · rw [if_neg h3]
        have hne : negL l = true → Dm.dv (digL l) ≠ 0 := fun h4 h5 => h3 ⟨h4, h5⟩
        refine .inr ⟨negL l, Dm.dv (digL l), ⟨hne, Dm.length_str_le.1 h2⟩, ?_, by rw [iV_zz hne]⟩
        rw [textL, Dm.dec_dv h1]
        by_cases h6 : negL l = true
        · rw [if_pos h6]
          unfold digL Lib.trimPrefix
          unfold negL at h6
          rw [if_pos h6]
          cases l with
          | nil => cases h6
          | cons c m =>
            unfold Lib.hasPrefix at h6
            have h7 : ((45 : UInt8) == c && true) = true := h6
            simp at h7
            rw [← h7]
            rfl
        · rw [if_neg h6]
          unfold digL Lib.trimPrefix
          unfold negL at h6
          rw [if_neg h6]
    · rw [if_neg h2]
      exact .inl ⟨5, .inr rfl, rfl⟩
  · rw [if_neg h1]
    exact .inl ⟨4, .inl rfl, rfl⟩
set_option maxHeartbeats 1000000 in
theorem iparses_walk (s : ByteArray) (h1 : s.size ≤ maxLen) (w : World) :
    Calls Tryd.prog 11 #[.string s] w fun e w' => e = .returned (.bool true) ∧ Below w.heap.size w w' := by
  unfold maxLen at h1
  by_cases ls : s.size ≤ 400
  · rcases parseI_form (tl s) with ⟨er, her, hr⟩ | ⟨n, m, hnm, htx, hr⟩
    · have HR := Lib.hid hr
      clear hr
      rcases her with rfl | rfl
      all_goals
        go_enter Tryd.func11, Tryd.ntmps11
        go_wp2_with fail
        refine (iParse_any s _ (by omega)).mono ?_
        rintro e w1 ⟨rfl, hb⟩
        have k1 := (Kp.start w).next hb
        clear hb
        rw [HR.out]
        go_wp2_with fail
        have k2 := k1.new 24 [.bool false, .string ⟨#[]⟩]
        clear k1
        generalize w1.heap.size = g1 at *
        generalize w1.alloc (.cells #[.bool false, .string ⟨#[]⟩] 24) = W1 at *
        refine (rParse_any s _ (by omega)).mono ?_
        rintro e w2 ⟨rfl, hb⟩
        have k3 := k2.next hb
        clear hb k2
        rw [HR.out]
        have k4 := k3.new 24 [.bool false, .string ⟨#[]⟩]
        have c0 : w2.cell? ⟨g1, 0, none⟩ = some (.bool false) := kp_cell k3 0 0
        have c1 : w2.cell? ⟨g1, 1, none⟩ = some (.string ⟨#[]⟩) := kp_cell k3 0 1
        have d0 : (w2.alloc (.cells #[.bool false, .string ⟨#[]⟩] 24)).cell? ⟨g1, 0, none⟩ = some (.bool false) := kp_cell k4 1 0
        have d1 : (w2.alloc (.cells #[.bool false, .string ⟨#[]⟩] 24)).cell? ⟨g1, 1, none⟩ = some (.string ⟨#[]⟩) := kp_cell k4 1 1
        clear k3
        go_wp2_with fail
        refine (awakeI_any _).mono ?_
        rintro e w3 ⟨rfl, hb⟩
        have k5 := k4.next hb
        clear hb k4
        go_wp2_with fail
        go_ret
        exact ⟨rfl, k5.below⟩
    · have HR := Lib.hid hr
      have HX := Lib.hid htx
      clear hr htx
      have hT := fun W : World => iText_nm hnm W
      have HT := Lib.hid hT
      clear hT
      go_enter Tryd.func11, Tryd.ntmps11
      go_wp2_with fail
      refine (iParse_any s _ (by omega)).mono ?_
      rintro e w1 ⟨rfl, hb⟩
      have k1 := (Kp.start w).next hb
      clear hb
      rw [HR.out]
      go_wp2_with fail
      have k2 := k1.new 24 [.bool n, Sv (Dm.str m)]
      clear k1
      generalize w1.heap.size = g1 at *
      generalize w1.alloc (.cells #[.bool n, Sv (Dm.str m)] 24) = W1 at *
      refine (rParse_any s _ (by omega)).mono ?_
      rintro e w2 ⟨rfl, hb⟩
      have k3 := k2.next hb
      clear hb k2
      rw [HR.out]
      have k4 := k3.new 24 [.bool n, Sv (Dm.str m)]
      have c0 : w2.cell? ⟨g1, 0, none⟩ = some (.bool n) := kp_cell k3 0 0
      have c1 : w2.cell? ⟨g1, 1, none⟩ = some (Sv (Dm.str m)) := kp_cell k3 0 1
      have d0 : (w2.alloc (.cells #[.bool n, Sv (Dm.str m)] 24)).cell? ⟨g1, 0, none⟩ = some (.bool n) := kp_cell k4 1 0
      have d1 : (w2.alloc (.cells #[.bool n, Sv (Dm.str m)] 24)).cell? ⟨g1, 1, none⟩ = some (Sv (Dm.str m)) := kp_cell k4 1 1
      clear k3
      go_wp2_with fail
      refine (HT.out _).mono ?_
      rintro e w3 ⟨rfl, hb⟩
      rw [HX.out]
      have k5 := k4.next hb
      clear hb k4
      rw [Sv, bs_tl]
      go_wp2_with fail
      refine (awakeI_any _).mono ?_
      rintro e w4 ⟨rfl, hb⟩
      have k6 := k5.next hb
      clear hb k5
      go_wp2_with fail
      go_ret
      exact ⟨by first | rfl | (simp; done), k6.below⟩
  · go_enter Tryd.func11, Tryd.ntmps11
    go_wp2_with fail
    refine (awakeI_any _).mono ?_
    rintro e w8 ⟨rfl, hb⟩
    go_wp2_with fail
    go_ret
    exact ⟨rfl, hb⟩
end Go.Proofs.YtlagcdgfmgkooaaDoor
