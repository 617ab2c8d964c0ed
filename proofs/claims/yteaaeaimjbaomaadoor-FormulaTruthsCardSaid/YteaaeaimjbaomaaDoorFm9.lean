/-
  formula.Truth.
-/
import Derived.Test.YteaaeaimjbaomaaDoorFm8
namespace Go.Proofs.YteaaeaimjbaomaaDoor
open Go.RowKit
set_option linter.unusedVariables false

theorem Bools.up {W W' : World} {A : Option Addr} {l : List Bool} (h : Bools W W.heap.size A l) (hb : Below W.heap.size W W') : Bools W' W'.heap.size A l := ⟨fun hl => by
  obtain ⟨ad, h1, h2, h3⟩ := h.some_ hl
  have := hb.size
  exact ⟨ad, h1, by omega, h3.keep hb h2⟩⟩
theorem check_valid {F : List Gt} {L : List Bool} (h : checkP F L.length = 0) : Valid F L ∧ F.length ≤ 512 := by
  unfold checkP at h
  by_cases h1 : 512 < F.length ∨ (L.length : Int) < 0 ∨ 256 < (L.length : Int)
  · rw [if_pos h1] at h; cases h
  · rw [if_neg h1] at h
    by_cases h2 : (leavesP F).2 = false
    · rw [if_pos h2] at h; cases h
    · rw [if_neg h2] at h
      by_cases h3 : (leavesP F).1 ≠ L.length
      · rw [if_pos h3] at h; cases h
      · have e : leavesP F = ((L.length : Int), true) := by
          apply Prod.ext
          · exact Classical.byContradiction fun h9 => h3 h9
          · simpa using h2
        exact ⟨valid_gates e, by omega⟩
def truthL (F : List Gt) (L : List Bool) : List Bool := if checkP F L.length = 0 then truthP F L else []
def SliceOut (er : Int) (l : List Bool) (e : Ending) (w' : World) : Prop := ∃ A c, e = .returned (.tuple #[.slice A l.length c, .int .i64 er]) ∧ Bools w' w'.heap.size A l
theorem Blk.bools {W : World} {g : Nat} {l : List Bool} (h : Blk W g 4 (blv l)) : Bools W W.heap.size (some ⟨g, 0, none⟩) l :=
  ⟨fun _ => ⟨_, rfl, h.lt, fun i v hv => by
    have := h.cell i
    have e : (⟨g, 0, none⟩ : Addr).add i = ⟨g, i, none⟩ := by unfold Addr.add; split <;> simp_all
    rw [e, this]; exact hv⟩⟩
set_option maxHeartbeats 1000000 in
theorem truth_nil (A LA : Option Addr) (c lc n : Nat) (w : World) :
    Calls Tryd.prog 36 #[.agg #[.slice A 0 c], .slice LA n lc] w fun e w' => e = .returned (.slice none 0 0) ∧ Below w.heap.size w w' := by
  have hb : Below w.heap.size w (w.alloc (.cells #[.slice A 0 c] 24)) := (Below.refl _ _).alloc (Nat.le_refl _) _
  go_enter Tryd.func36, Tryd.ntmps36
  go_wp2_with fail
  refine wp_loop_rounds 1 ?_
  rw [rounds_succ]
  go_wp2_with fail
  go_ret
  exact ⟨rfl, hb⟩
set_option maxHeartbeats 1000000 in
theorem Truth_any (A LA : Option Addr) (c lc : Nat) (F : List Gt) (L : List Bool) (hF : F.length ≤ 1000000) (hK : ∀ g ∈ F, g.kids.length ≤ 1000000) (w : World) (hG : Gates w w.heap.size A F) (hL : Bools w w.heap.size LA L) (hLl : L.length ≤ 1000000) :
    Calls Tryd.prog 16 #[.agg #[.slice A F.length c], .slice LA L.length lc] w fun e w' => SliceOut (checkP F L.length) (truthL F L) e w' ∧ Below w.heap.size w w' := by
  have hk := (Kp.start w).new 24 [.slice A F.length c]
  have HC := Lib.hid (check_any A c F L.length hF hK (w.alloc (.cells #[.slice A F.length c] 24)) (hG.keep' hk.below))
  by_cases h0 : checkP F L.length = 0
  · obtain ⟨hV, h512⟩ := check_valid h0
    have HT : Hid (truthL F L = truthP F L) := by refine Lib.hid ?_; rw [truthL, if_pos h0]
    rw [h0] at HC
    have H0 := Lib.hid h0
    clear h0
    go_enter Tryd.func16, Tryd.ntmps16
    go_wp2_with fail
    refine HC.out.mono ?_
    rintro e w1 ⟨rfl, hb1⟩
    have hk1 := hk.next hb1
    have b0 := (hk1.at_ 0 rfl).cell 0
    simp only [List.getElem?_cons_zero] at b0
    go_wp2_with fail
    by_cases hz : F = []
    · subst hz
      refine (truth_nil A LA c lc L.length w1).mono ?_
      rintro e w2 ⟨rfl, hb2⟩
      go_wp2_with fail
      go_ret2
      rw [H0.out, HT.out]
      exact ⟨⟨none, 0, rfl, ⟨fun h9 => absurd rfl h9⟩⟩, (hk1.next hb2).below⟩
    · refine (truth_any A LA c lc F L h512 hK hV w1 (hG.keep' hk1.below) (hL.up hk1.below) hLl hz).mono ?_
      rintro e w2 ⟨⟨g, rfl, hg, _⟩, hb2⟩
      go_wp2_with fail
      go_ret2
      rw [H0.out, HT.out]
      exact ⟨⟨_, F.length, by rw [truthP_length]; rfl, hg.bools⟩, (hk1.next hb2).below⟩
  · have HT : Hid (truthL F L = []) := by refine Lib.hid ?_; rw [truthL, if_neg h0]
    have t1 : (checkP F L.length != 0) = true := by simpa using h0
    go_enter Tryd.func16, Tryd.ntmps16
    go_wp2_with fail
    refine HC.out.mono ?_
    rintro e w1 ⟨rfl, hb1⟩
    have hk1 := hk.next hb1
    go_wp2_with fail
    go_ret2
    rw [HT.out]
    exact ⟨⟨none, 0, rfl, ⟨fun h9 => absurd rfl h9⟩⟩, hk1.below⟩
end Go.Proofs.YteaaeaimjbaomaaDoor
