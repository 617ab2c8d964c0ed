/-
  dominolaw20.FormulaTruths.
-/
import Derived.Test.YteaaeaimjbaomaaDoorFmLaw1
import Derived.Test.YteaaeaimjbaomaaDoorFmC
namespace Go.Proofs.YteaaeaimjbaomaaDoor
open Go.RowKit
set_option linter.unusedVariables false

section
variable {w : World} {g : Nat} {A : Option Addr} {c : Nat} {F : List Gt} {W : World}
theorem Lw.truth (h : Lw w g A c F W) (hf : fewP F = true) {LA : Option Addr} {L : List Bool} (hL : Bools W W.heap.size LA L) (hl : L.length ≤ 1000000) (lc : Nat) : Calls Tryd.prog 16 #[.agg #[.slice A F.length c], .slice LA L.length lc] W fun e w' => SliceOut (checkP F L.length) (truthL F L) e w' ∧ Lw w g A c F w' ∧ Below W.heap.size W w' :=
  (Truth_any A LA c lc F L (by have := (fewP_iff.1 hf).1; omega) (fun g hg => by have := (fewP_iff.1 hf).2 g hg; omega) W h.gates hL hl).mono fun _ _ ⟨a, b⟩ => ⟨a, h.next b, b⟩
theorem Lw.rtruth (h : Lw w g A c F W) (hf : fewP F = true) {LA : Option Addr} {L : List Bool} (hL : Bools W W.heap.size LA L) (hl : L.length ≤ 1000000) (lc : Nat) : Calls Tryd.prog 17 #[.agg #[.slice A F.length c], .slice LA L.length lc] W fun e w' => SliceOut (checkP F L.length) (truthL F L) e w' ∧ Lw w g A c F w' ∧ Below W.heap.size W w' :=
  (rTruth_any A LA c lc F L (by have := (fewP_iff.1 hf).1; omega) (fun g hg => by have := (fewP_iff.1 hf).2 g hg; omega) W h.gates hL hl).mono fun _ _ ⟨a, b⟩ => ⟨a, h.next b, b⟩
theorem Lw.honest (h : Lw w g A c F W) (hf : fewP F = true) {LA : Option Addr} {L : List Bool} (hL : Bools W W.heap.size LA L) (hl : L.length ≤ 1000000) (lc : Nat) : Calls Tryd.prog 18 #[.agg #[.slice A F.length c], .slice LA L.length lc] W fun e w' => SliceOut (checkP F L.length) (honestL F L) e w' ∧ Lw w g A c F w' ∧ Below W.heap.size W w' :=
  (Honest_any A LA c lc F L (by have := (fewP_iff.1 hf).1; omega) (fun g hg => by have := (fewP_iff.1 hf).2 g hg; omega) W h.gates hL hl).mono fun _ _ ⟨a, b⟩ => ⟨a, h.next b, b⟩
theorem Lw.rhonest (h : Lw w g A c F W) (hf : fewP F = true) {LA : Option Addr} {L : List Bool} (hL : Bools W W.heap.size LA L) (hl : L.length ≤ 1000000) (lc : Nat) : Calls Tryd.prog 19 #[.agg #[.slice A F.length c], .slice LA L.length lc] W fun e w' => SliceOut (checkP F L.length) (honestL F L) e w' ∧ Lw w g A c F w' ∧ Below W.heap.size W w' :=
  (rHonest_any A LA c lc F L (by have := (fewP_iff.1 hf).1; omega) (fun g hg => by have := (fewP_iff.1 hf).2 g hg; omega) W h.gates hL hl).mono fun _ _ ⟨a, b⟩ => ⟨a, h.next b, b⟩
end
theorem truthL_le (F : List Gt) (L : List Bool) : (truthL F L).length ≤ F.length := by
  unfold truthL
  split
  · rw [truthP_length]; exact Nat.le_refl _
  · simp
theorem honestL_le (F : List Gt) (L : List Bool) : (honestL F L).length ≤ F.length := by
  unfold honestL
  split
  · rw [honestP_length]; exact Nat.le_refl _
  · simp
set_option maxRecDepth 20000 in
set_option maxHeartbeats 8000000 in
theorem fmtruths_walk (A LA : Option Addr) (c lc : Nat) (F : List Gt) (L : List Bool) (w : World) (hG : Gates w w.heap.size A F) (hL : Bools w w.heap.size LA L) :
    Calls Tryd.prog 4 #[.agg #[.slice A F.length c], .slice LA L.length lc] w fun e w' => e = .returned (.bool true) ∧ Below w.heap.size w w' := by
  have hL0 := Lw.box w A c F hG
  have hB0 := hL.up ((Below.refl _ _).alloc (Nat.le_refl _) (.cells #[.slice A F.length c] 24))
  go_enter Tryd.func4, Tryd.ntmps4
  go_upto_region 1 with fail
  generalize w.alloc (.cells #[.slice A F.length c] 24) = W at *
  obtain ⟨g, hg⟩ : ∃ g, w.heap.size = g := ⟨_, rfl⟩
  have hL : Lw w g A c F W := hg ▸ hL0
  clear hL0
  have c0 := hL.cell
  simp only [hg]
  go_wp2_with fail
  refine (few_any A c F W hL.gates).mono ?_
  rintro e w1 ⟨rfl, hb1⟩
  have hL1 := hL.next hb1
  have hB1 := hB0.up hb1
  clear hL c0 hB0 hb1
  cases hf : fewP F with
  | false =>
    clear hf
    go_wp2_with fail
    refine hL1.awake.mono ?_
    rintro e w2 ⟨rfl, hL2⟩
    go_wp2_with fail
    go_ret
    exact ⟨rfl, hL2.below⟩
  | true =>
    have HF := Lib.hid hf
    clear hf
    by_cases hl : 60 < L.length
    · have hli : (60 : Int) < (L.length : Int) := by omega
      go_wp2_with fail
      refine hL1.awake.mono ?_
      rintro e w2 ⟨rfl, hL2⟩
      go_wp2_with fail
      go_ret
      exact ⟨rfl, hL2.below⟩
    · have hli : ¬ (60 : Int) < (L.length : Int) := by omega
      have hll : L.length ≤ 1000000 := by omega
      have hFl := (fewP_iff.1 HF.out).1
      have ht := truthL_le F L
      have hh := honestL_le F L
      have c1 := hL1.cell
      go_wp2_with fail
      refine (hL1.truth HF.out hB1 hll lc).mono ?_
      rintro e w2 ⟨⟨TA, tc, rfl, hT⟩, hL2, hb2⟩
      have hB2 := hB1.up hb2
      clear hL1 hB1 hb2 c1
      have c1 := hL2.cell
      go_wp2_with fail
      refine (hL2.rtruth HF.out hB2 hll lc).mono ?_
      rintro e w3 ⟨⟨SA, sc, rfl, hS⟩, hL3, hb3⟩
      have hB3 := hB2.up hb3
      have hT3 := hT.up hb3
      clear hL2 hB2 hb3 c1 hT
      have c1 := hL3.cell
      go_wp2_with fail
      refine (hL3.honest HF.out hB3 hll lc).mono ?_
      rintro e w4 ⟨⟨HA, hc, rfl, hH⟩, hL4, hb4⟩
      have hB4 := hB3.up hb4
      have hT4 := hT3.up hb4
      have hS4 := hS.up hb4
      clear hL3 hB3 hb4 c1 hT3 hS
      have c1 := hL4.cell
      go_wp2_with fail
      refine (hL4.rhonest HF.out hB4 hll lc).mono ?_
      rintro e w5 ⟨⟨KA, kc, rfl, hK⟩, hL5, hb5⟩
      have hT5 := hT4.up hb5
      have hS5 := hS4.up hb5
      have hH5 := hH.up hb5
      clear hL4 hB4 hb5 c1 hT4 hS4 hH
      have HE := Lib.hid (equal_bools TA SA tc sc _ _ w5 hT5 hS5 (by omega) (by omega))
      go_wp2_with fail
      refine HE.out.mono ?_
      rintro e w6 ⟨rfl, hb6⟩
      have hL6 := hL5.next hb6
      have HE2 := Lib.hid (equal_bools HA KA hc kc _ _ w6 (hH5.up hb6) (hK.up hb6) (by omega) (by omega))
      clear HE hL5 hT5 hS5 hH5 hK hb6
      go_wp2_with fail
      refine HE2.out.mono ?_
      rintro e w7 ⟨rfl, hb7⟩
      have hL7 := hL6.next hb7
      clear HE2 hL6 hb7
      go_wp2_with fail
      refine hL7.awake.mono ?_
      rintro e w8 ⟨rfl, hL8⟩
      go_wp2_with fail
      go_ret
      exact ⟨rfl, hL8.below⟩
end Go.Proofs.YteaaeaimjbaomaaDoor
