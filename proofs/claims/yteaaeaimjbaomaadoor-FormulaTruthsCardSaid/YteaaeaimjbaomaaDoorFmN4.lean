/-
  formula.Minimal: the closure possible.
-/
import Derived.Test.YteaaeaimjbaomaaDoorFmN3
namespace Go.Proofs.YteaaeaimjbaomaaDoor
open Go.RowKit
set_option linter.unusedVariables false

theorem row_bools {W : World} {base : Nat} {v : Value} {n : Nat} {l : List Bool} (h : W.ownsRow base 4 1 v n (blv l)) : ∃ A c, v = .slice A n c ∧ Bools W W.heap.size A l := by
  obtain ⟨A, c, hv⟩ := row_forms h
  refine ⟨A, c, hv, ⟨fun hl => ?_⟩⟩
  have hn : 0 < n := by
    have h1 := h.1
    have h2 : 0 < l.length := by
      rcases Nat.eq_zero_or_pos l.length with h9 | h9
      · exact absurd (List.eq_nil_of_length_eq_zero h9) hl
      · exact h9
    simp [blv] at h1
    omega
  obtain ⟨g, cap, hv2, -⟩ := row_form h hn
  rw [hv] at hv2
  injection hv2 with hA _ _
  subst hA
  refine ⟨_, rfl, ?_, fun j u hu => ?_⟩
  · rw [hv] at h; exact (h.lt g rfl).2
  · rw [hv] at h; exact h.cells rfl j u hu
set_option maxRecDepth 20000 in
set_option maxHeartbeats 4000000 in
theorem possible_any {E : En} {gh gcv gch : Nat} (c : List Bool) (hE : FEnv E) (hc : E.n = c.length) (fr : Nat) (hfr : fr ≤ c.length) (W : World) (h : Sep W (cits E gh gcv gch c)) :
    Calls Tryd.prog 56 #[.int .i64 (fr : Int), .pointer (some ⟨gcv, 0, none⟩), .pointer (some ⟨E.gn, 0, none⟩), .pointer (some ⟨gh, 0, none⟩)] W fun e w' => e = .returned (.bool (holdsP E.F (fillM c fr))) ∧ Hp (ow (cits E gh gcv gch c)) W (cits E gh gcv gch c) w' := by
  have hS := Hp.self h
  have hn := hE.n256
  have HN := Lib.hid hc
  rw [hc] at hn
  clear hc
  generalize ow (cits E gh gcv gch c) = o at *
  have c1 := (hS.blk 1 rfl).cell 0
  simp only [List.getElem?_cons_zero] at c1
  have hgch : gch < W.heap.size := (hS.blk 0 rfl).lt
  go_enter Tryd.func56, Tryd.ntmps56
  go_wp2_with fail
  refine (clone_bools ⟨gch, 0, none⟩ c.length c.length (blv c) (by simp [blv]) (by omega) W (fun j u hu => by
    have e : (⟨gch, 0, none⟩ : Addr).add j = ⟨gch, j, none⟩ := by unfold Addr.add; split <;> simp_all
    rw [e, (hS.blk 0 rfl).cell j]; exact hu) (by intro u hu; obtain ⟨x, _, rfl⟩ := List.mem_map.1 hu; rfl) (fun _ => hgch)).mono ?_
  rintro e w1 ⟨v, rfl, hv⟩
  have hS1 : Hp o W (irow 4 1 v c.length (blv c) :: cits E gh gcv gch c) w1 := Hp.call (a := []) hS hv
  obtain ⟨A1, k1, rfl⟩ := row_forms (hS1.row 0 rfl)
  clear hS hv c1
  go_upto_region 3 with fail
  go_loopg [7] (c.length - fr) (fun m s7 wx => ∃ (i : Nat) (L : List Bool), fr ≤ i ∧ i ≤ c.length ∧ m = c.length - i ∧ s7 = .int .i64 (i : Int) ∧ L.length = c.length ∧ Hp o W (irow 4 1 (.slice A1 c.length k1) c.length (blv L) :: cits E gh gcv gch c) wx ∧ Hid (∀ j, j < c.length → gb L j = if fr ≤ j ∧ j < i then true else gb c j))
  case atStart => exact ⟨fr, c, Nat.le_refl _, hfr, rfl, rfl, rfl, hS1, Lib.hid (fun j _ => by rw [if_neg (by omega)])⟩
  case round =>
    obtain ⟨i, L, hfi, hi, rfl, rfl, hLl, hS2, HL⟩ := hrel
    clear hS1
    have HLl := Lib.hid hLl
    clear hLl
    have cn : wr.cell? ⟨E.gn, 0, none⟩ = some (.int .i64 (c.length : Int)) := by
      rw [← HN.out]; exact (hS2.blk 5 rfl).cell 0
    by_cases hil : i < c.length
    · have hii : (i : Int) < (c.length : Int) := by omega
      obtain ⟨g1, k2, hv1, -⟩ := row_form (hS2.row 0 rfl) (by omega)
      injection hv1 with hA1 _ hk
      subst hA1
      subst hk
      have hx : ∃ x, (blv L)[i]? = some (.bool x) := by
        obtain ⟨x, hx⟩ : ∃ x, L[i]? = some x := ⟨_, List.getElem?_eq_getElem (by have := HLl.out; omega)⟩
        exact ⟨x, by rw [blv, List.getElem?_map, hx]; rfl⟩
      obtain ⟨x, hx⟩ := hx
      have cx := row_cell (hS2.row 0 rfl) hx
      have fx := row_frozen (hS2.row 0 rfl) i
      have hS3 := hS2.rowset 0 rfl i (by omega) (.bool true)
      rw [show (blv L).set i (.bool true) = blv (L.set i true) from by simp [blv, List.map_set]] at hS3
      have HS3 := Lib.hid hS3
      have HL2 : Hid (∀ j, j < c.length → gb (L.set i true) j = if fr ≤ j ∧ j < i + 1 then true else gb c j) := by
        refine Lib.hid fun j hj => ?_
        rw [gb_set _ _ _ _ (by have := HLl.out; omega)]
        by_cases hji : j = i
        · rw [if_pos hji, if_pos (by omega)]
        · rw [if_neg hji, HL.out j hj]
          by_cases h5 : fr ≤ j ∧ j < i
          · rw [if_pos h5, if_pos (by omega)]
          · rw [if_neg h5, if_neg (by omega)]
      clear hx hS3 hS2 HL
      go_wp2_with fail
      go_roundg (c.length - (i + 1))
      case measure => omega
      case rel => exact ⟨i + 1, L.set i true, by omega, by omega, rfl, by first | rfl | simp, by rw [List.length_set]; exact HLl.out, HS3.out, HL2⟩
    · have hii : ¬ (i : Int) < (c.length : Int) := by omega
      have HF : Hid (L = fillM c fr) := by
        refine Lib.hid (mask_ext (by rw [fillM_length _ _ hfr]; exact HLl.out) fun j hj => ?_)
        have hj' : j < c.length := by have := HLl.out; omega
        rw [HL.out j hj', gb_fill _ _ _ hfr hj']
        by_cases h5 : j < fr
        · rw [if_pos h5, if_neg (by omega)]
        · rw [if_neg h5, if_pos (by omega)]
      obtain ⟨A2, k2, hv2, hBL⟩ := row_bools (hS2.row 0 rfl)
      injection hv2 with hA2 _ hk2
      subst hA2
      subst hk2
      have c2 := (hS2.blk 3 rfl).cell 0
      simp only [List.getElem?_cons_zero] at c2
      have HC := Lib.hid (holds_any E.gf E.A A1 E.cc k1 E.F L hE.F512 hE.kids (hE.valid (HLl.out.trans HN.out.symm)) wr ((hS2.blk 4 rfl).cell 0) (hE.gates (hS2.sep.ok _ (List.mem_of_getElem? (i := 6) rfl))) hBL (by have := HLl.out; omega))
      rw [HLl.out, HF.out] at HC
      have HS2 := Lib.hid hS2
      clear HF HL HLl hBL hS2
      go_wp2_with fail
      refine HC.out.mono ?_
      rintro e w4 ⟨rfl, hb4⟩
      go_wp2_with fail
      go_ret
      exact ⟨rfl, (HS2.out.next hb4).tail⟩
end Go.Proofs.YteaaeaimjbaomaaDoor
