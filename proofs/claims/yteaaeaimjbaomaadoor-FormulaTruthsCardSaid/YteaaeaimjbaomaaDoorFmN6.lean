/-
  formula.copied walked.
-/
import Derived.Test.YteaaeaimjbaomaaDoorFmN5
import Derived.Deep.LoopGhost
namespace Go.Proofs.YteaaeaimjbaomaaDoor
open Go.RowKit
set_option linter.unusedVariables false

theorem ints_row {w W : World} {B : Nat} {KA : Option Addr} {l : List Int} (h : Ints w B KA l) (hb : Below B w W) : ∀ ka, KA = some ka → ∀ j u, (ivals l)[j]? = some u → W.cell? (ka.add j) = some u := by
  intro ka hka j u hu
  rw [ivals, List.getElem?_map] at hu
  obtain ⟨x, hx, rfl⟩ := Option.map_eq_some_iff.1 hu
  obtain ⟨ka', hk', hc⟩ := h.read hb hx
  rw [hka] at hk'
  cases hk'
  exact hc
/-- []int is cloned -/
theorem clone_kids {w W : World} {B : Nat} {KA : Option Addr} {l : List Int} {c : Nat} (h : Ints w B KA l) (hb : Below B w W) (hB : B ≤ W.heap.size) (hl : l.length ≤ 1000000) :
    Calls Tryd.prog 38 #[.slice KA l.length c] W fun e w' => ∃ v, e = .returned v ∧ Hp [] W [irow 3 1 v l.length (ivals l)] w' := by
  cases hKA : KA with
  | none =>
    have hl0 : l = [] := by
      apply Classical.byContradiction
      intro h9
      obtain ⟨ad, h1, _⟩ := h.some_ h9
      rw [hKA] at h1; cases h1
    subst hl0
    refine (clone_ints_nil 0 c W).mono ?_
    rintro e w' ⟨rfl, rfl⟩
    exact ⟨_, rfl, (Hp.start w').nilrow 3 1⟩
  | some ka =>
    refine clone_ints ka l.length c (ivals l) (by simp [ivals]) hl W (ints_row h hb ka hKA) (by intro u hu; obtain ⟨x, _, rfl⟩ := List.mem_map.1 hu; rfl) (fun hne => ?_)
    have hl0 : l ≠ [] := by rintro rfl; exact hne rfl
    obtain ⟨ad, h1, h2, _⟩ := h.some_ hl0
    rw [hKA] at h1
    cases h1
    omega
/-- []api.Gate is cloned -/
theorem clone_formula {w : World} {A : Option Addr} {F : List Gt} {c : Nat} (h : Gates w w.heap.size A F) (hF : F.length ≤ 1000000) :
    Calls Tryd.prog 63 #[.slice A F.length c] w fun e w' => ∃ v P, e = .returned v ∧ Hp [] w [irow 40 3 v F.length (gcells P)] w' ∧ gts P = F ∧ ∀ x ∈ P, ∃ KA c, x.2 = .slice KA x.1.kids.length c ∧ Ints w w.heap.size KA x.1.kids := by
  cases hA : A with
  | none =>
    have hF0 : F = [] := by
      apply Classical.byContradiction
      intro h9
      obtain ⟨ad, h1, _⟩ := h.some_ h9
      rw [hA] at h1; cases h1
    subst hF0
    refine (clone_gates_nil 0 c w).mono ?_
    rintro e w' ⟨rfl, rfl⟩
    exact ⟨_, [], rfl, (Hp.start w').nilrow 40 3, rfl, fun x hx => (by cases hx)⟩
  | some ad =>
    rw [hA] at h
    obtain ⟨P, h1, h2, h3, h4⟩ := h.vals
    have hl : P.length = F.length := by rw [← h1]; simp
    refine (clone_gates ad F.length c (gcells P) (by rw [gcells_length, hl]) hF w h4 h3 (fun hne => ?_)).mono ?_
    · have hl0 : F ≠ [] := by
        rintro rfl
        rw [List.length_nil] at hl
        rw [List.eq_nil_of_length_eq_zero hl] at hne
        exact hne rfl
      obtain ⟨ad', g1, g2, _⟩ := h.some_ hl0
      cases g1
      exact g2
    · rintro e w' ⟨v, rfl, hv⟩
      exact ⟨v, P, rfl, hv, h1, h2⟩
set_option maxRecDepth 20000 in
set_option maxHeartbeats 4000000 in
theorem copied_any (A : Option Addr) (c : Nat) (F : List Gt) (hF : F.length ≤ 1000000) (hK : ∀ g ∈ F, g.kids.length ≤ 1000000) (w : World) (hG : Gates w w.heap.size A F) :
    Calls Tryd.prog 52 #[.agg #[.slice A F.length c]] w fun e w' => ∃ x A' c' Q, e = .returned (.agg #[.slice A' F.length c']) ∧ gts Q = F ∧ Q.length = F.length ∧ Hp [] w (x :: irow 40 3 (.slice A' F.length c') F.length (gcells Q) :: kidIts Q) w' := by
  have hk : Hp [] w [iblk (w.heap.size + 1) 24 [.slice none 0 0], iblk w.heap.size 24 [.slice A F.length c]] ((w.alloc (.cells #[.slice A F.length c] 24)).alloc (.cells #[.slice none 0 0] 24)) := by
    have := ((Hp.start w).new 24 [.slice A F.length c]).new 24 [.slice none 0 0]
    have hsz : ∀ (w : World) (o : Obj), (w.alloc o).heap.size = w.heap.size + 1 := fun w o => by simp
    rw [hsz] at this
    exact this
  go_enter Tryd.func52, Tryd.ntmps52
  go_upto_region 1 with fail
  generalize (w.alloc (.cells #[.slice A F.length c] 24)).alloc (.cells #[.slice none 0 0] 24) = W at *
  generalize w.heap.size + 1 = gr at *
  have c0 := (hk.blk 1 rfl).cell 0
  simp only [List.getElem?_cons_zero] at c0
  have hGW := hG.keep' hk.below0
  have HC := Lib.hid (clone_formula (c := c) hGW hF)
  go_wp2_with fail
  refine HC.out.mono ?_
  rintro e w1 ⟨v, P, rfl, hv, hP, hI⟩
  have hS1 : Hp [] w (irow 40 3 v F.length (gcells P) :: [iblk gr 24 [.slice none 0 0], iblk w.heap.size 24 [.slice A F.length c]]) w1 := Hp.call (a := []) hk hv
  have hbW : Below W.heap.size W w1 := hv.below0
  have hge0 : ∀ b, v.ownBlock = some b → W.heap.size ≤ b := fun b hb => hv.ge (by simp [irow, hb])
  have hsW := hk.size
  obtain ⟨A1, k1, rfl⟩ := row_forms (hS1.row 0 rfl)
  have hPl : P.length = F.length := by rw [← hP]; simp
  clear hk HC hv c0
  go_upto_region 3 with fail
  go_loopg [10] F.length (fun m s10 wx => ∃ (i : Nat) (Q : List GV), i ≤ F.length ∧ m = F.length - i ∧ s10 = .int .i64 (i : Int) ∧ Hid (gts Q = F) ∧ Below W.heap.size W wx ∧ Hp [] w (irow 40 3 (.slice A1 F.length k1) F.length (gcells Q) :: (kidIts (Q.take i) ++ [iblk gr 24 [.slice none 0 0], iblk w.heap.size 24 [.slice A F.length c]])) wx ∧ Hid (∀ j x, i ≤ j → Q[j]? = some x → ∃ KA c, x.2 = .slice KA x.1.kids.length c ∧ Ints W W.heap.size KA x.1.kids))
  case atStart => exact ⟨0, P, Nat.zero_le _, rfl, rfl, Lib.hid hP, hbW, hS1, Lib.hid (fun j x _ hx => hI x (List.mem_of_getElem? hx))⟩
  case round =>
    obtain ⟨i, Q, hi, rfl, rfl, HQ, hbx, hS, HI⟩ := hrel
    clear hS1 hbW
    have hQl : Q.length = F.length := by rw [← HQ.out]; simp
    have HQl := Lib.hid hQl
    clear hQl
    by_cases hil : i < F.length
    · obtain ⟨x, hx⟩ : ∃ x, Q[i]? = some x := ⟨_, List.getElem?_eq_getElem (by have := HQl.out; omega)⟩
      obtain ⟨KA, kc, hxv, hxi⟩ := HI.out i x (Nat.le_refl _) hx
      have hxF : F[i]? = some x.1 := by rw [← HQ.out, List.getElem?_map, hx]; rfl
      have hkx := hK x.1 (List.mem_of_getElem? hxF)
      obtain ⟨g1, k2, hv1, -⟩ := row_form (hS.row 0 rfl) (by omega)
      injection hv1 with hA1 _ hk2
      subst hA1
      subst hk2
      obtain ⟨q1, q2, q3⟩ := gcells_at hx
      have ck := row_cell (hS.row 0 rfl) q2
      rw [hxv] at ck
      have hii : (i : Int) < (F.length : Int) := by omega
      have hi0 : (0 : Int) ≤ (i : Int) := by omega
      have HC := Lib.hid (clone_kids (c := kc) hxi hbx hbx.size hkx)
      go_wp2_with fail
      refine HC.out.mono ?_
      rintro e w3 ⟨v', rfl, hv'⟩
      have hS3 : Hp [] w (irow 3 1 v' x.1.kids.length (ivals x.1.kids) :: irow 40 3 (.slice (some ⟨g1, 0, none⟩) F.length k1) F.length (gcells Q) :: (kidIts (Q.take i) ++ [iblk gr 24 [.slice none 0 0], iblk w.heap.size 24 [.slice A F.length c]])) w3 := Hp.call (a := []) hS hv'
      have hb3 : Below W.heap.size wr w3 := hv'.below0.mono hbx.size
      obtain ⟨A5, k5, rfl⟩ := row_forms (hS3.row 0 rfl)
      have ck3 := row_cell (hS3.row 1 rfl) q2
      rw [hxv] at ck3
      have fk3 := row_frozen (hS3.row 1 rfl) (i * 3 + 1)
      have hS4 := hS3.rowset 1 rfl (i * 3 + 1) (by omega) (.slice A5 x.1.kids.length k5)
      rw [(gcells_set hx 0 0 x.1.kids (.slice A5 x.1.kids.length k5)).2.1] at hS4
      have hge : W.heap.size ≤ g1 := hge0 g1 rfl
      have hb4 : Below W.heap.size W (w3.setCell ⟨g1, i * 3 + 1, none⟩ (.slice A5 x.1.kids.length k5)) := (hbx.trans hb3).setCell hge _
      have HB4 := Lib.hid hb4
      have HS4 := Lib.hid hS4
      have HX := Lib.hid hx
      clear hS hS3 hS4 HC hv' hb3 hb4 ck q1 q2 q3 hx hxv hxF
      go_wp2_with fail
      go_roundg (F.length - (i + 1))
      case measure => omega
      case rel =>
        have hil' : i < Q.length := by have := HQl.out; omega
        refine ⟨i + 1, Q.set i (⟨x.1.need, x.1.kids, x.1.leaf⟩, .slice A5 x.1.kids.length k5), hil, rfl, by first | rfl | simp, ?_, HB4.out, ?_, ?_⟩
        · refine Lib.hid ?_
          rw [← HQ.out]
          show (Q.set i _).map Prod.fst = _
          rw [List.map_set]
          apply List.ext_getElem?
          intro j
          rw [List.getElem?_set]
          split
          · rename_i hij
            subst hij
            rw [if_pos (by simpa using hil'), List.getElem?_map, HX.out]; rfl
          · rfl
        · have e : (Q.set i ((⟨x.1.need, x.1.kids, x.1.leaf⟩ : Gt), Value.slice A5 x.1.kids.length k5)).take (i + 1) = Q.take i ++ [(⟨x.1.need, x.1.kids, x.1.leaf⟩, .slice A5 x.1.kids.length k5)] := by
            rw [List.take_add_one, List.take_set_of_le (Nat.le_refl _), List.getElem?_set_self hil']; rfl
          rw [e, kidIts_append]
          refine HS4.out.perm ?_
          refine (List.Perm.swap _ _ _).trans (List.Perm.cons _ ?_)
          rw [List.append_assoc]
          exact List.perm_middle.symm
        · refine Lib.hid fun j y hj hy => ?_
          rw [List.getElem?_set_ne (by omega)] at hy
          exact HI.out j y (by omega) hy
    · have hie : i = F.length := by omega
      have hii : ¬ (i : Int) < (F.length : Int) := by omega
      have htk : Q.take i = Q := List.take_of_length_le (by have := HQl.out; omega)
      rw [htk] at hS
      have hS2 : Hp [] w (iblk gr 24 [.slice none 0 0] :: iblk w.heap.size 24 [.slice A F.length c] :: irow 40 3 (.slice A1 F.length k1) F.length (gcells Q) :: kidIts Q) wr := hS.perm (List.perm_append_comm (l₁ := irow 40 3 (.slice A1 F.length k1) F.length (gcells Q) :: kidIts Q))
      have cr := (hS2.blk 0 rfl).cell 0
      have fr := (hS2.blk 0 rfl).frozen 0
      simp only [List.getElem?_cons_zero] at cr
      have hS3 := hS2.set 0 rfl 0 (.slice A1 F.length k1)
      have d0 := (hS3.blk 0 rfl).cell 0
      simp only [List.getElem?_cons_zero, List.set_cons_zero] at d0
      have HS3 := Lib.hid hS3
      clear hS hS2 hS3 htk
      go_wp2_with fail
      refine bodyPost_ret (v := .agg #[.slice A1 F.length k1]) (by simp [results, Tryd.results52, go_sem, d0]) rfl ?_
      have h9 := HS3.out
      exact ⟨_, A1, k1, rfl, Q, HQ.out, HQl.out, h9.tail⟩
end Go.Proofs.YteaaeaimjbaomaaDoor
