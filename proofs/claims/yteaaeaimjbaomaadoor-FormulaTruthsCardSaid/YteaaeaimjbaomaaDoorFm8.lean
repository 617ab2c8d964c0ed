/-
  formula.truth walked.
-/
import Derived.Test.YteaaeaimjbaomaaDoorFm7
import Derived.Test.YteaaeaimjbaomaaDoorMk
namespace Go.Proofs.YteaaeaimjbaomaaDoor
open Go.RowKit
set_option linter.unusedVariables false

theorem make_bools (n : Nat) (hn : n ≤ 1000000) : ∀ w, (Instr.makeSlice 31 (.int .i64 (n : Int)) (.int .i64 (n : Int))).run Tryd.prog w = .ok (.slice (some ⟨w.heap.size, 0, none⟩) n n) (w.alloc (.cells (List.replicate n (.bool false)).toArray 4)) :=
  run_make_cells 31 4 Tryd.underlying31 (.bool false) rfl 1 (by kernel_rfl) n (by omega) (by omega)
/-- the gates are in order, and the leaves are there -/
def Valid (F : List Gt) (L : List Bool) : Prop := ∀ (i : Nat) g, F[i]? = some g → GOk F.length 0 L.length i g
def TruRel (w : World) (gf go : Nat) (A : Option Addr) (c : Nat) (F : List Gt) (L : List Bool) (i : Value) (W : World) : Prop :=
  ∃ (k : Nat) (out : List Bool), k ≤ F.length ∧ i = .int .i64 ((k : Int) - 1) ∧ out.length = F.length ∧ Kp w [(go, 4, blv out), (gf, 24, [.slice A F.length c])] W ∧ Hid (truthRun F L k out = truthP F L)
def CntRel (out : List Bool) (ks : List Int) (n i : Value) : Prop := ∃ j : Nat, j ≤ ks.length ∧ i = .int .i64 (j : Int) ∧ n = .int .i64 (cntK out (ks.take j))
set_option maxHeartbeats 2000000 in
theorem truth_any (A LA : Option Addr) (c lc : Nat) (F : List Gt) (L : List Bool) (hF : F.length ≤ 512) (hK : ∀ g ∈ F, g.kids.length ≤ 1000000) (hV : Valid F L) (w : World) (hG : Gates w w.heap.size A F) (hL : Bools w w.heap.size LA L) (hLl : L.length ≤ 1000000) (hne : F ≠ []) :
    Calls Tryd.prog 36 #[.agg #[.slice A F.length c], .slice LA L.length lc] w fun e w' => (∃ g, e = .returned (.slice (some ⟨g, 0, none⟩) F.length F.length) ∧ Blk w' g 4 (blv (truthP F L)) ∧ w.heap.size ≤ g) ∧ Below w.heap.size w w' := by
  have hpos : 0 < F.length := by
    rcases Nat.eq_zero_or_pos F.length with h | h
    · exact absurd (List.eq_nil_of_length_eq_zero h) hne
    · exact h
  have hmk := make_bools F.length (by omega)
  have hk0 : Kp w [(w.heap.size + 1, 4, blv (List.replicate F.length false)), (w.heap.size, 24, [.slice A F.length c])] ((w.alloc (.cells #[.slice A F.length c] 24)).alloc (.cells (Array.replicate F.length (.bool false)) 4)) := by
    have := ((Kp.start w).new 24 [.slice A F.length c]).new 4 (blv (List.replicate F.length false))
    simpa [blv] using this
  go_enter Tryd.func36, Tryd.ntmps36
  go_upto_region 4 with fail
  generalize (w.alloc (.cells #[.slice A F.length c] 24)).alloc (.cells (Array.replicate F.length (.bool false)) 4) = W1 at *
  have hD : w.heap.size ≤ w.heap.size ∧ w.heap.size < w.heap.size + 1 := by omega
  generalize w.heap.size + 1 = go at *
  have b0 := (hk0.at_ 1 rfl).cell 0
  simp only [List.getElem?_cons_zero] at b0
  go_upto_region 5 with fail
  clear b0 hmk
  go_loopw [6] (TruRel w w.heap.size go A c F L) (fun i _ => (intOf i + 1).toNat)
  case atStart => exact ⟨F.length, _, Nat.le_refl _, rfl, by simp, hk0, Lib.hid rfl⟩
  case round =>
    obtain ⟨k', out, hk', rfl, hol, hS, HR⟩ := hrel
    clear hk0
    cases k' with
    | zero =>
      have HT : Hid (out = truthP F L) := HR.out
      clear HR
      go_wp2_with fail
      go_ret
      exact ⟨⟨go, rfl, HT.out ▸ hS.at_ 0 rfl, by omega⟩, hS.below⟩
    | succ k =>
      have e0 : (((k + 1 : Nat) : Int) - 1) = (k : Int) := by omega
      rw [e0]
      have hk1 : k < F.length := by omega
      obtain ⟨g, hg⟩ : ∃ g, F[k]? = some g := ⟨_, List.getElem?_eq_getElem hk1⟩
      have hkl : g.kids.length ≤ 1000000 := hK g (List.mem_of_getElem? hg)
      have hok := hV k g hg
      obtain ⟨ad, hA, hab, hga⟩ := hG.some_ hne
      subst hA
      obtain ⟨KA, kc, gk', gi⟩ := (hga k g hg).kids
      have ga := (hga k g hg).keep hS.below (Nat.le_refl _) (by rw [add_block]; exact hab)
      have gk : wr.cell? ⟨(ad.add (k * 3)).block, (ad.add (k * 3)).off + 1, none⟩ = some (.slice KA g.kids.length kc) := by
        rw [hS.below.cell (p := ⟨(ad.add (k * 3)).block, (ad.add (k * 3)).off + 1, none⟩) (by show (ad.add (k * 3)).block < _; rw [add_block]; exact hab)]; exact gk'
      have gn1 := ga.need
      have gl := ga.leaf
      clear gk' ga
      have b0 := (hS.at_ 1 rfl).cell 0
      simp only [List.getElem?_cons_zero] at b0
      go_upto_region 8 with fail
      have hk2 := hS.new 40 [.int .i64 g.need, .slice KA g.kids.length kc, .int .i64 g.leaf]
      have hgo : go < wr.heap.size := (hS.at_ 0 rfl).lt
      have hk3 : Kp w [(wr.heap.size, 40, [.int .i64 g.need, .slice KA g.kids.length kc, .int .i64 g.leaf]), (go, 4, blv out), (w.heap.size, 24, [.slice (some ad) F.length c])] (wr.alloc (.cells #[.int .i64 g.need, .slice KA g.kids.length kc, .int .i64 g.leaf] 40)) := hk2
      clear hk2 b0 gn1 gl gk hS
      generalize wr.alloc (.cells #[.int .i64 g.need, .slice KA g.kids.length kc, .int .i64 g.leaf] 40) = W2 at *
      generalize wr.heap.size = g7 at *
      obtain ⟨b0, b1, b2⟩ := (hk3.at_ 0 rfl).get3
      have HT : Hid (truthRun F L k (out.set k (truthAt L out g)) = truthP F L) := by
        refine Lib.hid ?_
        have h9 := HR.out
        rw [truthRun, truthStep, hg] at h9
        exact h9
      clear HR
      have hkk : Kp w [(go, 4, blv out), (w.heap.size, 24, [.slice (some ad) F.length c])] W2 := hk3.sub (by intro x hx; exact List.mem_cons_of_mem _ hx)
      have hset : ∀ v : Bool, Kp w [(go, 4, blv (out.set k v)), (w.heap.size, 24, [.slice (some ad) F.length c])] (W2.setCell ⟨go, k, none⟩ (.bool v)) := fun v => by
        have h9 := hkk.setHead (by omega) (by intro x hx; simp at hx; subst hx; simp; omega) k (.bool v)
        rw [show (blv out).set k (.bool v) = blv (out.set k v) from by simp [blv, List.map_set]] at h9
        exact h9
      have HS := Lib.hid hset
      clear hset hkk
      have fo := (hk3.at_ 1 rfl).frozen k
      obtain ⟨o, ho⟩ : ∃ o, W2.cell? ⟨go, k, none⟩ = some o := ⟨_, by rw [(hk3.at_ 1 rfl).cell k]; exact List.getElem?_eq_getElem (by simp [blv]; omega)⟩
      by_cases hkz : g.kids = []
      · have hzz : ((g.kids.length : Int) == 0) = true := by rw [hkz]; rfl
        obtain ⟨l1, l2, l3⟩ := hok.1 hkz
        obtain ⟨j, hj⟩ := Int.eq_ofNat_of_zero_le l2
        have hjl : j < L.length := by omega
        obtain ⟨la, hLA, hlb, hlr⟩ := hL.some_ (by rintro rfl; simp at hjl)
        subst hLA
        obtain ⟨bv, hbv⟩ : ∃ bv, L[j]? = some bv := ⟨_, List.getElem?_eq_getElem hjl⟩
        have cl : W2.cell? (la.add j) = some (.bool bv) := by
          rw [hk3.below.cell (p := la.add j) (by rw [add_block]; exact hlb)]
          exact hlr j _ (by rw [blv, List.getElem?_map, hbv]; rfl)
        have HA : Hid (truthAt L out g = bv) := by
          refine Lib.hid ?_
          rw [truthAt, if_pos hkz, hj, Int.toNat_natCast, List.getD_eq_getElem?_getD, hbv]; rfl
        rw [hj] at b2
        clear hkz hok l1 l2 l3 hj hbv hlr hL hV hG hK hga gi
        go_wp2_with fail
        go_roundw
        case rel => exact ⟨k, _, by omega, rfl, by simp [hol], HS.out bv, Lib.hid (by rw [← HT.out, HA.out])⟩
        case measure => simp [intOf]
      · have hzz : ((g.kids.length : Int) == 0) = false := by
          rw [beq_eq_false_iff_ne]
          intro h9
          exact hkz (List.eq_nil_of_length_eq_zero (by omega))
        have HA : Hid (truthAt L out g = decide (g.need ≤ cntK out g.kids)) := by
          refine Lib.hid ?_
          rw [truthAt, if_neg hkz]
        have hin := hok.2.2
        have HB := Lib.hid hk3
        obtain ⟨ka, hKA, hkb, hrun⟩ := gi.some_ hkz
        subst hKA
        clear hkz hok hL hV hG hK hga gi
        go_upto_region 12 with fail
        go_loop [8, 47] (CntRel out g.kids) (fun _ i => g.kids.length - (intOf i).toNat)
        case atStart => exact ⟨0, Nat.zero_le _, rfl, rfl⟩
        case round =>
          obtain ⟨j, hj, rfl, rfl⟩ := hrel
          have hcb := cntK_bd out (g.kids.take j)
          have hlt2 : (g.kids.take j).length ≤ 1000000 := by rw [List.length_take]; omega
          by_cases hjl : j < g.kids.length
          · obtain ⟨x, hx⟩ : ∃ x, g.kids[j]? = some x := ⟨_, List.getElem?_eq_getElem hjl⟩
            have hxm := hin x (List.mem_of_getElem? hx)
            obtain ⟨y, rfl⟩ := Int.eq_ofNat_of_zero_le (show 0 ≤ x by omega)
            have hyl : y < F.length := by omega
            have cx : W2.cell? (ka.add j) = some (.int .i64 (y : Int)) := by
              rw [hk3.below.cell (p := ka.add j) (by rw [add_block]; exact hkb)]
              exact hrun j _ (by rw [List.getElem?_map, hx]; rfl)
            obtain ⟨bv, hbv⟩ : ∃ bv, out[y]? = some bv := ⟨_, List.getElem?_eq_getElem (by omega)⟩
            have co : W2.cell? ⟨go, y, none⟩ = some (.bool bv) := by
              rw [(hk3.at_ 1 rfl).cell y, blv, List.getElem?_map, hbv]; rfl
            have HN : Hid (cntK out (g.kids.take (j + 1)) = cntK out (g.kids.take j) + if bv then 1 else 0) := by
              refine Lib.hid ?_
              rw [List.take_add_one, hx]
              show cntK out (g.kids.take j ++ [(y : Int)]) = _
              rw [cntK_append, Int.toNat_natCast, List.getD_eq_getElem?_getD, hbv]; rfl
            clear hx hbv hin hrun hxm HA HT HS
            cases bv with
            | true =>
              go_wp2_with fail
              go_round
              case rel => exact ⟨j + 1, hjl, by go_num, by rw [HN.out]; first | rfl | (simp; done)⟩
              case measure => simp [intOf]; omega
            | false =>
              go_wp2_with fail
              go_round
              case rel => exact ⟨j + 1, hjl, by go_num, by rw [HN.out]; first | rfl | (simp; done)⟩
              case measure => simp [intOf]; omega
          · have hjj : j = g.kids.length := by omega
            have HN : Hid (cntK out (g.kids.take j) = cntK out g.kids) := by
              refine Lib.hid ?_
              rw [hjj, List.take_length]
            rw [HN.out]
            clear HN hjj hin hrun hcb
            go_wp2_with fail
            go_roundw
            case rel => exact ⟨k, _, by omega, rfl, by simp [hol], HS.out _, Lib.hid (by rw [← HT.out, HA.out])⟩
            case measure => simp [intOf]
end Go.Proofs.YteaaeaimjbaomaaDoor
