import Derived.Test.YteaaeaimjbaomaaDoorFmA
import Derived.Test.YteaaeaimjbaomaaDoorHp
import Derived.Test.YteaaeaimjbaomaaDoorFmB
import Derived.Deep.LoopGhost
import Derived.Deep.DeepCutAuto
/-
  formula.truth.
-/
namespace Go.Proofs.YteaaeaimjbaomaaDoor
open Go.RowKit
set_option linter.unusedVariables false

def cntK (out : List Bool) : List Int → Int
  | [] => 0
  | x :: xs => (if out.getD x.toNat false then 1 else 0) + cntK out xs
def truthAt (L out : List Bool) (g : Gt) : Bool := if g.kids = [] then L.getD g.leaf.toNat false else decide (g.need ≤ cntK out g.kids)
def truthStep (F : List Gt) (L out : List Bool) (k : Nat) : List Bool := match F[k]? with
  | some g => out.set k (truthAt L out g)
  | none => out
def truthRun (F : List Gt) (L : List Bool) : Nat → List Bool → List Bool
  | 0, out => out
  | k + 1, out => truthRun F L k (truthStep F L out k)
def truthP (F : List Gt) (L : List Bool) : List Bool := truthRun F L F.length (List.replicate F.length false)
def blv (l : List Bool) : List Value := l.map Value.bool
/-- a slice of bools below block B -/
structure Bools (W : World) (B : Nat) (A : Option Addr) (l : List Bool) : Prop where
  some_ : l ≠ [] → ∃ ad, A = some ad ∧ ad.block < B ∧ Run W ad (blv l)
theorem Bools.keep {W W' : World} {B B' : Nat} {A : Option Addr} {l : List Bool} (h : Bools W B A l) (hb : Below B' W W') (hB : B ≤ B') : Bools W' B A l := ⟨fun hl => by
  obtain ⟨ad, h1, h2, h3⟩ := h.some_ hl
  exact ⟨ad, h1, h2, h3.keep hb (by omega)⟩⟩
theorem cntK_bd (out : List Bool) : ∀ ks, 0 ≤ cntK out ks ∧ cntK out ks ≤ ks.length
  | [] => by simp [cntK]
  | x :: xs => by
    have := cntK_bd out xs
    rw [cntK, List.length_cons]
    split <;> omega
theorem cntK_append (out : List Bool) (x : Int) : ∀ ks, cntK out (ks ++ [x]) = cntK out ks + if out.getD x.toNat false then 1 else 0
  | [] => by simp [cntK]
  | y :: ys => by rw [List.cons_append, cntK, cntK, cntK_append out x ys]; omega
theorem truthStep_length (F : List Gt) (L out : List Bool) (k : Nat) : (truthStep F L out k).length = out.length := by
  unfold truthStep; split <;> simp
theorem truthRun_length (F : List Gt) (L : List Bool) : ∀ k out, (truthRun F L k out).length = out.length
  | 0, out => rfl
  | k + 1, out => by rw [truthRun, truthRun_length F L k, truthStep_length]
theorem truthP_length (F : List Gt) (L : List Bool) : (truthP F L).length = F.length := by rw [truthP, truthRun_length, List.length_replicate]
end Go.Proofs.YteaaeaimjbaomaaDoor

/-
  formula.truth walked.
-/
namespace Go.Proofs.YteaaeaimjbaomaaDoor
open Go.RowKit
set_option linter.unusedVariables false

theorem make_bools (n : Nat) (hn : n ≤ 1000000) : ∀ w, (Instr.makeSlice 31 (.int .i64 (n : Int)) (.int .i64 (n : Int))).run Tryd.prog w = .ok (.slice (some ⟨w.heap.size, 0, none⟩) n n) (w.alloc (.cells (List.replicate n (.bool false)).toArray 4)) :=
  run_make_cells 31 4 Tryd.underlying31 (.bool false) rfl 1 (by kernel_rfl) n (by omega) (by omega)
/-- the gates are in order, and the leaves are there -/
def Valid (F : List Gt) (L : List Bool) : Prop := ∀ (i : Nat) g, F[i]? = some g → GOk F.length 0 L.length i g
def TruRel (w : World) (gf go : Nat) (A : Option Addr) (c : Nat) (F : List Gt) (L : List Bool) (i : Value) (W : World) : Prop :=
  ∃ (k : Nat) (out : List Bool), k ≤ F.length ∧ i = .int .i64 ((k : Int) - 1) ∧ out.length = F.length ∧ Kp w [(go, 4, blv out), (gf, 24, [.slice A F.length c])] W ∧ Hid (truthRun F L k out = truthP F L)
def CntRel (out : List Bool) (ks : List Int) (n i : Value) : Prop := ∃ j : Nat, j ≤ ks.length ∧ i = .int .i64 (j : Int) ∧ n = .int .i64 (cntK out (ks.take j))
set_option maxHeartbeats 2000000 in
theorem truth_any (A LA : Option Addr) (c lc : Nat) (F : List Gt) (L : List Bool) (hF : F.length ≤ 512) (hK : ∀ g ∈ F, g.kids.length ≤ 1000000) (hV : Valid F L) (w : World) (hG : Gates w w.heap.size A F) (hL : Bools w w.heap.size LA L) (hLl : L.length ≤ 1000000) (hne : F ≠ []) :
    Calls Tryd.prog 36 #[.agg #[.slice A F.length c], .slice LA L.length lc] w fun e w' => (∃ g, e = .returned (.slice (some ⟨g, 0, none⟩) F.length F.length) ∧ Blk w' g 4 (blv (truthP F L)) ∧ w.heap.size ≤ g) ∧ Below w.heap.size w w' := by
  have hpos : 0 < F.length := by
    rcases Nat.eq_zero_or_pos F.length with h | h
    · exact absurd (List.eq_nil_of_length_eq_zero h) hne
    · exact h
  have hmk := make_bools F.length (by omega)
  have hk0 : Kp w [(w.heap.size + 1, 4, blv (List.replicate F.length false)), (w.heap.size, 24, [.slice A F.length c])] ((w.alloc (.cells #[.slice A F.length c] 24)).alloc (.cells (Array.replicate F.length (.bool false)) 4)) := by
    have := ((Kp.start w).new 24 [.slice A F.length c]).new 4 (blv (List.replicate F.length false))
    simpa [blv] using this
  go_enter Tryd.func36, Tryd.ntmps36
  go_upto_region 4 with fail
  generalize (w.alloc (.cells #[.slice A F.length c] 24)).alloc (.cells (Array.replicate F.length (.bool false)) 4) = W1 at *
  have hD : w.heap.size ≤ w.heap.size ∧ w.heap.size < w.heap.size + 1 := by omega
  generalize w.heap.size + 1 = go at *
  have b0 := (hk0.at_ 1 rfl).cell 0
  simp only [List.getElem?_cons_zero] at b0
  go_upto_region 5 with fail
  clear b0 hmk
  go_loopw [6] (TruRel w w.heap.size go A c F L) (fun i _ => (intOf i + 1).toNat)
  case atStart => exact ⟨F.length, _, Nat.le_refl _, rfl, by simp, hk0, Lib.hid rfl⟩
  case round =>
    obtain ⟨k', out, hk', rfl, hol, hS, HR⟩ := hrel
    clear hk0
    cases k' with
    | zero =>
      have HT : Hid (out = truthP F L) := HR.out
      clear HR
      go_wp2_with fail
      go_ret
      exact ⟨⟨go, rfl, HT.out ▸ hS.at_ 0 rfl, by omega⟩, hS.below⟩
    | succ k =>
      have e0 : (((k + 1 : Nat) : Int) - 1) = (k : Int) := by omega
      rw [e0]
      have hk1 : k < F.length := by omega
      obtain ⟨g, hg⟩ : ∃ g, F[k]? = some g := ⟨_, List.getElem?_eq_getElem hk1⟩
      have hkl : g.kids.length ≤ 1000000 := hK g (List.mem_of_getElem? hg)
      have hok := hV k g hg
      obtain ⟨ad, hA, hab, hga⟩ := hG.some_ hne
      subst hA
      obtain ⟨KA, kc, gk', gi⟩ := (hga k g hg).kids
      have ga := (hga k g hg).keep hS.below (Nat.le_refl _) (by rw [add_block]; exact hab)
      have gk : wr.cell? ⟨(ad.add (k * 3)).block, (ad.add (k * 3)).off + 1, none⟩ = some (.slice KA g.kids.length kc) := by
        rw [hS.below.cell (p := ⟨(ad.add (k * 3)).block, (ad.add (k * 3)).off + 1, none⟩) (by show (ad.add (k * 3)).block < _; rw [add_block]; exact hab)]; exact gk'
      have gn1 := ga.need
      have gl := ga.leaf
      clear gk' ga
      have b0 := (hS.at_ 1 rfl).cell 0
      simp only [List.getElem?_cons_zero] at b0
      go_upto_region 8 with fail
      have hk2 := hS.new 40 [.int .i64 g.need, .slice KA g.kids.length kc, .int .i64 g.leaf]
      have hgo : go < wr.heap.size := (hS.at_ 0 rfl).lt
      have hk3 : Kp w [(wr.heap.size, 40, [.int .i64 g.need, .slice KA g.kids.length kc, .int .i64 g.leaf]), (go, 4, blv out), (w.heap.size, 24, [.slice (some ad) F.length c])] (wr.alloc (.cells #[.int .i64 g.need, .slice KA g.kids.length kc, .int .i64 g.leaf] 40)) := hk2
      clear hk2 b0 gn1 gl gk hS
      generalize wr.alloc (.cells #[.int .i64 g.need, .slice KA g.kids.length kc, .int .i64 g.leaf] 40) = W2 at *
      generalize wr.heap.size = g7 at *
      obtain ⟨b0, b1, b2⟩ := (hk3.at_ 0 rfl).get3
      have HT : Hid (truthRun F L k (out.set k (truthAt L out g)) = truthP F L) := by
        refine Lib.hid ?_
        have h9 := HR.out
        rw [truthRun, truthStep, hg] at h9
        exact h9
      clear HR
      have hkk : Kp w [(go, 4, blv out), (w.heap.size, 24, [.slice (some ad) F.length c])] W2 := hk3.sub (by intro x hx; exact List.mem_cons_of_mem _ hx)
      have hset : ∀ v : Bool, Kp w [(go, 4, blv (out.set k v)), (w.heap.size, 24, [.slice (some ad) F.length c])] (W2.setCell ⟨go, k, none⟩ (.bool v)) := fun v => by
        have h9 := hkk.setHead (by omega) (by intro x hx; simp at hx; subst hx; simp; omega) k (.bool v)
        rw [show (blv out).set k (.bool v) = blv (out.set k v) from by simp [blv, List.map_set]] at h9
        exact h9
      have HS := Lib.hid hset
      clear hset hkk
      have fo := (hk3.at_ 1 rfl).frozen k
      obtain ⟨o, ho⟩ : ∃ o, W2.cell? ⟨go, k, none⟩ = some o := ⟨_, by rw [(hk3.at_ 1 rfl).cell k]; exact List.getElem?_eq_getElem (by simp [blv]; omega)⟩
      by_cases hkz : g.kids = []
      · have hzz : ((g.kids.length : Int) == 0) = true := by rw [hkz]; rfl
        obtain ⟨l1, l2, l3⟩ := hok.1 hkz
        obtain ⟨j, hj⟩ := Int.eq_ofNat_of_zero_le l2
        have hjl : j < L.length := by omega
        obtain ⟨la, hLA, hlb, hlr⟩ := hL.some_ (by rintro rfl; simp at hjl)
        subst hLA
        obtain ⟨bv, hbv⟩ : ∃ bv, L[j]? = some bv := ⟨_, List.getElem?_eq_getElem hjl⟩
        have cl : W2.cell? (la.add j) = some (.bool bv) := by
          rw [hk3.below.cell (p := la.add j) (by rw [add_block]; exact hlb)]
          exact hlr j _ (by rw [blv, List.getElem?_map, hbv]; rfl)
        have HA : Hid (truthAt L out g = bv) := by
          refine Lib.hid ?_
          rw [truthAt, if_pos hkz, hj, Int.toNat_natCast, List.getD_eq_getElem?_getD, hbv]; rfl
        rw [hj] at b2
        clear hkz hok l1 l2 l3 hj hbv hlr hL hV hG hK hga gi
        go_wp2_with fail
        go_roundw
        case rel => exact ⟨k, _, by omega, rfl, by simp [hol], HS.out bv, Lib.hid (by rw [← HT.out, HA.out])⟩
        case measure => simp [intOf]
      · have hzz : ((g.kids.length : Int) == 0) = false := by
          rw [beq_eq_false_iff_ne]
          intro h9
          exact hkz (List.eq_nil_of_length_eq_zero (by omega))
        have HA : Hid (truthAt L out g = decide (g.need ≤ cntK out g.kids)) := by
          refine Lib.hid ?_
          rw [truthAt, if_neg hkz]
        have hin := hok.2.2
        have HB := Lib.hid hk3
        obtain ⟨ka, hKA, hkb, hrun⟩ := gi.some_ hkz
        subst hKA
        clear hkz hok hL hV hG hK hga gi
        go_upto_region 12 with fail
        go_loop [8, 47] (CntRel out g.kids) (fun _ i => g.kids.length - (intOf i).toNat)
        case atStart => exact ⟨0, Nat.zero_le _, rfl, rfl⟩
        case round =>
          obtain ⟨j, hj, rfl, rfl⟩ := hrel
          have hcb := cntK_bd out (g.kids.take j)
          have hlt2 : (g.kids.take j).length ≤ 1000000 := by rw [List.length_take]; omega
          by_cases hjl : j < g.kids.length
          · obtain ⟨x, hx⟩ : ∃ x, g.kids[j]? = some x := ⟨_, List.getElem?_eq_getElem hjl⟩
            have hxm := hin x (List.mem_of_getElem? hx)
            obtain ⟨y, rfl⟩ := Int.eq_ofNat_of_zero_le (show 0 ≤ x by omega)
            have hyl : y < F.length := by omega
            have cx : W2.cell? (ka.add j) = some (.int .i64 (y : Int)) := by
              rw [hk3.below.cell (p := ka.add j) (by rw [add_block]; exact hkb)]
              exact hrun j _ (by rw [List.getElem?_map, hx]; rfl)
            obtain ⟨bv, hbv⟩ : ∃ bv, out[y]? = some bv := ⟨_, List.getElem?_eq_getElem (by omega)⟩
            have co : W2.cell? ⟨go, y, none⟩ = some (.bool bv) := by
              rw [(hk3.at_ 1 rfl).cell y, blv, List.getElem?_map, hbv]; rfl
            have HN : Hid (cntK out (g.kids.take (j + 1)) = cntK out (g.kids.take j) + if bv then 1 else 0) := by
              refine Lib.hid ?_
              rw [List.take_add_one, hx]
              show cntK out (g.kids.take j ++ [(y : Int)]) = _
              rw [cntK_append, Int.toNat_natCast, List.getD_eq_getElem?_getD, hbv]; rfl
            clear hx hbv hin hrun hxm HA HT HS
            cases bv with
            | true =>
              go_wp2_with fail
              go_round
              case rel => exact ⟨j + 1, hjl, by go_num, by rw [HN.out]; first | rfl | (simp; done)⟩
              case measure => simp [intOf]; omega
            | false =>
              go_wp2_with fail
              go_round
              case rel => exact ⟨j + 1, hjl, by go_num, by rw [HN.out]; first | rfl | (simp; done)⟩
              case measure => simp [intOf]; omega
          · have hjj : j = g.kids.length := by omega
            have HN : Hid (cntK out (g.kids.take j) = cntK out g.kids) := by
              refine Lib.hid ?_
              rw [hjj, List.take_length]
            rw [HN.out]
            clear HN hjj hin hrun hcb
            go_wp2_with fail
            go_roundw
            case rel => exact ⟨k, _, by omega, rfl, by simp [hol], HS.out _, Lib.hid (by rw [← HT.out, HA.out])⟩
            case measure => simp [intOf]
end Go.Proofs.YteaaeaimjbaomaaDoor

/-
  formula.Truth.
-/
namespace Go.Proofs.YteaaeaimjbaomaaDoor
open Go.RowKit
set_option linter.unusedVariables false

theorem Bools.up {W W' : World} {A : Option Addr} {l : List Bool} (h : Bools W W.heap.size A l) (hb : Below W.heap.size W W') : Bools W' W'.heap.size A l := ⟨fun hl => by
  obtain ⟨ad, h1, h2, h3⟩ := h.some_ hl
  have := hb.size
  exact ⟨ad, h1, by omega, h3.keep hb h2⟩⟩
theorem check_valid {F : List Gt} {L : List Bool} (h : checkP F L.length = 0) : Valid F L ∧ F.length ≤ 512 := by
  unfold checkP at h
  by_cases h1 : 512 < F.length ∨ (L.length : Int) < 0 ∨ 256 < (L.length : Int)
  · rw [if_pos h1] at h; cases h
  · rw [if_neg h1] at h
    by_cases h2 : (leavesP F).2 = false
    · rw [if_pos h2] at h; cases h
    · rw [if_neg h2] at h
      by_cases h3 : (leavesP F).1 ≠ L.length
      · rw [if_pos h3] at h; cases h
      · have e : leavesP F = ((L.length : Int), true) := by
          apply Prod.ext
          · exact Classical.byContradiction fun h9 => h3 h9
          · simpa using h2
        exact ⟨valid_gates e, by omega⟩
def truthL (F : List Gt) (L : List Bool) : List Bool := if checkP F L.length = 0 then truthP F L else []
def SliceOut (er : Int) (l : List Bool) (e : Ending) (w' : World) : Prop := ∃ A c, e = .returned (.tuple #[.slice A l.length c, .int .i64 er]) ∧ Bools w' w'.heap.size A l
theorem Blk.bools {W : World} {g : Nat} {l : List Bool} (h : Blk W g 4 (blv l)) : Bools W W.heap.size (some ⟨g, 0, none⟩) l :=
  ⟨fun _ => ⟨_, rfl, h.lt, fun i v hv => by
    have := h.cell i
    have e : (⟨g, 0, none⟩ : Addr).add i = ⟨g, i, none⟩ := by unfold Addr.add; split <;> simp_all
    rw [e, this]; exact hv⟩⟩
set_option maxHeartbeats 1000000 in
theorem truth_nil (A LA : Option Addr) (c lc n : Nat) (w : World) :
    Calls Tryd.prog 36 #[.agg #[.slice A 0 c], .slice LA n lc] w fun e w' => e = .returned (.slice none 0 0) ∧ Below w.heap.size w w' := by
  have hb : Below w.heap.size w (w.alloc (.cells #[.slice A 0 c] 24)) := (Below.refl _ _).alloc (Nat.le_refl _) _
  go_enter Tryd.func36, Tryd.ntmps36
  go_wp2_with fail
  refine wp_loop_rounds 1 ?_
  rw [rounds_succ]
  go_wp2_with fail
  go_ret
  exact ⟨rfl, hb⟩
set_option maxHeartbeats 1000000 in
theorem Truth_any (A LA : Option Addr) (c lc : Nat) (F : List Gt) (L : List Bool) (hF : F.length ≤ 1000000) (hK : ∀ g ∈ F, g.kids.length ≤ 1000000) (w : World) (hG : Gates w w.heap.size A F) (hL : Bools w w.heap.size LA L) (hLl : L.length ≤ 1000000) :
    Calls Tryd.prog 16 #[.agg #[.slice A F.length c], .slice LA L.length lc] w fun e w' => SliceOut (checkP F L.length) (truthL F L) e w' ∧ Below w.heap.size w w' := by
  have hk := (Kp.start w).new 24 [.slice A F.length c]
  have HC := Lib.hid (check_any A c F L.length hF hK (w.alloc (.cells #[.slice A F.length c] 24)) (hG.keep' hk.below))
  by_cases h0 : checkP F L.length = 0
  · obtain ⟨hV, h512⟩ := check_valid h0
    have HT : Hid (truthL F L = truthP F L) := by refine Lib.hid ?_; rw [truthL, if_pos h0]
    rw [h0] at HC
    have H0 := Lib.hid h0
    clear h0
    go_enter Tryd.func16, Tryd.ntmps16
    go_wp2_with fail
    refine HC.out.mono ?_
    rintro e w1 ⟨rfl, hb1⟩
    have hk1 := hk.next hb1
    have b0 := (hk1.at_ 0 rfl).cell 0
    simp only [List.getElem?_cons_zero] at b0
    go_wp2_with fail
    by_cases hz : F = []
    · subst hz
      refine (truth_nil A LA c lc L.length w1).mono ?_
      rintro e w2 ⟨rfl, hb2⟩
      go_wp2_with fail
      go_ret2
      rw [H0.out, HT.out]
      exact ⟨⟨none, 0, rfl, ⟨fun h9 => absurd rfl h9⟩⟩, (hk1.next hb2).below⟩
    · refine (truth_any A LA c lc F L h512 hK hV w1 (hG.keep' hk1.below) (hL.up hk1.below) hLl hz).mono ?_
      rintro e w2 ⟨⟨g, rfl, hg, _⟩, hb2⟩
      go_wp2_with fail
      go_ret2
      rw [H0.out, HT.out]
      exact ⟨⟨_, F.length, by rw [truthP_length]; rfl, hg.bools⟩, (hk1.next hb2).below⟩
  · have HT : Hid (truthL F L = []) := by refine Lib.hid ?_; rw [truthL, if_neg h0]
    have t1 : (checkP F L.length != 0) = true := by simpa using h0
    go_enter Tryd.func16, Tryd.ntmps16
    go_wp2_with fail
    refine HC.out.mono ?_
    rintro e w1 ⟨rfl, hb1⟩
    have hk1 := hk.next hb1
    go_wp2_with fail
    go_ret2
    rw [HT.out]
    exact ⟨⟨none, 0, rfl, ⟨fun h9 => absurd rfl h9⟩⟩, hk1.below⟩
end Go.Proofs.YteaaeaimjbaomaaDoor

/-
  dominoref20.Truth.
-/
namespace Go.Proofs.YteaaeaimjbaomaaDoor
open Go.RowKit
set_option linter.unusedVariables false

set_option maxHeartbeats 2000000 in
theorem rTruth_ok (A LA : Option Addr) (c lc : Nat) (F : List Gt) (L : List Bool) (hF : F.length ≤ 512) (hK : ∀ g ∈ F, g.kids.length ≤ 1000000) (hV : Valid F L) (w : World) (hG : Gates w w.heap.size A F) (hL : Bools w w.heap.size LA L) (hLl : L.length ≤ 1000000) (h0 : checkP F L.length = 0) :
    Calls Tryd.prog 17 #[.agg #[.slice A F.length c], .slice LA L.length lc] w fun e w' => (∃ g, e = .returned (.tuple #[.slice (some ⟨g, 0, none⟩) F.length F.length, .int .i64 0]) ∧ Blk w' g 4 (blv (truthP F L)) ∧ w.heap.size ≤ g) ∧ Below w.heap.size w w' := by
  have hmk := make_bools F.length (by omega)
  have hk := (Kp.start w).new 24 [.slice A F.length c]
  have HC := Lib.hid (rcheck_any A c F L.length (by omega) hK (w.alloc (.cells #[.slice A F.length c] 24)) (hG.keep' hk.below))
  rw [h0] at HC
  clear h0
  go_enter Tryd.func17, Tryd.ntmps17
  go_wp2_with fail
  refine HC.out.mono ?_
  rintro e w1 ⟨rfl, hb1⟩
  have hk1 := hk.next hb1
  have hz : w.heap.size < w1.heap.size := (hk1.at_ 0 rfl).lt
  clear hk hb1 HC
  have hk0 : Kp w [(w1.heap.size, 4, blv (List.replicate F.length false)), (w.heap.size, 24, [.slice A F.length c])] (w1.alloc (.cells (Array.replicate F.length (.bool false)) 4)) := by
    have := hk1.new 4 (blv (List.replicate F.length false))
    simpa [blv] using this
  have b0 := (hk1.at_ 0 rfl).cell 0
  simp only [List.getElem?_cons_zero] at b0
  clear hk1
  go_upto_region 5 with fail
  clear b0 hmk
  generalize w1.alloc (.cells (Array.replicate F.length (.bool false)) 4) = W1 at *
  generalize w1.heap.size = go at *
  have hD : w.heap.size ≤ w.heap.size ∧ w.heap.size < go := ⟨Nat.le_refl _, hz⟩
  have b0 := (hk0.at_ 1 rfl).cell 0
  simp only [List.getElem?_cons_zero] at b0
  go_upto_region 6 with fail
  clear b0
  go_loopw [8] (TruRel w w.heap.size go A c F L) (fun i _ => (intOf i + 1).toNat)
  case atStart => exact ⟨F.length, _, Nat.le_refl _, rfl, by simp, hk0, Lib.hid rfl⟩
  case round =>
    obtain ⟨k', out, hk', rfl, hol, hS, HR⟩ := hrel
    clear hk0
    cases k' with
    | zero =>
      have HT : Hid (out = truthP F L) := HR.out
      clear HR
      go_wp2_with fail
      go_ret2
      exact ⟨⟨go, rfl, HT.out ▸ hS.at_ 0 rfl, by omega⟩, hS.below⟩
    | succ k =>
      have e0 : (((k + 1 : Nat) : Int) - 1) = (k : Int) := by omega
      rw [e0]
      have hk1 : k < F.length := by omega
      obtain ⟨g, hg⟩ : ∃ g, F[k]? = some g := ⟨_, List.getElem?_eq_getElem hk1⟩
      have hkl : g.kids.length ≤ 1000000 := hK g (List.mem_of_getElem? hg)
      have hok := hV k g hg
      obtain ⟨ad, hA, hab, hga⟩ := hG.some_ (by rintro rfl; simp at hk1)
      subst hA
      obtain ⟨KA, kc, gk', gi⟩ := (hga k g hg).kids
      have ga := (hga k g hg).keep hS.below (Nat.le_refl _) (by rw [add_block]; exact hab)
      have gk : wr.cell? ⟨(ad.add (k * 3)).block, (ad.add (k * 3)).off + 1, none⟩ = some (.slice KA g.kids.length kc) := by
        rw [hS.below.cell (p := ⟨(ad.add (k * 3)).block, (ad.add (k * 3)).off + 1, none⟩) (by show (ad.add (k * 3)).block < _; rw [add_block]; exact hab)]; exact gk'
      have gn1 := ga.need
      have gl := ga.leaf
      clear gk' ga
      have b0 := (hS.at_ 1 rfl).cell 0
      simp only [List.getElem?_cons_zero] at b0
      go_upto_region 9 with fail
      have hk2 := hS.new 40 [.int .i64 g.need, .slice KA g.kids.length kc, .int .i64 g.leaf]
      have hgo : go < wr.heap.size := (hS.at_ 0 rfl).lt
      have hk3 : Kp w [(wr.heap.size, 40, [.int .i64 g.need, .slice KA g.kids.length kc, .int .i64 g.leaf]), (go, 4, blv out), (w.heap.size, 24, [.slice (some ad) F.length c])] (wr.alloc (.cells #[.int .i64 g.need, .slice KA g.kids.length kc, .int .i64 g.leaf] 40)) := hk2
      clear hk2 b0 gn1 gl gk hS
      generalize wr.alloc (.cells #[.int .i64 g.need, .slice KA g.kids.length kc, .int .i64 g.leaf] 40) = W2 at *
      generalize wr.heap.size = g7 at *
      obtain ⟨b0, b1, b2⟩ := (hk3.at_ 0 rfl).get3
      have HT : Hid (truthRun F L k (out.set k (truthAt L out g)) = truthP F L) := by
        refine Lib.hid ?_
        have h9 := HR.out
        rw [truthRun, truthStep, hg] at h9
        exact h9
      clear HR
      have hkk : Kp w [(go, 4, blv out), (w.heap.size, 24, [.slice (some ad) F.length c])] W2 := hk3.sub (by intro x hx; exact List.mem_cons_of_mem _ hx)
      have hset : ∀ v : Bool, Kp w [(go, 4, blv (out.set k v)), (w.heap.size, 24, [.slice (some ad) F.length c])] (W2.setCell ⟨go, k, none⟩ (.bool v)) := fun v => by
        have h9 := hkk.setHead (by omega) (by intro x hx; simp at hx; subst hx; simp; omega) k (.bool v)
        rw [show (blv out).set k (.bool v) = blv (out.set k v) from by simp [blv, List.map_set]] at h9
        exact h9
      have HS := Lib.hid hset
      clear hset hkk
      have fo := (hk3.at_ 1 rfl).frozen k
      obtain ⟨o, ho⟩ : ∃ o, W2.cell? ⟨go, k, none⟩ = some o := ⟨_, by rw [(hk3.at_ 1 rfl).cell k]; exact List.getElem?_eq_getElem (by simp [blv]; omega)⟩
      by_cases hkz : g.kids = []
      · have hzz : ((g.kids.length : Int) == 0) = true := by rw [hkz]; rfl
        obtain ⟨l1, l2, l3⟩ := hok.1 hkz
        obtain ⟨j, hj⟩ := Int.eq_ofNat_of_zero_le l2
        have hjl : j < L.length := by omega
        obtain ⟨la, hLA, hlb, hlr⟩ := hL.some_ (by rintro rfl; simp at hjl)
        subst hLA
        obtain ⟨bv, hbv⟩ : ∃ bv, L[j]? = some bv := ⟨_, List.getElem?_eq_getElem hjl⟩
        have cl : W2.cell? (la.add j) = some (.bool bv) := by
          rw [hk3.below.cell (p := la.add j) (by rw [add_block]; exact hlb)]
          exact hlr j _ (by rw [blv, List.getElem?_map, hbv]; rfl)
        have HA : Hid (truthAt L out g = bv) := by
          refine Lib.hid ?_
          rw [truthAt, if_pos hkz, hj, Int.toNat_natCast, List.getD_eq_getElem?_getD, hbv]; rfl
        rw [hj] at b2
        clear hkz hok l1 l2 l3 hj hbv hlr hL hV hG hK hga gi
        go_wp2_with fail
        go_roundw
        case rel => exact ⟨k, _, by omega, rfl, by simp [hol], HS.out bv, Lib.hid (by rw [← HT.out, HA.out])⟩
        case measure => simp [intOf]
      · have hzz : ((g.kids.length : Int) == 0) = false := by
          rw [beq_eq_false_iff_ne]
          intro h9
          exact hkz (List.eq_nil_of_length_eq_zero (by omega))
        have HA : Hid (truthAt L out g = decide (g.need ≤ cntK out g.kids)) := by
          refine Lib.hid ?_
          rw [truthAt, if_neg hkz]
        have hin := hok.2.2
        have HB := Lib.hid hk3
        obtain ⟨ka, hKA, hkb, hrun⟩ := gi.some_ hkz
        subst hKA
        clear hkz hok hL hV hG hK hga gi
        go_upto_region 13 with fail
        go_loop [10, 11] (CntRel out g.kids) (fun _ i => g.kids.length - (intOf i).toNat)
        case atStart => exact ⟨0, Nat.zero_le _, rfl, rfl⟩
        case round =>
          obtain ⟨j, hj, rfl, rfl⟩ := hrel
          have hcb := cntK_bd out (g.kids.take j)
          have hlt2 : (g.kids.take j).length ≤ 1000000 := by rw [List.length_take]; omega
          by_cases hjl : j < g.kids.length
          · obtain ⟨x, hx⟩ : ∃ x, g.kids[j]? = some x := ⟨_, List.getElem?_eq_getElem hjl⟩
            have hxm := hin x (List.mem_of_getElem? hx)
            obtain ⟨y, rfl⟩ := Int.eq_ofNat_of_zero_le (show 0 ≤ x by omega)
            have hyl : y < F.length := by omega
            have cx : W2.cell? (ka.add j) = some (.int .i64 (y : Int)) := by
              rw [hk3.below.cell (p := ka.add j) (by rw [add_block]; exact hkb)]
              exact hrun j _ (by rw [List.getElem?_map, hx]; rfl)
            obtain ⟨bv, hbv⟩ : ∃ bv, out[y]? = some bv := ⟨_, List.getElem?_eq_getElem (by omega)⟩
            have co : W2.cell? ⟨go, y, none⟩ = some (.bool bv) := by
              rw [(hk3.at_ 1 rfl).cell y, blv, List.getElem?_map, hbv]; rfl
            have HN : Hid (cntK out (g.kids.take (j + 1)) = cntK out (g.kids.take j) + if bv then 1 else 0) := by
              refine Lib.hid ?_
              rw [List.take_add_one, hx]
              show cntK out (g.kids.take j ++ [(y : Int)]) = _
              rw [cntK_append, Int.toNat_natCast, List.getD_eq_getElem?_getD, hbv]; rfl
            clear hx hbv hin hrun hxm HA HT HS
            cases bv with
            | true =>
              go_wp2_with fail
              go_round
              case rel => exact ⟨j + 1, hjl, by go_num, by rw [HN.out]; first | rfl | (simp; done)⟩
              case measure => simp [intOf]; omega
            | false =>
              go_wp2_with fail
              go_round
              case rel => exact ⟨j + 1, hjl, by go_num, by rw [HN.out]; first | rfl | (simp; done)⟩
              case measure => simp [intOf]; omega
          · have hjj : j = g.kids.length := by omega
            have HN : Hid (cntK out (g.kids.take j) = cntK out g.kids) := by
              refine Lib.hid ?_
              rw [hjj, List.take_length]
            rw [HN.out]
            clear HN hjj hin hrun hcb
            go_wp2_with fail
            go_roundw
            case rel => exact ⟨k, _, by omega, rfl, by simp [hol], HS.out _, Lib.hid (by rw [← HT.out, HA.out])⟩
            case measure => simp [intOf]
set_option maxHeartbeats 1000000 in
theorem rTruth_any (A LA : Option Addr) (c lc : Nat) (F : List Gt) (L : List Bool) (hF : F.length ≤ 1000000) (hK : ∀ g ∈ F, g.kids.length ≤ 1000000) (w : World) (hG : Gates w w.heap.size A F) (hL : Bools w w.heap.size LA L) (hLl : L.length ≤ 1000000) :
    Calls Tryd.prog 17 #[.agg #[.slice A F.length c], .slice LA L.length lc] w fun e w' => SliceOut (checkP F L.length) (truthL F L) e w' ∧ Below w.heap.size w w' := by
  by_cases h0 : checkP F L.length = 0
  · obtain ⟨hV, h512⟩ := check_valid h0
    refine (rTruth_ok A LA c lc F L h512 hK hV w hG hL hLl h0).mono ?_
    rintro e w' ⟨⟨g, rfl, hg, _⟩, hb⟩
    rw [h0, truthL, if_pos h0]
    exact ⟨⟨_, F.length, by rw [truthP_length], hg.bools⟩, hb⟩
  · have hk := (Kp.start w).new 24 [.slice A F.length c]
    have HC := Lib.hid (rcheck_any A c F L.length hF hK (w.alloc (.cells #[.slice A F.length c] 24)) (hG.keep' hk.below))
    have HT : Hid (truthL F L = []) := by refine Lib.hid ?_; rw [truthL, if_neg h0]
    have t1 : (checkP F L.length != 0) = true := by simpa using h0
    go_enter Tryd.func17, Tryd.ntmps17
    go_wp2_with fail
    refine HC.out.mono ?_
    rintro e w1 ⟨rfl, hb1⟩
    have hk1 := hk.next hb1
    go_wp2_with fail
    go_ret2
    rw [HT.out]
    exact ⟨⟨none, 0, rfl, ⟨fun h9 => absurd rfl h9⟩⟩, hk1.below⟩
end Go.Proofs.YteaaeaimjbaomaaDoor

/-
  Honest gates, plain.
-/
namespace Go.Proofs.YteaaeaimjbaomaaDoor
open Go.RowKit
set_option linter.unusedVariables false

def honKidsP (T : List Bool) : List Int → Int → List Bool → List Bool
  | [], _, out => out
  | x :: xs, left, out => if T.getD x.toNat false = true ∧ 0 < left then honKidsP T xs (left - 1) (out.set x.toNat true) else honKidsP T xs left out
def honStep (F : List Gt) (T out : List Bool) (i : Nat) : List Bool := match F[i]? with
  | some g => if out.getD i false then honKidsP T g.kids g.need out else out
  | none => out
def honRun (F : List Gt) (T : List Bool) : Nat → Nat → List Bool → List Bool
  | 0, _, out => out
  | m + 1, i, out => honRun F T m (i + 1) (honStep F T out i)
def honestP (F : List Gt) (T : List Bool) : List Bool := honRun F T F.length 0 ((List.replicate F.length false).set 0 (T.getD 0 false))
theorem honKidsP_length (T : List Bool) : ∀ ks left out, (honKidsP T ks left out).length = out.length
  | [], _, _ => rfl
  | x :: xs, left, out => by
    rw [honKidsP]
    split
    · rw [honKidsP_length T xs]; simp
    · rw [honKidsP_length T xs]
theorem honStep_length (F : List Gt) (T out : List Bool) (i : Nat) : (honStep F T out i).length = out.length := by
  unfold honStep
  split
  · split
    · rw [honKidsP_length]
    · rfl
  · rfl
theorem honRun_length (F : List Gt) (T : List Bool) : ∀ m i out, (honRun F T m i out).length = out.length
  | 0, _, _ => rfl
  | m + 1, i, out => by rw [honRun, honRun_length F T m, honStep_length]
theorem honestP_length (F : List Gt) (T : List Bool) : (honestP F T).length = F.length := by rw [honestP, honRun_length]; simp
end Go.Proofs.YteaaeaimjbaomaaDoor

/-
  formula.Honest walked.
-/
namespace Go.Proofs.YteaaeaimjbaomaaDoor
open Go.RowKit
set_option linter.unusedVariables false

def honestL (F : List Gt) (L : List Bool) : List Bool := if checkP F L.length = 0 then honestP F (truthP F L) else []
def HonRel (w : World) (go : Nat) (F : List Gt) (T : List Bool) (R : List Bool) (i : Value) (W : World) : Prop :=
  ∃ (k : Nat) (out : List Bool), k ≤ F.length ∧ i = .int .i64 (k : Int) ∧ out.length = F.length ∧ Kp w [(go, 4, blv out)] W ∧ Hid (honRun F T (F.length - k) k out = R)
def HonKid (w : World) (go : Nat) (F : List Gt) (T : List Bool) (ks : List Int) (at_ : Nat) (v : Bool) (R : List Bool) (left i : Value) (W : World) : Prop :=
  ∃ (j : Nat) (lf : Int) (out : List Bool), j ≤ ks.length ∧ i = .int .i64 (j : Int) ∧ left = .int .i64 lf ∧ -1000000 ≤ lf ∧ lf ≤ 1000000 ∧ out.length = F.length ∧ out.getD at_ false = v ∧ Kp w [(go, 4, blv out)] W ∧ Hid ((if v then honKidsP T (ks.drop j) lf out else out) = R)
set_option maxHeartbeats 2000000 in
theorem Honest_ok (A LA : Option Addr) (c lc : Nat) (F : List Gt) (L : List Bool) (hF : F.length ≤ 512) (hK : ∀ g ∈ F, g.kids.length ≤ 1000000) (hV : Valid F L) (w : World) (hG : Gates w w.heap.size A F) (hL : Bools w w.heap.size LA L) (hLl : L.length ≤ 1000000) (h0 : checkP F L.length = 0) (hne : F ≠ []) :
    Calls Tryd.prog 18 #[.agg #[.slice A F.length c], .slice LA L.length lc] w fun e w' => (∃ g, e = .returned (.tuple #[.slice (some ⟨g, 0, none⟩) F.length F.length, .int .i64 0]) ∧ Blk w' g 4 (blv (honestP F (truthP F L))) ∧ w.heap.size ≤ g) ∧ Below w.heap.size w w' := by
  have hpos : 0 < F.length := by
    rcases Nat.eq_zero_or_pos F.length with h | h
    · exact absurd (List.eq_nil_of_length_eq_zero h) hne
    · exact h
  have hmk := make_bools F.length (by omega)
  have hk := (Kp.start w).new 24 [.slice A F.length c]
  have HC := Lib.hid (Truth_any A LA c lc F L (by omega) hK (w.alloc (.cells #[.slice A F.length c] 24)) (hG.keep' hk.below) (hL.up hk.below) hLl)
  rw [h0, truthL, if_pos h0] at HC
  have hTl := truthP_length F L
  generalize truthP F L = T at *
  clear h0
  go_enter Tryd.func18, Tryd.ntmps18
  go_wp2_with fail
  refine HC.out.mono ?_
  rintro e w1 ⟨⟨TA, tc, rfl, hT⟩, hb1⟩
  rw [hTl]
  have hk1 := hk.next hb1
  clear hk hb1 HC
  obtain ⟨ta, hTA, htb, htr⟩ := hT.some_ (by rintro rfl; simp at hTl; omega)
  subst hTA
  go_upto_region 4 with fail
  have c0 : w1.cell? ⟨w.heap.size, 0, none⟩ = some (.slice A F.length c) := (hk1.at_ 0 rfl).cell 0
  have hgf : w.heap.size < w1.heap.size := (hk1.at_ 0 rfl).lt
  have hG1 := hG.keep' hk1.below
  have hb0 := hk1.below
  have hk2 : Kp w1 [(w1.heap.size, 4, blv (List.replicate F.length false))] (w1.alloc (.cells (Array.replicate F.length (.bool false)) 4)) := by
    have := (Kp.start w1).new 4 (blv (List.replicate F.length false))
    simpa [blv] using this
  clear hk1 hG hL
  go_upto_region 5 with fail
  clear hmk
  generalize w1.alloc (.cells (Array.replicate F.length (.bool false)) 4) = W2 at *
  have hgo : w1.heap.size ≤ w1.heap.size := Nat.le_refl _
  generalize hgg : w1.heap.size = go at hk2
  obtain ⟨t0, ht0⟩ : ∃ t0, T[0]? = some t0 := ⟨_, List.getElem?_eq_getElem (by omega)⟩
  have ct : W2.cell? ta = some (.bool t0) := by
    have h9 := htr 0 (.bool t0) (by rw [blv, List.getElem?_map, ht0]; rfl)
    rw [hk2.below.cell (p := ta) (by omega)]
    simpa [Addr.add] using h9
  have co : W2.cell? ⟨go, 0, none⟩ = some (.bool false) := by
    rw [(hk2.at_ 0 rfl).cell 0]; simp [blv, hpos]
  have fo := (hk2.at_ 0 rfl).frozen 0
  go_upto_region 6 with fail
  have hk3 : Kp w1 [(go, 4, blv ((List.replicate F.length false).set 0 t0))] (W2.setCell ⟨go, 0, none⟩ (.bool t0)) := by
    have h9 := hk2.setHead (by omega) (by intro x hx; cases hx) 0 (.bool t0)
    rw [show (blv (List.replicate F.length false)).set 0 (.bool t0) = blv ((List.replicate F.length false).set 0 t0) from by simp [blv, List.map_set]] at h9
    exact h9
  have HP : Hid (honRun F T F.length 0 ((List.replicate F.length false).set 0 t0) = honestP F T) := by
    refine Lib.hid ?_
    rw [honestP, List.getD_eq_getElem?_getD, ht0]; rfl
  clear hk2 ct co fo
  generalize W2.setCell ⟨go, 0, none⟩ (.bool t0) = W3 at *
  have c1 : W3.cell? ⟨w.heap.size, 0, none⟩ = some (.slice A F.length c) := by rw [hk3.below.cell (p := ⟨w.heap.size, 0, none⟩) hgf]; exact c0
  go_upto_region 7 with fail
  clear c1
  go_loopw [39] (HonRel w1 go F T (honestP F T)) (fun i _ => F.length - (intOf i).toNat)
  case atStart => exact ⟨0, _, Nat.zero_le _, rfl, by simp, hk3, HP⟩
  case round =>
    obtain ⟨k, out, hk', rfl, hol, hS, HR⟩ := hrel
    clear hk3 HP
    by_cases hkl : k < F.length
    · obtain ⟨g, hg⟩ : ∃ g, F[k]? = some g := ⟨_, List.getElem?_eq_getElem hkl⟩
      have hkn : g.kids.length ≤ 1000000 := hK g (List.mem_of_getElem? hg)
      have hok := hV k g hg
      obtain ⟨ad, hA, hab, hga⟩ := hG1.some_ hne
      subst hA
      obtain ⟨KA, kc, gk', gi⟩ := (hga k g hg).kids
      have ga := (hga k g hg).keep hS.below (Nat.le_refl _) (by rw [add_block]; exact hab)
      have gk : wr.cell? ⟨(ad.add (k * 3)).block, (ad.add (k * 3)).off + 1, none⟩ = some (.slice KA g.kids.length kc) := by
        rw [hS.below.cell (p := ⟨(ad.add (k * 3)).block, (ad.add (k * 3)).off + 1, none⟩) (by show (ad.add (k * 3)).block < _; rw [add_block]; exact hab)]; exact gk'
      have gn1 := ga.need
      have gl := ga.leaf
      have hnd : -1000000 ≤ g.need ∧ g.need ≤ 1000000 := by
        by_cases hz : g.kids = []
        · have := hok.1 hz; omega
        · have := hok.2.1 hz; omega
      clear gk' ga
      go_upto_region 9 with fail
      have hS2 : Kp w1 [(go, 4, blv out)] (wr.alloc (.cells #[.int .i64 g.need, .slice KA g.kids.length kc, .int .i64 g.leaf] 40)) := hS.alloc _
      obtain ⟨b0, b1, b2⟩ := (Blk.new wr 40 [.int .i64 g.need, .slice KA g.kids.length kc, .int .i64 g.leaf]).get3
      clear gn1 gl gk hS
      have b0' : (wr.alloc (.cells #[.int .i64 g.need, .slice KA g.kids.length kc, .int .i64 g.leaf] 40)).cell? ⟨wr.heap.size, 0, none⟩ = some (.int .i64 g.need) := b0
      have b1' : (wr.alloc (.cells #[.int .i64 g.need, .slice KA g.kids.length kc, .int .i64 g.leaf] 40)).cell? ⟨wr.heap.size, 1, none⟩ = some (.slice KA g.kids.length kc) := b1
      clear b0 b1 b2
      generalize wr.alloc (.cells #[.int .i64 g.need, .slice KA g.kids.length kc, .int .i64 g.leaf] 40) = W4 at *
      generalize wr.heap.size = g10 at *
      go_upto_region 11 with fail
      clear b0' b1'
      have HQ : Hid (honRun F T (F.length - (k + 1)) (k + 1) (honStep F T out k) = honestP F T) := by
        refine Lib.hid ?_
        have h9 := HR.out
        rw [show F.length - k = (F.length - (k + 1)) + 1 by omega, honRun] at h9
        exact h9
      clear HR
      have HR0 : Hid ((if out.getD k false then honKidsP T (g.kids.drop 0) g.need out else out) = honStep F T out k) := by
        refine Lib.hid ?_
        rw [honStep, hg]; rfl
      have hin := hok.2.2
      go_loopw [11, 49] (HonKid w1 go F T g.kids k (out.getD k false) (honStep F T out k)) (fun _ i _ => g.kids.length - (intOf i).toNat)
      case atStart => exact ⟨0, g.need, out, Nat.zero_le _, rfl, rfl, hnd.1, hnd.2, hol, rfl, hS2, HR0⟩
      case round =>
        obtain ⟨j, lf, o2, hj, rfl, rfl, hl1, hl2, ho2, hov, hS, HR⟩ := hrel
        clear HR0 hS2
        by_cases hjl : j < g.kids.length
        · obtain ⟨ka, hKA, hkb, hrun⟩ := gi.some_ (by rintro h9; rw [h9] at hjl; simp at hjl)
          subst hKA
          obtain ⟨x, hx⟩ : ∃ x, g.kids[j]? = some x := ⟨_, List.getElem?_eq_getElem hjl⟩
          have hxm := hin x (List.mem_of_getElem? hx)
          obtain ⟨y, rfl⟩ := Int.eq_ofNat_of_zero_le (show 0 ≤ x by omega)
          have hyl : y < F.length := by omega
          have hyk : k < y := by omega
          have cx : wr.cell? (ka.add j) = some (.int .i64 (y : Int)) := by
            rw [hS.below.cell (p := ka.add j) (by rw [add_block]; exact hkb)]
            exact hrun j _ (by rw [List.getElem?_map, hx]; rfl)
          have hdr : g.kids.drop j = (y : Int) :: g.kids.drop (j + 1) := by
            rw [List.drop_eq_getElem_cons hjl]
            congr 1
            rw [List.getElem?_eq_getElem hjl] at hx
            exact Option.some.inj hx
          have cat : wr.cell? ⟨go, k, none⟩ = some (.bool (out.getD k false)) := by
            rw [(hS.at_ 0 rfl).cell k, blv, List.getElem?_map, List.getElem?_eq_getElem (by omega), ← hov, List.getD_eq_getElem?_getD, List.getElem?_eq_getElem (by omega)]; rfl
          obtain ⟨tv, htv⟩ : ∃ tv, T[y]? = some tv := ⟨_, List.getElem?_eq_getElem (by omega)⟩
          have ctv : wr.cell? (ta.add y) = some (.bool tv) := by
            rw [hS.below.cell (p := ta.add y) (by rw [add_block]; exact htb)]
            exact htr y _ (by rw [blv, List.getElem?_map, htv]; rfl)
          have htg : T.getD ((y : Int)).toNat false = tv := by rw [Int.toNat_natCast, List.getD_eq_getElem?_getD, htv]; rfl
          have HH := HR.out
          rw [hdr, honKidsP, htg, Int.toNat_natCast] at HH
          have HD := Lib.hid HH
          have hse := hS.setHead (by omega) (by intro x' hx'; cases hx') y (.bool true)
          rw [show (blv o2).set y (.bool true) = blv (o2.set y true) from by simp [blv, List.map_set]] at hse
          have fy := (hS.at_ 0 rfl).frozen y
          obtain ⟨oy, hoy⟩ : ∃ oy, wr.cell? ⟨go, y, none⟩ = some oy := ⟨_, by rw [(hS.at_ 0 rfl).cell y]; exact List.getElem?_eq_getElem (by simp [blv]; omega)⟩
          have hgk : (o2.set y true).getD k false = out.getD k false := by
            rw [← hov, List.getD_eq_getElem?_getD, List.getD_eq_getElem?_getD, List.getElem?_set_ne (by omega)]
          have HGK := Lib.hid hgk
          have HOV := Lib.hid hov
          have HSE := Lib.hid hse
          clear hgk hov hse HR HH htg hdr hx htv hrun hin hxm
          generalize out.getD k false = v at *
          cases v with
          | false =>
            go_wp2_with fail
            go_roundw
            case rel => exact ⟨j + 1, lf, o2, hjl, by go_num, rfl, hl1, hl2, ho2, HOV.out, hS, Lib.hid (by have h9 := HD.out; simpa using h9)⟩
            case measure => simp [intOf]; omega
          | true =>
            cases tv with
            | false =>
              go_wp2_with fail
              go_roundw
              case rel => exact ⟨j + 1, lf, o2, hjl, by go_num, rfl, hl1, hl2, ho2, HOV.out, hS, Lib.hid (by have h9 := HD.out; simpa using h9)⟩
              case measure => simp [intOf]; omega
            | true =>
              by_cases hlf : 0 < lf
              · have tl0 : decide (0 < lf) = true := by simpa using hlf
                go_wp2_with fail
                go_roundw
                case rel => exact ⟨j + 1, lf - 1, o2.set y true, hjl, by go_num, rfl, by omega, by omega, by simp [ho2], HGK.out, HSE.out, Lib.hid (by have h9 := HD.out; simpa [hlf] using h9)⟩
                case measure => simp [intOf]; omega
              · have tl0 : decide (0 < lf) = false := by simpa using hlf
                go_wp2_with fail
                go_roundw
                case rel => exact ⟨j + 1, lf, o2, hjl, by go_num, rfl, hl1, hl2, ho2, HOV.out, hS, Lib.hid (by have h9 := HD.out; simpa [hlf] using h9)⟩
                case measure => simp [intOf]; omega
        · have HE : Hid (o2 = honStep F T out k) := by
            refine Lib.hid ?_
            have h9 := HR.out
            rw [show j = g.kids.length by omega, List.drop_length] at h9
            by_cases hv : out.getD k false = true
            · rw [if_pos hv] at h9; exact h9
            · rw [if_neg hv] at h9; exact h9
          clear HR
          go_wp2_with fail
          go_roundw
          case rel => exact ⟨k + 1, o2, by omega, by go_num, ho2, hS, Lib.hid (by rw [HE.out]; exact HQ.out)⟩
          case measure => simp [intOf]; omega
    · have HE : Hid (out = honestP F T) := by
        refine Lib.hid ?_
        have h9 := HR.out
        rw [show F.length - k = 0 by omega] at h9
        exact h9
      clear HR
      go_wp2_with fail
      go_ret2
      exact ⟨⟨go, rfl, HE.out ▸ hS.at_ 0 rfl, by omega⟩, hb0.trans (hS.below.mono hb0.size)⟩
set_option maxRecDepth 20000 in
set_option maxHeartbeats 1000000 in
theorem Honest_any (A LA : Option Addr) (c lc : Nat) (F : List Gt) (L : List Bool) (hF : F.length ≤ 1000000) (hK : ∀ g ∈ F, g.kids.length ≤ 1000000) (w : World) (hG : Gates w w.heap.size A F) (hL : Bools w w.heap.size LA L) (hLl : L.length ≤ 1000000) :
    Calls Tryd.prog 18 #[.agg #[.slice A F.length c], .slice LA L.length lc] w fun e w' => SliceOut (checkP F L.length) (honestL F L) e w' ∧ Below w.heap.size w w' := by
  by_cases h0 : checkP F L.length = 0
  · obtain ⟨hV, h512⟩ := check_valid h0
    by_cases hz : F = []
    · have hk := (Kp.start w).new 24 [.slice A F.length c]
      have HC := Lib.hid (Truth_any A LA c lc F L hF hK (w.alloc (.cells #[.slice A F.length c] 24)) (hG.keep' hk.below) (hL.up hk.below) hLl)
      have HT : Hid (honestL F L = []) := by
        refine Lib.hid ?_
        rw [honestL, if_pos h0]
        exact List.eq_nil_of_length_eq_zero (by rw [honestP_length, hz]; rfl)
      have hl0 : (truthL F L).length = 0 := by rw [truthL, if_pos h0, truthP_length, hz]; rfl
      have HD : Hid (Calls Tryd.prog 16 #[.agg #[.slice A F.length c], .slice LA L.length lc] (w.alloc (.cells #[.slice A F.length c] 24)) fun e w' => (∃ A c, e = .returned (.tuple #[.slice A 0 c, .int .i64 0])) ∧ Below (w.alloc (.cells #[.slice A F.length c] 24)).heap.size (w.alloc (.cells #[.slice A F.length c] 24)) w') := by
        refine Lib.hid (HC.out.mono ?_)
        rintro e w' ⟨⟨TA, tc, he, _⟩, hb⟩
        rw [hl0, h0] at he
        exact ⟨⟨TA, tc, he⟩, hb⟩
      have H0 := Lib.hid h0
      clear h0 hl0 HC hz
      go_enter Tryd.func18, Tryd.ntmps18
      go_wp2_with fail
      refine HD.out.mono ?_
      rintro e w1 ⟨⟨TA, tc, rfl⟩, hb1⟩
      have hk1 := hk.next hb1
      go_wp2_with fail
      go_ret2
      rw [HT.out, H0.out]
      exact ⟨⟨none, 0, rfl, ⟨fun h9 => absurd rfl h9⟩⟩, hk1.below⟩
    · refine (Honest_ok A LA c lc F L h512 hK hV w hG hL hLl h0 hz).mono ?_
      rintro e w' ⟨⟨g, rfl, hg, _⟩, hb⟩
      rw [h0, honestL, if_pos h0]
      exact ⟨⟨_, F.length, by rw [honestP_length], hg.bools⟩, hb⟩
  · have hk := (Kp.start w).new 24 [.slice A F.length c]
    have HC := Lib.hid (Truth_any A LA c lc F L hF hK (w.alloc (.cells #[.slice A F.length c] 24)) (hG.keep' hk.below) (hL.up hk.below) hLl)
    have HT : Hid (honestL F L = []) := by refine Lib.hid ?_; rw [honestL, if_neg h0]
    have t1 : (checkP F L.length != 0) = true := by simpa using h0
    go_enter Tryd.func18, Tryd.ntmps18
    go_wp2_with fail
    refine HC.out.mono ?_
    rintro e w1 ⟨⟨TA, tc, rfl, hT⟩, hb1⟩
    have hk1 := hk.next hb1
    go_wp2_with fail
    go_ret2
    rw [HT.out]
    exact ⟨⟨none, 0, rfl, ⟨fun h9 => absurd rfl h9⟩⟩, hk1.below⟩
end Go.Proofs.YteaaeaimjbaomaaDoor

/-
  dominoref20.Honest walked.
-/
namespace Go.Proofs.YteaaeaimjbaomaaDoor
open Go.RowKit
set_option linter.unusedVariables false

def outAt (T out : List Bool) (k : Nat) : List Bool := if k = 0 then out.set 0 (T.getD 0 false) else out
theorem outAt_length (T out : List Bool) (k : Nat) : (outAt T out k).length = out.length := by unfold outAt; split <;> simp
def HonKidR (w : World) (go : Nat) (F : List Gt) (T : List Bool) (ks : List Int) (nd : Int) (bl : List (Nat × TypeId × List Value)) (R : List Bool) (g : Nat) (n i : Value) (W : World) : Prop :=
  ∃ (j m : Nat) (out : List Bool), j ≤ ks.length ∧ m ≤ j ∧ g = ks.length - j ∧ i = .int .i64 (j : Int) ∧ n = .int .i64 (m : Int) ∧ out.length = F.length ∧ Kp w ((go, 4, blv out) :: bl) W ∧ Hid (honKidsP T (ks.drop j) (nd - m) out = R)
set_option maxHeartbeats 2000000 in
theorem rHonest_ok (A LA : Option Addr) (c lc : Nat) (F : List Gt) (L : List Bool) (hF : F.length ≤ 512) (hK : ∀ g ∈ F, g.kids.length ≤ 1000000) (hV : Valid F L) (w : World) (hG : Gates w w.heap.size A F) (hL : Bools w w.heap.size LA L) (hLl : L.length ≤ 1000000) (h0 : checkP F L.length = 0) :
    Calls Tryd.prog 19 #[.agg #[.slice A F.length c], .slice LA L.length lc] w fun e w' => (∃ g, e = .returned (.tuple #[.slice (some ⟨g, 0, none⟩) F.length F.length, .int .i64 0]) ∧ Blk w' g 4 (blv (honestP F (truthP F L))) ∧ w.heap.size ≤ g) ∧ Below w.heap.size w w' := by
  have hmk := make_bools F.length (by omega)
  have hk := (Kp.start w).new 24 [.slice A F.length c]
  have HC := Lib.hid (rTruth_any A LA c lc F L (by omega) hK (w.alloc (.cells #[.slice A F.length c] 24)) (hG.keep' hk.below) (hL.up hk.below) hLl)
  rw [h0, truthL, if_pos h0] at HC
  have hTl := truthP_length F L
  generalize truthP F L = T at *
  clear h0
  go_enter Tryd.func19, Tryd.ntmps19
  go_wp2_with fail
  refine HC.out.mono ?_
  rintro e w1 ⟨⟨TA, tc, rfl, hT⟩, hb1⟩
  rw [hTl]
  have hk1 := hk.next hb1
  clear hk hb1 HC
  have hgf : w.heap.size < w1.heap.size := (hk1.at_ 0 rfl).lt
  have c0 : w1.cell? ⟨w.heap.size, 0, none⟩ = some (.slice A F.length c) := (hk1.at_ 0 rfl).cell 0
  have hG1 := hG.keep' hk1.below
  have hb0 := hk1.below
  have hk2 : Kp w1 [(w1.heap.size, 4, blv (List.replicate F.length false))] (w1.alloc (.cells (Array.replicate F.length (.bool false)) 4)) := by
    have := (Kp.start w1).new 4 (blv (List.replicate F.length false))
    simpa [blv] using this
  clear hk1 hG hL
  go_upto_region 5 with fail
  clear hmk
  generalize w1.alloc (.cells (Array.replicate F.length (.bool false)) 4) = W2 at *
  have hgo : w1.heap.size ≤ w1.heap.size := Nat.le_refl _
  generalize hgg : w1.heap.size = go at hk2
  go_upto_region 6 with fail
  go_loopg [9] F.length (fun g s9 wx => ∃ (k : Nat) (out : List Bool), k ≤ F.length ∧ g = F.length - k ∧ s9 = .int .i64 (k : Int) ∧ out.length = F.length ∧ Kp w1 [(go, 4, blv out)] wx ∧ Hid (honRun F T (F.length - k) k (outAt T out k) = honestP F T))
  case atStart => exact ⟨0, _, Nat.zero_le _, rfl, rfl, by simp, hk2, Lib.hid rfl⟩
  case round =>
    obtain ⟨k, out, hk', rfl, rfl, hol, hS, HR⟩ := hrel
    clear hk2
    by_cases hkl : k < F.length
    · obtain ⟨ta, hTA, htb, htr⟩ := hT.some_ (by rintro rfl; simp at hTl; omega)
      subst hTA
      go_upto_if 32 with fail
      go_cut [] (fun wx => Kp w1 [(go, 4, blv (outAt T out k))] wx)
      case first =>
        by_cases hk0 : k = 0
        · subst hk0
          obtain ⟨t0, ht0⟩ : ∃ t0, T[0]? = some t0 := ⟨_, List.getElem?_eq_getElem (by omega)⟩
          have ct : wr.cell? ta = some (.bool t0) := by
            have h9 := htr 0 (.bool t0) (by rw [blv, List.getElem?_map, ht0]; rfl)
            rw [hS.below.cell (p := ta) (by omega)]
            simpa [Addr.add] using h9
          obtain ⟨o0, ho0⟩ : ∃ o0, wr.cell? ⟨go, 0, none⟩ = some o0 := ⟨_, by rw [(hS.at_ 0 rfl).cell 0]; exact List.getElem?_eq_getElem (by simp [blv]; omega)⟩
          have fo := (hS.at_ 0 rfl).frozen 0
          have hk3 : Kp w1 [(go, 4, blv (outAt T out 0))] (wr.setCell ⟨go, 0, none⟩ (.bool t0)) := by
            have h9 := hS.setHead (by omega) (by intro x hx; cases hx) 0 (.bool t0)
            rw [show (blv out).set 0 (.bool t0) = blv (outAt T out 0) from by rw [outAt, if_pos rfl, List.getD_eq_getElem?_getD, ht0]; simp [blv, List.map_set]] at h9
            exact h9
          go_wp2_with fail
          go_meet
          exact hk3
        · have hk1 : ¬ (k : Int) = 0 := by omega
          have tk : ((k : Int) == 0) = false := by simpa using hk0
          go_wp2_with fail
          go_meet
          rw [outAt, if_neg hk0]; exact hS
      case rest =>
        clear hS
        have hol2 : (outAt T out k).length = F.length := by rw [outAt_length]; exact hol
        have HR2 : Hid (honRun F T (F.length - (k + 1)) (k + 1) (honStep F T (outAt T out k) k) = honestP F T) := by
          refine Lib.hid ?_
          have h9 := HR.out
          rw [show F.length - k = (F.length - (k + 1)) + 1 by omega, honRun] at h9
          exact h9
        clear HR
        generalize outAt T out k = o1 at *
        obtain ⟨ob, hob⟩ : ∃ ob, o1[k]? = some ob := ⟨_, List.getElem?_eq_getElem (by omega)⟩
        have cat : wc.cell? ⟨go, k, none⟩ = some (.bool ob) := by
          rw [(hcut.at_ 0 rfl).cell k, blv, List.getElem?_map, hob]; rfl
        obtain ⟨g, hg⟩ : ∃ g, F[k]? = some g := ⟨_, List.getElem?_eq_getElem hkl⟩
        have hstep : honStep F T o1 k = if ob then honKidsP T g.kids g.need o1 else o1 := by
          rw [honStep, hg, List.getD_eq_getElem?_getD, hob]; rfl
        have HR3 : Hid (honRun F T (F.length - (k + 1)) (k + 1) (if ob then honKidsP T g.kids g.need o1 else o1) = honestP F T) := Lib.hid (hstep ▸ HR2.out)
        clear HR2 hstep hob
        have hnz : ¬ (k + 1 = 0) := by omega
        cases ob with
        | false =>
          go_wp2_with fail
          go_roundg (F.length - (k + 1))
          case measure => omega
          case rel => exact ⟨k + 1, o1, by omega, rfl, by first | rfl | simp, hol2, hcut, Lib.hid (by rw [outAt, if_neg hnz]; exact HR3.out)⟩
        | true =>
          have hkn : g.kids.length ≤ 1000000 := hK g (List.mem_of_getElem? hg)
          have hok := hV k g hg
          obtain ⟨ad, hA, hab, hga⟩ := hG1.some_ (by rintro rfl; simp at hkl)
          subst hA
          obtain ⟨KA, kc, gk', gi⟩ := (hga k g hg).kids
          have ga := (hga k g hg).keep hcut.below (Nat.le_refl _) (by rw [add_block]; exact hab)
          have gk : wc.cell? ⟨(ad.add (k * 3)).block, (ad.add (k * 3)).off + 1, none⟩ = some (.slice KA g.kids.length kc) := by
            rw [hcut.below.cell (p := ⟨(ad.add (k * 3)).block, (ad.add (k * 3)).off + 1, none⟩) (by show (ad.add (k * 3)).block < _; rw [add_block]; exact hab)]; exact gk'
          have gn1 := ga.need
          have gl := ga.leaf
          have cf : wc.cell? ⟨w.heap.size, 0, none⟩ = some (.slice (some ad) F.length c) := by rw [hcut.below.cell (p := ⟨w.heap.size, 0, none⟩) hgf]; exact c0
          have hnd : -1000000 ≤ g.need ∧ g.need ≤ 1000000 := by
            by_cases hz : g.kids = []
            · have := hok.1 hz; omega
            · have := hok.2.1 hz; omega
          clear gk' ga
          go_upto_region 13 with fail
          have hS3 := hcut.new 40 [.int .i64 g.need, .slice KA g.kids.length kc, .int .i64 g.leaf]
          have hS2 : Kp w1 [(wc.heap.size, 40, [.int .i64 g.need, .slice KA g.kids.length kc, .int .i64 g.leaf]), (go, 4, blv o1)] (wc.alloc (.cells #[.int .i64 g.need, .slice KA g.kids.length kc, .int .i64 g.leaf] 40)) := hS3
          have hgc : go ≠ wc.heap.size := by have := (hcut.at_ 0 rfl).lt; omega
          clear gn1 gl gk hS3 hcut cat cf
          generalize wc.alloc (.cells #[.int .i64 g.need, .slice KA g.kids.length kc, .int .i64 g.leaf] 40) = W4 at *
          generalize wc.heap.size = g10 at *
          have hin := hok.2.2
          have hS4 : Kp w1 [(go, 4, blv o1), (g10, 40, [.int .i64 g.need, .slice KA g.kids.length kc, .int .i64 g.leaf])] W4 := hS2.sub (by intro x hx; simp at hx ⊢; rcases hx with rfl | rfl <;> simp)
          have HI : Hid (honKidsP T (g.kids.drop 0) (g.need - (0 : Nat)) o1 = honKidsP T g.kids g.need o1) := by refine Lib.hid ?_; simp
          clear hS2
          go_wp2_with fail
          go_loopg [10, 12] g.kids.length (HonKidR w1 go F T g.kids g.need [(g10, 40, [.int .i64 g.need, .slice KA g.kids.length kc, .int .i64 g.leaf])] (honKidsP T g.kids g.need o1))
          case atStart => exact ⟨0, 0, o1, Nat.zero_le _, Nat.le_refl _, rfl, rfl, rfl, hol2, hS4, HI⟩
          case round =>
            obtain ⟨j, m, o2, hj, hmj, rfl, rfl, rfl, ho2, hS, HR⟩ := hrel
            clear HI hS4
            obtain ⟨b0, b1, b2⟩ := (hS.at_ 1 rfl).get3
            by_cases hjl : j < g.kids.length
            · obtain ⟨ka, hKA, hkb, hrun⟩ := gi.some_ (by rintro h9; rw [h9] at hjl; simp at hjl)
              subst hKA
              obtain ⟨x, hx⟩ : ∃ x, g.kids[j]? = some x := ⟨_, List.getElem?_eq_getElem hjl⟩
              have hxm := hin x (List.mem_of_getElem? hx)
              obtain ⟨y, rfl⟩ := Int.eq_ofNat_of_zero_le (show 0 ≤ x by omega)
              have hyl : y < F.length := by omega
              have cx : wr.cell? (ka.add j) = some (.int .i64 (y : Int)) := by
                rw [hS.below.cell (p := ka.add j) (by rw [add_block]; exact hkb)]
                exact hrun j _ (by rw [List.getElem?_map, hx]; rfl)
              have hdr : g.kids.drop j = (y : Int) :: g.kids.drop (j + 1) := by
                rw [List.drop_eq_getElem_cons hjl]
                congr 1
                rw [List.getElem?_eq_getElem hjl] at hx
                exact Option.some.inj hx
              obtain ⟨tv, htv⟩ : ∃ tv, T[y]? = some tv := ⟨_, List.getElem?_eq_getElem (by omega)⟩
              have ctv : wr.cell? (ta.add y) = some (.bool tv) := by
                rw [hS.below.cell (p := ta.add y) (by rw [add_block]; exact htb)]
                exact htr y _ (by rw [blv, List.getElem?_map, htv]; rfl)
              have htg : T.getD ((y : Int)).toNat false = tv := by rw [Int.toNat_natCast, List.getD_eq_getElem?_getD, htv]; rfl
              have HH := HR.out
              rw [hdr, honKidsP, htg, Int.toNat_natCast] at HH
              have HD := Lib.hid HH
              have hse := hS.setHead (by omega) (by intro x' hx'; simp at hx'; subst hx'; exact fun h9 => hgc h9.symm) y (.bool true)
              rw [show (blv o2).set y (.bool true) = blv (o2.set y true) from by simp [blv, List.map_set]] at hse
              have fy := (hS.at_ 0 rfl).frozen y
              obtain ⟨oy, hoy⟩ : ∃ oy, wr.cell? ⟨go, y, none⟩ = some oy := ⟨_, by rw [(hS.at_ 0 rfl).cell y]; exact List.getElem?_eq_getElem (by simp [blv]; omega)⟩
              have HSE := Lib.hid hse
              clear hse HR HH htg hdr hx htv hrun hin hxm
              cases tv with
              | false =>
                go_wp2_with fail
                go_roundg (g.kids.length - (j + 1))
                case measure => omega
                case rel => exact ⟨j + 1, m, o2, hjl, by omega, rfl, by first | rfl | simp, rfl, ho2, hS, Lib.hid (by have h9 := HD.out; simpa using h9)⟩
              | true =>
                by_cases hlf : (m : Int) < g.need
                · have tl0 : decide ((m : Int) < g.need) = true := by simpa using hlf
                  go_wp2_with fail
                  go_roundg (g.kids.length - (j + 1))
                  case measure => omega
                  case rel => exact ⟨j + 1, m + 1, o2.set y true, hjl, by omega, rfl, by first | rfl | simp, by first | rfl | simp, by simp [ho2], HSE.out, Lib.hid (by have h9 := HD.out; rw [if_pos ⟨by first | rfl | trivial, by omega⟩] at h9; rw [show g.need - ((m + 1 : Nat) : Int) = g.need - (m : Int) - 1 by omega]; exact h9)⟩
                · have tl0 : decide ((m : Int) < g.need) = false := by simpa using hlf
                  go_wp2_with fail
                  go_roundg (g.kids.length - (j + 1))
                  case measure => omega
                  case rel => exact ⟨j + 1, m, o2, hjl, by omega, rfl, by first | rfl | simp, rfl, ho2, hS, Lib.hid (by have h9 := HD.out; rw [if_neg (by omega)] at h9; exact h9)⟩
            · have HE : Hid (o2 = honKidsP T g.kids g.need o1) := by
                refine Lib.hid ?_
                have h9 := HR.out
                rw [show j = g.kids.length by omega, List.drop_length] at h9
                exact h9
              clear HR
              go_wp2_with fail
              go_roundg (F.length - (k + 1))
              case measure => omega
              case rel => exact ⟨k + 1, o2, by omega, rfl, by first | rfl | simp, ho2, hS.sub (by intro x hx; simp at hx; subst hx; simp), Lib.hid (by rw [outAt, if_neg hnz, HE.out]; exact HR3.out)⟩
    · have HE : Hid (out = honestP F T) := by
        refine Lib.hid ?_
        have h9 := HR.out
        rw [show F.length - k = 0 by omega, honRun] at h9
        rw [← h9, outAt]
        split
        · rw [List.eq_nil_of_length_eq_zero (show out.length = 0 by omega)]; rfl
        · rfl
      clear HR
      go_wp2_with fail
      go_ret2
      exact ⟨⟨go, rfl, HE.out ▸ hS.at_ 0 rfl, by omega⟩, hb0.trans (hS.below.mono hb0.size)⟩
set_option maxRecDepth 20000 in
set_option maxHeartbeats 1000000 in
theorem rHonest_any (A LA : Option Addr) (c lc : Nat) (F : List Gt) (L : List Bool) (hF : F.length ≤ 1000000) (hK : ∀ g ∈ F, g.kids.length ≤ 1000000) (w : World) (hG : Gates w w.heap.size A F) (hL : Bools w w.heap.size LA L) (hLl : L.length ≤ 1000000) :
    Calls Tryd.prog 19 #[.agg #[.slice A F.length c], .slice LA L.length lc] w fun e w' => SliceOut (checkP F L.length) (honestL F L) e w' ∧ Below w.heap.size w w' := by
  by_cases h0 : checkP F L.length = 0
  · obtain ⟨hV, h512⟩ := check_valid h0
    refine (rHonest_ok A LA c lc F L h512 hK hV w hG hL hLl h0).mono ?_
    rintro e w' ⟨⟨g, rfl, hg, _⟩, hb⟩
    rw [h0, honestL, if_pos h0]
    exact ⟨⟨_, F.length, by rw [honestP_length], hg.bools⟩, hb⟩
  · have hk := (Kp.start w).new 24 [.slice A F.length c]
    have HC := Lib.hid (rTruth_any A LA c lc F L hF hK (w.alloc (.cells #[.slice A F.length c] 24)) (hG.keep' hk.below) (hL.up hk.below) hLl)
    have HT : Hid (honestL F L = []) := by refine Lib.hid ?_; rw [honestL, if_neg h0]
    have t1 : (checkP F L.length != 0) = true := by simpa using h0
    go_enter Tryd.func19, Tryd.ntmps19
    go_wp2_with fail
    refine HC.out.mono ?_
    rintro e w1 ⟨⟨TA, tc, rfl, hT⟩, hb1⟩
    have hk1 := hk.next hb1
    go_wp2_with fail
    go_ret2
    rw [HT.out]
    exact ⟨⟨none, 0, rfl, ⟨fun h9 => absurd rfl h9⟩⟩, hk1.below⟩
end Go.Proofs.YteaaeaimjbaomaaDoor
