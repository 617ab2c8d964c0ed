/-
  dominoref20.Honest walked.
-/
import Derived.Test.YteaaeaimjbaomaaDoorFm12
import Derived.Deep.LoopGhost
import Derived.Deep.DeepCutAuto
namespace Go.Proofs.YteaaeaimjbaomaaDoor
open Go.RowKit
set_option linter.unusedVariables false

def outAt (T out : List Bool) (k : Nat) : List Bool := if k = 0 then out.set 0 (T.getD 0 false) else out
theorem outAt_length (T out : List Bool) (k : Nat) : (outAt T out k).length = out.length := by unfold outAt; split <;> simp
def HonKidR (w : World) (go : Nat) (F : List Gt) (T : List Bool) (ks : List Int) (nd : Int) (bl : List (Nat × TypeId × List Value)) (R : List Bool) (g : Nat) (n i : Value) (W : World) : Prop :=
  ∃ (j m : Nat) (out : List Bool), j ≤ ks.length ∧ m ≤ j ∧ g = ks.length - j ∧ i = .int .i64 (j : Int) ∧ n = .int .i64 (m : Int) ∧ out.length = F.length ∧ Kp w ((go, 4, blv out) :: bl) W ∧ Hid (honKidsP T (ks.drop j) (nd - m) out = R)
set_option maxHeartbeats 2000000 in
theorem rHonest_ok (A LA : Option Addr) (c lc : Nat) (F : List Gt) (L : List Bool) (hF : F.length ≤ 512) (hK : ∀ g ∈ F, g.kids.length ≤ 1000000) (hV : Valid F L) (w : World) (hG : Gates w w.heap.size A F) (hL : Bools w w.heap.size LA L) (hLl : L.length ≤ 1000000) (h0 : checkP F L.length = 0) :
    Calls Tryd.prog 19 #[.agg #[.slice A F.length c], .slice LA L.length lc] w fun e w' => (∃ g, e = .returned (.tuple #[.slice (some ⟨g, 0, none⟩) F.length F.length, .int .i64 0]) ∧ Blk w' g 4 (blv (honestP F (truthP F L))) ∧ w.heap.size ≤ g) ∧ Below w.heap.size w w' := by
  have hmk := make_bools F.length (by omega)
  have hk := (Kp.start w).new 24 [.slice A F.length c]
  have HC := Lib.hid (rTruth_any A LA c lc F L (by omega) hK (w.alloc (.cells #[.slice A F.length c] 24)) (hG.keep' hk.below) (hL.up hk.below) hLl)
  rw [h0, truthL, if_pos h0] at HC
  have hTl := truthP_length F L
  generalize truthP F L = T at *
  clear h0
  go_enter Tryd.func19, Tryd.ntmps19
  go_wp2_with fail
  refine HC.out.mono ?_
  rintro e w1 ⟨⟨TA, tc, rfl, hT⟩, hb1⟩
  rw [hTl]
  have hk1 := hk.next hb1
  clear hk hb1 HC
  have hgf : w.heap.size < w1.heap.size := (hk1.at_ 0 rfl).lt
  have c0 : w1.cell? ⟨w.heap.size, 0, none⟩ = some (.slice A F.length c) := (hk1.at_ 0 rfl).cell 0
  have hG1 := hG.keep' hk1.below
  have hb0 := hk1.below
  have hk2 : Kp w1 [(w1.heap.size, 4, blv (List.replicate F.length false))] (w1.alloc (.cells (Array.replicate F.length (.bool false)) 4)) := by
    have := (Kp.start w1).new 4 (blv (List.replicate F.length false))
    simpa [blv] using this
  clear hk1 hG hL
  go_upto_region 5 with fail
  clear hmk
  generalize w1.alloc (.cells (Array.replicate F.length (.bool false)) 4) = W2 at *
  have hgo : w1.heap.size ≤ w1.heap.size := Nat.le_refl _
  generalize hgg : w1.heap.size = go at hk2
  go_upto_region 6 with fail
  go_loopg [9] F.length (fun g s9 wx => ∃ (k : Nat) (out : List Bool), k ≤ F.length ∧ g = F.length - k ∧ s9 = .int .i64 (k : Int) ∧ out.length = F.length ∧ Kp w1 [(go, 4, blv out)] wx ∧ Hid (honRun F T (F.length - k) k (outAt T out k) = honestP F T))
  case atStart => exact ⟨0, _, Nat.zero_le _, rfl, rfl, by simp, hk2, Lib.hid rfl⟩
  case round =>
    obtain ⟨k, out, hk', rfl, rfl, hol, hS, HR⟩ := hrel
    clear hk2
    by_cases hkl : k < F.length
    · obtain ⟨ta, hTA, htb, htr⟩ := hT.some_ (by rintro rfl; simp at hTl; omega)
      subst hTA
      go_upto_if 32 with fail
      go_cut [] (fun wx => Kp w1 [(go, 4, blv (outAt T out k))] wx)
      case first =>
        by_cases hk0 : k = 0
        · subst hk0
          obtain ⟨t0, ht0⟩ : ∃ t0, T[0]? = some t0 := ⟨_, List.getElem?_eq_getElem (by omega)⟩
          have ct : wr.cell? ta = some (.bool t0) := by
            have h9 := htr 0 (.bool t0) (by rw [blv, List.getElem?_map, ht0]; rfl)
            rw [hS.below.cell (p := ta) (by omega)]
            simpa [Addr.add] using h9
          obtain ⟨o0, ho0⟩ : ∃ o0, wr.cell? ⟨go, 0, none⟩ = some o0 := ⟨_, by rw [(hS.at_ 0 rfl).cell 0]; exact List.getElem?_eq_getElem (by simp [blv]; omega)⟩
          have fo := (hS.at_ 0 rfl).frozen 0
          have hk3 : Kp w1 [(go, 4, blv (outAt T out 0))] (wr.setCell ⟨go, 0, none⟩ (.bool t0)) := by
            have h9 := hS.setHead (by omega) (by intro x hx; cases hx) 0 (.bool t0)
            rw [show (blv out).set 0 (.bool t0) = blv (outAt T out 0) from by rw [outAt, if_pos rfl, List.getD_eq_getElem?_getD, ht0]; simp [blv, List.map_set]] at h9
            exact h9
          go_wp2_with fail
          go_meet
          exact hk3
        · have hk1 : ¬ (k : Int) = 0 := by omega
          have tk : ((k : Int) == 0) = false := by simpa using hk0
          go_wp2_with fail
          go_meet
          rw [outAt, if_neg hk0]; exact hS
      case rest =>
        clear hS
        have hol2 : (outAt T out k).length = F.length := by rw [outAt_length]; exact hol
        have HR2 : Hid (honRun F T (F.length - (k + 1)) (k + 1) (honStep F T (outAt T out k) k) = honestP F T) := by
          refine Lib.hid ?_
          have h9 := HR.out
          rw [show F.length - k = (F.length - (k + 1)) + 1 by omega, honRun] at h9
          exact h9
        clear HR
        generalize outAt T out k = o1 at *
        obtain ⟨ob, hob⟩ : ∃ ob, o1[k]? = some ob := ⟨_, List.getElem?_eq_getElem (by omega)⟩
        have cat : wc.cell? ⟨go, k, none⟩ = some (.bool ob) := by
          rw [(hcut.at_ 0 rfl).cell k, blv, List.getElem?_map, hob]; rfl
        obtain ⟨g, hg⟩ : ∃ g, F[k]? = some g := ⟨_, List.getElem?_eq_getElem hkl⟩
        have hstep : honStep F T o1 k = if ob then honKidsP T g.kids g.need o1 else o1 := by
          rw [honStep, hg, List.getD_eq_getElem?_getD, hob]; rfl
        have HR3 : Hid (honRun F T (F.length - (k + 1)) (k + 1) (if ob then honKidsP T g.kids g.need o1 else o1) = honestP F T) := Lib.hid (hstep ▸ HR2.out)
        clear HR2 hstep hob
        have hnz : ¬ (k + 1 = 0) := by omega
        cases ob with
        | false =>
          go_wp2_with fail
          go_roundg (F.length - (k + 1))
          case measure => omega
          case rel => exact ⟨k + 1, o1, by omega, rfl, by first | rfl | simp, hol2, hcut, Lib.hid (by rw [outAt, if_neg hnz]; exact HR3.out)⟩
        | true =>
          have hkn : g.kids.length ≤ 1000000 := hK g (List.mem_of_getElem? hg)
          have hok := hV k g hg
          obtain ⟨ad, hA, hab, hga⟩ := hG1.some_ (by rintro rfl; simp at hkl)
          subst hA
          obtain ⟨KA, kc, gk', gi⟩ := (hga k g hg).kids
          have ga := (hga k g hg).keep hcut.below (Nat.le_refl _) (by rw [add_block]; exact hab)
          have gk : wc.cell? ⟨(ad.add (k * 3)).block, (ad.add (k * 3)).off + 1, none⟩ = some (.slice KA g.kids.length kc) := by
            rw [hcut.below.cell (p := ⟨(ad.add (k * 3)).block, (ad.add (k * 3)).off + 1, none⟩) (by show (ad.add (k * 3)).block < _; rw [add_block]; exact hab)]; exact gk'
          have gn1 := ga.need
          have gl := ga.leaf
          have cf : wc.cell? ⟨w.heap.size, 0, none⟩ = some (.slice (some ad) F.length c) := by rw [hcut.below.cell (p := ⟨w.heap.size, 0, none⟩) hgf]; exact c0
          have hnd : -1000000 ≤ g.need ∧ g.need ≤ 1000000 := by
            by_cases hz : g.kids = []
            · have := hok.1 hz; omega
            · have := hok.2.1 hz; omega
          clear gk' ga
          go_upto_region 13 with fail
          have hS3 := hcut.new 40 [.int .i64 g.need, .slice KA g.kids.length kc, .int .i64 g.leaf]
          have hS2 : Kp w1 [(wc.heap.size, 40, [.int .i64 g.need, .slice KA g.kids.length kc, .int .i64 g.leaf]), (go, 4, blv o1)] (wc.alloc (.cells #[.int .i64 g.need, .slice KA g.kids.length kc, .int .i64 g.leaf] 40)) := hS3
          have hgc : go ≠ wc.heap.size := by have := (hcut.at_ 0 rfl).lt; omega
          clear gn1 gl gk hS3 hcut cat cf
          generalize wc.alloc (.cells #[.int .i64 g.need, .slice KA g.kids.length kc, .int .i64 g.leaf] 40) = W4 at *
          generalize wc.heap.size = g10 at *
          have hin := hok.2.2
          have hS4 : Kp w1 [(go, 4, blv o1), (g10, 40, [.int .i64 g.need, .slice KA g.kids.length kc, .int .i64 g.leaf])] W4 := hS2.sub (by intro x hx; simp at hx ⊢; rcases hx with rfl | rfl <;> simp)
          have HI : Hid (honKidsP T (g.kids.drop 0) (g.need - (0 : Nat)) o1 = honKidsP T g.kids g.need o1) := by refine Lib.hid ?_; simp
          clear hS2
          go_wp2_with fail
          go_loopg [10, 12] g.kids.length (HonKidR w1 go F T g.kids g.need [(g10, 40, [.int .i64 g.need, .slice KA g.kids.length kc, .int .i64 g.leaf])] (honKidsP T g.kids g.need o1))
          case atStart => exact ⟨0, 0, o1, Nat.zero_le _, Nat.le_refl _, rfl, rfl, rfl, hol2, hS4, HI⟩
          case round =>
            obtain ⟨j, m, o2, hj, hmj, rfl, rfl, rfl, ho2, hS, HR⟩ := hrel
            clear HI hS4
            obtain ⟨b0, b1, b2⟩ := (hS.at_ 1 rfl).get3
            by_cases hjl : j < g.kids.length
            · obtain ⟨ka, hKA, hkb, hrun⟩ := gi.some_ (by rintro h9; rw [h9] at hjl; simp at hjl)
              subst hKA
              obtain ⟨x, hx⟩ : ∃ x, g.kids[j]? = some x := ⟨_, List.getElem?_eq_getElem hjl⟩
              have hxm := hin x (List.mem_of_getElem? hx)
              obtain ⟨y, rfl⟩ := Int.eq_ofNat_of_zero_le (show 0 ≤ x by omega)
              have hyl : y < F.length := by omega
              have cx : wr.cell? (ka.add j) = some (.int .i64 (y : Int)) := by
                rw [hS.below.cell (p := ka.add j) (by rw [add_block]; exact hkb)]
                exact hrun j _ (by rw [List.getElem?_map, hx]; rfl)
              have hdr : g.kids.drop j = (y : Int) :: g.kids.drop (j + 1) := by
                rw [List.drop_eq_getElem_cons hjl]
                congr 1
                rw [List.getElem?_eq_getElem hjl] at hx
                exact Option.some.inj hx
              obtain ⟨tv, htv⟩ : ∃ tv, T[y]? = some tv := ⟨_, List.getElem?_eq_getElem (by omega)⟩
              have ctv : wr.cell? (ta.add y) = some (.bool tv) := by
                rw [hS.below.cell (p := ta.add y) (by rw [add_block]; exact htb)]
                exact htr y _ (by rw [blv, List.getElem?_map, htv]; rfl)
              have htg : T.getD ((y : Int)).toNat false = tv := by rw [Int.toNat_natCast, List.getD_eq_getElem?_getD, htv]; rfl
              have HH := HR.out
              rw [hdr, honKidsP, htg, Int.toNat_natCast] at HH
              have HD := Lib.hid HH
              have hse := hS.setHead (by omega) (by intro x' hx'; simp at hx'; subst hx'; exact fun h9 => hgc h9.symm) y (.bool true)
              rw [show (blv o2).set y (.bool true) = blv (o2.set y true) from by simp [blv, List.map_set]] at hse
              have fy := (hS.at_ 0 rfl).frozen y
              obtain ⟨oy, hoy⟩ : ∃ oy, wr.cell? ⟨go, y, none⟩ = some oy := ⟨_, by rw [(hS.at_ 0 rfl).cell y]; exact List.getElem?_eq_getElem (by simp [blv]; omega)⟩
              have HSE := Lib.hid hse
              clear hse HR HH htg hdr hx htv hrun hin hxm
              cases tv with
              | false =>
                go_wp2_with fail
                go_roundg (g.kids.length - (j + 1))
                case measure => omega
                case rel => exact ⟨j + 1, m, o2, hjl, by omega, rfl, by first | rfl | simp, rfl, ho2, hS, Lib.hid (by have h9 := HD.out; simpa using h9)⟩
              | true =>
                by_cases hlf : (m : Int) < g.need
                · have tl0 : decide ((m : Int) < g.need) = true := by simpa using hlf
                  go_wp2_with fail
                  go_roundg (g.kids.length - (j + 1))
                  case measure => omega
                  case rel => exact ⟨j + 1, m + 1, o2.set y true, hjl, by omega, rfl, by first | rfl | simp, by first | rfl | simp, by simp [ho2], HSE.out, Lib.hid (by have h9 := HD.out; rw [if_pos ⟨by first | rfl | trivial, by omega⟩] at h9; rw [show g.need - ((m + 1 : Nat) : Int) = g.need - (m : Int) - 1 by omega]; exact h9)⟩
                · have tl0 : decide ((m : Int) < g.need) = false := by simpa using hlf
                  go_wp2_with fail
                  go_roundg (g.kids.length - (j + 1))
                  case measure => omega
                  case rel => exact ⟨j + 1, m, o2, hjl, by omega, rfl, by first | rfl | simp, rfl, ho2, hS, Lib.hid (by have h9 := HD.out; rw [if_neg (by omega)] at h9; exact h9)⟩
            · have HE : Hid (o2 = honKidsP T g.kids g.need o1) := by
                refine Lib.hid ?_
                have h9 := HR.out
                rw [show j = g.kids.length by omega, List.drop_length] at h9
                exact h9
              clear HR
              go_wp2_with fail
              go_roundg (F.length - (k + 1))
              case measure => omega
              case rel => exact ⟨k + 1, o2, by omega, rfl, by first | rfl | simp, ho2, hS.sub (by intro x hx; simp at hx; subst hx; simp), Lib.hid (by rw [outAt, if_neg hnz, HE.out]; exact HR3.out)⟩
    · have HE : Hid (out = honestP F T) := by
        refine Lib.hid ?_
        have h9 := HR.out
        rw [show F.length - k = 0 by omega, honRun] at h9
        rw [← h9, outAt]
        split
        · rw [List.eq_nil_of_length_eq_zero (show out.length = 0 by omega)]; rfl
        · rfl
      clear HR
      go_wp2_with fail
      go_ret2
      exact ⟨⟨go, rfl, HE.out ▸ hS.at_ 0 rfl, by omega⟩, hb0.trans (hS.below.mono hb0.size)⟩
set_option maxRecDepth 20000 in
set_option maxHeartbeats 1000000 in
theorem rHonest_any (A LA : Option Addr) (c lc : Nat) (F : List Gt) (L : List Bool) (hF : F.length ≤ 1000000) (hK : ∀ g ∈ F, g.kids.length ≤ 1000000) (w : World) (hG : Gates w w.heap.size A F) (hL : Bools w w.heap.size LA L) (hLl : L.length ≤ 1000000) :
    Calls Tryd.prog 19 #[.agg #[.slice A F.length c], .slice LA L.length lc] w fun e w' => SliceOut (checkP F L.length) (honestL F L) e w' ∧ Below w.heap.size w w' := by
  by_cases h0 : checkP F L.length = 0
  · obtain ⟨hV, h512⟩ := check_valid h0
    refine (rHonest_ok A LA c lc F L h512 hK hV w hG hL hLl h0).mono ?_
    rintro e w' ⟨⟨g, rfl, hg, _⟩, hb⟩
    rw [h0, honestL, if_pos h0]
    exact ⟨⟨_, F.length, by rw [honestP_length], hg.bools⟩, hb⟩
  · have hk := (Kp.start w).new 24 [.slice A F.length c]
    have HC := Lib.hid (rTruth_any A LA c lc F L hF hK (w.alloc (.cells #[.slice A F.length c] 24)) (hG.keep' hk.below) (hL.up hk.below) hLl)
    have HT : Hid (honestL F L = []) := by refine Lib.hid ?_; rw [honestL, if_neg h0]
    have t1 : (checkP F L.length != 0) = true := by simpa using h0
    go_enter Tryd.func19, Tryd.ntmps19
    go_wp2_with fail
    refine HC.out.mono ?_
    rintro e w1 ⟨⟨TA, tc, rfl, hT⟩, hb1⟩
    have hk1 := hk.next hb1
    go_wp2_with fail
    go_ret2
    rw [HT.out]
    exact ⟨⟨none, 0, rfl, ⟨fun h9 => absurd rfl h9⟩⟩, hk1.below⟩
end Go.Proofs.YteaaeaimjbaomaaDoor
