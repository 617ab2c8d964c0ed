/-
  dominolaw20.FormulaHonest.
-/
import Derived.Test.YteaaeaimjbaomaaDoorFmLaw2
import Derived.Test.YteaaeaimjbaomaaDoorFmH2
import Derived.Deep.RegionHeld3
import Derived.Deep.LoopGhost
namespace Go.Proofs.YteaaeaimjbaomaaDoor
open Go.RowKit
set_option linter.unusedVariables false

theorem read0 {w W : World} {ad : Addr} {l : List Bool} {b : Bool} (h : Bools w w.heap.size (some ad) l) (hb : Below w.heap.size w W) (hx : l[0]? = some b) : W.cell? ad = some (.bool b) := by
  obtain ⟨a, ha, hc⟩ := h.read hb hx
  cases ha
  have e : ad.add 0 = ad := by simp [Addr.add]
  rwa [e] at hc
theorem cntK_up (a : List Bool) : ∀ ks : List Int, cntK a ks ≤ ks.length
  | [] => Int.le_refl _
  | x :: xs => by
    have := cntK_up a xs
    rw [cntK, List.length_cons]; split <;> omega
set_option maxRecDepth 20000 in
set_option maxHeartbeats 8000000 in
theorem fmhonest_walk (A LA : Option Addr) (c lc : Nat) (F : List Gt) (L : List Bool) (w : World) (hG : Gates w w.heap.size A F) (hL : Bools w w.heap.size LA L) :
    Calls Tryd.prog 5 #[.agg #[.slice A F.length c], .slice LA L.length lc] w fun e w' => e = .returned (.bool true) ∧ Below w.heap.size w w' := by
  have hL0 := Lw.box w A c F hG
  have hB0 := hL.up ((Below.refl _ _).alloc (Nat.le_refl _) (.cells #[.slice A F.length c] 24))
  go_enter Tryd.func5, Tryd.ntmps5
  go_upto_region 1 with fail
  generalize w.alloc (.cells #[.slice A F.length c] 24) = W at *
  obtain ⟨g, hg⟩ : ∃ g, w.heap.size = g := ⟨_, rfl⟩
  have hL : Lw w g A c F W := hg ▸ hL0
  clear hL0
  have c0 := hL.cell
  simp only [hg]
  go_wp2_with fail
  refine (few_any A c F W hL.gates).mono ?_
  rintro e w1 ⟨rfl, hb1⟩
  have hL1 := hL.next hb1
  have hB1 := hB0.up hb1
  clear hL c0 hB0 hb1
  cases hf : fewP F with
  | false =>
    clear hf
    go_wp2_with fail
    refine hL1.awake.mono ?_
    rintro e w2 ⟨rfl, hL2⟩
    go_wp2_with fail
    go_ret
    exact ⟨rfl, hL2.below⟩
  | true =>
    have HF := Lib.hid hf
    clear hf
    by_cases hl : 60 < L.length
    · have hli : (60 : Int) < (L.length : Int) := by omega
      go_wp2_with fail
      refine hL1.awake.mono ?_
      rintro e w2 ⟨rfl, hL2⟩
      go_wp2_with fail
      go_ret
      exact ⟨rfl, hL2.below⟩
    · have hli : ¬ (60 : Int) < (L.length : Int) := by omega
      have hll : L.length ≤ 1000000 := by omega
      obtain ⟨hF40, hK40⟩ := fewP_iff.1 HF.out
      have c1 := hL1.cell
      have HT1 := Lib.hid (hL1.truth HF.out hB1 hll lc)
      go_wp2_with fail
      refine HT1.out.mono ?_
      rintro e w2 ⟨⟨TA, tc, rfl, hT⟩, hL2, hb2⟩
      have hB2 := hB1.up hb2
      clear HT1 hL1 hB1 hb2 c1
      have c1 := hL2.cell
      have HH1 := Lib.hid (hL2.honest HF.out hB2 hll lc)
      go_wp2_with fail
      refine HH1.out.mono ?_
      rintro e w3 ⟨⟨HA, hc, rfl, hH⟩, hL3, hb3⟩
      have hB3 := hB2.up hb3
      have hT3 := hT.up hb3
      clear HH1 hL2 hB2 hb3 c1 hT
      by_cases h0 : checkP F L.length = 0
      · have hc0 : (checkP F (L.length : Int) != 0) = false := by rw [h0]; rfl
        have hTL : truthL F L = truthP F L := by unfold truthL; rw [if_pos h0]
        have hHL : honestL F L = honestP F (truthP F L) := by unfold honestL; rw [if_pos h0]
        have HV : Hid (∀ (i : Nat) g, F[i]? = some g → GOk F.length 0 L.length i g) := Lib.hid (check_valid h0).1
        have HO : Hid (F ≠ [] → HonOk F L (honestP F (truthP F L))) := Lib.hid (fun hne => honest_ok hF40 hK40 h0 hne)
        have HTl := Lib.hid (truthP_length F L)
        have HHl := Lib.hid (honestP_length F (truthP F L))
        have H0 := Lib.hid h0
        rw [hTL, hHL]
        rw [hTL] at hT3
        rw [hHL] at hH
        clear hTL hHL h0
        generalize hTT : truthP F L = T at *
        generalize hHH : honestP F T = H at *
        have hTn : ((T.length : Int) != (F.length : Int)) = false := by rw [HTl.out]; simp
        have hHn : ((H.length : Int) != (F.length : Int)) = false := by rw [HHl.out]; simp
        have c1 := hL3.cell
        have HC := rcheck_any A c F (L.length : Int) (by omega) (fun g hg => by have := hK40 g hg; omega) w3 hL3.gates
        rw [H0.out] at HC
        have HC := Lib.hid HC
        go_wp2_with fail
        refine HC.out.mono ?_
        rintro e w4 ⟨rfl, hb4⟩
        have hL4 := hL3.next hb4
        have hB4 := hB3.up hb4
        have hT4 := hT3.up hb4
        have hH4 := hH.up hb4
        clear HC hL3 hB3 hT3 hH hb4 c1
        have c1 := hL4.cell
        have hmk := make_bools L.length (by omega)
        have hk0 : Hp [] w4 [iblk w4.heap.size 4 (blv (alI F H L.length 0))] (w4.alloc (.cells (List.replicate L.length (.bool false)).toArray 4)) := by
          have h9 := (Hp.start w4).new 4 (List.replicate L.length (.bool false))
          rw [show blv (alI F H L.length 0) = List.replicate L.length (.bool false) from by simp [alI, blv]]
          exact h9
        simp only [List.toArray_replicate] at hk0 hmk
        have c2 : (w4.alloc (.cells (Array.replicate L.length (.bool false)) 4)).cell? ⟨g, 0, none⟩ = some (.slice A F.length c) := (hL4.next hk0.below0).cell
        go_upto_region 11 with fail
        clear hmk c1 c2
        generalize w4.alloc (.cells (Array.replicate L.length (.bool false)) 4) = W5 at *
        obtain ⟨ga, hga⟩ : ∃ ga, w4.heap.size = ga := ⟨_, rfl⟩
        simp only [hga] at hk0 ⊢
        go_loopg [87] F.length (fun m s87 wx => ∃ i : Nat, i ≤ F.length ∧ m = F.length - i ∧ s87 = .int .i64 (i : Int) ∧ Hp [] w4 [iblk ga 4 (blv (alI F H L.length i))] wx)
        case atStart => exact ⟨0, Nat.zero_le _, rfl, rfl, hk0⟩
        case round =>
          obtain ⟨i, hi, rfl, rfl, hS⟩ := hrel
          clear hk0
          by_cases hil : i < F.length
          · have hii : (i : Int) < (F.length : Int) := by omega
            have hi0 : (0 : Int) ≤ (i : Int) := by omega
            have hne : F ≠ [] := by rintro rfl; simp at hil
            obtain ⟨gt, hgt⟩ : ∃ gt, F[i]? = some gt := ⟨_, List.getElem?_eq_getElem hil⟩
            obtain ⟨v1, v2, v3⟩ := HV.out i gt hgt
            have hcnt := (HO.out hne).cnt i gt hgt
            have hhold := (HO.out hne).hold i
            rw [hTT] at hhold
            have hgk := hK40 gt (List.mem_of_getElem? hgt)
            obtain ⟨ad, rfl, KA, kc, q1, q2, q3, q4⟩ := hL4.gates.read hS.below0 hgt
            have hal := alI_succ (H := H) (n := L.length) hgt
            obtain ⟨hv, hhv⟩ : ∃ hv, H[i]? = some hv := ⟨_, List.getElem?_eq_getElem (by have := HHl.out; omega)⟩
            obtain ⟨tv, htv⟩ : ∃ tv, T[i]? = some tv := ⟨_, List.getElem?_eq_getElem (by have := HTl.out; omega)⟩
            obtain ⟨hd, rfl, ch⟩ := hH4.read hS.below0 hhv
            obtain ⟨td, rfl, ct⟩ := hT4.read hS.below0 htv
            have hgH : gb H i = hv := by unfold gb; rw [List.getD_eq_getElem?_getD, hhv]; rfl
            have hgT : gb T i = tv := by unfold gb; rw [List.getD_eq_getElem?_getD, htv]; rfl
            rw [hgH] at hcnt hhold hal
            rw [hgT] at hhold
            have hnd : -1000000 ≤ gt.need ∧ gt.need ≤ 1000000 := by
              by_cases hz : gt.kids = []
              · have := v1 hz; omega
              · have := v2 hz; omega
            have hiH : (i : Int) < (H.length : Int) := by have := HHl.out; omega
            have hiT : (i : Int) < (T.length : Int) := by have := HTl.out; omega
            have HCnt := Lib.hid hcnt
            have HHold := Lib.hid hhold
            have HAl := Lib.hid hal
            have HV1 := Lib.hid v1
            have HV3 := Lib.hid v3
            have HND := Lib.hid hnd
            have HHv := Lib.hid hhv
            have HTv := Lib.hid htv
            clear hcnt hhold hal v1 v2 v3 hnd hgt hhv htv hgH hgT ch ct
            go_upto_region 13 with fail
            have hS2 := hS.new 40 [.int .i64 gt.need, .slice KA gt.kids.length kc, .int .i64 gt.leaf]
            clear hS q1 q2 q3
            generalize wr.alloc (.cells #[.int .i64 gt.need, .slice KA gt.kids.length kc, .int .i64 gt.leaf] 40) = W6 at *
            generalize wr.heap.size = gx at *
            have b0 := (hS2.blk 0 rfl).cell 0
            have b1 := (hS2.blk 0 rfl).cell 1
            have b2 := (hS2.blk 0 rfl).cell 2
            simp only [List.getElem?_cons_zero, List.getElem?_cons_succ] at b0 b1 b2
            obtain ⟨hd2, hde, ch⟩ := hH4.read hS2.below0 HHv.out
            cases hde
            obtain ⟨td2, tde, ct⟩ := hT4.read hS2.below0 HTv.out
            cases tde
            cases hv with
            | true =>
              obtain rfl := HHold.out rfl
              go_upto_region 17 with fail
              go_loopg [12, 106] gt.kids.length (fun m s12 s106 wx => W6 = wx ∧ ∃ j : Nat, j ≤ gt.kids.length ∧ m = gt.kids.length - j ∧ s106 = .int .i64 (j : Int) ∧ s12 = .int .i64 (cntK H (gt.kids.take j)))
              case atStart => exact ⟨rfl, 0, Nat.zero_le _, rfl, rfl, rfl⟩
              case round =>
                obtain ⟨rfl, j, hj, rfl, rfl, rfl⟩ := hrel
                by_cases hjl : j < gt.kids.length
                · have hjj : (j : Int) < (gt.kids.length : Int) := by omega
                  have hj0 : (0 : Int) ≤ (j : Int) := by omega
                  obtain ⟨x, hx⟩ : ∃ x, gt.kids[j]? = some x := ⟨_, List.getElem?_eq_getElem hjl⟩
                  have hxv := HV3.out x (List.mem_of_getElem? hx)
                  obtain ⟨ka, rfl, cx⟩ := q4.read hS2.below0 hx
                  obtain ⟨xn, rfl⟩ : ∃ xn : Nat, x = xn := ⟨x.toNat, by omega⟩
                  have hx0 : (0 : Int) ≤ (xn : Int) := by omega
                  have hxH : (xn : Int) < (H.length : Int) := by have := HHl.out; omega
                  obtain ⟨bv, hbv⟩ : ∃ bv, H[xn]? = some bv := ⟨_, List.getElem?_eq_getElem (by omega)⟩
                  obtain ⟨hd2, hde, cb⟩ := hH4.read hS2.below0 hbv
                  cases hde
                  have hcs : cntK H (gt.kids.take (j + 1)) = cntK H (gt.kids.take j) + (if bv = true then 1 else 0) := by
                    rw [List.take_add_one, hx]
                    show cntK H (gt.kids.take j ++ [(xn : Int)]) = _
                    rw [cntK_snoc, Int.toNat_natCast]
                    unfold gb
                    rw [List.getD_eq_getElem?_getD, hbv]; rfl
                  have hcb : 0 ≤ cntK H (gt.kids.take j) ∧ cntK H (gt.kids.take j) ≤ 1000 := by
                    refine ⟨cntK_nonneg _ _, ?_⟩
                    have h9 := cntK_up H (gt.kids.take j)
                    rw [List.length_take] at h9
                    omega
                  have HCs := Lib.hid hcs
                  clear hcs hx hbv
                  generalize cntK H (gt.kids.take j) = cj at *
                  cases bv with
                  | true =>
                    go_wp2_with fail
                    go_roundg (gt.kids.length - (j + 1))
                    case measure => omega
                    case rel => exact ⟨rfl, j + 1, hjl, rfl, by first | rfl | simp, by rw [HCs.out]; first | rfl | exact val_int (IntWalk.wrap64_in _ ⟨by omega, by omega⟩)⟩
                  | false =>
                    go_wp2_with fail
                    go_roundg (gt.kids.length - (j + 1))
                    case measure => omega
                    case rel => exact ⟨rfl, j + 1, hjl, rfl, by first | rfl | simp, by rw [HCs.out]; simp⟩
                · have hjj : ¬ (j : Int) < (gt.kids.length : Int) := by omega
                  have hcv := HCnt.out
                  rw [List.take_of_length_le (by omega)]
                  have hcn : (cntK H gt.kids != gt.need) = false := by rw [hcv.1 (by first | rfl | trivial)]; simp
                  clear hcv
                  by_cases hz : gt.kids = []
                  · have hz0 : ((gt.kids.length : Int) == 0) = true := by rw [hz]; rfl
                    obtain ⟨-, hl1, hl2⟩ := HV1.out hz
                    obtain ⟨lf, hlf⟩ : ∃ lf : Nat, gt.leaf = lf := ⟨gt.leaf.toNat, by omega⟩
                    have HLf := Lib.hid hlf
                    rw [hlf] at b2 hl1 hl2
                    have hAl : alI F H L.length (i + 1) = (alI F H L.length i).set lf true := by rw [HAl.out, if_pos hz, HLf.out]; rfl
                    have HAl2 := Lib.hid hAl
                    clear hAl hlf hz
                    obtain ⟨old, hold⟩ : ∃ old, (alI F H L.length i)[lf]? = some old := ⟨_, List.getElem?_eq_getElem (by rw [alI_length]; omega)⟩
                    have ca : W6.cell? ⟨ga, lf, none⟩ = some (.bool old) := by rw [(hS2.blk 1 rfl).cell lf, blv, List.getElem?_map, hold]; rfl
                    have fa := (hS2.blk 1 rfl).frozen lf
                    have hlf0 : (0 : Int) ≤ (lf : Int) := by omega
                    have hS3 : Hp [] w4 [iblk gx 40 [.int .i64 gt.need, .slice KA gt.kids.length kc, .int .i64 gt.leaf], iblk ga 4 (blv (alI F H L.length (i + 1)))] (W6.setCell ⟨ga, lf, none⟩ (.bool true)) := by
                      have h9 := hS2.set 1 rfl lf (.bool true)
                      rw [show (blv (alI F H L.length i)).set lf (.bool true) = blv ((alI F H L.length i).set lf true) from by simp [blv, List.map_set], ← HAl2.out] at h9
                      exact h9
                    have HS3 := Lib.hid hS3
                    clear hold hS3
                    go_upto_region 25 with fail
                    go_region
                    all_goals
                      go_wp2_with fail
                      go_roundg (F.length - (i + 1))
                      case measure => omega
                      case rel => exact ⟨i + 1, hil, rfl, by first | rfl | simp, by first | exact HS3.out.tail | exact HS3.out.tail.drew⟩
                  · have hz0 : ((gt.kids.length : Int) == 0) = false := by
                      rw [beq_eq_false_iff_ne]
                      have := List.length_pos_iff.2 hz
                      omega
                    have hAl : alI F H L.length (i + 1) = alI F H L.length i := by rw [HAl.out, if_neg hz]
                    have HAl2 := Lib.hid hAl
                    have HS2 := Lib.hid hS2
                    clear hAl hz
                    go_wp2_with fail
                    go_roundg (F.length - (i + 1))
                    case measure => omega
                    case rel => exact ⟨i + 1, hil, rfl, by first | rfl | simp, by rw [HAl2.out]; exact HS2.out.tail⟩
            | false =>
              skip
              go_upto_region 17 with fail
              go_loopg [12, 106] gt.kids.length (fun m s12 s106 wx => W6 = wx ∧ ∃ j : Nat, j ≤ gt.kids.length ∧ m = gt.kids.length - j ∧ s106 = .int .i64 (j : Int) ∧ s12 = .int .i64 (cntK H (gt.kids.take j)))
              case atStart => exact ⟨rfl, 0, Nat.zero_le _, rfl, rfl, rfl⟩
              case round =>
                obtain ⟨rfl, j, hj, rfl, rfl, rfl⟩ := hrel
                by_cases hjl : j < gt.kids.length
                · have hjj : (j : Int) < (gt.kids.length : Int) := by omega
                  have hj0 : (0 : Int) ≤ (j : Int) := by omega
                  obtain ⟨x, hx⟩ : ∃ x, gt.kids[j]? = some x := ⟨_, List.getElem?_eq_getElem hjl⟩
                  have hxv := HV3.out x (List.mem_of_getElem? hx)
                  obtain ⟨ka, rfl, cx⟩ := q4.read hS2.below0 hx
                  obtain ⟨xn, rfl⟩ : ∃ xn : Nat, x = xn := ⟨x.toNat, by omega⟩
                  have hx0 : (0 : Int) ≤ (xn : Int) := by omega
                  have hxH : (xn : Int) < (H.length : Int) := by have := HHl.out; omega
                  obtain ⟨bv, hbv⟩ : ∃ bv, H[xn]? = some bv := ⟨_, List.getElem?_eq_getElem (by omega)⟩
                  obtain ⟨hd2, hde, cb⟩ := hH4.read hS2.below0 hbv
                  cases hde
                  have hcs : cntK H (gt.kids.take (j + 1)) = cntK H (gt.kids.take j) + (if bv = true then 1 else 0) := by
                    rw [List.take_add_one, hx]
                    show cntK H (gt.kids.take j ++ [(xn : Int)]) = _
                    rw [cntK_snoc, Int.toNat_natCast]
                    unfold gb
                    rw [List.getD_eq_getElem?_getD, hbv]; rfl
                  have hcb : 0 ≤ cntK H (gt.kids.take j) ∧ cntK H (gt.kids.take j) ≤ 1000 := by
                    refine ⟨cntK_nonneg _ _, ?_⟩
                    have h9 := cntK_up H (gt.kids.take j)
                    rw [List.length_take] at h9
                    omega
                  have HCs := Lib.hid hcs
                  clear hcs hx hbv
                  generalize cntK H (gt.kids.take j) = cj at *
                  cases bv with
                  | true =>
                    go_wp2_with fail
                    go_roundg (gt.kids.length - (j + 1))
                    case measure => omega
                    case rel => exact ⟨rfl, j + 1, hjl, rfl, by first | rfl | simp, by rw [HCs.out]; first | rfl | exact val_int (IntWalk.wrap64_in _ ⟨by omega, by omega⟩)⟩
                  | false =>
                    go_wp2_with fail
                    go_roundg (gt.kids.length - (j + 1))
                    case measure => omega
                    case rel => exact ⟨rfl, j + 1, hjl, rfl, by first | rfl | simp, by rw [HCs.out]; simp⟩
                · have hjj : ¬ (j : Int) < (gt.kids.length : Int) := by omega
                  have hcv := HCnt.out
                  rw [List.take_of_length_le (by omega)]
                  have hcn : ¬ (0 : Int) < cntK H gt.kids := by rw [hcv.2 (by first | rfl | trivial)]; omega
                  clear hcv
                  by_cases hz : gt.kids = []
                  · have hz0 : ((gt.kids.length : Int) == 0) = true := by rw [hz]; rfl
                    obtain ⟨-, hl1, hl2⟩ := HV1.out hz
                    obtain ⟨lf, hlf⟩ : ∃ lf : Nat, gt.leaf = lf := ⟨gt.leaf.toNat, by omega⟩
                    have HLf := Lib.hid hlf
                    rw [hlf] at b2 hl1 hl2
                    have hAl : alI F H L.length (i + 1) = (alI F H L.length i).set lf false := by rw [HAl.out, if_pos hz, HLf.out]; rfl
                    have HAl2 := Lib.hid hAl
                    clear hAl hlf hz
                    obtain ⟨old, hold⟩ : ∃ old, (alI F H L.length i)[lf]? = some old := ⟨_, List.getElem?_eq_getElem (by rw [alI_length]; omega)⟩
                    have ca : W6.cell? ⟨ga, lf, none⟩ = some (.bool old) := by rw [(hS2.blk 1 rfl).cell lf, blv, List.getElem?_map, hold]; rfl
                    have fa := (hS2.blk 1 rfl).frozen lf
                    have hlf0 : (0 : Int) ≤ (lf : Int) := by omega
                    have hS3 : Hp [] w4 [iblk gx 40 [.int .i64 gt.need, .slice KA gt.kids.length kc, .int .i64 gt.leaf], iblk ga 4 (blv (alI F H L.length (i + 1)))] (W6.setCell ⟨ga, lf, none⟩ (.bool false)) := by
                      have h9 := hS2.set 1 rfl lf (.bool false)
                      rw [show (blv (alI F H L.length i)).set lf (.bool false) = blv ((alI F H L.length i).set lf false) from by simp [blv, List.map_set], ← HAl2.out] at h9
                      exact h9
                    have HS3 := Lib.hid hS3
                    clear hold hS3
                    go_upto_region 25 with fail
                    go_region
                    all_goals
                      go_wp2_with fail
                      go_roundg (F.length - (i + 1))
                      case measure => omega
                      case rel => exact ⟨i + 1, hil, rfl, by first | rfl | simp, by first | exact HS3.out.tail | exact HS3.out.tail.drew⟩
                  · have hz0 : ((gt.kids.length : Int) == 0) = false := by
                      rw [beq_eq_false_iff_ne]
                      have := List.length_pos_iff.2 hz
                      omega
                    have hAl : alI F H L.length (i + 1) = alI F H L.length i := by rw [HAl.out, if_neg hz]
                    have HAl2 := Lib.hid hAl
                    have HS2 := Lib.hid hS2
                    clear hAl hz
                    go_wp2_with fail
                    go_roundg (F.length - (i + 1))
                    case measure => omega
                    case rel => exact ⟨i + 1, hil, rfl, by first | rfl | simp, by rw [HAl2.out]; exact HS2.out.tail⟩
          · have hie : i = F.length := by omega
            have hii : ¬ (i : Int) < (F.length : Int) := by omega
            subst hie
            have hal := alI_length F H L.length F.length
            have hBa : Bools wr wr.heap.size (some ⟨ga, 0, none⟩) (alI F H L.length F.length) := (hS.blk 0 rfl).bools
            have hLx := hL4.next hS.below0
            have hTx := hT4.up hS.below0
            have hHx := hH4.up hS.below0
            have c1 := hLx.cell
            by_cases hne : F = []
            · have hz0 : ((T.length : Int) == 0) = true := by rw [HTl.out, hne]; rfl
              clear hne hBa hal
              go_wp2_with fail
              refine hLx.awake.mono ?_
              rintro e w7 ⟨rfl, hL7⟩
              go_wp2_with fail
              go_ret
              exact ⟨rfl, hL7.below⟩
            · have hpos : 0 < F.length := List.length_pos_iff.2 hne
              have hz0 : ((T.length : Int) == 0) = false := by rw [beq_eq_false_iff_ne, HTl.out]; omega
              have hz1 : (0 : Int) < (T.length : Int) := by rw [HTl.out]; omega
              have hz2 : (0 : Int) < (H.length : Int) := by rw [HHl.out]; omega
              have hok := HO.out hne
              have hag := hok.again
              have hzo := hok.zero
              rw [hTT] at hag hzo
              generalize alI F H L.length F.length = al at *
              have HC := hLx.truth HF.out hBa (by rw [hal]; exact hll) L.length
              have hck : checkP F (al.length : Int) = 0 := by rw [hal]; exact H0.out
              have htl : truthL F al = truthP F al := by unfold truthL; rw [if_pos hck]
              rw [hck, htl, hal] at HC
              have HC := Lib.hid HC
              have hAl2 := truthP_length F al
              obtain ⟨b, hb0⟩ : ∃ b, T[0]? = some b := ⟨_, List.getElem?_eq_getElem (by omega)⟩
              have hgT : gb T 0 = b := by unfold gb; rw [List.getD_eq_getElem?_getD, hb0]; rfl
              have hH0 : H[0]? = some b := by
                obtain ⟨b2, hb2⟩ : ∃ b, H[0]? = some b := ⟨_, List.getElem?_eq_getElem (by omega)⟩
                have : gb H 0 = b2 := by unfold gb; rw [List.getD_eq_getElem?_getD, hb2]; rfl
                rw [hb2, ← this, hzo, hgT]
              have hA0 : (truthP F al)[0]? = some b := by
                obtain ⟨b2, hb2⟩ : ∃ b, (truthP F al)[0]? = some b := ⟨_, List.getElem?_eq_getElem (by omega)⟩
                have : gb (truthP F al) 0 = b2 := by unfold gb; rw [List.getD_eq_getElem?_getD, hb2]; rfl
                rw [hb2, ← this, hag, hgT]
              have HH0 := Lib.hid hH0
              have HA0 := Lib.hid hA0
              have HB0 := Lib.hid hb0
              have HAl2 := Lib.hid hAl2
              clear hBa hok hag hzo hck htl hAl2 hb0 hgT hH0 hA0 hne hal
              generalize truthP F al = R at *
              go_wp2_with fail
              refine HC.out.mono ?_
              rintro e w7 ⟨⟨RA, rc, rfl, hR⟩, hL7, hb7⟩
              have hT7 := hTx.up hb7
              have hH7 := hHx.up hb7
              clear HC hLx hTx hHx hb7 c1
              have hadd : ∀ a : Addr, a.add 0 = a := fun a => by simp [Addr.add]
              obtain ⟨td, rfl, ct⟩ := hT7.read (Below.refl _ _) HB0.out
              obtain ⟨hd, rfl, ch⟩ := hH7.read (Below.refl _ _) HH0.out
              obtain ⟨rd, rfl, cr⟩ := hR.read (Below.refl _ _) HA0.out
              rw [hadd] at ct ch cr
              have hz3 : (0 : Int) < (R.length : Int) := by rw [HAl2.out]; omega
              have hlen : ((R.length : Int) == (T.length : Int)) = true := by rw [HAl2.out, HTl.out]; simp
              have hbb : (b == b) = true := by simp
              have hLd := hL7.drew
              have d1 : w7.drew.cell? hd = some (.bool b) := ch
              have d2 : w7.drew.cell? td = some (.bool b) := ct
              have d3 : w7.drew.cell? rd = some (.bool b) := cr
              go_upto_region 30 with fail
              have n1 : 0 < T.length := by omega
              have n2 : 0 < H.length := by omega
              have n3 : 0 < R.length := by omega
              have m1 : ¬ T.length ≤ 0 := by omega
              have m2 : ¬ H.length ≤ 0 := by omega
              have m3 : ¬ R.length ≤ 0 := by omega
              first | go_region_held3 (fun w' => w'.cell? hd = some (.bool b) ∧ w'.cell? td = some (.bool b) ∧ w'.cell? rd = some (.bool b)) (first | exact ⟨d1, d2, d3⟩ | exact ⟨f1, f2, f3⟩) ((go_at_call 13; refine (awake_any w7.drew).mono ?_; rintro e w8 ⟨rfl, hb8⟩; have hb9 : Below w7.heap.size w7 w8 := ((Below.refl w7.heap.size w7).drew).trans hb8; have f1 : w8.cell? hd = some (.bool b) := read0 hH7 hb9 HH0.out; have f2 : w8.cell? td = some (.bool b) := read0 hT7 hb9 HB0.out; have f3 : w8.cell? rd = some (.bool b) := read0 hR hb9 HA0.out)) | fail
              all_goals
                go_wp2_with fail
                go_ret
                exact ⟨rfl, (hL7.next hb9).below⟩
      · have hc0 : (checkP F (L.length : Int) != 0) = true := by rw [bne_iff_ne]; exact h0
        have hTL : truthL F L = [] := by unfold truthL; rw [if_neg h0]
        have hHL : honestL F L = [] := by unfold honestL; rw [if_neg h0]
        rw [hTL, hHL]
        clear h0 hTL hHL
        go_wp2_with fail
        refine hL3.awake.mono ?_
        rintro e w5 ⟨rfl, hL5⟩
        go_wp2_with fail
        go_ret
        exact ⟨rfl, hL5.below⟩
end Go.Proofs.YteaaeaimjbaomaaDoor
