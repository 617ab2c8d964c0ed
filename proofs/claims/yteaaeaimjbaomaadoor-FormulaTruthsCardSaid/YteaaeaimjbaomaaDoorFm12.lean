/-
  formula.Honest walked.
-/
import Derived.Test.YteaaeaimjbaomaaDoorFm11
namespace Go.Proofs.YteaaeaimjbaomaaDoor
open Go.RowKit
set_option linter.unusedVariables false

def honestL (F : List Gt) (L : List Bool) : List Bool := if checkP F L.length = 0 then honestP F (truthP F L) else []
def HonRel (w : World) (go : Nat) (F : List Gt) (T : List Bool) (R : List Bool) (i : Value) (W : World) : Prop :=
  ∃ (k : Nat) (out : List Bool), k ≤ F.length ∧ i = .int .i64 (k : Int) ∧ out.length = F.length ∧ Kp w [(go, 4, blv out)] W ∧ Hid (honRun F T (F.length - k) k out = R)
def HonKid (w : World) (go : Nat) (F : List Gt) (T : List Bool) (ks : List Int) (at_ : Nat) (v : Bool) (R : List Bool) (left i : Value) (W : World) : Prop :=
  ∃ (j : Nat) (lf : Int) (out : List Bool), j ≤ ks.length ∧ i = .int .i64 (j : Int) ∧ left = .int .i64 lf ∧ -1000000 ≤ lf ∧ lf ≤ 1000000 ∧ out.length = F.length ∧ out.getD at_ false = v ∧ Kp w [(go, 4, blv out)] W ∧ Hid ((if v then honKidsP T (ks.drop j) lf out else out) = R)
set_option maxHeartbeats 2000000 in
theorem Honest_ok (A LA : Option Addr) (c lc : Nat) (F : List Gt) (L : List Bool) (hF : F.length ≤ 512) (hK : ∀ g ∈ F, g.kids.length ≤ 1000000) (hV : Valid F L) (w : World) (hG : Gates w w.heap.size A F) (hL : Bools w w.heap.size LA L) (hLl : L.length ≤ 1000000) (h0 : checkP F L.length = 0) (hne : F ≠ []) :
    Calls Tryd.prog 18 #[.agg #[.slice A F.length c], .slice LA L.length lc] w fun e w' => (∃ g, e = .returned (.tuple #[.slice (some ⟨g, 0, none⟩) F.length F.length, .int .i64 0]) ∧ Blk w' g 4 (blv (honestP F (truthP F L))) ∧ w.heap.size ≤ g) ∧ Below w.heap.size w w' := by
  have hpos : 0 < F.length := by
    rcases Nat.eq_zero_or_pos F.length with h | h
    · exact absurd (List.eq_nil_of_length_eq_zero h) hne
    · exact h
  have hmk := make_bools F.length (by omega)
  have hk := (Kp.start w).new 24 [.slice A F.length c]
  have HC := Lib.hid (Truth_any A LA c lc F L (by omega) hK (w.alloc (.cells #[.slice A F.length c] 24)) (hG.keep' hk.below) (hL.up hk.below) hLl)
  rw [h0, truthL, if_pos h0] at HC
  have hTl := truthP_length F L
  generalize truthP F L = T at *
  clear h0
  go_enter Tryd.func18, Tryd.ntmps18
  go_wp2_with fail
  refine HC.out.mono ?_
  rintro e w1 ⟨⟨TA, tc, rfl, hT⟩, hb1⟩
  rw [hTl]
  have hk1 := hk.next hb1
  clear hk hb1 HC
  obtain ⟨ta, hTA, htb, htr⟩ := hT.some_ (by rintro rfl; simp at hTl; omega)
  subst hTA
  go_upto_region 4 with fail
  have c0 : w1.cell? ⟨w.heap.size, 0, none⟩ = some (.slice A F.length c) := (hk1.at_ 0 rfl).cell 0
  have hgf : w.heap.size < w1.heap.size := (hk1.at_ 0 rfl).lt
  have hG1 := hG.keep' hk1.below
  have hb0 := hk1.below
  have hk2 : Kp w1 [(w1.heap.size, 4, blv (List.replicate F.length false))] (w1.alloc (.cells (Array.replicate F.length (.bool false)) 4)) := by
    have := (Kp.start w1).new 4 (blv (List.replicate F.length false))
    simpa [blv] using this
  clear hk1 hG hL
  go_upto_region 5 with fail
  clear hmk
  generalize w1.alloc (.cells (Array.replicate F.length (.bool false)) 4) = W2 at *
  have hgo : w1.heap.size ≤ w1.heap.size := Nat.le_refl _
  generalize hgg : w1.heap.size = go at hk2
  obtain ⟨t0, ht0⟩ : ∃ t0, T[0]? = some t0 := ⟨_, List.getElem?_eq_getElem (by omega)⟩
  have ct : W2.cell? ta = some (.bool t0) := by
    have h9 := htr 0 (.bool t0) (by rw [blv, List.getElem?_map, ht0]; rfl)
    rw [hk2.below.cell (p := ta) (by omega)]
    simpa [Addr.add] using h9
  have co : W2.cell? ⟨go, 0, none⟩ = some (.bool false) := by
    rw [(hk2.at_ 0 rfl).cell 0]; simp [blv, hpos]
  have fo := (hk2.at_ 0 rfl).frozen 0
  go_upto_region 6 with fail
  have hk3 : Kp w1 [(go, 4, blv ((List.replicate F.length false).set 0 t0))] (W2.setCell ⟨go, 0, none⟩ (.bool t0)) := by
    have h9 := hk2.setHead (by omega) (by intro x hx; cases hx) 0 (.bool t0)
    rw [show (blv (List.replicate F.length false)).set 0 (.bool t0) = blv ((List.replicate F.length false).set 0 t0) from by simp [blv, List.map_set]] at h9
    exact h9
  have HP : Hid (honRun F T F.length 0 ((List.replicate F.length false).set 0 t0) = honestP F T) := by
    refine Lib.hid ?_
    rw [honestP, List.getD_eq_getElem?_getD, ht0]; rfl
  clear hk2 ct co fo
  generalize W2.setCell ⟨go, 0, none⟩ (.bool t0) = W3 at *
  have c1 : W3.cell? ⟨w.heap.size, 0, none⟩ = some (.slice A F.length c) := by rw [hk3.below.cell (p := ⟨w.heap.size, 0, none⟩) hgf]; exact c0
  go_upto_region 7 with fail
  clear c1
  go_loopw [39] (HonRel w1 go F T (honestP F T)) (fun i _ => F.length - (intOf i).toNat)
  case atStart => exact ⟨0, _, Nat.zero_le _, rfl, by simp, hk3, HP⟩
  case round =>
    obtain ⟨k, out, hk', rfl, hol, hS, HR⟩ := hrel
    clear hk3 HP
    by_cases hkl : k < F.length
    · obtain ⟨g, hg⟩ : ∃ g, F[k]? = some g := ⟨_, List.getElem?_eq_getElem hkl⟩
      have hkn : g.kids.length ≤ 1000000 := hK g (List.mem_of_getElem? hg)
      have hok := hV k g hg
      obtain ⟨ad, hA, hab, hga⟩ := hG1.some_ hne
      subst hA
      obtain ⟨KA, kc, gk', gi⟩ := (hga k g hg).kids
      have ga := (hga k g hg).keep hS.below (Nat.le_refl _) (by rw [add_block]; exact hab)
      have gk : wr.cell? ⟨(ad.add (k * 3)).block, (ad.add (k * 3)).off + 1, none⟩ = some (.slice KA g.kids.length kc) := by
        rw [hS.below.cell (p := ⟨(ad.add (k * 3)).block, (ad.add (k * 3)).off + 1, none⟩) (by show (ad.add (k * 3)).block < _; rw [add_block]; exact hab)]; exact gk'
      have gn1 := ga.need
      have gl := ga.leaf
      have hnd : -1000000 ≤ g.need ∧ g.need ≤ 1000000 := by
        by_cases hz : g.kids = []
        · have := hok.1 hz; omega
        · have := hok.2.1 hz; omega
      clear gk' ga
      go_upto_region 9 with fail
      have hS2 : Kp w1 [(go, 4, blv out)] (wr.alloc (.cells #[.int .i64 g.need, .slice KA g.kids.length kc, .int .i64 g.leaf] 40)) := hS.alloc _
      obtain ⟨b0, b1, b2⟩ := (Blk.new wr 40 [.int .i64 g.need, .slice KA g.kids.length kc, .int .i64 g.leaf]).get3
      clear gn1 gl gk hS
      have b0' : (wr.alloc (.cells #[.int .i64 g.need, .slice KA g.kids.length kc, .int .i64 g.leaf] 40)).cell? ⟨wr.heap.size, 0, none⟩ = some (.int .i64 g.need) := b0
      have b1' : (wr.alloc (.cells #[.int .i64 g.need, .slice KA g.kids.length kc, .int .i64 g.leaf] 40)).cell? ⟨wr.heap.size, 1, none⟩ = some (.slice KA g.kids.length kc) := b1
      clear b0 b1 b2
      generalize wr.alloc (.cells #[.int .i64 g.need, .slice KA g.kids.length kc, .int .i64 g.leaf] 40) = W4 at *
      generalize wr.heap.size = g10 at *
      go_upto_region 11 with fail
      clear b0' b1'
      have HQ : Hid (honRun F T (F.length - (k + 1)) (k + 1) (honStep F T out k) = honestP F T) := by
        refine Lib.hid ?_
        have h9 := HR.out
        rw [show F.length - k = (F.length - (k + 1)) + 1 by omega, honRun] at h9
        exact h9
      clear HR
      have HR0 : Hid ((if out.getD k false then honKidsP T (g.kids.drop 0) g.need out else out) = honStep F T out k) := by
        refine Lib.hid ?_
        rw [honStep, hg]; rfl
      have hin := hok.2.2
      go_loopw [11, 49] (HonKid w1 go F T g.kids k (out.getD k false) (honStep F T out k)) (fun _ i _ => g.kids.length - (intOf i).toNat)
      case atStart => exact ⟨0, g.need, out, Nat.zero_le _, rfl, rfl, hnd.1, hnd.2, hol, rfl, hS2, HR0⟩
      case round =>
        obtain ⟨j, lf, o2, hj, rfl, rfl, hl1, hl2, ho2, hov, hS, HR⟩ := hrel
        clear HR0 hS2
        by_cases hjl : j < g.kids.length
        · obtain ⟨ka, hKA, hkb, hrun⟩ := gi.some_ (by rintro h9; rw [h9] at hjl; simp at hjl)
          subst hKA
          obtain ⟨x, hx⟩ : ∃ x, g.kids[j]? = some x := ⟨_, List.getElem?_eq_getElem hjl⟩
          have hxm := hin x (List.mem_of_getElem? hx)
          obtain ⟨y, rfl⟩ := Int.eq_ofNat_of_zero_le (show 0 ≤ x by omega)
          have hyl : y < F.length := by omega
          have hyk : k < y := by omega
          have cx : wr.cell? (ka.add j) = some (.int .i64 (y : Int)) := by
            rw [hS.below.cell (p := ka.add j) (by rw [add_block]; exact hkb)]
            exact hrun j _ (by rw [List.getElem?_map, hx]; rfl)
          have hdr : g.kids.drop j = (y : Int) :: g.kids.drop (j + 1) := by
            rw [List.drop_eq_getElem_cons hjl]
            congr 1
            rw [List.getElem?_eq_getElem hjl] at hx
            exact Option.some.inj hx
          have cat : wr.cell? ⟨go, k, none⟩ = some (.bool (out.getD k false)) := by
            rw [(hS.at_ 0 rfl).cell k, blv, List.getElem?_map, List.getElem?_eq_getElem (by omega), ← hov, List.getD_eq_getElem?_getD, List.getElem?_eq_getElem (by omega)]; rfl
          obtain ⟨tv, htv⟩ : ∃ tv, T[y]? = some tv := ⟨_, List.getElem?_eq_getElem (by omega)⟩
          have ctv : wr.cell? (ta.add y) = some (.bool tv) := by
            rw [hS.below.cell (p := ta.add y) (by rw [add_block]; exact htb)]
            exact htr y _ (by rw [blv, List.getElem?_map, htv]; rfl)
          have htg : T.getD ((y : Int)).toNat false = tv := by rw [Int.toNat_natCast, List.getD_eq_getElem?_getD, htv]; rfl
          have HH := HR.out
          rw [hdr, honKidsP, htg, Int.toNat_natCast] at HH
          have HD := Lib.hid HH
          have hse := hS.setHead (by omega) (by intro x' hx'; cases hx') y (.bool true)
          rw [show (blv o2).set y (.bool true) = blv (o2.set y true) from by simp [blv, List.map_set]] at hse
          have fy := (hS.at_ 0 rfl).frozen y
          obtain ⟨oy, hoy⟩ : ∃ oy, wr.cell? ⟨go, y, none⟩ = some oy := ⟨_, by rw [(hS.at_ 0 rfl).cell y]; exact List.getElem?_eq_getElem (by simp [blv]; omega)⟩
          have hgk : (o2.set y true).getD k false = out.getD k false := by
            rw [← hov, List.getD_eq_getElem?_getD, List.getD_eq_getElem?_getD, List.getElem?_set_ne (by omega)]
          have HGK := Lib.hid hgk
          have HOV := Lib.hid hov
          have HSE := Lib.hid hse
          clear hgk hov hse HR HH htg hdr hx htv hrun hin hxm
          generalize out.getD k false = v at *
          cases v with
          | false =>
            go_wp2_with fail
            go_roundw
            case rel => exact ⟨j + 1, lf, o2, hjl, by go_num, rfl, hl1, hl2, ho2, HOV.out, hS, Lib.hid (by have h9 := HD.out; simpa using h9)⟩
            case measure => simp [intOf]; omega
          | true =>
            cases tv with
            | false =>
              go_wp2_with fail
              go_roundw
              case rel => exact ⟨j + 1, lf, o2, hjl, by go_num, rfl, hl1, hl2, ho2, HOV.out, hS, Lib.hid (by have h9 := HD.out; simpa using h9)⟩
              case measure => simp [intOf]; omega
            | true =>
              by_cases hlf : 0 < lf
              · have tl0 : decide (0 < lf) = true := by simpa using hlf
                go_wp2_with fail
                go_roundw
                case rel => exact ⟨j + 1, lf - 1, o2.set y true, hjl, by go_num, rfl, by omega, by omega, by simp [ho2], HGK.out, HSE.out, Lib.hid (by have h9 := HD.out; simpa [hlf] using h9)⟩
                case measure => simp [intOf]; omega
              · have tl0 : decide (0 < lf) = false := by simpa using hlf
                go_wp2_with fail
                go_roundw
                case rel => exact ⟨j + 1, lf, o2, hjl, by go_num, rfl, hl1, hl2, ho2, HOV.out, hS, Lib.hid (by have h9 := HD.out; simpa [hlf] using h9)⟩
                case measure => simp [intOf]; omega
        · have HE : Hid (o2 = honStep F T out k) := by
            refine Lib.hid ?_
            have h9 := HR.out
            rw [show j = g.kids.length by omega, List.drop_length] at h9
            by_cases hv : out.getD k false = true
            · rw [if_pos hv] at h9; exact h9
            · rw [if_neg hv] at h9; exact h9
          clear HR
          go_wp2_with fail
          go_roundw
          case rel => exact ⟨k + 1, o2, by omega, by go_num, ho2, hS, Lib.hid (by rw [HE.out]; exact HQ.out)⟩
          case measure => simp [intOf]; omega
    · have HE : Hid (out = honestP F T) := by
        refine Lib.hid ?_
        have h9 := HR.out
        rw [show F.length - k = 0 by omega] at h9
        exact h9
      clear HR
      go_wp2_with fail
      go_ret2
      exact ⟨⟨go, rfl, HE.out ▸ hS.at_ 0 rfl, by omega⟩, hb0.trans (hS.below.mono hb0.size)⟩
set_option maxRecDepth 20000 in
set_option maxHeartbeats 1000000 in
theorem Honest_any (A LA : Option Addr) (c lc : Nat) (F : List Gt) (L : List Bool) (hF : F.length ≤ 1000000) (hK : ∀ g ∈ F, g.kids.length ≤ 1000000) (w : World) (hG : Gates w w.heap.size A F) (hL : Bools w w.heap.size LA L) (hLl : L.length ≤ 1000000) :
    Calls Tryd.prog 18 #[.agg #[.slice A F.length c], .slice LA L.length lc] w fun e w' => SliceOut (checkP F L.length) (honestL F L) e w' ∧ Below w.heap.size w w' := by
  by_cases h0 : checkP F L.length = 0
  · obtain ⟨hV, h512⟩ := check_valid h0
    by_cases hz : F = []
    · have hk := (Kp.start w).new 24 [.slice A F.length c]
      have HC := Lib.hid (Truth_any A LA c lc F L hF hK (w.alloc (.cells #[.slice A F.length c] 24)) (hG.keep' hk.below) (hL.up hk.below) hLl)
      have HT : Hid (honestL F L = []) := by
        refine Lib.hid ?_
        rw [honestL, if_pos h0]
        exact List.eq_nil_of_length_eq_zero (by rw [honestP_length, hz]; rfl)
      have hl0 : (truthL F L).length = 0 := by rw [truthL, if_pos h0, truthP_length, hz]; rfl
      have HD : Hid (Calls Tryd.prog 16 #[.agg #[.slice A F.length c], .slice LA L.length lc] (w.alloc (.cells #[.slice A F.length c] 24)) fun e w' => (∃ A c, e = .returned (.tuple #[.slice A 0 c, .int .i64 0])) ∧ Below (w.alloc (.cells #[.slice A F.length c] 24)).heap.size (w.alloc (.cells #[.slice A F.length c] 24)) w') := by
        refine Lib.hid (HC.out.mono ?_)
        rintro e w' ⟨⟨TA, tc, he, _⟩, hb⟩
        rw [hl0, h0] at he
        exact ⟨⟨TA, tc, he⟩, hb⟩
      have H0 := Lib.hid h0
      clear h0 hl0 HC hz
      go_enter Tryd.func18, Tryd.ntmps18
      go_wp2_with fail
      refine HD.out.mono ?_
      rintro e w1 ⟨⟨TA, tc, rfl⟩, hb1⟩
      have hk1 := hk.next hb1
      go_wp2_with fail
      go_ret2
      rw [HT.out, H0.out]
      exact ⟨⟨none, 0, rfl, ⟨fun h9 => absurd rfl h9⟩⟩, hk1.below⟩
    · refine (Honest_ok A LA c lc F L h512 hK hV w hG hL hLl h0 hz).mono ?_
      rintro e w' ⟨⟨g, rfl, hg, _⟩, hb⟩
      rw [h0, honestL, if_pos h0]
      exact ⟨⟨_, F.length, by rw [honestP_length], hg.bools⟩, hb⟩
  · have hk := (Kp.start w).new 24 [.slice A F.length c]
    have HC := Lib.hid (Truth_any A LA c lc F L hF hK (w.alloc (.cells #[.slice A F.length c] 24)) (hG.keep' hk.below) (hL.up hk.below) hLl)
    have HT : Hid (honestL F L = []) := by refine Lib.hid ?_; rw [honestL, if_neg h0]
    have t1 : (checkP F L.length != 0) = true := by simpa using h0
    go_enter Tryd.func18, Tryd.ntmps18
    go_wp2_with fail
    refine HC.out.mono ?_
    rintro e w1 ⟨⟨TA, tc, rfl, hT⟩, hb1⟩
    have hk1 := hk.next hb1
    go_wp2_with fail
    go_ret2
    rw [HT.out]
    exact ⟨⟨none, 0, rfl, ⟨fun h9 => absurd rfl h9⟩⟩, hk1.below⟩
end Go.Proofs.YteaaeaimjbaomaaDoor
