/-
  dominolaw42.ParserForms.
-/
import Derived.Test.YtminghdnclpocaaGreatDoorPqD
import Derived.Test.YtminghdnclpocaaGreatDoorPgC
import Derived.Test.YtminghdnclpocaaGreatDoorPgE
import Derived.Test.YtminghdnclpocaaGreatDoorPgH
namespace Go.Proofs.YtminghdnclpocaaGreatDoor
open Go.RowKit Go.Shelf
set_option linter.unusedVariables false

theorem tidy_call (d : Po) (L : Lp) (hB : PBd d) (h : tidyP d = (d, 0)) (w : World) (hP : PolM w d L) : Calls Tryz.prog 19 #[polV d L] w fun e w' => (∃ L', e = .returned (.tuple #[polV d L', .int .i64 0]) ∧ PolM w' d L') ∧ Below w.heap.size w w' := by
  have h1 := tidy_any d L hB w hP
  rw [h] at h1
  exact h1
set_option maxRecDepth 20000 in
set_option maxHeartbeats 16000000 in
theorem forms_walk (s : ByteArray) (w : World) : Calls Tryz.prog 9 #[.string s] w fun e w' => e = .returned (.bool true) ∧ Below w.heap.size w w' := by
  have HA := Lib.hid (fun W => awake_any W)
  by_cases hs : 600 < s.size
  · have hi : (600 : Int) < (s.size : Int) := by omega
    go_enter Tryz.func9, Tryz.ntmps9
    go_wp2_with fail
    refine (HA.out _).mono ?_
    rintro e w1 ⟨rfl, hb1⟩
    go_wp2_with fail
    go_ret
    exact ⟨rfl, hb1⟩
  have hi : ¬ (600 : Int) < (s.size : Int) := by omega
  have hB := parse_pbd (tl s) (by rw [length_tl]; omega)
  have HP := Lib.hid (fun W => Parse_any s (by omega) W)
  have HL := Lib.hid (fun (h : (parseP (tl s)).2.2 = 0) => forms_ok h)
  have HM := Lib.hid (fun (h : (parseP (tl s)).2.2 ≠ 0) => forms_bad h)
  have hlen : (tl s).length = s.size := length_tl s
  rw [hlen] at HL HM
  clear hlen
  generalize parseP (tl s) = R at *
  obtain ⟨pd, at1, E⟩ := R
  simp only at HL HM hB
  by_cases hE : E = 0
  · subst hE
    obtain ⟨h1, h2, h3, h4, h5, h6⟩ := HL.out rfl
    clear HL HM
    try simp only at h1
    subst h1
    have hroot : (pd.root != 0) = false := by rw [h2]; rfl
    have HC1 := Lib.hid (fun L W (h : PolM W pd L) => pcheck_any pd L hB W h)
    rw [h3] at HC1
    have HC2 := Lib.hid (fun L W (h : PolM W pd L) => tidy_call pd L hB h4 W h)
    have HC3 := Lib.hid (fun L L' W (h : PolM W pd L) (h' : PolM W pd L') => requal_same pd L L' hB W h h')
    have H5 := Lib.hid h5
    have H6 := Lib.hid h6
    have hnl := hB.nl
    clear h2 h3 h4 h5 h6
    go_enter Tryz.func9, Tryz.ntmps9
    go_wp2_with fail
    refine (HP.out _).mono ?_
    rintro e w1 ⟨⟨L, rfl, hM⟩, hb1⟩
    have hk1 := ((Hp.start w).next hb1).new 27 (polcs pd L)
    have hba := (Below.refl w1.heap.size w1).alloc (Nat.le_refl _) (.cells #[.string pd.name, .slice L.ua pd.uses.length L.uc, .slice L.ra pd.reveal.length L.rc, .slice L.na pd.nodes.length L.nc, .int .i64 pd.root, .string pd.scope, .int .i64 pd.limit, .string pd.escrow] 27)
    have M1 := hM.up hba
    clear hM hb1 hba HP
    go_upto_region 4 with fail
    obtain ⟨g1, hg1⟩ : ∃ g, w1.heap.size = g := ⟨_, rfl⟩
    try simp only [hg1] at hk1 ⊢
    generalize w1.alloc _ = w2 at *
    clear hg1
    obtain ⟨c0, c1, c2, c3, c4, c5, c6, c7⟩ := (hk1.blk 0 rfl).get8
    have HT := Lib.hid (HC2.out L w2 M1)
    clear HC2
    go_wp2_with fail
    refine HT.out.mono ?_
    rintro e w3 ⟨⟨L2, rfl, hM2⟩, hb3⟩
    have hk3 := (hk1.next hb3).new 27 (polcs pd L2)
    have hba := (Below.refl w3.heap.size w3).alloc (Nat.le_refl _) (.cells #[.string pd.name, .slice L2.ua pd.uses.length L2.uc, .slice L2.ra pd.reveal.length L2.rc, .slice L2.na pd.nodes.length L2.nc, .int .i64 pd.root, .string pd.scope, .int .i64 pd.limit, .string pd.escrow] 27)
    have M2 := hM2.up hba
    have M3 := (M1.up hb3).up hba
    clear hM2 hb3 hba HT M1 hk1 c0 c1 c2 c3 c4 c5 c6 c7
    go_upto_region 7 with fail
    obtain ⟨g2, hg2⟩ : ∃ g, w3.heap.size = g := ⟨_, rfl⟩
    try simp only [hg2] at hk3 ⊢
    generalize w3.alloc _ = w4 at *
    clear hg2
    obtain ⟨c0, c1, c2, c3, c4, c5, c6, c7⟩ := (hk3.blk 1 rfl).get8
    have HT := Lib.hid (HC1.out L w4 M3)
    clear HC1
    go_wp2_with fail
    refine HT.out.mono ?_
    rintro e w5 ⟨rfl, hb5⟩
    have hk5 := hk3.next hb5
    have N2 := M2.up hb5
    have N3 := M3.up hb5
    clear HT hk3 M2 M3 hb5 c0 c1 c2 c3 c4 c5 c6 c7
    obtain ⟨c0, c1, c2, c3, c4, c5, c6, c7⟩ := (hk5.blk 1 rfl).get8
    obtain ⟨d0, d1, d2, d3, d4, d5, d6, d7⟩ := (hk5.blk 0 rfl).get8
    have HT := Lib.hid (HC3.out L L2 w5 N3 N2)
    clear HC3
    go_wp2_with fail
    refine HT.out.mono ?_
    rintro e w6 ⟨rfl, hb6⟩
    have hk6 := hk5.next hb6
    have N4 := N3.up hb6
    clear HT hk5 N2 N3 hb6 c0 c1 c2 c3 c4 c5 c6 c7 d0 d1 d2 d3 d4 d5 d6 d7
    have m1 := hk6.blk 1 rfl
    obtain ⟨c0, c1, c2, c3, c4, c5, c6, c7⟩ := m1.get8
    go_upto_region 10 with fail
    clear c0 c1 c2 c3 c4 c5 c6 c7
    go_loopg [8] pd.nodes.length (fun m s8 wx => ∃ i : Nat, i ≤ pd.nodes.length ∧ m = pd.nodes.length - i ∧ s8 = .int .i64 (i : Int) ∧ Below w6.heap.size w6 wx)
    case atStart => exact ⟨0, Nat.zero_le _, rfl, rfl, Below.refl _ _⟩
    case round =>
      obtain ⟨i, hi9, rfl, rfl, hbx⟩ := hrel
      have c3 := (m1.up hbx).cell 3
      simp only [List.getElem?_cons_zero, List.getElem?_cons_succ] at c3
      by_cases hil : i < pd.nodes.length
      · have hii : (i : Int) < (pd.nodes.length : Int) := by omega
        have hi0 : (0 : Int) ≤ (i : Int) := by omega
        obtain ⟨x, hx⟩ : ∃ x, pd.nodes[i]? = some x := ⟨_, List.getElem?_eq_getElem hil⟩
        obtain ⟨b0, b1⟩ := H5.out x (List.mem_of_getElem? hx)
        have b2 : ¬ x.at_ < 0 := by omega
        have b3 : ¬ (s.size : Int) ≤ x.at_ := by omega
        obtain ⟨ad, KX, kx, hna, nx⟩ := (N4.up hbx).ns.at_ i x hx
        have HNA := Lib.hid hna
        have HX := Lib.hid hx
        clear hna hx
        rw [HNA.out] at c3
        obtain ⟨x0, x1, x2, x3, x4, x5, -⟩ := nx
        have hmn := Blk.new wr 46 [.int .i64 x.kind, .int .i64 x.num, .string x.name, .string x.attr, .slice KX x.kids.length kx, .int .i64 x.at_]
        have hbn := (Below.refl wr.heap.size wr).alloc (Nat.le_refl _) (.cells #[.int .i64 x.kind, .int .i64 x.num, .string x.name, .string x.attr, .slice KX x.kids.length kx, .int .i64 x.at_] 46)
        have hby := hbx.trans (hbn.mono hbx.size)
        obtain ⟨g9, hg9⟩ : ∃ g, wr.heap.size = g := ⟨_, rfl⟩
        go_upto_region 13 with fail
        try simp only [hg9]
        rw [hg9] at hmn
        have hmn : Blk (wr.alloc (.cells #[.int .i64 x.kind, .int .i64 x.num, .string x.name, .string x.attr, .slice KX x.kids.length kx, .int .i64 x.at_] 46)) g9 46 [.int .i64 x.kind, .int .i64 x.num, .string x.name, .string x.attr, .slice KX x.kids.length kx, .int .i64 x.at_] := hmn
        clear x0 x1 x2 x3 x4 x5 c3 hbn
        generalize wr.alloc _ = w7 at *
        clear hg9
        obtain ⟨x0, x1, x2, x3, x4, x5⟩ := hmn.get6
        cases hz : ((i : Int) == 0) with
        | true =>
          go_wp2_with fail
          go_roundg (pd.nodes.length - (i + 1))
          case measure => omega
          case rel => exact ⟨i + 1, hil, rfl, by first | rfl | simp, hby⟩
        | false =>
          obtain ⟨j, hj⟩ : ∃ j, i = j + 1 := ⟨i - 1, by
            have : ¬ (i : Int) = 0 := by simpa using hz
            omega⟩
          obtain ⟨y, hy⟩ : ∃ y, pd.nodes[j]? = some y := ⟨_, List.getElem?_eq_getElem (by omega)⟩
          have hw1 : IntKind.i64.wrap ((i : Int) - 1) = (j : Int) := by rw [IntWalk.i64_in _ (by omega)]; omega
          have hj0 : (0 : Int) ≤ (j : Int) := by omega
          have hjj : (j : Int) < (pd.nodes.length : Int) := by omega
          have HR := Lib.hid (H6.out j y x hy (by rw [← hj]; exact HX.out))
          obtain ⟨ad', KY, ky, hna', ny⟩ := (N4.up hby).ns.at_ j y hy
          rw [HNA.out] at hna'
          obtain rfl : ad = ad' := by injection hna'
          have c3 := (m1.up hby).cell 3
          simp only [List.getElem?_cons_zero, List.getElem?_cons_succ] at c3
          rw [HNA.out] at c3
          obtain ⟨y0, y1, y2, y3, y4, y5, -⟩ := ny
          have hmm := Blk.new w7 46 [.int .i64 y.kind, .int .i64 y.num, .string y.name, .string y.attr, .slice KY y.kids.length ky, .int .i64 y.at_]
          have hbn := (Below.refl w7.heap.size w7).alloc (Nat.le_refl _) (.cells #[.int .i64 y.kind, .int .i64 y.num, .string y.name, .string y.attr, .slice KY y.kids.length ky, .int .i64 y.at_] 46)
          have hbz := hby.trans (hbn.mono hby.size)
          have hmn2 := hmn.up hbn
          obtain ⟨g10, hg10⟩ : ∃ g, w7.heap.size = g := ⟨_, rfl⟩
          clear hj hy hna'
          go_upto_region 17 with fail
          try simp only [hg10]
          rw [hg10] at hmm
          have hmm : Blk (w7.alloc (.cells #[.int .i64 y.kind, .int .i64 y.num, .string y.name, .string y.attr, .slice KY y.kids.length ky, .int .i64 y.at_] 46)) g10 46 [.int .i64 y.kind, .int .i64 y.num, .string y.name, .string y.attr, .slice KY y.kids.length ky, .int .i64 y.at_] := hmm
          clear x0 x1 x2 x3 x4 x5 y0 y1 y2 y3 y4 y5 c3 hbn
          generalize w7.alloc _ = w8 at *
          clear hg10
          obtain ⟨x0, x1, x2, x3, x4, x5⟩ := hmn2.get6
          obtain ⟨y0, y1, y2, y3, y4, y5⟩ := hmm.get6
          have HR2 := HR.out
          clear HR
          by_cases k1 : 6 ≤ y.kind
          · by_cases k2 : y.kind ≤ 8
            · rw [if_pos ⟨k1, k2⟩] at HR2
              have hne : (x.at_ != y.at_) = false := by rw [HR2]; simp
              clear HR2
              go_wp2_with fail
              go_roundg (pd.nodes.length - (i + 1))
              case measure => omega
              case rel => exact ⟨i + 1, hil, rfl, by first | rfl | simp, hbz⟩
            · rw [if_neg (fun h => k2 h.2)] at HR2
              have hle : ¬ x.at_ ≤ y.at_ := by omega
              clear HR2
              go_wp2_with fail
              go_roundg (pd.nodes.length - (i + 1))
              case measure => omega
              case rel => exact ⟨i + 1, hil, rfl, by first | rfl | simp, hbz⟩
          · rw [if_neg (fun h => k1 h.1)] at HR2
            have hle : ¬ x.at_ ≤ y.at_ := by omega
            clear HR2
            go_wp2_with fail
            go_roundg (pd.nodes.length - (i + 1))
            case measure => omega
            case rel => exact ⟨i + 1, hil, rfl, by first | rfl | simp, hbz⟩
      · have hii : ¬ (i : Int) < (pd.nodes.length : Int) := by omega
        have hk9 := hk6.next hbx
        go_wp2_with fail
        refine (HA.out _).mono ?_
        rintro e wf ⟨rfl, hbf⟩
        go_wp2_with fail
        go_ret
        exact ⟨rfl, (hk9.next hbf).below0⟩
  · obtain ⟨h1, h2⟩ := HM.out hE
    try simp only at h1 h2
    subst h1
    have hne : (E != 0) = true := by rw [bne_iff_ne]; exact hE
    have hp : (0 : Int) ≤ (at1 : Int) := by omega
    have hq : (at1 : Int) ≤ (s.size : Int) := by omega
    have HQ : Hid (∀ W L, PolM W zPo L → Calls Tryz.prog 13 #[polV zPo L, .agg #[.string ⟨#[]⟩, .slice none 0 0, .slice none 0 0, .slice none 0 0, .int .i64 0, .string ⟨#[]⟩, .int .i64 0, .string ⟨#[]⟩]] W fun e w' => e = .returned (.bool true) ∧ Below W.heap.size W w') := Lib.hid fun W L h => requal_same zPo L ⟨none, 0, none, 0, none, 0⟩ zpo_bd W h (polm_zero W)
    clear HL HM hE h2 hB
    go_enter Tryz.func9, Tryz.ntmps9
    go_wp2_with fail
    refine (HP.out _).mono ?_
    rintro e w1 ⟨⟨L, rfl, hM⟩, hb1⟩
    have hk1 := ((Hp.start w).next hb1).new 27 (polcs zPo L)
    have hba := (Below.refl w1.heap.size w1).alloc (Nat.le_refl _) (.cells #[.string zPo.name, .slice L.ua zPo.uses.length L.uc, .slice L.ra zPo.reveal.length L.rc, .slice L.na zPo.nodes.length L.nc, .int .i64 zPo.root, .string zPo.scope, .int .i64 zPo.limit, .string zPo.escrow] 27)
    have M1 := hM.up hba
    clear hM hb1 hba HP
    go_upto_region 4 with fail
    obtain ⟨g1, hg1⟩ : ∃ g, w1.heap.size = g := ⟨_, rfl⟩
    try simp only [hg1] at hk1 ⊢
    generalize w1.alloc _ = w2 at *
    clear hg1
    go_wp2_with fail
    refine (HA.out _).mono ?_
    rintro e w3 ⟨rfl, hb3⟩
    have hk3 := hk1.next hb3
    have M3 := M1.up hb3
    clear hk1 M1 hb3
    obtain ⟨c0, c1, c2, c3, c4, c5, c6, c7⟩ := (hk3.blk 0 rfl).get8
    have HT := Lib.hid (HQ.out w3 L M3)
    clear HQ
    go_wp2_with fail
    refine HT.out.mono ?_
    rintro e w5 ⟨rfl, hb5⟩
    go_wp2_with fail
    go_ret
    exact ⟨rfl, (hk3.next hb5).below0⟩
end Go.Proofs.YtminghdnclpocaaGreatDoor
