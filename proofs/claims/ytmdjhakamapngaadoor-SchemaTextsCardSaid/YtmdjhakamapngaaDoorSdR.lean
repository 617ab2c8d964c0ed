/-
  dominolaw39.SchemaTexts.
-/
import Derived.Test.YtmdjhakamapngaaDoorSdO
import Derived.Test.YtmdjhakamapngaaDoorSdQ
import Derived.Test.YtmdjhakamapngaaDoorSdB
namespace Go.Proofs.YtmdjhakamapngaaDoor
open Go.RowKit Go.Shelf
set_option linter.unusedVariables false

set_option maxRecDepth 20000 in
set_option maxHeartbeats 16000000 in
theorem stexts_walk (nm : ByteArray) (A : Option Addr) (c : Nat) (L : List Fd) (w : World) (hS : Flds w A L) (hG : Glob w) :
    Calls Tryd.prog 7 #[schV nm A L.length c] w fun e w' => e = .returned (.bool true) ∧ Below w.heap.size w w' := by
  have hk := (Hp.start w).new 24 [.string nm, .slice A L.length c]
  have HS := Lib.hid hS
  have HG := Lib.hid hG
  clear hS hG
  obtain ⟨g1, hg1⟩ : ∃ g, w.heap.size = g := ⟨_, rfl⟩
  have HFew := Lib.hid (fun W' h => few_any nm A c L W' h)
  rw [hg1] at hk
  go_enter Tryd.func7, Tryd.ntmps7
  go_upto_region 1 with fail
  try simp only [hg1]
  generalize w.alloc (.cells #[.string nm, .slice A L.length c] 24) = W at *
  obtain ⟨c0, c1⟩ := (hk.blk 0 rfl).get2
  have hb0 := hk.below0
  go_wp2_with fail
  refine (HFew.out W (HS.out.up hb0)).mono ?_
  rintro e w1 ⟨rfl, hb1⟩
  have hk1 := hk.next hb1
  clear hk hb0 hb1 c0 c1 HFew
  have hb1 := hk1.below0
  obtain ⟨c0, c1⟩ := (hk1.blk 0 rfl).get2
  cases hf : fewP nm L with
  | false =>
    clear hf
    go_wp2_with fail
    refine (awake_any w1 (HG.out.up hb1)).mono ?_
    rintro e w2 ⟨rfl, hb2⟩
    go_wp2_with fail
    go_ret
    exact ⟨rfl, (hk1.next hb2).below0⟩
  | true =>
    have HBd := Lib.hid (few_bd hf).1
    have HBW := Lib.hid (few_bd hf).2
    clear hf
    have HT1 := Lib.hid (fun W' hG hS => stext_any nm A c L HBd.out W' hG hS)
    have HT2 := Lib.hid (fun W' hS => rstext_any nm A c L HBd.out W' hS)
    have HTV : Hid (textP nm L = if schemaE nm L ≠ 0 then ([], schemaE nm L) else (schemaT nm L, 0)) := Lib.hid rfl
    have HPT : Hid (schemaE nm L = 0 → (bs (schemaT nm L)).size ≤ 65536 ∧ parseS (schemaT nm L) = (nm, L, 0, 0)) := Lib.hid fun h => ⟨by rw [size_bs]; exact schemaT_len h, parse_text h⟩
    generalize schemaE nm L = E at *
    generalize schemaT nm L = T at *
    generalize textP nm L = tp at *
    obtain ⟨tt, te⟩ := tp
    dsimp only [Sv] at HT1 HT2
    have t1 : ((bs tt).toList == (bs tt).toList) = true := by simp
    have t2 : (te == te) = true := by simp
    go_wp2_with fail
    refine (HT1.out w1 (HG.out.up hb1) (HS.out.up hb1)).mono ?_
    rintro e w2 ⟨rfl, hb2⟩
    have hk2 := hk1.next hb2
    clear hk1 hb1 hb2 c0 c1 HT1
    have hb2 := hk2.below0
    obtain ⟨c0, c1⟩ := (hk2.blk 0 rfl).get2
    go_upto_region 4 with fail
    go_wp2_with fail
    refine (HT2.out w2 (HS.out.up hb2)).mono ?_
    rintro e w3 ⟨rfl, hb3⟩
    have hk3 := hk2.next hb3
    clear hk2 hb2 hb3 c0 c1 HT2
    have hb3 := hk3.below0
    by_cases hE : E = 0
    · have hTp := HTV.out
      rw [if_neg (by simpa using hE)] at hTp
      injection hTp with h1 h2
      subst h1 h2
      obtain ⟨hsz, hps⟩ := HPT.out hE
      have hP := fun W' hG => Parse_any (bs tt) hsz W' hG
      rw [tl_bs, hps] at hP
      have HP := Lib.hid hP
      clear hP hsz hps HPT HTV hE
      generalize bs tt = T at *
      go_upto_region 7 with fail
      go_wp2_with fail
      refine (HP.out w3 (HG.out.up hb3)).mono ?_
      rintro e w4 ⟨⟨XA, xc, rfl, hX⟩, hb4⟩
      have hk4 := (hk3.next hb4).new 24 [.string nm, .slice XA L.length xc]
      have HX := Lib.hid (hX.up ((Below.refl _ _).alloc (Nat.le_refl _) (.cells [.string nm, .slice XA L.length xc].toArray 24)))
      obtain ⟨g7, hg7⟩ : ∃ g, w4.heap.size = g := ⟨_, rfl⟩
      rw [hg7] at hk4
      clear hk3 hb3 hb4 hX HP
      go_upto_region 8 with fail
      try simp only [hg7]
      have hk4 : Hp [] w [iblk g7 24 [.string nm, .slice XA L.length xc], iblk g1 24 [.string nm, .slice A L.length c]] (w4.alloc (.cells #[.string nm, .slice XA L.length xc] 24)) := hk4
      have HX : Hid (Flds (w4.alloc (.cells #[.string nm, .slice XA L.length xc] 24)) XA L) := HX
      generalize w4.alloc (.cells #[.string nm, .slice XA L.length xc] 24) = w5 at *
      go_wp2_with fail
      refine (awake_any w5 (HG.out.up hk4.below0)).mono ?_
      rintro e w6 ⟨rfl, hb6⟩
      have hk6 := hk4.next hb6
      have HX6 := Lib.hid (HX.out.up hb6)
      clear hk4 hb6 HX hg7
      obtain ⟨c0, c1⟩ := (hk6.blk 1 rfl).get2
      obtain ⟨d0, d1⟩ := (hk6.blk 0 rfl).get2
      have HSm := Lib.hid (same_true nm A XA c xc L (by have := HBW.out.1; omega) (fun f hf => by have := (HBW.out.2.2 f hf).2.1; omega) w6 (HS.out.up hk6.below0) HX6.out)
      go_wp2_with fail
      refine HSm.out.mono ?_
      rintro e w7 ⟨rfl, hb7⟩
      go_wp2_with fail
      go_ret
      exact ⟨rfl, (hk6.next hb7).below0⟩
    · have hTp := HTV.out
      rw [if_pos hE] at hTp
      injection hTp with h1 h2
      subst h1 h2
      have hne : (te != 0) = true := by simpa using hE
      go_upto_region 6 with fail
      go_wp2_with fail
      refine (awake_any w3 (HG.out.up hb3)).mono ?_
      rintro e w4 ⟨rfl, hb4⟩
      go_wp2_with fail
      go_ret
      exact ⟨rfl, (hk3.next hb4).below0⟩
end Go.Proofs.YtmdjhakamapngaaDoor
