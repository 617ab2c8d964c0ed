/- The closures of printer.Print. -/
import Derived.Test.YtekkapgknohadaaGreatDoorM17
import Derived.Test.YtekkapgknohadaaGreatDoorM22
import Derived.Test.YtekkapgknohadaaGreatDoorM18
set_option linter.unusedVariables false
set_option maxRecDepth 20000
set_option maxHeartbeats 8000000
namespace Go.Proofs.YtekkapgknohadaaGreatDoor
open Go.Shelf Go.RowKit
open Lib (hid)
set_option linter.unusedSimpArgs false
structure SPr (W0 : World) (b gw gp : Nat) (d : Po) (L : Lp) (W : World) : Prop where
 bel : Below W0.heap.size W0 W
 wb : Wbox b gw W
 pb : Blk W gp 29 (polcs d L)
theorem SPr.keep {W0 : World} {b gw gp : Nat} {d : Po} {L : Lp} (n1 : gw ≠ b) (n2 : gp ≠ b) : KeepS W0.heap.size b (SPr W0 b gw gp d L) :=
 fun W W' h hb ho => ⟨h.bel.trans hb, h.wb.othW ho n1 (by decide), h.pb.othW ho n2 (by decide)⟩
theorem SPr.drew {W0 W : World} {b gw gp : Nat} {d : Po} {L : Lp} (h : SPr W0 b gw gp d L W) : SPr W0 b gw gp d L W.drew := ⟨h.bel.drew, h.wb, h.pb⟩
def lineW (c : Bool) (nm t : List UInt8) : List UInt8 := if c then nm ++ t ++ [10] else []
theorem zc4 (B b : Nat) (Q : List Value) (S : World → Prop) (hK : KeepS B b S) (gw : Nat) (hw : ∀ W, S W → Wbox b gw W) (c : Bool) (nm t : List UInt8) (s : ByteArray) (hs : s = ⟨nm.toArray⟩) (f : FuncId) (he : ∀ args w, (callFunc f args).run Tryz.prog w = .ok (.enter f args) w) (cp : Array Value) (hf : c = true → zak B b Q S f cp t) :
 zak B b Q S 31 #[.bool c, .string s, .func (.func f) #[] cp, .pointer (some ⟨gw, 0, none⟩)] (lineW c nm t) := by
 intro l W hS hI hB hlen
 cases c with
 | false =>
  clear hf
  go_enter Tryz.func31, Tryz.ntmps31
  go_wp2_with fail
  go_end0
  exact ⟨rfl, by simpa [lineW] using hI, Below.refl _ _, Lib.OthersKept.refl _ _ _⟩
 | true =>
  have hlen : l.length + (nm ++ t ++ [10]).length ≤ 1000000 := hlen
  simp only [List.length_append, List.length_cons, List.length_nil] at hlen
  have hF := hf rfl
  have k0 : W.cell? ⟨gw, 0, none⟩ = some (.pointer (some ⟨b, 0, none⟩)) := Blk.cell (hw W hS) 0
  have HA := hid (zbs B b Q l nm W hI hB (by omega) s hs)
  have HW := hid hw
  have HK := hid hK
  have HF := hid hF
  have HL : Hid (lineW true nm t = nm ++ t ++ [10]) := hid rfl
  clear hf hF hw hK hs
  go_enter Tryz.func31, Tryz.ntmps31
  go_wp2_with fail
  refine HA.out.mono ?_
  rintro e w1 ⟨rfl, g1, g2, g3⟩
  clear HA k0
  have hS1 := HK.out _ _ hS g2 g3
  have hB1 := Nat.le_trans hB g2.size
  have HC := hid (HF.out _ w1 hS1 g1 hB1 (by simp only [List.length_append]; omega))
  go_wp2_with fail
  refine HC.out.mono ?_
  rintro e w2 ⟨rfl, f1, f2, f3⟩
  clear HC
  have hS2 := HK.out _ _ hS1 f2 f3
  have k0 : w2.cell? ⟨gw, 0, none⟩ = some (.pointer (some ⟨b, 0, none⟩)) := Blk.cell (HW.out w2 hS2) 0
  have HB := hid (zbs B b Q _ [10] w2 f1 (Nat.le_trans hB1 f2.size) (by simp only [List.length_append, List.length_cons, List.length_nil]; omega) ⟨#[10]⟩ rfl)
  go_wp2_with fail
  refine HB.out.mono ?_
  rintro e w3 ⟨rfl, e1, e2, e3⟩
  clear HB k0
  go_wp2_with fail
  go_end0
  refine ⟨rfl, ?_, (g2.trans f2).trans e2, (OthW.trans2 g3 f3).trans2 e3⟩
  rw [HL.out]
  have e9 : l ++ (nm ++ t ++ [10]) = l ++ nm ++ t ++ [10] := by simp only [List.append_assoc]
  exact e9 ▸ e1
theorem pr2_run (W0 : World) (b gw gp : Nat) (d : Po) (L : Lp) : zak W0.heap.size b (polcs d L) (SPr W0 b gw gp d L) 33 #[.pointer (some ⟨gw, 0, none⟩), .pointer (some ⟨gp, 0, none⟩)] (tl d.name) := by
 intro l W hS hI hB hlen
 have d0 : gw ≠ b := hI.ne hS.wb (by decide)
 have d1 : gp ≠ b := hI.ne hS.pb (by decide)
 have hw := hS.wb
 have hp := hS.pb
 have HA := hid (zbs W0.heap.size b (polcs d L) l (tl d.name) W.drew hI hB hlen d.name (bs_tl d.name).symm)
 have k0 : W.drew.cell? ⟨gw, 0, none⟩ = some (.pointer (some ⟨b, 0, none⟩)) := Blk.cell hw 0
 have k1 : W.drew.cell? ⟨gp, 0, none⟩ = some (.string d.name) := Blk.cell hp 0
 go_enter Tryz.func33, Tryz.ntmps33
 go_upto_region 0 with fail
 first | go_region_held3 (fun w' => w'.cell? ⟨gw, 0, none⟩ = some (.pointer (some ⟨b, 0, none⟩)) ∧ w'.cell? ⟨gp, 0, none⟩ = some (.string d.name)) (first | exact ⟨k0, k1⟩ | exact ⟨(Blk.othW (W := W.drew) hw (by assumption) d0 (by decide)).cell 0, (Blk.othW (W := W.drew) hp (by assumption) d1 (by decide)).cell 0⟩)
  (first | (go_at_call 32; refine HA.out.mono ?_; rintro e w1 ⟨rfl, g1, g2, g3⟩)) | fail
 all_goals
  go_wp2_with fail
  go_end0
  exact ⟨rfl, g1, (Below.drew (Below.refl _ W)).trans g2, g3⟩
theorem pr7_run (W0 : World) (b gw gp : Nat) (d : Po) (L : Lp) : zak W0.heap.size b (polcs d L) (SPr W0 b gw gp d L) 43 #[.pointer (some ⟨gw, 0, none⟩), .pointer (some ⟨gp, 0, none⟩)] (tl d.escrow) := by
 intro l W hS hI hB hlen
 have d0 : gw ≠ b := hI.ne hS.wb (by decide)
 have d1 : gp ≠ b := hI.ne hS.pb (by decide)
 have hw := hS.wb
 have hp := hS.pb
 have HA := hid (zbs W0.heap.size b (polcs d L) l (tl d.escrow) W.drew hI hB hlen d.escrow (bs_tl d.escrow).symm)
 have k0 : W.drew.cell? ⟨gw, 0, none⟩ = some (.pointer (some ⟨b, 0, none⟩)) := Blk.cell hw 0
 have k1 : W.drew.cell? ⟨gp, 7, none⟩ = some (.string d.escrow) := Blk.cell hp 7
 go_enter Tryz.func43, Tryz.ntmps43
 go_upto_region 0 with fail
 first | go_region_held3 (fun w' => w'.cell? ⟨gw, 0, none⟩ = some (.pointer (some ⟨b, 0, none⟩)) ∧ w'.cell? ⟨gp, 7, none⟩ = some (.string d.escrow)) (first | exact ⟨k0, k1⟩ | exact ⟨(Blk.othW (W := W.drew) hw (by assumption) d0 (by decide)).cell 0, (Blk.othW (W := W.drew) hp (by assumption) d1 (by decide)).cell 7⟩)
  (first | (go_at_call 32; refine HA.out.mono ?_; rintro e w1 ⟨rfl, g1, g2, g3⟩)) | fail
 all_goals
  go_wp2_with fail
  go_end0
  exact ⟨rfl, g1, (Below.drew (Below.refl _ W)).trans g2, g3⟩
theorem pr8_run (B b : Nat) (Q : List Value) (S : World → Prop) : zak B b Q S 44 #[] [] := by
 intro l W hS hI hB hlen
 have hI2 : IsW B b Q (l ++ []) W := by simpa using hI
 go_enter Tryz.func44, Tryz.ntmps44
 go_wp2_with fail
 go_end0
 exact ⟨rfl, hI2, Below.refl _ _, Lib.OthersKept.refl _ _ _⟩
theorem pr5_run (W0 : World) (b gw gp : Nat) (d : Po) (L : Lp) (t : List UInt8) (hn : zak W0.heap.size b (polcs d L) (fun W => Below W0.heap.size W0 W) 40 #[.pointer (some ⟨b, 0, none⟩), .int .i64 d.root] t) :
 zak W0.heap.size b (polcs d L) (SPr W0 b gw gp d L) 39 #[.pointer (some ⟨gw, 0, none⟩), .pointer (some ⟨gp, 0, none⟩)] t := by
 intro l W hS hI hB hlen
 have k0 : W.cell? ⟨gw, 0, none⟩ = some (.pointer (some ⟨b, 0, none⟩)) := Blk.cell hS.wb 0
 have k1 : W.cell? ⟨gp, 4, none⟩ = some (.int .i64 d.root) := Blk.cell hS.pb 4
 have HA := hid (hn l W hS.bel hI hB hlen)
 clear hn
 go_enter Tryz.func39, Tryz.ntmps39
 go_wp2_with fail
 refine HA.out.mono ?_
 rintro e w1 ⟨rfl, g1, g2, g3⟩
 go_wp2_with fail
 go_end0
 exact ⟨rfl, g1, g2, g3⟩
abbrev useW (x : Bp) : List UInt8 := tl x.1 ++ [58, 32] ++ tl x.2
abbrev refW (x : Bp) : List UInt8 := tl x.1 ++ [46] ++ tl x.2
theorem pr31_run (W0 : World) (b gw gp : Nat) (d : Po) (L : Lp) (hM : Prs W0 L.ua d.uses) (hul : d.uses.length ≤ 1000000) (i : Nat) (x : Bp) (hx : d.uses[i]? = some x) (hb : x.1.size ≤ 1000000 ∧ x.2.size ≤ 1000000) :
 zak W0.heap.size b (polcs d L) (SPr W0 b gw gp d L) 36 #[.int .i64 (i : Int), .pointer (some ⟨gw, 0, none⟩), .pointer (some ⟨gp, 0, none⟩)] (useW x) := by
 intro l W hS hI hB hlen
 have d0 : gw ≠ b := hI.ne hS.wb (by decide)
 have d1 : gp ≠ b := hI.ne hS.pb (by decide)
 have hw := hS.wb
 have hp := hS.pb
 have hil : i < d.uses.length := (List.getElem?_eq_some_iff.1 hx).1
 have hi0 : (0 : Int) ≤ (i : Int) := by omega
 have hi1 : (i : Int) < (d.uses.length : Int) := by omega
 have hz1 : ¬ 9223372036854775807 < x.1.size + 2 := by omega
 have hz2 : ¬ 9223372036854775807 < x.1.size + 2 + x.2.size := by omega
 obtain ⟨ad, hA, c1, c2⟩ := hM.at_ i x hx
 have HX : Hid (∀ V, Below W0.heap.size W0 V → V.cell? (ad.add (i * 2)) = some (.string x.1) ∧ V.cell? ⟨(ad.add (i * 2)).block, (ad.add (i * 2)).off + 1, none⟩ = some (.string x.2)) := hid fun V h => ⟨zaa c1 h, zaa c2 h⟩
 have HA := hid (zbs W0.heap.size b (polcs d L) l (useW x) W.drew hI hB hlen _ (cat_dot x.1 x.2 [58, 32]))
 have hb0 := hS.bel.drew
 obtain ⟨k2, k3⟩ := HX.out _ hb0
 have k0 : W.drew.cell? ⟨gw, 0, none⟩ = some (.pointer (some ⟨b, 0, none⟩)) := Blk.cell hw 0
 have k1 : W.drew.cell? ⟨gp, 1, none⟩ = some (.slice L.ua d.uses.length L.uc) := Blk.cell hp 1
 rw [hA] at k1
 have hp2 : ∀ V, Blk V gp 29 (polcs d L) → V.cell? ⟨gp, 1, none⟩ = some (.slice (some ad) d.uses.length L.uc) := fun V h => by rw [← hA]; exact h.cell 1
 have HP2 := hid hp2
 clear hA hx hM c1 c2 hp2
 go_enter Tryz.func36, Tryz.ntmps36
 go_upto_region 0 with fail
 first | go_region_held3 (fun w' => w'.cell? ⟨gw, 0, none⟩ = some (.pointer (some ⟨b, 0, none⟩)) ∧ w'.cell? ⟨gp, 1, none⟩ = some (.slice (some ad) d.uses.length L.uc) ∧ w'.cell? (ad.add (i * 2)) = some (.string x.1) ∧ w'.cell? ⟨(ad.add (i * 2)).block, (ad.add (i * 2)).off + 1, none⟩ = some (.string x.2))
  (first | exact ⟨k0, k1, k2, k3⟩ | exact ⟨(Blk.othW (W := W.drew) hw (by assumption) d0 (by decide)).cell 0, HP2.out _ (Blk.othW (W := W.drew) hp (by assumption) d1 (by decide)), HX.out _ (hb0.trans (by assumption))⟩)
  (first | (go_at_call 32; refine HA.out.mono ?_; rintro e w1 ⟨rfl, g1, g2, g3⟩)) | fail
 all_goals
  go_wp2_with fail
  go_end0
  exact ⟨rfl, g1, (Below.drew (Below.refl _ W)).trans g2, g3⟩
theorem pr41_run (W0 : World) (b gw gp : Nat) (d : Po) (L : Lp) (hM : Prs W0 L.ra d.reveal) (hul : d.reveal.length ≤ 1000000) (i : Nat) (x : Bp) (hx : d.reveal[i]? = some x) (hb : x.1.size ≤ 1000000 ∧ x.2.size ≤ 1000000) :
 zak W0.heap.size b (polcs d L) (SPr W0 b gw gp d L) 38 #[.int .i64 (i : Int), .pointer (some ⟨gw, 0, none⟩), .pointer (some ⟨gp, 0, none⟩)] (refW x) := by
 intro l W hS hI hB hlen
 have d0 : gw ≠ b := hI.ne hS.wb (by decide)
 have d1 : gp ≠ b := hI.ne hS.pb (by decide)
 have hw := hS.wb
 have hp := hS.pb
 have hil : i < d.reveal.length := (List.getElem?_eq_some_iff.1 hx).1
 have hi0 : (0 : Int) ≤ (i : Int) := by omega
 have hi1 : (i : Int) < (d.reveal.length : Int) := by omega
 have hz1 : ¬ 9223372036854775807 < x.1.size + 1 := by omega
 have hz2 : ¬ 9223372036854775807 < x.1.size + 1 + x.2.size := by omega
 obtain ⟨ad, hA, c1, c2⟩ := hM.at_ i x hx
 have HX : Hid (∀ V, Below W0.heap.size W0 V → V.cell? (ad.add (i * 2)) = some (.string x.1) ∧ V.cell? ⟨(ad.add (i * 2)).block, (ad.add (i * 2)).off + 1, none⟩ = some (.string x.2)) := hid fun V h => ⟨zaa c1 h, zaa c2 h⟩
 have HA := hid (zbs W0.heap.size b (polcs d L) l (refW x) W.drew hI hB hlen _ (cat_dot x.1 x.2 [46]))
 have hb0 := hS.bel.drew
 obtain ⟨k2, k3⟩ := HX.out _ hb0
 have k0 : W.drew.cell? ⟨gw, 0, none⟩ = some (.pointer (some ⟨b, 0, none⟩)) := Blk.cell hw 0
 have k1 : W.drew.cell? ⟨gp, 2, none⟩ = some (.slice L.ra d.reveal.length L.rc) := Blk.cell hp 2
 rw [hA] at k1
 have hp2 : ∀ V, Blk V gp 29 (polcs d L) → V.cell? ⟨gp, 2, none⟩ = some (.slice (some ad) d.reveal.length L.rc) := fun V h => by rw [← hA]; exact h.cell 2
 have HP2 := hid hp2
 clear hA hx hM c1 c2 hp2
 go_enter Tryz.func38, Tryz.ntmps38
 go_upto_region 0 with fail
 first | go_region_held3 (fun w' => w'.cell? ⟨gw, 0, none⟩ = some (.pointer (some ⟨b, 0, none⟩)) ∧ w'.cell? ⟨gp, 2, none⟩ = some (.slice (some ad) d.reveal.length L.rc) ∧ w'.cell? (ad.add (i * 2)) = some (.string x.1) ∧ w'.cell? ⟨(ad.add (i * 2)).block, (ad.add (i * 2)).off + 1, none⟩ = some (.string x.2))
  (first | exact ⟨k0, k1, k2, k3⟩ | exact ⟨(Blk.othW (W := W.drew) hw (by assumption) d0 (by decide)).cell 0, HP2.out _ (Blk.othW (W := W.drew) hp (by assumption) d1 (by decide)), HX.out _ (hb0.trans (by assumption))⟩)
  (first | (go_at_call 32; refine HA.out.mono ?_; rintro e w1 ⟨rfl, g1, g2, g3⟩)) | fail
 all_goals
  go_wp2_with fail
  go_end0
  exact ⟨rfl, g1, (Below.drew (Below.refl _ W)).trans g2, g3⟩
theorem zc1 {α : Type} (z : α) (tt : α → List UInt8) (ks : List α) : (List.range ks.length).map (fun i => tt (ks.getD i z)) = ks.map tt := by
 apply List.ext_getElem?
 intro i
 rw [List.getElem?_map, List.getElem?_map]
 by_cases h : i < ks.length
 ·rw [List.getElem?_range h, List.getElem?_eq_getElem h]
  simp [List.getD_eq_getElem?_getD, List.getElem?_eq_getElem h]
 ·rw [List.getElem?_eq_none (by simpa using h), List.getElem?_eq_none (by omega)]; rfl
theorem pr3_run (W0 : World) (b gw gp : Nat) (d : Po) (L : Lp) (hM : Prs W0 L.ua d.uses) (hB : PBd d) (n1 : gw ≠ b) (n2 : gp ≠ b) :
 zak W0.heap.size b (polcs d L) (SPr W0 b gw gp d L) 34 #[.pointer (some ⟨gw, 0, none⟩), .pointer (some ⟨gp, 0, none⟩)] (cms (d.uses.map useW)) := by
 intro l W hS hI hBW hlen
 have hget : ∀ i, i < d.uses.length → d.uses[i]? = some (d.uses.getD i (⟨#[]⟩, ⟨#[]⟩)) := fun i hi => by rw [List.getElem?_eq_getElem hi, List.getD_eq_getElem?_getD, List.getElem?_eq_getElem hi]; rfl
 have HA := hid (wlist_any W0.heap.size b (polcs d L) _ (SPr.keep n1 n2) d.uses.length hB.ul 36 (enters_of Tryz.func36 (by kernel_rfl) rfl) (.pointer (some ⟨gw, 0, none⟩)) (.pointer (some ⟨gp, 0, none⟩)) (fun i => useW (d.uses.getD i (⟨#[]⟩, ⟨#[]⟩)))
  (fun i hi => pr31_run W0 b gw gp d L hM hB.ul i _ (hget i hi) (hB.us _ (List.mem_of_getElem? (hget i hi)))) l W hS hI hBW (by rw [zc1]; exact hlen))
 rw [zc1] at HA
 have k0 : W.cell? ⟨gw, 0, none⟩ = some (.pointer (some ⟨b, 0, none⟩)) := Blk.cell hS.wb 0
 have k1 : W.cell? ⟨gp, 1, none⟩ = some (.slice L.ua d.uses.length L.uc) := Blk.cell hS.pb 1
 clear hM hB hget
 go_enter Tryz.func34, Tryz.ntmps34
 go_wp2_with fail
 refine HA.out.mono ?_
 rintro e w1 ⟨rfl, g1, g2, g3⟩
 go_wp2_with fail
 go_end0
 exact ⟨rfl, g1, g2, g3⟩
theorem pr4_run (W0 : World) (b gw gp : Nat) (d : Po) (L : Lp) (hM : Prs W0 L.ra d.reveal) (hB : PBd d) (n1 : gw ≠ b) (n2 : gp ≠ b) :
 zak W0.heap.size b (polcs d L) (SPr W0 b gw gp d L) 37 #[.pointer (some ⟨gw, 0, none⟩), .pointer (some ⟨gp, 0, none⟩)] (cms (d.reveal.map refW)) := by
 intro l W hS hI hBW hlen
 have hget : ∀ i, i < d.reveal.length → d.reveal[i]? = some (d.reveal.getD i (⟨#[]⟩, ⟨#[]⟩)) := fun i hi => by rw [List.getElem?_eq_getElem hi, List.getD_eq_getElem?_getD, List.getElem?_eq_getElem hi]; rfl
 have HA := hid (wlist_any W0.heap.size b (polcs d L) _ (SPr.keep n1 n2) d.reveal.length hB.rl 38 (enters_of Tryz.func38 (by kernel_rfl) rfl) (.pointer (some ⟨gw, 0, none⟩)) (.pointer (some ⟨gp, 0, none⟩)) (fun i => refW (d.reveal.getD i (⟨#[]⟩, ⟨#[]⟩)))
  (fun i hi => pr41_run W0 b gw gp d L hM hB.rl i _ (hget i hi) (hB.rv _ (List.mem_of_getElem? (hget i hi)))) l W hS hI hBW (by rw [zc1]; exact hlen))
 rw [zc1] at HA
 have k0 : W.cell? ⟨gw, 0, none⟩ = some (.pointer (some ⟨b, 0, none⟩)) := Blk.cell hS.wb 0
 have k1 : W.cell? ⟨gp, 2, none⟩ = some (.slice L.ra d.reveal.length L.rc) := Blk.cell hS.pb 2
 clear hM hB hget
 go_enter Tryz.func37, Tryz.ntmps37
 go_wp2_with fail
 refine HA.out.mono ?_
 rintro e w1 ⟨rfl, g1, g2, g3⟩
 go_wp2_with fail
 go_end0
 exact ⟨rfl, g1, g2, g3⟩
def zck (d : Po) : List UInt8 := [39] ++ tl d.scope ++ [39] ++ (if 0 < d.limit then [32, 108, 105, 109, 105, 116, 32] ++ Lib.itoa d.limit else [])
theorem pr6_run (W0 : World) (b gw gp : Nat) (d : Po) (L : Lp) (hG : Glob W0) (hB : PBd d) (hl0 : 0 ≤ d.limit) (hl1 : d.limit ≤ 65536) :
 zak W0.heap.size b (polcs d L) (SPr W0 b gw gp d L) 41 #[.pointer (some ⟨gw, 0, none⟩), .pointer (some ⟨gp, 0, none⟩)] (zck d) := by
 intro l W hS hI hBW hlen
 have d0 : gw ≠ b := hI.ne hS.wb (by decide)
 have d1 : gp ≠ b := hI.ne hS.pb (by decide)
 have hw := hS.wb
 have hp := hS.pb
 have hsz := hB.scope
 have hz3 : ¬ 9223372036854775807 < 1 + d.scope.size := by omega
 have hz4 : ¬ 9223372036854775807 < 1 + d.scope.size + 1 := by omega
 have hil := Lib.itoa_length_le d.limit (by omega) (by omega)
 have hz5 : ¬ 9223372036854775807 < 7 + (bs (Lib.itoa d.limit)).size := by rw [zbc]; omega
 have hlen1 : l.length + ([39] ++ tl d.scope ++ [39]).length ≤ 1000000 := by
  unfold zck at hlen
  simp only [List.length_append] at hlen ⊢
  omega
 have HA := hid (zbs W0.heap.size b (polcs d L) l ([39] ++ tl d.scope ++ [39]) W.drew hI hBW hlen1 _ (cat_quote d.scope [39] [39]))
 have k0 : W.drew.cell? ⟨gw, 0, none⟩ = some (.pointer (some ⟨b, 0, none⟩)) := Blk.cell hw 0
 have k1 : W.drew.cell? ⟨gp, 5, none⟩ = some (.string d.scope) := Blk.cell hp 5
 have hbd := hS.bel.drew
 go_enter Tryz.func41, Tryz.ntmps41
 go_upto_region 0 with fail
 first | go_region_held3 (fun w' => w'.cell? ⟨gw, 0, none⟩ = some (.pointer (some ⟨b, 0, none⟩)) ∧ w'.cell? ⟨gp, 5, none⟩ = some (.string d.scope)) (first | exact ⟨k0, k1⟩ | exact ⟨(Blk.othW (W := W.drew) hw (by assumption) d0 (by decide)).cell 0, (Blk.othW (W := W.drew) hp (by assumption) d1 (by decide)).cell 5⟩)
  (first | (go_at_call 32; refine HA.out.mono ?_; rintro e w1 ⟨rfl, g1, g2, g3⟩)) | fail
 all_goals
  clear HA k0 k1
  have hw1 : Wbox b gw w1 := Blk.othW (W := W.drew) hw g3 d0 (by decide)
  have hp1 := Blk.othW (W := W.drew) hp g3 d1 (by decide)
  have hB1 : W0.heap.size ≤ w1.heap.size := Nat.le_trans hBW g2.size
  have k2 : w1.cell? ⟨gp, 6, none⟩ = some (.int .i64 d.limit) := Blk.cell hp1 6
  by_cases hlim : 0 < d.limit
  ·have HT : Hid (zck d = [39] ++ tl d.scope ++ [39] ++ ([32, 108, 105, 109, 105, 116, 32] ++ Lib.itoa d.limit)) := hid (by unfold zck; rw [if_pos hlim])
   have hlen2 : (l ++ ([39] ++ tl d.scope ++ [39])).length + ([32, 108, 105, 109, 105, 116, 32] ++ Lib.itoa d.limit).length ≤ 1000000 := by
    rw [HT.out] at hlen
    simp only [List.length_append] at hlen ⊢
    omega
   have HI := hid (itoa_any d.limit (by omega) (by omega) w1.drew (hG.up ((hbd.trans g2).drew)))
   have k0 : w1.drew.cell? ⟨gw, 0, none⟩ = some (.pointer (some ⟨b, 0, none⟩)) := Blk.cell hw1 0
   have k1 : w1.drew.cell? ⟨gp, 6, none⟩ = some (.int .i64 d.limit) := Blk.cell hp1 6
   have hlt0 := Blk.lt hw1
   have hlt1 := Blk.lt hp1
   go_upto_region 2 with fail
   first | go_region_held3 (fun w' => w'.cell? ⟨gw, 0, none⟩ = some (.pointer (some ⟨b, 0, none⟩)) ∧ w'.cell? ⟨gp, 6, none⟩ = some (.int .i64 d.limit)) (first | exact ⟨k0, k1⟩ | exact ⟨zaa k0 (by assumption), zaa k1 (by assumption)⟩ | exact ⟨(Blk.othW hwx (by assumption) d0 (by decide)).cell 0, (Blk.othW hpx (by assumption) d1 (by decide)).cell 6⟩)
    (first | (go_at_call 42; refine HI.out.mono ?_; rintro e wx ⟨rfl, hbx⟩; have hwx : Wbox b gw wx := (hbx.block _ hlt0).trans hw1; have hpx : Blk wx gp 29 (polcs d L) := (hbx.block _ hlt1).trans hp1; have hIx := IsW.up (W := w1.drew) g1 hbx) | (go_at_call 32; refine (zbs W0.heap.size b (polcs d L) _ ([32, 108, 105, 109, 105, 116, 32] ++ Lib.itoa d.limit) wx hIx (Nat.le_trans hB1 hbx.size) hlen2 _ (cat_lit [32, 108, 105, 109, 105, 116, 32] (Lib.itoa d.limit))).mono ?_; rintro e w3 ⟨rfl, q1, q2, q3⟩)) | fail
   all_goals
    go_wp2_with fail
    go_end0
    refine ⟨rfl, ?_, (Below.drew (Below.refl _ W)).trans (g2.trans ((Below.drew (Below.refl _ w1)).trans ((hbx.mono hB1).trans q2))), (OthW.trans2 g3 (OthW.trans2 (oth_below (W := w1.drew) hbx) q3))⟩
    rw [HT.out, ← List.append_assoc]
    exact q1
  ·have HT : Hid (l ++ zck d = l ++ ([39] ++ tl d.scope ++ [39])) := hid (by unfold zck; rw [if_neg hlim, List.append_nil])
   go_wp2_with fail
   go_end0
   refine ⟨rfl, ?_, (Below.drew (Below.refl _ W)).trans g2, g3⟩
   rw [HT.out]
   exact g1
open Go.Shelf Go.RowKit
open Lib (hid)
set_option linter.unusedSimpArgs false
theorem cms_commas : ∀ l, cms l = Pa.commas l
 | [] => rfl
 | [t] => rfl
 | t :: u :: r => by
  show t ++ ([44, 32] ++ cms (u :: r)) = t ++ ([44, 32] ++ Pa.commas (u :: r))
  rw [cms_commas (u :: r)]
theorem sgn_sgW (k : Int) : Pa.sgn k = sgW k := rfl
theorem node_txt (k m : Int) (a c : List UInt8) (l : List (List UInt8)) : Pa.nodeText k m a c l = nodeW k m a c l := by
 unfold Pa.nodeText nodeW
 simp only [cms_commas, sgn_sgW, Pa.kTrue, Pa.kFalse, List.append_assoc, List.cons_append, List.nil_append]
theorem node_any (W0 : World) (b : Nat) (d : Po) (L : Lp) (hM : PolM W0 d L) (hG : Glob W0) (hB : PBd d) : ∀ (f : Nat) (c : Bool) (x : Int), Pa.VN d.nodes f c x → WfP d.nodes f x →
 zak W0.heap.size b (polcs d L) (fun W => Below W0.heap.size W0 W) 40 #[.pointer (some ⟨b, 0, none⟩), .int .i64 x] (Pa.textN d.nodes f x)
 | 0, c, x, h, _ => h.elim
 | f + 1, c, x, h, hw => by
  obtain ⟨n, hn, hf, hk⟩ := h
  obtain ⟨h0, n', hn', hk'⟩ := hw
  rw [hn] at hn'
  injection hn' with hn'
  subst hn'
  have hF := Pa.form_fm hf
  obtain ⟨i, rfl⟩ : ∃ i : Nat, x = (i : Int) := ⟨x.toNat, by omega⟩
  have hn2 : d.nodes[i]? = some n := by simpa using hn
  have hb := hB.ns n (List.mem_of_getElem? hn2)
  have hkb := hb.kids
  have h1 := hF.low
  have h2 := hF.high
  rw [Pa.textN_in hn, node_txt]
  refine node_step W0 b d L hM.ns hG hB.nl i n hn2 hb ?_ ?_ hF.lo hF.hi hF.kids ?_ (Pa.textN d.nodes f) (fun k hk9 => node_any W0 b d L hM hG hB f _ k (hk k hk9) (hk' k hk9))
  ·unfold lowP at h1; split at h1 <;> (try split at h1) <;> omega
  ·unfold highP at h2; split at h2 <;> (try split at h2) <;> (try split at h2) <;> omega
  ·intro h6
   unfold lowP at h1
   unfold highP at h2
   rw [if_neg (by omega), if_neg (by omega)] at h1
   rw [if_neg (by omega), if_pos h6] at h2
   exact ⟨h1, h2⟩
def printW (d : Po) : List UInt8 := lineW true [112, 111, 108, 105, 99, 121, 32] (tl d.name) ++ lineW true [117, 115, 101, 115, 32] (cms (d.uses.map useW)) ++ lineW (decide (0 < d.reveal.length)) [114, 101, 118, 101, 97, 108, 32] (cms (d.reveal.map refW)) ++
 lineW (decide (Pa.rootK d ≠ 0)) [112, 114, 111, 118, 101, 32] (Pa.textN d.nodes 32 d.root) ++ lineW (decide (d.scope.size ≠ 0)) [115, 99, 111, 112, 101, 32] (zck d) ++ lineW (decide (d.escrow.size ≠ 0)) [101, 115, 99, 114, 111, 119, 32] (tl d.escrow) ++ lineW true [101, 110, 100] []
theorem uses_flat (l : List Bp) : Pa.flat (Pa.commasP (l.map Pa.usePc)) = cms (l.map useW) := by
 rw [Pa.commas_flat, cms_commas, List.map_map]
 congr 1
 apply List.map_congr_left
 intro x hx
 simp [Pa.usePc, Pa.flat, Pa.Pc.txt, useW, Pa.sColon]
theorem refs_flat (l : List Bp) : Pa.flat (Pa.commasP (l.map Pa.refPc)) = cms (l.map refW) := by
 rw [Pa.commas_flat, cms_commas, List.map_map]
 congr 1
 apply List.map_congr_left
 intro x hx
 simp [Pa.refPc, Pa.flat, Pa.Pc.txt, refW, Pa.sDot]
theorem printW_print (d : Po) : Pa.printP d = printW d := by
 have h1 : Pa.flat (Pa.revealPc d) = lineW (decide (0 < d.reveal.length)) [114, 101, 118, 101, 97, 108, 32] (cms (d.reveal.map refW)) := by
  unfold Pa.revealPc
  by_cases h : d.reveal = []
  ·rw [if_pos h, h]; rfl
  ·have h0 : 0 < d.reveal.length := List.length_pos_iff.2 h
   rw [if_neg h, decide_eq_true h0]
   simp only [Pa.flat_cons, Pa.flat_app, refs_flat]
   simp [Pa.Pc.txt, lineW, Pa.kReveal, Pa.nl, Pa.flat]
 have h2 : Pa.flat (Pa.provePc d) = lineW (decide (Pa.rootK d ≠ 0)) [112, 114, 111, 118, 101, 32] (Pa.textN d.nodes 32 d.root) := by
  unfold Pa.provePc
  by_cases h : Pa.rootK d = 0
  ·rw [if_pos h, decide_eq_false (by simpa using h)]; rfl
  ·rw [if_neg h, decide_eq_true h]
   simp only [Pa.flat_cons, Pa.flat_app, Pa.pieces_text]
   simp [Pa.Pc.txt, lineW, Pa.kProve, Pa.nl, Pa.flat]
 have h3 : Pa.flat (Pa.limitPc d) = if 0 < d.limit then [32, 108, 105, 109, 105, 116, 32] ++ Lib.itoa d.limit else [] := by
  unfold Pa.limitPc
  by_cases h : 0 < d.limit
  ·rw [if_pos h, if_pos h]
   simp [Pa.Pc.txt, Pa.kLimit, Pa.flat]
  ·rw [if_neg h, if_neg h]; rfl
 have h4 : Pa.flat (Pa.scopePc d) = lineW (decide (d.scope.size ≠ 0)) [115, 99, 111, 112, 101, 32] (zck d) := by
  unfold Pa.scopePc
  by_cases h : d.scope.size = 0
  ·rw [if_pos h, decide_eq_false (by simpa using h)]; rfl
  ·rw [if_neg h, decide_eq_true h]
   simp only [Pa.flat_cons, Pa.flat_app, h3]
   simp [Pa.Pc.txt, lineW, Pa.kScope, Pa.nl, Pa.flat, zck]
 have h5 : Pa.flat (Pa.escrowPc d) = lineW (decide (d.escrow.size ≠ 0)) [101, 115, 99, 114, 111, 119, 32] (tl d.escrow) := by
  unfold Pa.escrowPc
  by_cases h : d.escrow.size = 0
  ·rw [if_pos h, decide_eq_false (by simpa using h)]; rfl
  ·rw [if_neg h, decide_eq_true h]
   simp only [Pa.flat_cons, Pa.flat_app]
   simp [Pa.Pc.txt, lineW, Pa.kEscrow, Pa.nl, Pa.flat]
 unfold Pa.printP Pa.printPc printW
 simp only [Pa.flat_cons, Pa.flat_app, uses_flat, h1, h2, h4, h5]
 simp [Pa.Pc.txt, lineW, Pa.kPolicy, Pa.kUses, Pa.kEnd, Pa.flat]
open Go.Shelf Go.RowKit
open Lib (hid)
set_option linter.unusedSimpArgs false
structure PLen (d : Po) : Prop where
 uses : (cms (d.uses.map useW)).length ≤ 272
 reveal : (cms (d.reveal.map refW)).length ≤ 4300
 name : (tl d.name).length ≤ 32
 scope : (tl d.scope).length ≤ 32
 escrow : (tl d.escrow).length ≤ 32
 lim0 : 0 ≤ d.limit
 lim1 : d.limit ≤ 65536
 root : (Pa.textN d.nodes 32 d.root).length ≤ 56320
 scopeT : (zck d).length ≤ 100
theorem plen {d : Po} (h : checkP d = 0) (hB : PBd d) : PLen d := by
 have hc := Pa.check_ck h
 have hn := hc.nms
 have hlim : d.uses.length ≤ 4 ∧ d.reveal.length ≤ 64 := by
  unfold checkP at h
  by_cases h1 : 512 < d.nodes.length ∨ d.uses.length < 1 ∨ 4 < d.uses.length ∨ 64 < d.reveal.length
  ·rw [if_pos h1] at h; cases h
  ·omega
 have hsc : (tl d.scope).length ≤ 32 := by
  by_cases h0 : d.scope.size = 0
  ·rw [zab]; omega
  ·exact (hn.scope h0).2.2
 refine ⟨?_, ?_, hn.name.le, hsc, ?_, hc.lim0, hc.lim1, Pa.root_len h (fun n hn => (hB.ns n hn).kids), ?_⟩
 ·rw [← uses_flat]
  have := Pa.commasP_len (l := d.uses.map Pa.usePc) (k := 66) fun x hx => by
   obtain ⟨y, hy, rfl⟩ := List.mem_map.1 hx
   have h1 := (hn.uses y hy).1.le
   have h2 := (hn.uses y hy).2.le
   simp only [Pa.usePc, Pa.flat_len_cons, Pa.flat_len_nil, Pa.Pc.txt, List.length_cons, List.length_nil]
   have : Pa.sColon.length = 1 := rfl
   omega
  rw [List.length_map] at this
  omega
 ·rw [← refs_flat]
  have := Pa.commasP_len (l := d.reveal.map Pa.refPc) (k := 65) fun x hx => by
   obtain ⟨y, hy, rfl⟩ := List.mem_map.1 hx
   have h1 := (hn.reveal y hy).1.le
   have h2 := (hn.reveal y hy).2.le
   simp only [Pa.refPc, Pa.flat_len_cons, Pa.flat_len_nil, Pa.Pc.txt]
   have : Pa.sDot.length = 1 := rfl
   omega
  rw [List.length_map] at this
  omega
 ·by_cases h0 : d.escrow.size = 0
  ·rw [zab]; omega
  ·exact (hn.escrow h0).le
 ·have h6 := Lib.itoa_length_le d.limit (by have := hc.lim0; omega) (by have := hc.lim1; omega)
  unfold zck
  split
  ·simp only [List.length_append, List.length_cons, List.length_nil]; omega
  ·simp only [List.length_append, List.length_cons, List.length_nil]; omega
theorem zcb (c : Bool) (nm t : List UInt8) : (lineW c nm t).length ≤ nm.length + t.length + 1 := by
 unfold lineW
 split
 ·simp only [List.length_append, List.length_cons, List.length_nil]; omega
 ·exact Nat.zero_le _
theorem wr_new {w W : World} {b : Nat} {Q : List Value} (hQ : Q.length = 8) (hb : w.heap.size ≤ b) (h : Blk W b 102 (.pointer none :: .slice none 0 0 :: Q)) : IsW w.heap.size b Q [] W :=
 .inl ⟨hb, hQ, .slice none 0 0, h, ⟨rfl, .inl ⟨rfl, rfl⟩⟩, by simp [Value.ownBlock]⟩
def prS (d : Po) : ByteArray := if checkP d = 0 then bs (Pa.printP d) else ⟨#[]⟩
open Go.Shelf Go.RowKit
open Lib (hid)
set_option linter.unusedSimpArgs false
theorem prS_ok {d : Po} (h : checkP d = 0) : prS d = ⟨(printW d).toArray⟩ := by unfold prS; rw [if_pos h, printW_print]; rfl
theorem prS_bad {d : Po} (h : ¬ checkP d = 0) : prS d = ⟨#[]⟩ := by unfold prS; rw [if_neg h]
theorem ne_size (s : ByteArray) : (!s.toList.isEmpty) = decide (s.size ≠ 0) := by
 rw [zbg, ← zab]
 cases tl s <;> simp
theorem ne_kind (k : Int) : (k != 0) = decide (k ≠ 0) := by
 by_cases h : k = 0 <;> simp [h]
theorem print_any (d : Po) (L : Lp) (hB : PBd d) (w : World) (hP : PolM w d L) (hG : Glob w) : Calls Tryz.prog 10 #[polV d L] w fun e w' => e = .returned (.tuple #[.string (prS d), .int .i64 (checkP d)]) ∧ Below w.heap.size w w' := by
 have hk0 := (Hp.start w).new 29 (polcs d L)
 obtain ⟨gp, hgp⟩ : ∃ x, w.heap.size = x := ⟨_, rfl⟩
 rw [hgp] at hk0
 go_enter Tryz.func10, Tryz.ntmps10
 go_upto_region 1 with fail
 try simp only [hgp]
 have hk1 : Hp [] w [iblk gp 29 (polcs d L)] (w.alloc (.cells #[.string d.name, .slice L.ua d.uses.length L.uc, .slice L.ra d.reveal.length L.rc, .slice L.na d.nodes.length L.nc, .int .i64 d.root, .string d.scope, .int .i64 d.limit, .string d.escrow] 29)) := hk0
 clear hk0
 generalize w.alloc (.cells #[.string d.name, .slice L.ua d.uses.length L.uc, .slice L.ra d.reveal.length L.rc, .slice L.na d.nodes.length L.nc, .int .i64 d.root, .string d.scope, .int .i64 d.limit, .string d.escrow] 29) = W1 at *
 obtain ⟨c0, c1, c2, c3, c4, c5, c6, c7⟩ := (hk1.blk 0 rfl).get8
 try simp only at c0 c1 c2 c3 c4 c5 c6 c7
 have HC := hid (zb5 d L hB W1 (hP.up hk1.below0))
 by_cases hE : checkP d = 0
 ·have hl := plen hE hB
  have HT := hid (prS_ok hE)
  have hnode := hid (fun b => node_any w b d L hP hG hB 32 true d.root (Pa.tree_vn hE) (tree_wf (za7 hE)))
  have HRK : Hid (∃ ad KA kc n, L.na = some ad ∧ d.nodes[d.root.toNat]? = some n ∧ 0 ≤ d.root ∧ d.root < (d.nodes.length : Int) ∧ Pa.rootK d = n.kind ∧ NodeAt w (ad.add (d.root.toNat * 6)) n KA kc) := hid (by
   obtain ⟨h0, n, hn, -⟩ := tree_wf (za7 hE)
   obtain ⟨ad, KA, kc, hA, hN⟩ := hP.ns.at_ _ n hn
   have hlt := (List.getElem?_eq_some_iff.1 hn).1
   exact ⟨ad, KA, kc, n, hA, hn, h0, by omega, by unfold Pa.rootK; rw [hn], hN⟩)
  rw [hE] at HC
  have HE := hid hE
  clear hE
  go_wp2_with fail
  refine HC.out.mono ?_
  rintro e w2 ⟨rfl, hb2⟩
  have hk2 := hk1.next hb2
  clear HC hk1 c0 c1 c2 c3 c4 c5 c6 c7
  obtain ⟨c0, c1, c2, c3, c4, c5, c6, c7⟩ := (hk2.blk 0 rfl).get8
  try simp only at c0 c1 c2 c3 c4 c5 c6 c7
  obtain ⟨b, hgb⟩ : ∃ x, w2.heap.size = x := ⟨_, rfl⟩
  have hk3 := hk2.new 102 (.pointer none :: .slice none 0 0 :: polcs d L)
  have hk4 := hk3.new 96 [.pointer (some ⟨b, 0, none⟩)]
  obtain ⟨gw, hgw⟩ : ∃ x, (w2.alloc (.cells (.pointer none :: .slice none 0 0 :: polcs d L).toArray 102)).heap.size = x := ⟨_, rfl⟩
  rw [hgw, hgb] at hk4
  go_upto_region 5 with fail
  have hk5 : Hp [] w [iblk gw 96 [.pointer (some ⟨b, 0, none⟩)], iblk b 102 (.pointer none :: .slice none 0 0 :: polcs d L), iblk gp 29 (polcs d L)] ((w2.alloc (.cells #[.pointer none, .slice none 0 0, .string d.name, .slice L.ua d.uses.length L.uc, .slice L.ra d.reveal.length L.rc, .slice L.na d.nodes.length L.nc, .int .i64 d.root, .string d.scope, .int .i64 d.limit, .string d.escrow] 102)).alloc (.cells #[.pointer (some ⟨b, 0, none⟩)] 96)) := hk4
  clear hk4 hk3 hk2 c0 c1 c2 c3 c4 c5 c6 c7 hgb hgw
  generalize ((w2.alloc (.cells #[.pointer none, .slice none 0 0, .string d.name, .slice L.ua d.uses.length L.uc, .slice L.ra d.reveal.length L.rc, .slice L.na d.nodes.length L.nc, .int .i64 d.root, .string d.scope, .int .i64 d.limit, .string d.escrow] 102)).alloc (.cells #[.pointer (some ⟨b, 0, none⟩)] 96)) = v0 at *
  have hI0 := wr_new (Q := polcs d L) rfl (hk5.ge (b := b) (by simp [iblk])) (hk5.blk 1 rfl)
  have hS0 : SPr w b gw gp d L v0 := ⟨hk5.below0, hk5.blk 0 rfl, hk5.blk 2 rfl⟩
  have n1 : gw ≠ b := hI0.ne hS0.wb (by decide)
  have n2 : gp ≠ b := hI0.ne hS0.pb (by decide)
  have hB0 : w.heap.size ≤ v0.heap.size := hk5.size
  have hx0 := hk5.below0
  clear hk5
  have z0 := hl.uses
  have z1 := hl.reveal
  have z2 := hl.name
  have z3 := hl.scopeT
  have z4 := hl.escrow
  have z5 := hl.root
  have z6 := hl.lim0
  have z7 := hl.lim1
  have HN := hid (hnode.out b)
  have HK := hid (SPr.keep (W0 := w) (d := d) (L := L) n1 n2)
  clear hnode hl
  obtain ⟨l0, hl0⟩ : ∃ x : List UInt8, [] = x := ⟨_, rfl⟩
  rw [hl0] at hI0
  have y0 : l0.length = 0 := by rw [← hl0]; rfl
  have HL0 := hid hl0
  clear hl0
  have q0 := fun c : Bool => zcb c [112, 111, 108, 105, 99, 121, 32] (tl d.name)
  simp only [List.length_cons, List.length_nil, Nat.zero_add, Nat.reduceAdd] at q0
  have HA := hid (fun c : Bool => zc4 w.heap.size b (polcs d L) _ HK.out gw (fun W h => h.wb) c [112, 111, 108, 105, 99, 121, 32] (tl d.name) ⟨#[112, 111, 108, 105, 99, 121, 32]⟩ rfl 33 (enters_of Tryz.func33 (by kernel_rfl) rfl) #[.pointer (some ⟨gw, 0, none⟩), .pointer (some ⟨gp, 0, none⟩)] (fun _ => pr2_run w b gw gp d L) l0 v0 hS0 hI0 hB0 (by have := q0 c; omega))
  go_wp2_with fail
  refine (HA.out _).mono ?_
  rintro e v1 ⟨rfl, hI1, hb1, ho1⟩
  have hS1 := HK.out _ _ hS0 hb1 ho1
  have hB1 := Nat.le_trans hB0 hb1.size
  have hx1 := hx0.trans hb1
  clear HA hS0 hI0 hb1 ho1 hB0 hx0
  have q0' := q0 (true)
  generalize hT0 : lineW (true) [112, 111, 108, 105, 99, 121, 32] (tl d.name) = T0 at *
  have HT0 := hid hT0
  obtain ⟨l1, hl1⟩ : ∃ x, l0 ++ T0 = x := ⟨_, rfl⟩
  rw [hl1] at hI1
  have y1 : l1.length = l0.length + T0.length := by rw [← hl1, List.length_append]
  have HL1 := hid hl1
  clear hl1 hT0 q0
  have q1 := fun c : Bool => zcb c [117, 115, 101, 115, 32] (cms (d.uses.map useW))
  simp only [List.length_cons, List.length_nil, Nat.zero_add, Nat.reduceAdd] at q1
  have HA := hid (fun c : Bool => zc4 w.heap.size b (polcs d L) _ HK.out gw (fun W h => h.wb) c [117, 115, 101, 115, 32] (cms (d.uses.map useW)) ⟨#[117, 115, 101, 115, 32]⟩ rfl 34 (enters_of Tryz.func34 (by kernel_rfl) rfl) #[.pointer (some ⟨gw, 0, none⟩), .pointer (some ⟨gp, 0, none⟩)] (fun _ => pr3_run w b gw gp d L hP.us hB n1 n2) l1 v1 hS1 hI1 hB1 (by have := q1 c; omega))
  go_wp2_with fail
  refine (HA.out _).mono ?_
  rintro e v2 ⟨rfl, hI2, hb2, ho2⟩
  have hS2 := HK.out _ _ hS1 hb2 ho2
  have hB2 := Nat.le_trans hB1 hb2.size
  have hx2 := hx1.trans hb2
  clear HA hS1 hI1 hb2 ho2 hB1 hx1
  have q1' := q1 (true)
  generalize hT1 : lineW (true) [117, 115, 101, 115, 32] (cms (d.uses.map useW)) = T1 at *
  have HT1 := hid hT1
  obtain ⟨l2, hl2⟩ : ∃ x, l1 ++ T1 = x := ⟨_, rfl⟩
  rw [hl2] at hI2
  have y2 : l2.length = l1.length + T1.length := by rw [← hl2, List.length_append]
  have HL2 := hid hl2
  clear hl2 hT1 q1
  have q2 := fun c : Bool => zcb c [114, 101, 118, 101, 97, 108, 32] (cms (d.reveal.map refW))
  simp only [List.length_cons, List.length_nil, Nat.zero_add, Nat.reduceAdd] at q2
  have HA := hid (fun c : Bool => zc4 w.heap.size b (polcs d L) _ HK.out gw (fun W h => h.wb) c [114, 101, 118, 101, 97, 108, 32] (cms (d.reveal.map refW)) ⟨#[114, 101, 118, 101, 97, 108, 32]⟩ rfl 37 (enters_of Tryz.func37 (by kernel_rfl) rfl) #[.pointer (some ⟨gw, 0, none⟩), .pointer (some ⟨gp, 0, none⟩)] (fun _ => pr4_run w b gw gp d L hP.rv hB n1 n2) l2 v2 hS2 hI2 hB2 (by have := q2 c; omega))
  have k2 : v2.cell? ⟨gp, 2, none⟩ = some (.slice L.ra d.reveal.length L.rc) := Blk.cell hS2.pb 2
  go_wp2_with fail
  refine (HA.out _).mono ?_
  rintro e v3 ⟨rfl, hI3, hb3, ho3⟩
  have hS3 := HK.out _ _ hS2 hb3 ho3
  have hB3 := Nat.le_trans hB2 hb3.size
  have hx3 := hx2.trans hb3
  clear HA hS2 hI2 hb3 ho3 hB2 hx2
  have q2' := q2 (decide (0 < d.reveal.length))
  generalize hT2 : lineW (decide (0 < d.reveal.length)) [114, 101, 118, 101, 97, 108, 32] (cms (d.reveal.map refW)) = T2 at *
  have HT2 := hid hT2
  obtain ⟨l3, hl3⟩ : ∃ x, l2 ++ T2 = x := ⟨_, rfl⟩
  rw [hl3] at hI3
  have y3 : l3.length = l2.length + T2.length := by rw [← hl3, List.length_append]
  have HL3 := hid hl3
  clear hl3 hT2 q2
  clear k2
  have q3 := fun c : Bool => zcb c [112, 114, 111, 118, 101, 32] (Pa.textN d.nodes 32 d.root)
  simp only [List.length_cons, List.length_nil, Nat.zero_add, Nat.reduceAdd] at q3
  have HA := hid (fun c : Bool => zc4 w.heap.size b (polcs d L) _ HK.out gw (fun W h => h.wb) c [112, 114, 111, 118, 101, 32] (Pa.textN d.nodes 32 d.root) ⟨#[112, 114, 111, 118, 101, 32]⟩ rfl 39 (enters_of Tryz.func39 (by kernel_rfl) rfl) #[.pointer (some ⟨gw, 0, none⟩), .pointer (some ⟨gp, 0, none⟩)] (fun _ => pr5_run w b gw gp d L _ HN.out) l3 v3 hS3 hI3 hB3 (by have := q3 c; omega))
  obtain ⟨ad, KA, kc, n, hA, hn, hr0, hr1, hkn, hNn⟩ := HRK.out
  obtain ⟨m0, -, -, -, -, -, -, -⟩ := hNn.up hx3
  have k3 : v3.cell? ⟨gp, 3, none⟩ = some (.slice (some ad) d.nodes.length L.nc) := by rw [← hA]; exact Blk.cell hS3.pb 3
  have k4 : v3.cell? ⟨gp, 4, none⟩ = some (.int .i64 d.root) := Blk.cell hS3.pb 4
  have HKN := hid hkn
  clear hA hn hkn hNn HRK
  go_wp2_with fail
  refine (HA.out _).mono ?_
  rintro e v4 ⟨rfl, hI4, hb4, ho4⟩
  have hS4 := HK.out _ _ hS3 hb4 ho4
  have hB4 := Nat.le_trans hB3 hb4.size
  have hx4 := hx3.trans hb4
  clear HA hS3 hI3 hb4 ho4 hB3 hx3
  have q3' := q3 (n.kind != 0)
  generalize hT3 : lineW (n.kind != 0) [112, 114, 111, 118, 101, 32] (Pa.textN d.nodes 32 d.root) = T3 at *
  have HT3 := hid hT3
  obtain ⟨l4, hl4⟩ : ∃ x, l3 ++ T3 = x := ⟨_, rfl⟩
  rw [hl4] at hI4
  have y4 : l4.length = l3.length + T3.length := by rw [← hl4, List.length_append]
  have HL4 := hid hl4
  clear hl4 hT3 q3
  have q4 := fun c : Bool => zcb c [115, 99, 111, 112, 101, 32] (zck d)
  simp only [List.length_cons, List.length_nil, Nat.zero_add, Nat.reduceAdd] at q4
  have HA := hid (fun c : Bool => zc4 w.heap.size b (polcs d L) _ HK.out gw (fun W h => h.wb) c [115, 99, 111, 112, 101, 32] (zck d) ⟨#[115, 99, 111, 112, 101, 32]⟩ rfl 41 (enters_of Tryz.func41 (by kernel_rfl) rfl) #[.pointer (some ⟨gw, 0, none⟩), .pointer (some ⟨gp, 0, none⟩)] (fun _ => pr6_run w b gw gp d L hG hB z6 z7) l4 v4 hS4 hI4 hB4 (by have := q4 c; omega))
  have k5 : v4.cell? ⟨gp, 5, none⟩ = some (.string d.scope) := Blk.cell hS4.pb 5
  clear k3 k4 m0
  go_wp2_with fail
  refine (HA.out _).mono ?_
  rintro e v5 ⟨rfl, hI5, hb5, ho5⟩
  have hS5 := HK.out _ _ hS4 hb5 ho5
  have hB5 := Nat.le_trans hB4 hb5.size
  have hx5 := hx4.trans hb5
  clear HA hS4 hI4 hb5 ho5 hB4 hx4
  have q4' := q4 (!d.scope.toList.isEmpty)
  generalize hT4 : lineW (!d.scope.toList.isEmpty) [115, 99, 111, 112, 101, 32] (zck d) = T4 at *
  have HT4 := hid hT4
  obtain ⟨l5, hl5⟩ : ∃ x, l4 ++ T4 = x := ⟨_, rfl⟩
  rw [hl5] at hI5
  have y5 : l5.length = l4.length + T4.length := by rw [← hl5, List.length_append]
  have HL5 := hid hl5
  clear hl5 hT4 q4
  have q5 := fun c : Bool => zcb c [101, 115, 99, 114, 111, 119, 32] (tl d.escrow)
  simp only [List.length_cons, List.length_nil, Nat.zero_add, Nat.reduceAdd] at q5
  have HA := hid (fun c : Bool => zc4 w.heap.size b (polcs d L) _ HK.out gw (fun W h => h.wb) c [101, 115, 99, 114, 111, 119, 32] (tl d.escrow) ⟨#[101, 115, 99, 114, 111, 119, 32]⟩ rfl 43 (enters_of Tryz.func43 (by kernel_rfl) rfl) #[.pointer (some ⟨gw, 0, none⟩), .pointer (some ⟨gp, 0, none⟩)] (fun _ => pr7_run w b gw gp d L) l5 v5 hS5 hI5 hB5 (by have := q5 c; omega))
  have k7 : v5.cell? ⟨gp, 7, none⟩ = some (.string d.escrow) := Blk.cell hS5.pb 7
  clear k5
  go_wp2_with fail
  refine (HA.out _).mono ?_
  rintro e v6 ⟨rfl, hI6, hb6, ho6⟩
  have hS6 := HK.out _ _ hS5 hb6 ho6
  have hB6 := Nat.le_trans hB5 hb6.size
  have hx6 := hx5.trans hb6
  clear HA hS5 hI5 hb6 ho6 hB5 hx5
  have q5' := q5 (!d.escrow.toList.isEmpty)
  generalize hT5 : lineW (!d.escrow.toList.isEmpty) [101, 115, 99, 114, 111, 119, 32] (tl d.escrow) = T5 at *
  have HT5 := hid hT5
  obtain ⟨l6, hl6⟩ : ∃ x, l5 ++ T5 = x := ⟨_, rfl⟩
  rw [hl6] at hI6
  have y6 : l6.length = l5.length + T5.length := by rw [← hl6, List.length_append]
  have HL6 := hid hl6
  clear hl6 hT5 q5
  have q6 := fun c : Bool => zcb c [101, 110, 100] ([])
  simp only [List.length_cons, List.length_nil, Nat.zero_add, Nat.reduceAdd] at q6
  have HA := hid (fun c : Bool => zc4 w.heap.size b (polcs d L) _ HK.out gw (fun W h => h.wb) c [101, 110, 100] ([]) ⟨#[101, 110, 100]⟩ rfl 44 (enters_of Tryz.func44 (by kernel_rfl) rfl) #[] (fun _ => pr8_run w.heap.size b (polcs d L) _) l6 v6 hS6 hI6 hB6 (by have := q6 c; omega))
  clear k7
  go_wp2_with fail
  refine (HA.out _).mono ?_
  rintro e v7 ⟨rfl, hI7, hb7, ho7⟩
  have hS7 := HK.out _ _ hS6 hb7 ho7
  have hB7 := Nat.le_trans hB6 hb7.size
  have hx7 := hx6.trans hb7
  clear HA hS6 hI6 hb7 ho7 hB6 hx6
  have q6' := q6 (true)
  generalize hT6 : lineW (true) [101, 110, 100] ([]) = T6 at *
  have HT6 := hid hT6
  obtain ⟨l7, hl7⟩ : ∃ x, l6 ++ T6 = x := ⟨_, rfl⟩
  rw [hl7] at hI7
  have y7 : l7.length = l6.length + T6.length := by rw [← hl7, List.length_append]
  have HL7 := hid hl7
  clear hl7 hT6 q6
  have k8 : v7.cell? ⟨gw, 0, none⟩ = some (.pointer (some ⟨b, 0, none⟩)) := Blk.cell hS7.wb 0
  have hne : l7 ≠ [] := by
   intro h
   have h2 := congrArg List.length HT6.out
   rw [h] at y7
   simp [lineW] at h2 y7
   omega
  have HD := hid (wrDone w.heap.size b (polcs d L) l7 v7 hI7 hne)
  have HX : Hid (l7 = printW d) := hid (by
   rw [← HL7.out, ← HL6.out, ← HL5.out, ← HL4.out, ← HL3.out, ← HL2.out, ← HL1.out, ← HL0.out, ← HT6.out, ← HT5.out, ← HT4.out, ← HT3.out, ← HT2.out, ← HT1.out, ← HT0.out, ← HKN.out, ne_size, ne_size, ne_kind]
   unfold printW
   simp only [List.nil_append])
  clear hne
  go_wp2_with fail
  refine HD.out.mono ?_
  rintro e v8 ⟨rfl, hb8⟩
  clear HD k8
  go_wp2_with fail
  go_ret2
  rw [HE.out, HT.out, ← HX.out]
  exact ⟨rfl, hx7.trans hb8⟩
 ·obtain ⟨E, hEE⟩ : ∃ E, checkP d = E := ⟨_, rfl⟩
  have HR := hid (And.intro (prS_bad hE) hEE)
  rw [hEE] at HC hE
  have hE1 : (E == 0) = false := by simpa using hE
  clear hEE
  go_wp2_with fail
  refine HC.out.mono ?_
  rintro e w2 ⟨rfl, hb2⟩
  have hk2 := hk1.next hb2
  clear HC hk1 c0 c1 c2 c3 c4 c5 c6 c7
  go_wp2_with fail
  go_ret2
  rw [HR.out.1, HR.out.2]
  exact ⟨rfl, hk2.below0⟩
end Go.Proofs.YtekkapgknohadaaGreatDoor
