/-
  dominolaw39.SchemaInverts.
-/
import Derived.Test.YtmdjhakamapngaaDoorSdI
import Derived.Test.YtmdjhakamapngaaDoorSdD
namespace Go.Proofs.YtmdjhakamapngaaDoor
open Go.RowKit Go.Shelf
set_option linter.unusedVariables false

set_option maxRecDepth 20000 in
set_option maxHeartbeats 16000000 in
theorem sinverts_walk (nm : ByteArray) (A : Option Addr) (c : Nat) (L : List Fd) (VA : Option Addr) (vc : Nat) (vs : List ByteArray) (w : World) (hS : Flds w A L) (hV : Strs w VA vs) (hG : Glob w) :
    Calls Tryd.prog 6 #[schV nm A L.length c, .slice VA vs.length vc] w fun e w' => e = .returned (.bool true) ∧ Below w.heap.size w w' := by
  have hk := (Hp.start w).new 24 [.string nm, .slice A L.length c]
  have HS := Lib.hid hS
  have HG := Lib.hid hG
  have HVs := Lib.hid hV
  clear hS hG hV
  obtain ⟨g1, hg1⟩ : ∃ g, w.heap.size = g := ⟨_, rfl⟩
  have HFew := Lib.hid (fun W' h => few_any nm A c L W' h)
  have HTx := Lib.hid (fun W' h => texts_any VA vc vs W' h)
  rw [hg1] at hk
  go_enter Tryd.func6, Tryd.ntmps6
  go_upto_region 1 with fail
  try simp only [hg1]
  generalize w.alloc (.cells #[.string nm, .slice A L.length c] 24) = W at *
  obtain ⟨c0, c1⟩ := (hk.blk 0 rfl).get2
  have hb0 := hk.below0
  go_wp2_with fail
  refine (HFew.out W (HS.out.up hb0)).mono ?_
  rintro e w1 ⟨rfl, hb1⟩
  have hk1 := hk.next hb1
  clear hk hb0 hb1 c0 c1 HFew
  have hb1 := hk1.below0
  obtain ⟨c0, c1⟩ := (hk1.blk 0 rfl).get2
  cases hf : fewP nm L with
  | false =>
    clear hf
    go_wp2_with fail
    refine (awake_any w1 (HG.out.up hb1)).mono ?_
    rintro e w2 ⟨rfl, hb2⟩
    go_wp2_with fail
    go_ret
    exact ⟨rfl, (hk1.next hb2).below0⟩
  | true =>
    have HBd := Lib.hid (few_bd hf).1
    clear hf
    go_wp2_with fail
    refine (HTx.out w1 (HVs.out.up hb1)).mono ?_
    rintro e w2 ⟨rfl, hb2⟩
    have hk2 := hk1.next hb2
    clear hk1 hb1 hb2 c0 c1 HTx
    have hb2 := hk2.below0
    obtain ⟨c0, c1⟩ := (hk2.blk 0 rfl).get2
    cases ht : textsP vs with
    | false =>
      clear ht
      go_wp2_with fail
      refine (awake_any w2 (HG.out.up hb2)).mono ?_
      rintro e w3 ⟨rfl, hb3⟩
      go_wp2_with fail
      go_ret
      exact ⟨rfl, (hk2.next hb3).below0⟩
    | true =>
      have HTb := Lib.hid (texts_bd ht)
      have hvl : vs.length ≤ 24 := HTb.out.1
      clear ht
      have HEn := Lib.hid (fun W' hG hS hV => encode_any nm A c L HBd.out VA vc vs (by have := HTb.out.1; omega) (fun t ht => by have := HTb.out.2 t ht; omega) W' hG hS hV)
      have HEB := Lib.hid (fun h => encP_bad (nm := nm) (L := L) (vs := vs) h)
      have HEO := Lib.hid (fun h => encP_ok (nm := nm) (L := L) (vs := vs) h)
      have HED := Lib.hid (fun h => decP_enc (nm := nm) (L := L) (vs := vs) h)
      generalize encP nm L vs = ep at *
      obtain ⟨xs, E⟩ := ep
      simp only at HEB HEO HED
      go_wp2_with fail
      refine (HEn.out w2 (HG.out.up hb2) (HS.out.up hb2) (HVs.out.up hb2)).mono ?_
      rintro e w3 ⟨⟨XA, xc, rfl, hX⟩, hb3⟩
      have hk3 := hk2.next hb3
      have HX := Lib.hid hX
      clear hk2 hb2 hb3 c0 c1 HEn hX
      simp only at HX ⊢
      have hb3 := hk3.below0
      obtain ⟨c0, c1⟩ := (hk3.blk 0 rfl).get2
      cases hE : (E != 0) with
      | true =>
        have hx0 : xs = [] := HEB.out (by simpa using hE)
        subst hx0
        go_wp2_with fail
        refine (awake_any w3 (HG.out.up hb3)).mono ?_
        rintro e w4 ⟨rfl, hb4⟩
        go_wp2_with fail
        go_ret
        exact ⟨rfl, (hk3.next hb4).below0⟩
      | false =>
        have hE0 : E = 0 := by simpa using hE
        subst hE0
        clear hE HEB
        have HOk := Lib.hid (HEO.out rfl)
        have HDk := Lib.hid (HED.out rfl)
        clear HEO HED
        have hxl : xs.length ≤ 24 := by have h1 := HOk.out.2.2.len; have h2 := HOk.out.2.1; omega
        have hD := fun W' hG hS hX => decode_any nm A c L HBd.out XA xc xs (by omega) (fun x hx => by have := HDk.out.2 x hx; omega) W' hG hS hX
        rw [HDk.out.1] at hD
        have HD := Lib.hid hD
        clear hD
        go_upto_region 6 with fail
        go_wp2_with fail
        refine (HD.out w3 (HG.out.up hb3) (HS.out.up hb3) HX.out).mono ?_
        rintro e w4 ⟨⟨BA, bc, rfl, hBk⟩, hb4⟩
        have hk4 := hk3.next hb4
        simp only at hBk ⊢
        have hST := Lib.hid (sameTexts_true BA VA bc vc vs (by omega) w4 hBk (HVs.out.up hk4.below0))
        clear hk3 hb3 hb4 c0 c1 HD HX hBk
        go_upto_region 7 with fail
        go_wp2_with fail
        refine hST.out.mono ?_
        rintro e w5 ⟨rfl, hb5⟩
        have hk5 := hk4.next hb5
        clear hk4 hb5 hST
        go_upto_region 10 with fail
        go_loopg [9] vs.length (fun m s9 wx => ∃ i : Nat, i ≤ vs.length ∧ m = vs.length - i ∧ s9 = .int .i64 (i : Int) ∧ Hp [] w [iblk g1 24 [.string nm, .slice A L.length c]] wx)
        case atStart => exact ⟨0, Nat.zero_le _, rfl, rfl, hk5⟩
        case round =>
          obtain ⟨i, hi, rfl, rfl, hM⟩ := hrel
          clear hk5
          obtain ⟨c0, c1⟩ := (hM.blk 0 rfl).get2
          by_cases hil : i < vs.length
          · have hii : (i : Int) < (vs.length : Int) := by omega
            have hi0' : (0 : Int) ≤ (i : Int) := by omega
            obtain ⟨t, hti⟩ : ∃ t, vs[i]? = some t := ⟨_, List.getElem?_eq_getElem hil⟩
            obtain ⟨f, hfi⟩ : ∃ f, L[i]? = some f := ⟨_, List.getElem?_eq_getElem (by have := HOk.out.2.1; omega)⟩
            obtain ⟨n, hn⟩ := HOk.out.2.2.at_ i f t hfi hti
            have hts := HTb.out.2 t (List.mem_of_getElem? hti)
            have hsE := HOk.out.1
            have hv1 : valV nm L (i : Int) t = (n, 0) := by
              have hil2 := (List.getElem?_eq_some_iff.1 hfi).1
              unfold valV
              rw [if_neg (by rw [hsE]; simp), if_pos (by omega)]
              simp only [Int.toNat_natCast, hfi, hn]
            have hn1 : nameV nm L (i : Int) n = (t, 0) := by
              have hil2 := (List.getElem?_eq_some_iff.1 hfi).1
              unfold nameV
              rw [if_neg (by rw [hsE]; simp), if_pos (by omega)]
              simp only [Int.toNat_natCast, hfi]
              exact fval_inv ((schemaE_ok hsE).2.2.2 f (List.mem_of_getElem? hfi)) hn
            have hcv := fun W' hG hS => value_any nm A c L HBd.out (i : Int) t (by omega) W' hG hS
            have hcn := fun W' hG hS => name_any' nm A c L HBd.out (i : Int) n W' hG hS
            rw [hv1] at hcv
            rw [hn1] at hcn
            have HCV := Lib.hid hcv
            have HCN := Lib.hid hcn
            obtain ⟨vd, hvd, ca⟩ := (HVs.out.up hM.below0).at_ i t hti
            subst hvd
            have HTi := Lib.hid hti
            clear hcv hcn hv1 hn1 hsE hn hfi hti
            have hMd := hM.drew
            have cad := (HVs.out.up hMd.below0).at_ i t HTi.out
            obtain ⟨vd', hvd', cad⟩ := cad
            injection hvd' with hvd'
            subst hvd'
            go_upto_region 12 with fail
            obtain ⟨d0, d1⟩ := (hMd.blk 0 rfl).get2
            clear hM c0 c1 ca
            first | go_region_held3 (fun w' => w'.cell? ⟨g1, 0, none⟩ = some (.string nm) ∧ w'.cell? ⟨g1, 1, none⟩ = some (.slice A L.length c) ∧ w'.cell? (vd.add i) = some (.string t)) (first | exact ⟨d0, d1, cad⟩ | exact ⟨e0, e1, y2⟩)
              (first | (go_at_call 14; refine (HCV.out _ (HG.out.up hMd.below0) (HS.out.up hMd.below0)).mono ?_; rintro e w6 ⟨rfl, hb6⟩; have hM6 := hMd.next hb6; have y2 := scell_up cad hb6; obtain ⟨e0, e1⟩ := (hM6.blk 0 rfl).get2)) | fail
            clear hMd d0 d1 cad
            have hee : (t.toList == t.toList) = true := by simp
            go_wp2_with fail
            refine (HCN.out w6 (HG.out.up hM6.below0) (HS.out.up hM6.below0)).mono ?_
            rintro e w7 ⟨rfl, hb7⟩
            have hM7 := hM6.next hb7
            have y7 := scell_up y2 hb7
            clear hM6 hb7 y2 e0 e1
            go_wp2_with fail
            go_roundg (vs.length - (i + 1))
            case measure => omega
            case rel => exact ⟨i + 1, hil, rfl, by first | rfl | simp, hM7⟩
          · have hii : ¬ (i : Int) < (vs.length : Int) := by omega
            have hxi : ((xs.length : Int) == (L.length : Int)) = true := by rw [beq_iff_eq, HOk.out.2.2.len]
            go_wp2_with fail
            refine (awake_any wr (HG.out.up hM.below0)).mono ?_
            rintro e w6 ⟨rfl, hb6⟩
            have hM6 := hM.next hb6
            clear hM hb6 c0 c1
            obtain ⟨c0, c1⟩ := (hM6.blk 0 rfl).get2
            go_wp2_with fail
            go_ret
            exact ⟨rfl, hM6.below0⟩
end Go.Proofs.YtmdjhakamapngaaDoor
