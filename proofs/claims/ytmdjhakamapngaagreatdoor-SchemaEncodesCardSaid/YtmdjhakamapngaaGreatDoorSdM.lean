/-
  dominolaw39.SchemaEncodes.
-/
import Derived.Test.YtmdjhakamapngaaGreatDoorSdA
import Derived.Test.YtmdjhakamapngaaGreatDoorSdI
import Derived.Test.YtmdjhakamapngaaGreatDoorSdK
import Derived.Test.YtmdjhakamapngaaGreatDoorSdL
namespace Go.Proofs.YtmdjhakamapngaaGreatDoor
open Go.RowKit Go.Shelf
set_option linter.unusedVariables false

set_option maxRecDepth 20000 in
set_option maxHeartbeats 16000000 in
theorem sencodes_walk (nm : ByteArray) (A : Option Addr) (c : Nat) (L : List Fd) (VA : Option Addr) (vc : Nat) (vs : List ByteArray) (XA : Option Addr) (xc : Nat) (xs : List ByteArray) (w : World) (hS : Flds w A L) (hV : Strs w VA vs) (hX : Strs w XA xs) (hG : Glob w) :
    Calls Tryz.prog 3 #[schV nm A L.length c, .slice VA vs.length vc, .slice XA xs.length xc] w fun e w' => e = .returned (.bool true) ∧ Below w.heap.size w w' := by
  have hk := (Hp.start w).new 24 [.string nm, .slice A L.length c]
  have HS := Lib.hid hS
  have HG := Lib.hid hG
  have HVs := Lib.hid hV
  have HXs := Lib.hid hX
  clear hS hG hV hX
  obtain ⟨g1, hg1⟩ : ∃ g, w.heap.size = g := ⟨_, rfl⟩
  have HFew := Lib.hid (fun W' h => few_any nm A c L W' h)
  have HTx := Lib.hid (fun W' h => texts_any VA vc vs W' h)
  rw [hg1] at hk
  go_enter Tryz.func3, Tryz.ntmps3
  go_upto_region 1 with fail
  try simp only [hg1]
  generalize w.alloc (.cells #[.string nm, .slice A L.length c] 24) = W at *
  obtain ⟨c0, c1⟩ := (hk.blk 0 rfl).get2
  have hb0 := hk.below0
  go_wp2_with fail
  refine (HFew.out W (HS.out.up hb0)).mono ?_
  rintro e w1 ⟨rfl, hb1⟩
  have hk1 := hk.next hb1
  clear hk hb0 hb1 c0 c1 HFew
  have hb1 := hk1.below0
  obtain ⟨c0, c1⟩ := (hk1.blk 0 rfl).get2
  cases hf : fewP nm L with
  | false =>
    clear hf
    go_wp2_with fail
    refine (awake_any w1 (HG.out.up hb1)).mono ?_
    rintro e w2 ⟨rfl, hb2⟩
    go_wp2_with fail
    go_ret
    exact ⟨rfl, (hk1.next hb2).below0⟩
  | true =>
    have HBd := Lib.hid (few_bd hf).1
    clear hf
    go_wp2_with fail
    refine (HTx.out w1 (HVs.out.up hb1)).mono ?_
    rintro e w2 ⟨rfl, hb2⟩
    have hk2 := hk1.next hb2
    clear hk1 hb1 hb2 c0 c1 HTx
    have hb2 := hk2.below0
    obtain ⟨c0, c1⟩ := (hk2.blk 0 rfl).get2
    cases ht : textsP vs with
    | false =>
      clear ht
      go_wp2_with fail
      refine (awake_any w2 (HG.out.up hb2)).mono ?_
      rintro e w3 ⟨rfl, hb3⟩
      go_wp2_with fail
      go_ret
      exact ⟨rfl, (hk2.next hb3).below0⟩
    | true =>
      have HTb := Lib.hid (texts_bd ht)
      have hvl : vs.length ≤ 24 := HTb.out.1
      clear ht
      by_cases h24 : xs.length ≤ 24
      · have hi : ¬ (24 : Int) < (xs.length : Int) := by omega
        go_upto_region 4 with fail
        clear c0 c1
        go_loopg [7] xs.length (fun m s7 wx => ∃ i : Nat, i ≤ xs.length ∧ m = xs.length - i ∧ s7 = .int .i64 (i : Int) ∧ Hp [] w [iblk g1 24 [.string nm, .slice A L.length c]] wx ∧ Hid (∀ x ∈ xs.take i, x.size ≤ 12))
        case atStart => exact ⟨0, Nat.zero_le _, rfl, rfl, hk2, Lib.hid (fun x hx => by simp at hx)⟩
        case round =>
          obtain ⟨i, hi', rfl, rfl, hM, HI⟩ := hrel
          clear hk2 hb2
          have hbM := hM.below0
          by_cases hil : i < xs.length
          · have hii : (i : Int) < (xs.length : Int) := by omega
            have hi0 : (0 : Int) ≤ (i : Int) := by omega
            obtain ⟨x, hxi⟩ : ∃ x, xs[i]? = some x := ⟨_, List.getElem?_eq_getElem hil⟩
            obtain ⟨xd, hxd, ca⟩ := (HXs.out.up hbM).at_ i x hxi
            subst hxd
            by_cases h12 : x.size ≤ 12
            · have hj : ¬ (12 : Int) < (x.size : Int) := by omega
              have HI2 : Hid (∀ x ∈ xs.take (i + 1), x.size ≤ 12) := Lib.hid (fun y hy => by
                rw [take_at hxi] at hy
                rcases List.mem_append.1 hy with h | h
                · exact HI.out y h
                · rw [List.mem_singleton.1 h]; exact h12)
              clear hxi
              go_wp2_with fail
              go_roundg (xs.length - (i + 1))
              case measure => omega
              case rel => exact ⟨i + 1, hil, rfl, by first | rfl | simp, hM, HI2⟩
            · have hj : (12 : Int) < (x.size : Int) := by omega
              clear hxi
              go_wp2_with fail
              refine (awake_any wr (HG.out.up hbM)).mono ?_
              rintro e w3 ⟨rfl, hb3⟩
              go_wp2_with fail
              go_ret
              exact ⟨rfl, (hM.next hb3).below0⟩
          · have hii : ¬ (i : Int) < (xs.length : Int) := by omega
            have HX12 : Hid (∀ x ∈ xs, x.size ≤ 12) := Lib.hid (by have := HI.out; rwa [List.take_of_length_le (by omega)] at this)
            have HE1 := Lib.hid (fun W' hG hS hV => encode_any nm A c L HBd.out VA vc vs (by have := HTb.out.1; omega) (fun t ht => by have := HTb.out.2 t ht; omega) W' hG hS hV)
            have HE2 := Lib.hid (fun W' hS hV => rencode_any nm A c L HBd.out VA vc vs (by have := HTb.out.1; omega) (fun t ht => by have := HTb.out.2 t ht; omega) W' hS hV)
            have HD1 := Lib.hid (fun W' hG hS hX => decode_any nm A c L HBd.out XA xc xs (by omega) (fun t ht => by have := HX12.out t ht; omega) W' hG hS hX)
            have HD2 := Lib.hid (fun W' hS hX => rdecode_any nm A c L HBd.out XA xc xs (by omega) (fun t ht => by have := HX12.out t ht; omega) W' hS hX)
            have hel : (encP nm L vs).1.length ≤ 1000000 := by
              by_cases h : (encP nm L vs).2 = 0
              · obtain ⟨_, h2, h3⟩ := encP_ok h
                rw [h3.len, ← h2]; omega
              · rw [encP_bad h]; decide
            have hdl : (decP nm L xs).1.length ≤ 1000000 := by
              unfold decP
              split
              · show 0 ≤ 1000000; omega
              · split
                · show 0 ≤ 1000000; omega
                · split
                  · show 0 ≤ 1000000; omega
                  · have := decL_len L xs []
                    simp only [List.length_nil] at this
                    omega
            generalize encP nm L vs = ep at *
            generalize decP nm L xs = dp at *
            obtain ⟨el, ee⟩ := ep
            obtain ⟨dl, de⟩ := dp
            simp only at hel hdl
            have t1 : (ee == ee) = true := by simp
            have t2 : (de == de) = true := by simp
            have HEL := Lib.hid hel
            have HDL := Lib.hid hdl
            clear hel hdl HI
            obtain ⟨c0, c1⟩ := (hM.blk 0 rfl).get2
            go_wp2_with fail
            refine (HE1.out wr (HG.out.up hbM) (HS.out.up hbM) (HVs.out.up hbM)).mono ?_
            rintro e w3 ⟨⟨EA, ec, rfl, hEA⟩, hb3⟩
            have hk3 := hM.next hb3
            have HEA := Lib.hid hEA
            clear hM hbM hb3 c0 c1 HE1 hEA
            have hbM := hk3.below0
            obtain ⟨c0, c1⟩ := (hk3.blk 0 rfl).get2
            simp only
            go_upto_region 9 with fail
            go_wp2_with fail
            refine (HE2.out w3 (HS.out.up hbM) (HVs.out.up hbM)).mono ?_
            rintro e w4 ⟨⟨EB, ed, rfl, hEB⟩, hb4⟩
            have hk4 := hk3.next hb4
            have HEA4 := Lib.hid (HEA.out.up hb4)
            have HEB := Lib.hid hEB
            clear hk3 hbM hb4 c0 c1 HE2 hEB HEA
            have hbM := hk4.below0
            obtain ⟨c0, c1⟩ := (hk4.blk 0 rfl).get2
            simp only
            go_upto_region 10 with fail
            go_wp2_with fail
            refine (HD1.out w4 (HG.out.up hbM) (HS.out.up hbM) (HXs.out.up hbM)).mono ?_
            rintro e w5 ⟨⟨DA, dc, rfl, hDA⟩, hb5⟩
            have hk5 := hk4.next hb5
            have HEA5 := Lib.hid (HEA4.out.up hb5)
            have HEB5 := Lib.hid (HEB.out.up hb5)
            have HDA := Lib.hid hDA
            clear hk4 hbM hb5 c0 c1 HD1 hDA HEA4 HEB
            have hbM := hk5.below0
            obtain ⟨c0, c1⟩ := (hk5.blk 0 rfl).get2
            simp only
            go_upto_region 11 with fail
            go_wp2_with fail
            refine (HD2.out w5 (HS.out.up hbM) (HXs.out.up hbM)).mono ?_
            rintro e w6 ⟨⟨DB, dd, rfl, hDB⟩, hb6⟩
            have hk6 := hk5.next hb6
            have HEA6 := Lib.hid (HEA5.out.up hb6)
            have HEB6 := Lib.hid (HEB5.out.up hb6)
            have HDA6 := Lib.hid (HDA.out.up hb6)
            have HDB := Lib.hid hDB
            clear hk5 hbM hb6 c0 c1 HD2 hDB HEA5 HEB5 HDA
            simp only
            go_upto_region 12 with fail
            go_wp2_with fail
            refine (awake_any w6 (HG.out.up hk6.below0)).mono ?_
            rintro e w7 ⟨rfl, hb7⟩
            have hk7 := hk6.next hb7
            have hs7 := Lib.hid (sameNats_true EA EB ec ed el HEL.out w7 (HEA6.out.up hb7) (HEB6.out.up hb7))
            have HDA7 := Lib.hid (HDA6.out.up hb7)
            have HDB7 := Lib.hid (HDB.out.up hb7)
            clear hk6 hb7 HEA6 HEB6 HDA6 HDB
            go_wp2_with fail
            refine hs7.out.mono ?_
            rintro e w8 ⟨rfl, hb8⟩
            have hk8 := hk7.next hb8
            have hs8 := Lib.hid (sameTexts_true DA DB dc dd dl HDL.out w8 (HDA7.out.up hb8) (HDB7.out.up hb8))
            clear hk7 hb8 hs7 HDA7 HDB7
            go_wp2_with fail
            refine hs8.out.mono ?_
            rintro e w9 ⟨rfl, hb9⟩
            have hk9 := hk8.next hb9
            clear hk8 hb9 hs8
            go_wp2_with fail
            go_ret
            exact ⟨rfl, hk9.below0⟩
      · have hi : (24 : Int) < (xs.length : Int) := by omega
        go_wp2_with fail
        refine (awake_any w2 (HG.out.up hb2)).mono ?_
        rintro e w3 ⟨rfl, hb3⟩
        go_wp2_with fail
        go_ret
        exact ⟨rfl, (hk2.next hb3).below0⟩
end Go.Proofs.YtmdjhakamapngaaGreatDoor
