/-
  schema.Value, of a field that is there.
-/
import Derived.Test.YtmdjhakamapngaaDoorScJ
namespace Go.Proofs.YtmdjhakamapngaaDoor
open Go.RowKit Go.Shelf
set_option linter.unusedVariables false

set_option maxRecDepth 20000 in
set_option maxHeartbeats 8000000 in
theorem value_ok (nm : ByteArray) (A : Option Addr) (c : Nat) (L : List Fd) (hB : SBd nm L) (i : Nat) (f : Fd) (he : schemaE nm L = 0) (hf : L[i]? = some f) (t : ByteArray) (ht : t.size ≤ 1000000) (w : World) (hG : Glob w) (hS : Flds w A L) :
    Calls Tryd.prog 14 #[schV nm A L.length c, .int .i64 (i : Int), .string t] w fun e w' => e = .returned (.tuple #[.int .i64 (fvalV f t).1, .int .i64 (fvalV f t).2]) ∧ Below w.heap.size w w' := by
  have hk := (Hp.start w).new 24 [.string nm, .slice A L.length c]
  have HC := Lib.hid (field_ok nm A c L hB i f he hf _ (hS.up hk.below0))
  have hfb := hB.fld f (List.mem_of_getElem? hf)
  have HV : Hid (fvalV f t = if f.kind = 1 then (if Lib.idxOfS f.words t < 0 then (0, 9) else (Lib.idxOfS f.words t, 0)) else if decOk (tl t) = false then (0, 4) else if decN t < f.min ∨ f.max < decN t then (0, 2) else (decN t, 0)) := Lib.hid rfl
  have HWL := Lib.hid hfb.words
  clear hfb he hf hB hS
  obtain ⟨g1, hg1⟩ : ∃ g, w.heap.size = g := ⟨_, rfl⟩
  rw [hg1] at hk
  by_cases h1 : f.kind = 1
  · have HV1 : Hid (fvalV f t = if Lib.idxOfS f.words t < 0 then (0, 9) else (Lib.idxOfS f.words t, 0)) := Lib.hid (by rw [HV.out, if_pos h1])
    have hke : (f.kind == 1) = true := by simp [h1]
    clear HV h1 hG
    by_cases h2 : Lib.idxOfS f.words t < 0
    · have HV2 : Hid (fvalV f t = (0, 9)) := Lib.hid (by rw [HV1.out, if_pos h2])
      go_enter Tryd.func14, Tryd.ntmps14
      go_wp2_with fail
      refine HC.out.mono ?_
      rintro e w1 ⟨⟨WA, wc, hW, rfl⟩, hb1⟩
      have hk2 := (hk.next hb1).new 49 (fcs f WA wc)
      have hW2 := (hW.up hb1).up ((Below.refl _ _).alloc (Nat.le_refl _) (.cells (fcs f WA wc).toArray 49))
      obtain ⟨d0, d1, d2, d3, d4⟩ := (hk2.blk 0 rfl).get5
      have HI := Lib.hid (indexS_any WA wc f.words t HWL.out _ hW2)
      clear hk hb1 HC hW hW2
      go_wp2_with fail
      refine HI.out.mono ?_
      rintro e w2 ⟨rfl, hb2⟩
      have hk3 := hk2.next hb2
      obtain ⟨d0, d1, d2, d3, d4⟩ := (hk3.blk 0 rfl).get5
      go_wp2_with fail
      go_ret2
      rw [HV2.out]
      exact ⟨rfl, hk3.below0⟩
    · have HV2 : Hid (fvalV f t = (Lib.idxOfS f.words t, 0)) := Lib.hid (by rw [HV1.out, if_neg h2])
      go_enter Tryd.func14, Tryd.ntmps14
      go_wp2_with fail
      refine HC.out.mono ?_
      rintro e w1 ⟨⟨WA, wc, hW, rfl⟩, hb1⟩
      have hk2 := (hk.next hb1).new 49 (fcs f WA wc)
      have hW2 := (hW.up hb1).up ((Below.refl _ _).alloc (Nat.le_refl _) (.cells (fcs f WA wc).toArray 49))
      obtain ⟨d0, d1, d2, d3, d4⟩ := (hk2.blk 0 rfl).get5
      have HI := Lib.hid (indexS_any WA wc f.words t HWL.out _ hW2)
      clear hk hb1 HC hW hW2
      go_wp2_with fail
      refine HI.out.mono ?_
      rintro e w2 ⟨rfl, hb2⟩
      have hk3 := hk2.next hb2
      obtain ⟨d0, d1, d2, d3, d4⟩ := (hk3.blk 0 rfl).get5
      go_wp2_with fail
      go_ret2
      rw [HV2.out]
      exact ⟨rfl, hk3.below0⟩
  · have HV1 : Hid (fvalV f t = if decOk (tl t) = false then (0, 4) else if decN t < f.min ∨ f.max < decN t then (0, 2) else (decN t, 0)) := Lib.hid (by rw [HV.out, if_neg h1])
    have hke : (f.kind == 1) = false := by simp [h1]
    clear HV h1
    cases hd : decOk (tl t) with
    | false =>
      have HV2 : Hid (fvalV f t = (0, 4)) := Lib.hid (by rw [HV1.out, if_pos hd])
      clear HV1
      go_enter Tryd.func14, Tryd.ntmps14
      go_wp2_with fail
      refine HC.out.mono ?_
      rintro e w1 ⟨⟨WA, wc, hW, rfl⟩, hb1⟩
      have hk2 := (hk.next hb1).new 49 (fcs f WA wc)
      have hW2 := (hW.up hb1).up ((Below.refl _ _).alloc (Nat.le_refl _) (.cells (fcs f WA wc).toArray 49))
      obtain ⟨d0, d1, d2, d3, d4⟩ := (hk2.blk 0 rfl).get5
      have HI := Lib.hid (decimal_any t ht _ (hG.up hk2.below0))
      rw [hd] at HI
      clear hk hb1 HC hW hW2
      go_wp2_with fail
      refine HI.out.mono ?_
      rintro e w2 ⟨rfl, hb2⟩
      have hk3 := hk2.next hb2
      obtain ⟨d0, d1, d2, d3, d4⟩ := (hk3.blk 0 rfl).get5
      go_wp2_with fail
      go_ret2
      rw [HV2.out]
      exact ⟨rfl, hk3.below0⟩
    | true =>
      have HV3 : Hid (fvalV f t = if decN t < f.min ∨ f.max < decN t then (0, 2) else (decN t, 0)) := Lib.hid (by rw [HV1.out, if_neg (by simp [hd])])
      clear HV1
      by_cases h3 : decN t < f.min
      · have HV2 : Hid (fvalV f t = (0, 2)) := Lib.hid (by rw [HV3.out, if_pos (.inl h3)])
        go_enter Tryd.func14, Tryd.ntmps14
        go_wp2_with fail
        refine HC.out.mono ?_
        rintro e w1 ⟨⟨WA, wc, hW, rfl⟩, hb1⟩
        have hk2 := (hk.next hb1).new 49 (fcs f WA wc)
        have hW2 := (hW.up hb1).up ((Below.refl _ _).alloc (Nat.le_refl _) (.cells (fcs f WA wc).toArray 49))
        obtain ⟨d0, d1, d2, d3, d4⟩ := (hk2.blk 0 rfl).get5
        have HI := Lib.hid (decimal_any t ht _ (hG.up hk2.below0))
        rw [hd] at HI
        clear hk hb1 HC hW hW2
        go_wp2_with fail
        refine HI.out.mono ?_
        rintro e w2 ⟨rfl, hb2⟩
        have hk3 := hk2.next hb2
        obtain ⟨d0, d1, d2, d3, d4⟩ := (hk3.blk 0 rfl).get5
        go_wp2_with fail
        go_ret2
        rw [HV2.out]
        exact ⟨rfl, hk3.below0⟩
      · by_cases h4 : f.max < decN t
        · have HV2 : Hid (fvalV f t = (0, 2)) := Lib.hid (by rw [HV3.out, if_pos (.inr h4)])
          go_enter Tryd.func14, Tryd.ntmps14
          go_wp2_with fail
          refine HC.out.mono ?_
          rintro e w1 ⟨⟨WA, wc, hW, rfl⟩, hb1⟩
          have hk2 := (hk.next hb1).new 49 (fcs f WA wc)
          have hW2 := (hW.up hb1).up ((Below.refl _ _).alloc (Nat.le_refl _) (.cells (fcs f WA wc).toArray 49))
          obtain ⟨d0, d1, d2, d3, d4⟩ := (hk2.blk 0 rfl).get5
          have HI := Lib.hid (decimal_any t ht _ (hG.up hk2.below0))
          rw [hd] at HI
          clear hk hb1 HC hW hW2
          go_wp2_with fail
          refine HI.out.mono ?_
          rintro e w2 ⟨rfl, hb2⟩
          have hk3 := hk2.next hb2
          obtain ⟨d0, d1, d2, d3, d4⟩ := (hk3.blk 0 rfl).get5
          go_wp2_with fail
          go_ret2
          rw [HV2.out]
          exact ⟨rfl, hk3.below0⟩
        · have HV2 : Hid (fvalV f t = (decN t, 0)) := Lib.hid (by rw [HV3.out, if_neg (by rintro (h | h) <;> contradiction)])
          go_enter Tryd.func14, Tryd.ntmps14
          go_wp2_with fail
          refine HC.out.mono ?_
          rintro e w1 ⟨⟨WA, wc, hW, rfl⟩, hb1⟩
          have hk2 := (hk.next hb1).new 49 (fcs f WA wc)
          have hW2 := (hW.up hb1).up ((Below.refl _ _).alloc (Nat.le_refl _) (.cells (fcs f WA wc).toArray 49))
          obtain ⟨d0, d1, d2, d3, d4⟩ := (hk2.blk 0 rfl).get5
          have HI := Lib.hid (decimal_any t ht _ (hG.up hk2.below0))
          rw [hd] at HI
          clear hk hb1 HC hW hW2
          go_wp2_with fail
          refine HI.out.mono ?_
          rintro e w2 ⟨rfl, hb2⟩
          have hk3 := hk2.next hb2
          obtain ⟨d0, d1, d2, d3, d4⟩ := (hk3.blk 0 rfl).get5
          go_wp2_with fail
          go_ret2
          rw [HV2.out]
          exact ⟨rfl, hk3.below0⟩
end Go.Proofs.YtmdjhakamapngaaDoor
