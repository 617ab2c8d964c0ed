/-
  dominoref39.Name and Value of a field that is there.
-/
import Derived.Test.YtmdjhakamapngaaGreatDoorScN
namespace Go.Proofs.YtmdjhakamapngaaGreatDoor
open Go.RowKit Go.Shelf
set_option linter.unusedVariables false

set_option maxRecDepth 20000 in
set_option maxHeartbeats 8000000 in
theorem rname_ok (nm : ByteArray) (A : Option Addr) (c : Nat) (L : List Fd) (hB : SBd nm L) (i : Nat) (f : Fd) (he : schemaE nm L = 0) (hf : L[i]? = some f) (v : Int) (w : World) (hS : Flds w A L) :
    Calls Tryz.prog 29 #[schV nm A L.length c, .int .i64 (i : Int), .int .i64 v] w fun e w' => e = .returned (.tuple #[.string (fnameV f v).1, .int .i64 (fnameV f v).2]) ∧ Below w.heap.size w w' := by
  have hk := (Hp.start w).new 24 [.string nm, .slice A L.length c]
  have hS1 := hS.up hk.below0
  have HC := Lib.hid (rcheck_any nm A c L hB _ hS1)
  rw [he] at HC
  have hfb := hB.fld f (List.mem_of_getElem? hf)
  have HWL := Lib.hid hfb.words
  have HF := Lib.hid (schemaE_fld he f (List.mem_of_getElem? hf))
  obtain ⟨g1, hg1⟩ : ∃ g, w.heap.size = g := ⟨_, rfl⟩
  rw [hg1] at hk
  have hil : i < L.length := (List.getElem?_eq_some_iff.1 hf).1
  have hbl := hB.len
  have hii : (i : Int) < (L.length : Int) := by omega
  have hin : ¬ (L.length : Int) ≤ (i : Int) := by omega
  have hi0 : ¬ (i : Int) < 0 := by omega
  have hi1 : (0 : Int) ≤ (i : Int) := by omega
  have HV : Hid (fnameV f v = (if f.kind = 1 then (if 0 ≤ v ∧ v < (f.words.length : Int) then (match f.words[v.toNat]? with | some s => (s, 0) | none => (ByteArray.empty, 2)) else (ByteArray.empty, 2)) else if v < f.min ∨ f.max < v then (ByteArray.empty, 2) else (bs (Lib.itoa v), 0) : ByteArray × Int)) := Lib.hid rfl
  by_cases h1 : f.kind = 1
  · have hke : (f.kind == 1) = true := by simp [h1]
    by_cases h2 : v < 0
    · have HV2 : Hid (fnameV f v = (ByteArray.empty, 2)) := Lib.hid (by rw [HV.out, if_pos h1, if_neg (by omega)])
      clear HV h1
      go_enter Tryz.func29, Tryz.ntmps29
      go_wp2_with fail
      refine HC.out.mono ?_
      rintro e w1 ⟨rfl, hb1⟩
      have hk1 := hk.next hb1
      obtain ⟨ad, WA, wc, rfl, hF⟩ := (hS.up hk1.below0).at_ i f hf
      have hW := hF.strs
      have d0 := hF.name
      have d1 := hF.kind
      have d2 := hF.min
      have d3 := hF.max
      have d4 := hF.words
      have c1 := (hk1.blk 0 rfl).cell 1
      simp only [List.getElem?_cons_zero, List.getElem?_cons_succ] at c1
      have hk2 := hk1.new 44 (fcs f WA wc)
      have hW2 := hW.up ((Below.refl _ _).alloc (Nat.le_refl _) (.cells (fcs f WA wc).toArray 44))
      obtain ⟨e0, e1, e2, e3, e4⟩ := (hk2.blk 0 rfl).get5
      clear hk hk1 hb1 HC hW hW2 hF hS hS1 he hf hB hfb
      go_wp2_with fail
      go_ret2
      rw [HV2.out]
      exact ⟨rfl, hk2.below0⟩
    · have hv0 : 0 ≤ v := by omega
      obtain ⟨k, rfl⟩ : ∃ k : Nat, v = (k : Int) := ⟨v.toNat, by omega⟩
      by_cases h3 : k < f.words.length
      · have hkk : (k : Int) < (f.words.length : Int) := by omega
        have hkn : ¬ (f.words.length : Int) ≤ (k : Int) := by omega
        obtain ⟨s, hs⟩ : ∃ s, f.words[k]? = some s := ⟨_, List.getElem?_eq_getElem h3⟩
        have HV2 : Hid (fnameV f (k : Int) = (s, 0)) := Lib.hid (by rw [HV.out, if_pos h1, if_pos ⟨hv0, hkk⟩]; simp only [Int.toNat_natCast, hs])
        clear HV h1
        go_enter Tryz.func29, Tryz.ntmps29
        go_wp2_with fail
        refine HC.out.mono ?_
        rintro e w1 ⟨rfl, hb1⟩
        have hk1 := hk.next hb1
        obtain ⟨ad, WA, wc, rfl, hF⟩ := (hS.up hk1.below0).at_ i f hf
        have hW := hF.strs
        have d0 := hF.name
        have d1 := hF.kind
        have d2 := hF.min
        have d3 := hF.max
        have d4 := hF.words
        have c1 := (hk1.blk 0 rfl).cell 1
        simp only [List.getElem?_cons_zero, List.getElem?_cons_succ] at c1
        have hk2 := hk1.new 44 (fcs f WA wc)
        have hW2 := hW.up ((Below.refl _ _).alloc (Nat.le_refl _) (.cells (fcs f WA wc).toArray 44))
        obtain ⟨e0, e1, e2, e3, e4⟩ := (hk2.blk 0 rfl).get5
        obtain ⟨ad2, rfl, cw⟩ := hW2.at_ k s hs
        clear hk hk1 hb1 HC hW hW2 hF hS hS1 he hf hB hfb
        go_wp2_with fail
        go_ret2
        rw [HV2.out]
        exact ⟨rfl, hk2.below0⟩
      · have hkk : (f.words.length : Int) ≤ (k : Int) := by omega
        have hkn : ¬ (k : Int) < (f.words.length : Int) := by omega
        have HV2 : Hid (fnameV f (k : Int) = (ByteArray.empty, 2)) := Lib.hid (by rw [HV.out, if_pos h1, if_neg (by omega)])
        clear HV h1
        go_enter Tryz.func29, Tryz.ntmps29
        go_wp2_with fail
        refine HC.out.mono ?_
        rintro e w1 ⟨rfl, hb1⟩
        have hk1 := hk.next hb1
        obtain ⟨ad, WA, wc, rfl, hF⟩ := (hS.up hk1.below0).at_ i f hf
        have hW := hF.strs
        have d0 := hF.name
        have d1 := hF.kind
        have d2 := hF.min
        have d3 := hF.max
        have d4 := hF.words
        have c1 := (hk1.blk 0 rfl).cell 1
        simp only [List.getElem?_cons_zero, List.getElem?_cons_succ] at c1
        have hk2 := hk1.new 44 (fcs f WA wc)
        have hW2 := hW.up ((Below.refl _ _).alloc (Nat.le_refl _) (.cells (fcs f WA wc).toArray 44))
        obtain ⟨e0, e1, e2, e3, e4⟩ := (hk2.blk 0 rfl).get5
        clear hk hk1 hb1 HC hW hW2 hF hS hS1 he hf hB hfb
        go_wp2_with fail
        go_ret2
        rw [HV2.out]
        exact ⟨rfl, hk2.below0⟩
  · have hke : (f.kind == 1) = false := by simp [h1]
    obtain ⟨-, -, hm1, hm2, -⟩ := fieldE_num HF.out h1
    by_cases h3 : v < f.min
    · have HV2 : Hid (fnameV f v = (ByteArray.empty, 2)) := Lib.hid (by rw [HV.out, if_neg h1, if_pos (.inl h3)])
      clear HV h1
      go_enter Tryz.func29, Tryz.ntmps29
      go_wp2_with fail
      refine HC.out.mono ?_
      rintro e w1 ⟨rfl, hb1⟩
      have hk1 := hk.next hb1
      obtain ⟨ad, WA, wc, rfl, hF⟩ := (hS.up hk1.below0).at_ i f hf
      have hW := hF.strs
      have d0 := hF.name
      have d1 := hF.kind
      have d2 := hF.min
      have d3 := hF.max
      have d4 := hF.words
      have c1 := (hk1.blk 0 rfl).cell 1
      simp only [List.getElem?_cons_zero, List.getElem?_cons_succ] at c1
      have hk2 := hk1.new 44 (fcs f WA wc)
      have hW2 := hW.up ((Below.refl _ _).alloc (Nat.le_refl _) (.cells (fcs f WA wc).toArray 44))
      obtain ⟨e0, e1, e2, e3, e4⟩ := (hk2.blk 0 rfl).get5
      clear hk hk1 hb1 HC hW hW2 hF hS hS1 he hf hB hfb
      go_wp2_with fail
      go_ret2
      rw [HV2.out]
      exact ⟨rfl, hk2.below0⟩
    · by_cases h4 : f.max < v
      · have HV2 : Hid (fnameV f v = (ByteArray.empty, 2)) := Lib.hid (by rw [HV.out, if_neg h1, if_pos (.inr h4)])
        clear HV h1
        go_enter Tryz.func29, Tryz.ntmps29
        go_wp2_with fail
        refine HC.out.mono ?_
        rintro e w1 ⟨rfl, hb1⟩
        have hk1 := hk.next hb1
        obtain ⟨ad, WA, wc, rfl, hF⟩ := (hS.up hk1.below0).at_ i f hf
        have hW := hF.strs
        have d0 := hF.name
        have d1 := hF.kind
        have d2 := hF.min
        have d3 := hF.max
        have d4 := hF.words
        have c1 := (hk1.blk 0 rfl).cell 1
        simp only [List.getElem?_cons_zero, List.getElem?_cons_succ] at c1
        have hk2 := hk1.new 44 (fcs f WA wc)
        have hW2 := hW.up ((Below.refl _ _).alloc (Nat.le_refl _) (.cells (fcs f WA wc).toArray 44))
        obtain ⟨e0, e1, e2, e3, e4⟩ := (hk2.blk 0 rfl).get5
        clear hk hk1 hb1 HC hW hW2 hF hS hS1 he hf hB hfb
        go_wp2_with fail
        go_ret2
        rw [HV2.out]
        exact ⟨rfl, hk2.below0⟩
      · have HV2 : Hid (fnameV f v = (bs (Lib.itoa v), 0)) := Lib.hid (by rw [HV.out, if_neg h1, if_neg (by rintro (h | h) <;> contradiction)])
        clear HV h1
        go_enter Tryz.func29, Tryz.ntmps29
        go_wp2_with fail
        refine HC.out.mono ?_
        rintro e w1 ⟨rfl, hb1⟩
        have hk1 := hk.next hb1
        obtain ⟨ad, WA, wc, rfl, hF⟩ := (hS.up hk1.below0).at_ i f hf
        have hW := hF.strs
        have d0 := hF.name
        have d1 := hF.kind
        have d2 := hF.min
        have d3 := hF.max
        have d4 := hF.words
        have c1 := (hk1.blk 0 rfl).cell 1
        simp only [List.getElem?_cons_zero, List.getElem?_cons_succ] at c1
        have hk2 := hk1.new 44 (fcs f WA wc)
        have hW2 := hW.up ((Below.refl _ _).alloc (Nat.le_refl _) (.cells (fcs f WA wc).toArray 44))
        obtain ⟨e0, e1, e2, e3, e4⟩ := (hk2.blk 0 rfl).get5
        have HI := Lib.hid (text_any v (by omega) (by omega) (w1.alloc (.cells (fcs f WA wc).toArray 44)))
        clear hk hk1 hb1 HC hW hW2 hF hS hS1 he hf hB hfb
        go_wp2_with fail
        refine HI.out.mono ?_
        rintro e w2 ⟨rfl, hb2⟩
        have hk2 := hk2.next hb2
        go_wp2_with fail
        go_ret2
        rw [HV2.out]
        exact ⟨rfl, hk2.below0⟩
end Go.Proofs.YtmdjhakamapngaaGreatDoor
