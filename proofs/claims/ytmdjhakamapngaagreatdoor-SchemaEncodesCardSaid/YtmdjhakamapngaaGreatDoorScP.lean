/-
  dominoref39.Value of a field that is there; the reference's Value and Name in all.
-/
import Derived.Test.YtmdjhakamapngaaGreatDoorScO
namespace Go.Proofs.YtmdjhakamapngaaGreatDoor
open Go.RowKit Go.Shelf
set_option linter.unusedVariables false

set_option maxRecDepth 20000 in
set_option maxHeartbeats 8000000 in
theorem rvalue_ok (nm : ByteArray) (A : Option Addr) (c : Nat) (L : List Fd) (hB : SBd nm L) (i : Nat) (f : Fd) (he : schemaE nm L = 0) (hf : L[i]? = some f) (t : ByteArray) (ht : t.size ≤ 1000000) (w : World) (hS : Flds w A L) :
    Calls Tryz.prog 21 #[schV nm A L.length c, .int .i64 (i : Int), .string t] w fun e w' => e = .returned (.tuple #[.int .i64 (fvalV f t).1, .int .i64 (fvalV f t).2]) ∧ Below w.heap.size w w' := by
  have hk := (Hp.start w).new 24 [.string nm, .slice A L.length c]
  have hS1 := hS.up hk.below0
  have HC := Lib.hid (rcheck_any nm A c L hB _ hS1)
  rw [he] at HC
  have hfb := hB.fld f (List.mem_of_getElem? hf)
  have HWL := Lib.hid hfb.words
  have HF := Lib.hid (schemaE_fld he f (List.mem_of_getElem? hf))
  obtain ⟨g1, hg1⟩ : ∃ g, w.heap.size = g := ⟨_, rfl⟩
  rw [hg1] at hk
  have hil : i < L.length := (List.getElem?_eq_some_iff.1 hf).1
  have hbl := hB.len
  have hii : (i : Int) < (L.length : Int) := by omega
  have hin : ¬ (L.length : Int) ≤ (i : Int) := by omega
  have hi0 : ¬ (i : Int) < 0 := by omega
  have hi1 : (0 : Int) ≤ (i : Int) := by omega
  have HV : Hid (fvalV f t = if f.kind = 1 then (if Lib.idxOfS f.words t < 0 then (0, 9) else (Lib.idxOfS f.words t, 0)) else if decOk (tl t) = false then (0, 4) else if decN t < f.min ∨ f.max < decN t then (0, 2) else (decN t, 0)) := Lib.hid rfl
  by_cases h1 : f.kind = 1
  · have HV1 : Hid (fvalV f t = if Lib.idxOfS f.words t < 0 then (0, 9) else (Lib.idxOfS f.words t, 0)) := Lib.hid (by rw [HV.out, if_pos h1])
    have hke : (f.kind == 1) = true := by simp [h1]
    have hwl := HWL.out
    clear HV h1
    go_enter Tryz.func21, Tryz.ntmps21
    go_wp2_with fail
    refine HC.out.mono ?_
    rintro e w1 ⟨rfl, hb1⟩
    have hk1 := hk.next hb1
    obtain ⟨ad, WA, wc, rfl, hF⟩ := (hS.up hk1.below0).at_ i f hf
    have hW := hF.strs
    have d0 := hF.name
    have d1 := hF.kind
    have d2 := hF.min
    have d3 := hF.max
    have d4 := hF.words
    have c1 := (hk1.blk 0 rfl).cell 1
    simp only [List.getElem?_cons_zero, List.getElem?_cons_succ] at c1
    have hk2 := hk1.new 44 (fcs f WA wc)
    have hW2 := hW.up ((Below.refl _ _).alloc (Nat.le_refl _) (.cells (fcs f WA wc).toArray 44))
    obtain ⟨e0, e1, e2, e3, e4⟩ := (hk2.blk 0 rfl).get5
    clear hk hk1 hb1 HC hW hF hS hS1 he hf hB hfb
    go_upto_region 5 with fail
    go_loopg [10] f.words.length (fun m s10 wx => ∃ k : Nat, k ≤ f.words.length ∧ m = f.words.length - k ∧ s10 = .int .i64 (k : Int) ∧ wx = w1.alloc (.cells (fcs f WA wc).toArray 44) ∧ Hid (∀ (j : Nat) (s : ByteArray), j < k → f.words[j]? = some s → s ≠ t))
    case atStart => exact ⟨0, Nat.zero_le _, rfl, rfl, rfl, Lib.hid (fun j s hj => absurd hj (Nat.not_lt_zero _))⟩
    case round =>
      obtain ⟨k, hkl, rfl, rfl, rfl, HI⟩ := hrel
      by_cases hil : k < f.words.length
      · have hii : (k : Int) < (f.words.length : Int) := by omega
        have hk0 : (0 : Int) ≤ (k : Int) := by omega
        obtain ⟨s, hs⟩ : ∃ s, f.words[k]? = some s := ⟨_, List.getElem?_eq_getElem hil⟩
        obtain ⟨ad2, rfl, cw⟩ := hW2.at_ k s hs
        by_cases hst : s = t
        · have hx := idx_hit (hst ▸ hs) HI.out
          have HV2 : Hid (fvalV f t = ((k : Int), 0)) := Lib.hid (by rw [HV1.out, hx, if_neg (by omega)])
          have hee : (s.toList == t.toList) = true := by rw [strs_eq, decide_eq_true hst]
          clear hst hs HI hx HV1
          go_wp2_with fail
          go_ret2
          rw [HV2.out]
          exact ⟨rfl, by first | exact hk2.below0 | (subst hg1; exact hk2.below0)⟩
        · have HI2 : Hid (∀ (j : Nat) (s : ByteArray), j < k + 1 → f.words[j]? = some s → s ≠ t) := Lib.hid (fun j f' hj hf' => by
            by_cases hji : j = k
            · subst hji
              rw [hs] at hf'
              injection hf' with hf'
              rw [← hf']; exact hst
            · exact HI.out j f' (by omega) hf')
          have hee : (s.toList == t.toList) = false := by rw [strs_eq, decide_eq_false hst]
          clear hst hs HI
          go_wp2_with fail
          go_roundg (f.words.length - (k + 1))
          case measure => omega
          case rel => exact ⟨k + 1, hil, rfl, by first | rfl | simp, rfl, HI2⟩
      · have hii : ¬ (k : Int) < (f.words.length : Int) := by omega
        have hx := idx_miss (L := f.words) (s := t) (fun j g hj => HI.out j g (by have := (List.getElem?_eq_some_iff.1 hj).1; omega) hj)
        have HV2 : Hid (fvalV f t = (0, 9)) := Lib.hid (by rw [HV1.out, hx]; rfl)
        clear HI hx HV1
        go_wp2_with fail
        go_ret2
        rw [HV2.out]
        exact ⟨rfl, by first | exact hk2.below0 | (subst hg1; exact hk2.below0)⟩
  · have HV1 : Hid (fvalV f t = if decOk (tl t) = false then (0, 4) else if decN t < f.min ∨ f.max < decN t then (0, 2) else (decN t, 0)) := Lib.hid (by rw [HV.out, if_neg h1])
    have hke : (f.kind == 1) = false := by simp [h1]
    clear HV h1
    cases hd : decOk (tl t) with
    | false =>
      have HV2 : Hid (fvalV f t = (0, 4)) := Lib.hid (by rw [HV1.out, if_pos hd])
      clear HV1
      go_enter Tryz.func21, Tryz.ntmps21
      go_wp2_with fail
      refine HC.out.mono ?_
      rintro e w1 ⟨rfl, hb1⟩
      have hk1 := hk.next hb1
      obtain ⟨ad, WA, wc, rfl, hF⟩ := (hS.up hk1.below0).at_ i f hf
      have hW := hF.strs
      have d0 := hF.name
      have d1 := hF.kind
      have d2 := hF.min
      have d3 := hF.max
      have d4 := hF.words
      have c1 := (hk1.blk 0 rfl).cell 1
      simp only [List.getElem?_cons_zero, List.getElem?_cons_succ] at c1
      have hk2 := hk1.new 44 (fcs f WA wc)
      have hW2 := hW.up ((Below.refl _ _).alloc (Nat.le_refl _) (.cells (fcs f WA wc).toArray 44))
      obtain ⟨e0, e1, e2, e3, e4⟩ := (hk2.blk 0 rfl).get5
      have HI := Lib.hid (rdecimal_any t ht (w1.alloc (.cells (fcs f WA wc).toArray 44)))
      rw [hd] at HI
      clear hk hk1 hb1 HC hW hF hS hS1 he hf hB hfb
      go_wp2_with fail
      refine HI.out.mono ?_
      rintro e w2 ⟨rfl, hb2⟩
      have hk2 := hk2.next hb2
      obtain ⟨e0, e1, e2, e3, e4⟩ := (hk2.blk 0 rfl).get5
      go_wp2_with fail
      go_ret2
      rw [HV2.out]
      exact ⟨rfl, hk2.below0⟩
    | true =>
      have HV3 : Hid (fvalV f t = if decN t < f.min ∨ f.max < decN t then (0, 2) else (decN t, 0)) := Lib.hid (by rw [HV1.out, if_neg (by simp [hd])])
      clear HV1
      by_cases h3 : decN t < f.min
      · have HV2 : Hid (fvalV f t = (0, 2)) := Lib.hid (by rw [HV3.out, if_pos (.inl h3)])
        go_enter Tryz.func21, Tryz.ntmps21
        go_wp2_with fail
        refine HC.out.mono ?_
        rintro e w1 ⟨rfl, hb1⟩
        have hk1 := hk.next hb1
        obtain ⟨ad, WA, wc, rfl, hF⟩ := (hS.up hk1.below0).at_ i f hf
        have hW := hF.strs
        have d0 := hF.name
        have d1 := hF.kind
        have d2 := hF.min
        have d3 := hF.max
        have d4 := hF.words
        have c1 := (hk1.blk 0 rfl).cell 1
        simp only [List.getElem?_cons_zero, List.getElem?_cons_succ] at c1
        have hk2 := hk1.new 44 (fcs f WA wc)
        have hW2 := hW.up ((Below.refl _ _).alloc (Nat.le_refl _) (.cells (fcs f WA wc).toArray 44))
        obtain ⟨e0, e1, e2, e3, e4⟩ := (hk2.blk 0 rfl).get5
        have HI := Lib.hid (rdecimal_any t ht (w1.alloc (.cells (fcs f WA wc).toArray 44)))
        rw [hd] at HI
        clear hk hk1 hb1 HC hW hF hS hS1 he hf hB hfb
        go_wp2_with fail
        refine HI.out.mono ?_
        rintro e w2 ⟨rfl, hb2⟩
        have hk2 := hk2.next hb2
        obtain ⟨e0, e1, e2, e3, e4⟩ := (hk2.blk 0 rfl).get5
        go_wp2_with fail
        go_ret2
        rw [HV2.out]
        exact ⟨rfl, hk2.below0⟩
      · by_cases h4 : f.max < decN t
        · have HV2 : Hid (fvalV f t = (0, 2)) := Lib.hid (by rw [HV3.out, if_pos (.inr h4)])
          go_enter Tryz.func21, Tryz.ntmps21
          go_wp2_with fail
          refine HC.out.mono ?_
          rintro e w1 ⟨rfl, hb1⟩
          have hk1 := hk.next hb1
          obtain ⟨ad, WA, wc, rfl, hF⟩ := (hS.up hk1.below0).at_ i f hf
          have hW := hF.strs
          have d0 := hF.name
          have d1 := hF.kind
          have d2 := hF.min
          have d3 := hF.max
          have d4 := hF.words
          have c1 := (hk1.blk 0 rfl).cell 1
          simp only [List.getElem?_cons_zero, List.getElem?_cons_succ] at c1
          have hk2 := hk1.new 44 (fcs f WA wc)
          have hW2 := hW.up ((Below.refl _ _).alloc (Nat.le_refl _) (.cells (fcs f WA wc).toArray 44))
          obtain ⟨e0, e1, e2, e3, e4⟩ := (hk2.blk 0 rfl).get5
          have HI := Lib.hid (rdecimal_any t ht (w1.alloc (.cells (fcs f WA wc).toArray 44)))
          rw [hd] at HI
          clear hk hk1 hb1 HC hW hF hS hS1 he hf hB hfb
          go_wp2_with fail
          refine HI.out.mono ?_
          rintro e w2 ⟨rfl, hb2⟩
          have hk2 := hk2.next hb2
          obtain ⟨e0, e1, e2, e3, e4⟩ := (hk2.blk 0 rfl).get5
          go_wp2_with fail
          go_ret2
          rw [HV2.out]
          exact ⟨rfl, hk2.below0⟩
        · have HV2 : Hid (fvalV f t = (decN t, 0)) := Lib.hid (by rw [HV3.out, if_neg (by rintro (h | h) <;> contradiction)])
          go_enter Tryz.func21, Tryz.ntmps21
          go_wp2_with fail
          refine HC.out.mono ?_
          rintro e w1 ⟨rfl, hb1⟩
          have hk1 := hk.next hb1
          obtain ⟨ad, WA, wc, rfl, hF⟩ := (hS.up hk1.below0).at_ i f hf
          have hW := hF.strs
          have d0 := hF.name
          have d1 := hF.kind
          have d2 := hF.min
          have d3 := hF.max
          have d4 := hF.words
          have c1 := (hk1.blk 0 rfl).cell 1
          simp only [List.getElem?_cons_zero, List.getElem?_cons_succ] at c1
          have hk2 := hk1.new 44 (fcs f WA wc)
          have hW2 := hW.up ((Below.refl _ _).alloc (Nat.le_refl _) (.cells (fcs f WA wc).toArray 44))
          obtain ⟨e0, e1, e2, e3, e4⟩ := (hk2.blk 0 rfl).get5
          have HI := Lib.hid (rdecimal_any t ht (w1.alloc (.cells (fcs f WA wc).toArray 44)))
          rw [hd] at HI
          clear hk hk1 hb1 HC hW hF hS hS1 he hf hB hfb
          go_wp2_with fail
          refine HI.out.mono ?_
          rintro e w2 ⟨rfl, hb2⟩
          have hk2 := hk2.next hb2
          obtain ⟨e0, e1, e2, e3, e4⟩ := (hk2.blk 0 rfl).get5
          go_wp2_with fail
          go_ret2
          rw [HV2.out]
          exact ⟨rfl, hk2.below0⟩
theorem rvalue_any (nm : ByteArray) (A : Option Addr) (c : Nat) (L : List Fd) (hB : SBd nm L) (i : Int) (t : ByteArray) (ht : t.size ≤ 1000000) (w : World) (hS : Flds w A L) :
    Calls Tryz.prog 21 #[schV nm A L.length c, .int .i64 i, .string t] w fun e w' => e = .returned (.tuple #[.int .i64 (valV nm L i t).1, .int .i64 (valV nm L i t).2]) ∧ Below w.heap.size w w' := by
  by_cases he : schemaE nm L = 0
  · by_cases hi : 0 ≤ i ∧ i < (L.length : Int)
    · obtain ⟨k, rfl⟩ : ∃ k : Nat, i = (k : Int) := ⟨i.toNat, by omega⟩
      have hk : k < L.length := by omega
      have hf : L[k]? = some L[k] := List.getElem?_eq_getElem hk
      have hv : valV nm L (k : Int) t = fvalV L[k] t := by
        unfold valV
        rw [if_neg (by simpa using he), if_pos hi]
        simp only [Int.toNat_natCast, hf]
      rw [hv]
      exact rvalue_ok nm A c L hB k L[k] he hf t ht w hS
    · have hv : valV nm L i t = (0, 2) := by
        unfold valV
        rw [if_neg (by simpa using he), if_neg hi]
      rw [hv]
      exact rvalue_out nm A c L hB i t ht he hi w hS
  · have hv : valV nm L i t = (0, schemaE nm L) := by
      unfold valV
      rw [if_pos he]
    rw [hv]
    exact rvalue_err nm A c L hB i t ht he w hS
theorem name_any' (nm : ByteArray) (A : Option Addr) (c : Nat) (L : List Fd) (hB : SBd nm L) (i v : Int) (w : World) (hG : Glob w) (hS : Flds w A L) :
    Calls Tryz.prog 26 #[schV nm A L.length c, .int .i64 i, .int .i64 v] w fun e w' => e = .returned (.tuple #[.string (nameV nm L i v).1, .int .i64 (nameV nm L i v).2]) ∧ Below w.heap.size w w' := by
  by_cases he : schemaE nm L = 0
  · by_cases hi : 0 ≤ i ∧ i < (L.length : Int)
    · obtain ⟨k, rfl⟩ : ∃ k : Nat, i = (k : Int) := ⟨i.toNat, by omega⟩
      have hk : k < L.length := by omega
      have hf : L[k]? = some L[k] := List.getElem?_eq_getElem hk
      have hv : nameV nm L (k : Int) v = fnameV L[k] v := by
        unfold nameV
        rw [if_neg (by simpa using he), if_pos hi]
        simp only [Int.toNat_natCast, hf]
      rw [hv]
      exact name_ok nm A c L hB k L[k] he hf v w hG hS
    · have hv : nameV nm L i v = (ByteArray.empty, 2) := by
        unfold nameV
        rw [if_neg (by simpa using he), if_neg hi]
      rw [hv]
      exact name_err nm A c L 2 rfl i v (fun W hW => field_out nm A c L hB i he hi W hW) w hS
  · have hv : nameV nm L i v = (ByteArray.empty, schemaE nm L) := by
      unfold nameV
      rw [if_pos he]
    rw [hv]
    exact name_err nm A c L _ (by simpa using he) i v (fun W hW => field_err nm A c L hB i he W hW) w hS
theorem rname_any' (nm : ByteArray) (A : Option Addr) (c : Nat) (L : List Fd) (hB : SBd nm L) (i v : Int) (w : World) (hS : Flds w A L) :
    Calls Tryz.prog 29 #[schV nm A L.length c, .int .i64 i, .int .i64 v] w fun e w' => e = .returned (.tuple #[.string (nameV nm L i v).1, .int .i64 (nameV nm L i v).2]) ∧ Below w.heap.size w w' := by
  by_cases he : schemaE nm L = 0
  · by_cases hi : 0 ≤ i ∧ i < (L.length : Int)
    · obtain ⟨k, rfl⟩ : ∃ k : Nat, i = (k : Int) := ⟨i.toNat, by omega⟩
      have hk : k < L.length := by omega
      have hf : L[k]? = some L[k] := List.getElem?_eq_getElem hk
      have hv : nameV nm L (k : Int) v = fnameV L[k] v := by
        unfold nameV
        rw [if_neg (by simpa using he), if_pos hi]
        simp only [Int.toNat_natCast, hf]
      rw [hv]
      exact rname_ok nm A c L hB k L[k] he hf v w hS
    · have hv : nameV nm L i v = (ByteArray.empty, 2) := by
        unfold nameV
        rw [if_neg (by simpa using he), if_neg hi]
      rw [hv]
      exact rname_out nm A c L hB i v he hi w hS
  · have hv : nameV nm L i v = (ByteArray.empty, schemaE nm L) := by
      unfold nameV
      rw [if_pos he]
    rw [hv]
    exact rname_err nm A c L hB i v he w hS
end Go.Proofs.YtmdjhakamapngaaGreatDoor
