/-
  schema.Value in all; schema.Name.
-/
import Derived.Test.YtmdjhakamapngaaDoorScK
namespace Go.Proofs.YtmdjhakamapngaaDoor
open Go.RowKit Go.Shelf
set_option linter.unusedVariables false

theorem value_any (nm : ByteArray) (A : Option Addr) (c : Nat) (L : List Fd) (hB : SBd nm L) (i : Int) (t : ByteArray) (ht : t.size ≤ 1000000) (w : World) (hG : Glob w) (hS : Flds w A L) :
    Calls Tryd.prog 14 #[schV nm A L.length c, .int .i64 i, .string t] w fun e w' => e = .returned (.tuple #[.int .i64 (valV nm L i t).1, .int .i64 (valV nm L i t).2]) ∧ Below w.heap.size w w' := by
  by_cases he : schemaE nm L = 0
  · by_cases hi : 0 ≤ i ∧ i < (L.length : Int)
    · obtain ⟨k, rfl⟩ : ∃ k : Nat, i = (k : Int) := ⟨i.toNat, by omega⟩
      have hk : k < L.length := by omega
      have hf : L[k]? = some L[k] := List.getElem?_eq_getElem hk
      have hv : valV nm L (k : Int) t = fvalV L[k] t := by
        unfold valV
        rw [if_neg (by simpa using he), if_pos hi]
        simp only [Int.toNat_natCast, hf]
      rw [hv]
      exact value_ok nm A c L hB k L[k] he hf t ht w hG hS
    · have hv : valV nm L i t = (0, 2) := by
        unfold valV
        rw [if_neg (by simpa using he), if_neg hi]
      rw [hv]
      exact value_err nm A c L 2 rfl i t (fun W hW => field_out nm A c L hB i he hi W hW) w hS
  · have hv : valV nm L i t = (0, schemaE nm L) := by
      unfold valV
      rw [if_pos he]
    rw [hv]
    exact value_err nm A c L _ (by simpa using he) i t (fun W hW => field_err nm A c L hB i he W hW) w hS

theorem fieldsE_fld : ∀ {L : List Fd} {S : List ByteArray}, fieldsE S L = 0 → ∀ f ∈ L, fieldE f = 0
  | [], _, _, f, hf => absurd hf (List.not_mem_nil)
  | g :: r, S, h, f, hf => by
    rw [fieldsE] at h
    split at h
    · omega
    split at h
    · omega
    split at h
    · contradiction
    · rename_i h3
      rcases List.mem_cons.1 hf with rfl | hf
      · exact Classical.not_not.1 h3
      · exact fieldsE_fld h f hf
theorem schemaE_fld {nm : ByteArray} {L : List Fd} (h : schemaE nm L = 0) : ∀ f ∈ L, fieldE f = 0 := by
  unfold schemaE at h
  split at h
  · omega
  split at h
  · omega
  · exact fieldsE_fld h
theorem fieldE_num {f : Fd} (h : fieldE f = 0) (hk : f.kind ≠ 1) : f.kind = 0 ∧ f.words.length = 0 ∧ -2147483648 ≤ f.min ∧ f.max ≤ 2147483647 ∧ f.min ≤ f.max := by
  unfold fieldE at h
  split at h
  · unfold numE at h
    split at h
    · omega
    split at h
    · omega
    · refine ⟨by assumption, by omega, by omega, by omega, by omega⟩
  · first | omega | (rw [if_neg hk] at h; omega)

def fnameV (f : Fd) (v : Int) : ByteArray × Int :=
  if f.kind = 1 then (if 0 ≤ v ∧ v < (f.words.length : Int) then (match f.words[v.toNat]? with | some s => (s, 0) | none => (ByteArray.empty, 2)) else (ByteArray.empty, 2)) else if v < f.min ∨ f.max < v then (ByteArray.empty, 2) else (bs (Lib.itoa v), 0)
def nameV (nm : ByteArray) (L : List Fd) (i v : Int) : ByteArray × Int :=
  if schemaE nm L ≠ 0 then (ByteArray.empty, schemaE nm L) else if 0 ≤ i ∧ i < (L.length : Int) then (match L[i.toNat]? with | none => (ByteArray.empty, 2) | some f => fnameV f v) else (ByteArray.empty, 2)
set_option maxRecDepth 20000 in
set_option maxHeartbeats 4000000 in
theorem name_err (nm : ByteArray) (A : Option Addr) (c : Nat) (L : List Fd) (E : Int) (hE : (E == 0) = false) (i v : Int)
    (HC : ∀ W : World, Flds W A L → Calls Tryd.prog 35 #[schV nm A L.length c, .int .i64 i] W fun e w' => e = .returned (.tuple #[zFd, .int .i64 E]) ∧ Below W.heap.size W w') (w : World) (hS : Flds w A L) :
    Calls Tryd.prog 16 #[schV nm A L.length c, .int .i64 i, .int .i64 v] w fun e w' => e = .returned (.tuple #[.string ByteArray.empty, .int .i64 E]) ∧ Below w.heap.size w w' := by
  have hk := (Hp.start w).new 24 [.string nm, .slice A L.length c]
  have HC := Lib.hid (HC _ (hS.up hk.below0))
  obtain ⟨g1, hg1⟩ : ∃ g, w.heap.size = g := ⟨_, rfl⟩
  rw [hg1] at hk
  go_enter Tryd.func16, Tryd.ntmps16
  go_wp2_with fail
  refine HC.out.mono ?_
  rintro e w1 ⟨rfl, hb1⟩
  have hk1 := hk.next hb1
  clear hk hb1 HC
  go_wp2_with fail
  go_ret2
  exact ⟨rfl, (hk1.alloc _).below0⟩
set_option maxRecDepth 20000 in
set_option maxHeartbeats 8000000 in
theorem name_ok (nm : ByteArray) (A : Option Addr) (c : Nat) (L : List Fd) (hB : SBd nm L) (i : Nat) (f : Fd) (he : schemaE nm L = 0) (hf : L[i]? = some f) (v : Int) (w : World) (hG : Glob w) (hS : Flds w A L) :
    Calls Tryd.prog 16 #[schV nm A L.length c, .int .i64 (i : Int), .int .i64 v] w fun e w' => e = .returned (.tuple #[.string (fnameV f v).1, .int .i64 (fnameV f v).2]) ∧ Below w.heap.size w w' := by
  have hk := (Hp.start w).new 24 [.string nm, .slice A L.length c]
  have HC := Lib.hid (field_ok nm A c L hB i f he hf _ (hS.up hk.below0))
  have hfb := hB.fld f (List.mem_of_getElem? hf)
  have HV : Hid (fnameV f v = (if f.kind = 1 then (if 0 ≤ v ∧ v < (f.words.length : Int) then (match f.words[v.toNat]? with | some s => (s, 0) | none => (ByteArray.empty, 2)) else (ByteArray.empty, 2)) else if v < f.min ∨ f.max < v then (ByteArray.empty, 2) else (bs (Lib.itoa v), 0) : ByteArray × Int)) := Lib.hid rfl
  have HWL := Lib.hid hfb.words
  have HF := Lib.hid (schemaE_fld he f (List.mem_of_getElem? hf))
  clear hfb he hf hB hS
  obtain ⟨g1, hg1⟩ : ∃ g, w.heap.size = g := ⟨_, rfl⟩
  rw [hg1] at hk
  by_cases h1 : f.kind = 1
  · have hke : (f.kind == 1) = true := by simp [h1]
    by_cases h2 : v < 0
    · have HV2 : Hid (fnameV f v = (ByteArray.empty, 2)) := Lib.hid (by rw [HV.out, if_pos h1, if_neg (by omega)])
      clear HV h1
      go_enter Tryd.func16, Tryd.ntmps16
      go_wp2_with fail
      refine HC.out.mono ?_
      rintro e w1 ⟨⟨WA, wc, hW, rfl⟩, hb1⟩
      have hk2 := (hk.next hb1).new 49 (fcs f WA wc)
      have hW2 := (hW.up hb1).up ((Below.refl _ _).alloc (Nat.le_refl _) (.cells (fcs f WA wc).toArray 49))
      obtain ⟨d0, d1, d2, d3, d4⟩ := (hk2.blk 0 rfl).get5
      clear hk hb1 HC hW hW2
      go_wp2_with fail
      go_ret2
      rw [HV2.out]
      exact ⟨rfl, hk2.below0⟩
    · have hv0 : 0 ≤ v := by omega
      obtain ⟨k, rfl⟩ : ∃ k : Nat, v = (k : Int) := ⟨v.toNat, by omega⟩
      by_cases h3 : k < f.words.length
      · have hkk : (k : Int) < (f.words.length : Int) := by omega
        have hkn : ¬ (f.words.length : Int) ≤ (k : Int) := by omega
        obtain ⟨s, hs⟩ : ∃ s, f.words[k]? = some s := ⟨_, List.getElem?_eq_getElem h3⟩
        have HV2 : Hid (fnameV f (k : Int) = (s, 0)) := Lib.hid (by rw [HV.out, if_pos h1, if_pos ⟨hv0, hkk⟩]; simp only [Int.toNat_natCast, hs])
        clear HV h1
        go_enter Tryd.func16, Tryd.ntmps16
        go_wp2_with fail
        refine HC.out.mono ?_
        rintro e w1 ⟨⟨WA, wc, hW, rfl⟩, hb1⟩
        have hk2 := (hk.next hb1).new 49 (fcs f WA wc)
        have hW2 := (hW.up hb1).up ((Below.refl _ _).alloc (Nat.le_refl _) (.cells (fcs f WA wc).toArray 49))
        obtain ⟨d0, d1, d2, d3, d4⟩ := (hk2.blk 0 rfl).get5
        obtain ⟨ad, rfl, cw⟩ := hW2.at_ k s hs
        clear hk hb1 HC hW hW2
        go_wp2_with fail
        go_ret2
        rw [HV2.out]
        exact ⟨rfl, hk2.below0⟩
      · have hkk : (f.words.length : Int) ≤ (k : Int) := by omega
        have hkn : ¬ (k : Int) < (f.words.length : Int) := by omega
        have HV2 : Hid (fnameV f (k : Int) = (ByteArray.empty, 2)) := Lib.hid (by rw [HV.out, if_pos h1, if_neg (by omega)])
        clear HV h1
        go_enter Tryd.func16, Tryd.ntmps16
        go_wp2_with fail
        refine HC.out.mono ?_
        rintro e w1 ⟨⟨WA, wc, hW, rfl⟩, hb1⟩
        have hk2 := (hk.next hb1).new 49 (fcs f WA wc)
        have hW2 := (hW.up hb1).up ((Below.refl _ _).alloc (Nat.le_refl _) (.cells (fcs f WA wc).toArray 49))
        obtain ⟨d0, d1, d2, d3, d4⟩ := (hk2.blk 0 rfl).get5
        clear hk hb1 HC hW hW2
        go_wp2_with fail
        go_ret2
        rw [HV2.out]
        exact ⟨rfl, hk2.below0⟩
  · have hke : (f.kind == 1) = false := by simp [h1]
    obtain ⟨-, -, hm1, hm2, -⟩ := fieldE_num HF.out h1
    by_cases h3 : v < f.min
    · have HV2 : Hid (fnameV f v = (ByteArray.empty, 2)) := Lib.hid (by rw [HV.out, if_neg h1, if_pos (.inl h3)])
      clear HV h1
      go_enter Tryd.func16, Tryd.ntmps16
      go_wp2_with fail
      refine HC.out.mono ?_
      rintro e w1 ⟨⟨WA, wc, hW, rfl⟩, hb1⟩
      have hk2 := (hk.next hb1).new 49 (fcs f WA wc)
      have hW2 := (hW.up hb1).up ((Below.refl _ _).alloc (Nat.le_refl _) (.cells (fcs f WA wc).toArray 49))
      obtain ⟨d0, d1, d2, d3, d4⟩ := (hk2.blk 0 rfl).get5
      clear hk hb1 HC hW hW2
      go_wp2_with fail
      go_ret2
      rw [HV2.out]
      exact ⟨rfl, hk2.below0⟩
    · by_cases h4 : f.max < v
      · have HV2 : Hid (fnameV f v = (ByteArray.empty, 2)) := Lib.hid (by rw [HV.out, if_neg h1, if_pos (.inr h4)])
        clear HV h1
        go_enter Tryd.func16, Tryd.ntmps16
        go_wp2_with fail
        refine HC.out.mono ?_
        rintro e w1 ⟨⟨WA, wc, hW, rfl⟩, hb1⟩
        have hk2 := (hk.next hb1).new 49 (fcs f WA wc)
        have hW2 := (hW.up hb1).up ((Below.refl _ _).alloc (Nat.le_refl _) (.cells (fcs f WA wc).toArray 49))
        obtain ⟨d0, d1, d2, d3, d4⟩ := (hk2.blk 0 rfl).get5
        clear hk hb1 HC hW hW2
        go_wp2_with fail
        go_ret2
        rw [HV2.out]
        exact ⟨rfl, hk2.below0⟩
      · have HV2 : Hid (fnameV f v = (bs (Lib.itoa v), 0)) := Lib.hid (by rw [HV.out, if_neg h1, if_neg (by rintro (h | h) <;> contradiction)])
        clear HV h1
        go_enter Tryd.func16, Tryd.ntmps16
        go_wp2_with fail
        refine HC.out.mono ?_
        rintro e w1 ⟨⟨WA, wc, hW, rfl⟩, hb1⟩
        have hk2 := (hk.next hb1).new 49 (fcs f WA wc)
        have hW2 := (hW.up hb1).up ((Below.refl _ _).alloc (Nat.le_refl _) (.cells (fcs f WA wc).toArray 49))
        obtain ⟨d0, d1, d2, d3, d4⟩ := (hk2.blk 0 rfl).get5
        have HI := Lib.hid (itoa_any v (by omega) (by omega) _ (hG.up hk2.below0))
        clear hk hb1 HC hW hW2
        go_wp2_with fail
        refine HI.out.mono ?_
        rintro e w2 ⟨rfl, hb2⟩
        have hk2 := hk2.next hb2
        go_wp2_with fail
        go_ret2
        rw [HV2.out]
        exact ⟨rfl, hk2.below0⟩
end Go.Proofs.YtmdjhakamapngaaDoor
