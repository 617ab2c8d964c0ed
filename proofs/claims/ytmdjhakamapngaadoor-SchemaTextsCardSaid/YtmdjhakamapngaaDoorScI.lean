/-
  schema.field.
-/
import Derived.Test.YtmdjhakamapngaaDoorScH
namespace Go.Proofs.YtmdjhakamapngaaDoor
open Go.RowKit Go.Shelf
set_option linter.unusedVariables false

abbrev zF : List Value := [.string ByteArray.empty, .int .i64 0, .int .i64 0, .int .i64 0, .slice none 0 0]
abbrev zFd : Value := .agg #[.string ByteArray.empty, .int .i64 0, .int .i64 0, .int .i64 0, .slice none 0 0]
theorem below_setRow {B : Nat} {w W : World} (h : Below B w W) {g : Nat} (hg : B ≤ g) (cs : Array Value) : Below B w (W.setRow g cs) :=
  h.trans ⟨rfl, rfl, rfl, by simp [World.setRow], fun k hk => by simp only [World.setRow, Array.getElem?_modify]; rw [if_neg (by omega)]⟩
theorem row_cells {W : World} {g : Nat} {t : TypeId} {cs : List Value} (h : Blk W g t cs) (ds : List Value) : Blk (W.setRow g ds.toArray) g t ds := setRow_heap W g _ _ _ _ h
set_option maxRecDepth 20000 in
set_option maxHeartbeats 4000000 in
theorem field_err (nm : ByteArray) (A : Option Addr) (c : Nat) (L : List Fd) (hB : SBd nm L) (i : Int) (he : schemaE nm L ≠ 0) (w : World) (hS : Flds w A L) :
    Calls Tryd.prog 35 #[schV nm A L.length c, .int .i64 i] w fun e w' => e = .returned (.tuple #[zFd, .int .i64 (schemaE nm L)]) ∧ Below w.heap.size w w' := by
  have hk := (Hp.start w).new 24 [.string nm, .slice A L.length c]
  have hk9 := hk.new 49 zF
  have HC := Lib.hid (check_any nm A c L hB _ (hS.up hk9.below0))
  have hbl := hB.len
  clear hB hk
  obtain ⟨g1, hg1⟩ : ∃ g, w.heap.size = g := ⟨_, rfl⟩
  have hsz : (w.alloc (.cells #[.string nm, .slice A L.length c] 24)).heap.size = g1 + 1 := by subst hg1; first | exact Array.size_push _ | simp
  rw [hsz, hg1] at hk9
  have hE : (schemaE nm L == 0) = false := by simpa using he
  generalize schemaE nm L = E at *
  clear he
  go_enter Tryd.func35, Tryd.ntmps35
  go_upto_region 2 with fail
  try simp only [hsz, hg1]
  have hk := hk9
  clear hk9
  have c0 := (hk.blk 1 rfl).cell 0
  have c1 := (hk.blk 1 rfl).cell 1
  simp only [List.getElem?_cons_zero, List.getElem?_cons_succ] at c0 c1
  go_wp2_with fail
  refine HC.out.mono ?_
  rintro e w1 ⟨rfl, hb1⟩
  have hk1 := hk.next hb1
  clear HC hk hb1 c0 c1
  have c1 := (hk1.blk 1 rfl).cell 1
  simp only [List.getElem?_cons_zero, List.getElem?_cons_succ] at c1
  go_wp2_with (refine wpList_store_row rfl 49 (.tmp 4) (.tmp 11) rfl (g1 + 1) zF.toArray rfl rfl 49 zF.toArray (hk1.blk 0 rfl) (by kernel_rfl) (by kernel_rfl) (by kernel_rfl) ?_)
  obtain ⟨e0, e1, e2, e3, e4⟩ := (row_cells (hk1.blk 0 rfl) zF).get5
  refine bodyPost_ret (v := .tuple #[zFd, .int .i64 E]) (by simp [results, go_sem, e0, e1, e2, e3, e4]) rfl ⟨rfl, ?_⟩
  exact below_setRow hk1.below0 (by rw [hg1]; omega) _
set_option maxRecDepth 20000 in
set_option maxHeartbeats 4000000 in
theorem field_out (nm : ByteArray) (A : Option Addr) (c : Nat) (L : List Fd) (hB : SBd nm L) (i : Int) (he : schemaE nm L = 0) (hi : ¬ (0 ≤ i ∧ i < (L.length : Int))) (w : World) (hS : Flds w A L) :
    Calls Tryd.prog 35 #[schV nm A L.length c, .int .i64 i] w fun e w' => e = .returned (.tuple #[zFd, .int .i64 2]) ∧ Below w.heap.size w w' := by
  have hk := (Hp.start w).new 24 [.string nm, .slice A L.length c]
  have hk9 := hk.new 49 zF
  have HC := Lib.hid (check_any nm A c L hB _ (hS.up hk9.below0))
  have hbl := hB.len
  clear hB hk
  obtain ⟨g1, hg1⟩ : ∃ g, w.heap.size = g := ⟨_, rfl⟩
  have hsz : (w.alloc (.cells #[.string nm, .slice A L.length c] 24)).heap.size = g1 + 1 := by subst hg1; first | exact Array.size_push _ | simp
  rw [hsz, hg1] at hk9
  rw [he] at HC
  clear he
  by_cases h1 : i < 0
  · clear hi
    go_enter Tryd.func35, Tryd.ntmps35
    go_upto_region 2 with fail
    try simp only [hsz, hg1]
    have hk := hk9
    clear hk9
    have c0 := (hk.blk 1 rfl).cell 0
    have c1 := (hk.blk 1 rfl).cell 1
    simp only [List.getElem?_cons_zero, List.getElem?_cons_succ] at c0 c1
    go_wp2_with fail
    refine HC.out.mono ?_
    rintro e w1 ⟨rfl, hb1⟩
    have hk1 := hk.next hb1
    clear HC hk hb1 c0 c1
    have c1 := (hk1.blk 1 rfl).cell 1
    simp only [List.getElem?_cons_zero, List.getElem?_cons_succ] at c1
    go_wp2_with (refine wpList_store_row rfl 49 (.tmp 4) (.tmp 22) rfl (g1 + 1) zF.toArray rfl rfl 49 zF.toArray (hk1.blk 0 rfl) (by kernel_rfl) (by kernel_rfl) (by kernel_rfl) ?_)
    obtain ⟨e0, e1, e2, e3, e4⟩ := (row_cells (hk1.blk 0 rfl) zF).get5
    refine bodyPost_ret (v := .tuple #[zFd, .int .i64 2]) (by simp [results, go_sem, e0, e1, e2, e3, e4]) rfl ⟨rfl, ?_⟩
    exact below_setRow hk1.below0 (by rw [hg1]; omega) _
  · have h2 : (L.length : Int) ≤ i := by omega
    have h3 : ¬ i < (L.length : Int) := by omega
    clear hi
    go_enter Tryd.func35, Tryd.ntmps35
    go_upto_region 2 with fail
    try simp only [hsz, hg1]
    have hk := hk9
    clear hk9
    have c0 := (hk.blk 1 rfl).cell 0
    have c1 := (hk.blk 1 rfl).cell 1
    simp only [List.getElem?_cons_zero, List.getElem?_cons_succ] at c0 c1
    go_wp2_with fail
    refine HC.out.mono ?_
    rintro e w1 ⟨rfl, hb1⟩
    have hk1 := hk.next hb1
    clear HC hk hb1 c0 c1
    have c1 := (hk1.blk 1 rfl).cell 1
    simp only [List.getElem?_cons_zero, List.getElem?_cons_succ] at c1
    go_wp2_with (refine wpList_store_row rfl 49 (.tmp 4) (.tmp 22) rfl (g1 + 1) zF.toArray rfl rfl 49 zF.toArray (hk1.blk 0 rfl) (by kernel_rfl) (by kernel_rfl) (by kernel_rfl) ?_)
    obtain ⟨e0, e1, e2, e3, e4⟩ := (row_cells (hk1.blk 0 rfl) zF).get5
    refine bodyPost_ret (v := .tuple #[zFd, .int .i64 2]) (by simp [results, go_sem, e0, e1, e2, e3, e4]) rfl ⟨rfl, ?_⟩
    exact below_setRow hk1.below0 (by rw [hg1]; omega) _
set_option maxRecDepth 20000 in
set_option maxHeartbeats 4000000 in
theorem field_ok (nm : ByteArray) (A : Option Addr) (c : Nat) (L : List Fd) (hB : SBd nm L) (i : Nat) (f : Fd) (he : schemaE nm L = 0) (hf : L[i]? = some f) (w : World) (hS : Flds w A L) :
    Calls Tryd.prog 35 #[schV nm A L.length c, .int .i64 (i : Int)] w fun e w' => (∃ WA wc, Strs w WA f.words ∧ e = .returned (.tuple #[.agg (fcs f WA wc).toArray, .int .i64 0])) ∧ Below w.heap.size w w' := by
  have hk := (Hp.start w).new 24 [.string nm, .slice A L.length c]
  have hk9 := hk.new 49 zF
  have HC := Lib.hid (check_any nm A c L hB _ (hS.up hk9.below0))
  have hbl := hB.len
  clear hB hk
  obtain ⟨g1, hg1⟩ : ∃ g, w.heap.size = g := ⟨_, rfl⟩
  have hsz : (w.alloc (.cells #[.string nm, .slice A L.length c] 24)).heap.size = g1 + 1 := by subst hg1; first | exact Array.size_push _ | simp
  rw [hsz, hg1] at hk9
  rw [he] at HC
  clear he
  have hil : i < L.length := (List.getElem?_eq_some_iff.1 hf).1
  have hii : (i : Int) < (L.length : Int) := by omega
  have hin : ¬ (L.length : Int) ≤ (i : Int) := by omega
  have hi0 : ¬ (i : Int) < 0 := by omega
  have hi1 : (0 : Int) ≤ (i : Int) := by omega
  obtain ⟨ad, WA, wc, rfl, hF0⟩ := hS.at_ i f hf
  have hW := hF0.strs
  go_enter Tryd.func35, Tryd.ntmps35
  go_upto_region 2 with fail
  try simp only [hsz, hg1]
  have hk := hk9
  clear hk9
  have c0 := (hk.blk 1 rfl).cell 0
  have c1 := (hk.blk 1 rfl).cell 1
  simp only [List.getElem?_cons_zero, List.getElem?_cons_succ] at c0 c1
  go_wp2_with fail
  refine HC.out.mono ?_
  rintro e w1 ⟨rfl, hb1⟩
  have hk1 := hk.next hb1
  clear HC hk hb1 c0 c1
  have c1 := (hk1.blk 1 rfl).cell 1
  simp only [List.getElem?_cons_zero, List.getElem?_cons_succ] at c1
  have hF := hF0.up hk1.below0
  have d0 := hF.name
  have d1 := hF.kind
  have d2 := hF.min
  have d3 := hF.max
  have d4 := hF.words
  clear hF hF0 hf hS
  go_wp2_with (refine wpList_store_row rfl 49 (.tmp 4) (.tmp 27) rfl (g1 + 1) (fcs f WA wc).toArray rfl rfl 49 zF.toArray (hk1.blk 0 rfl) (by kernel_rfl) (by kernel_rfl) (by kernel_rfl) ?_)
  obtain ⟨e0, e1, e2, e3, e4⟩ := (row_cells (hk1.blk 0 rfl) (fcs f WA wc)).get5
  refine bodyPost_ret (v := .tuple #[.agg (fcs f WA wc).toArray, .int .i64 0]) (by simp [results, go_sem, e0, e1, e2, e3, e4]) rfl ⟨⟨WA, wc, hW, rfl⟩, ?_⟩
  exact below_setRow hk1.below0 (by rw [hg1]; omega) _
end Go.Proofs.YtmdjhakamapngaaDoor
