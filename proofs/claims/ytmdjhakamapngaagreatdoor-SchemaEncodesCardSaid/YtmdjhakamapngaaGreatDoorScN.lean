/-
  dominoref39.Value and Name.
-/
import Derived.Test.YtmdjhakamapngaaGreatDoorScL
namespace Go.Proofs.YtmdjhakamapngaaGreatDoor
open Go.RowKit Go.Shelf
set_option linter.unusedVariables false

set_option maxRecDepth 20000 in
set_option maxHeartbeats 4000000 in
theorem rvalue_err (nm : ByteArray) (A : Option Addr) (c : Nat) (L : List Fd) (hB : SBd nm L) (i : Int) (t : ByteArray) (ht : t.size ≤ 1000000) (he : schemaE nm L ≠ 0) (w : World) (hS : Flds w A L) :
    Calls Tryz.prog 21 #[schV nm A L.length c, .int .i64 i, .string t] w fun e w' => e = .returned (.tuple #[.int .i64 0, .int .i64 (schemaE nm L)]) ∧ Below w.heap.size w w' := by
  have hk := (Hp.start w).new 24 [.string nm, .slice A L.length c]
  have HC := Lib.hid (rcheck_any nm A c L hB _ (hS.up hk.below0))
  obtain ⟨g1, hg1⟩ : ∃ g, w.heap.size = g := ⟨_, rfl⟩
  rw [hg1] at hk
  have hE : (schemaE nm L == 0) = false := by simpa using he
  generalize schemaE nm L = E at *
  clear he
  go_enter Tryz.func21, Tryz.ntmps21
  go_wp2_with fail
  refine HC.out.mono ?_
  rintro e w1 ⟨rfl, hb1⟩
  have hk2 := hk.next hb1
  clear hk hb1 HC
  have c1 := (hk2.blk 0 rfl).cell 1
  simp only [List.getElem?_cons_zero, List.getElem?_cons_succ] at c1
  go_wp2_with fail
  go_ret2
  exact ⟨rfl, hk2.below0⟩
set_option maxRecDepth 20000 in
set_option maxHeartbeats 4000000 in
theorem rvalue_out (nm : ByteArray) (A : Option Addr) (c : Nat) (L : List Fd) (hB : SBd nm L) (i : Int) (t : ByteArray) (ht : t.size ≤ 1000000) (he : schemaE nm L = 0) (hi : ¬ (0 ≤ i ∧ i < (L.length : Int))) (w : World) (hS : Flds w A L) :
    Calls Tryz.prog 21 #[schV nm A L.length c, .int .i64 i, .string t] w fun e w' => e = .returned (.tuple #[.int .i64 0, .int .i64 2]) ∧ Below w.heap.size w w' := by
  have hk := (Hp.start w).new 24 [.string nm, .slice A L.length c]
  have HC := Lib.hid (rcheck_any nm A c L hB _ (hS.up hk.below0))
  obtain ⟨g1, hg1⟩ : ∃ g, w.heap.size = g := ⟨_, rfl⟩
  rw [hg1] at hk
  rw [he] at HC
  clear he
  by_cases h1 : i < 0
  · clear hi
    go_enter Tryz.func21, Tryz.ntmps21
    go_wp2_with fail
    refine HC.out.mono ?_
    rintro e w1 ⟨rfl, hb1⟩
    have hk2 := hk.next hb1
    clear hk hb1 HC
    have c1 := (hk2.blk 0 rfl).cell 1
    simp only [List.getElem?_cons_zero, List.getElem?_cons_succ] at c1
    go_wp2_with fail
    go_ret2
    exact ⟨rfl, hk2.below0⟩
  · have h2 : (L.length : Int) ≤ i := by omega
    have h3 : ¬ i < (L.length : Int) := by omega
    clear hi
    go_enter Tryz.func21, Tryz.ntmps21
    go_wp2_with fail
    refine HC.out.mono ?_
    rintro e w1 ⟨rfl, hb1⟩
    have hk2 := hk.next hb1
    clear hk hb1 HC
    have c1 := (hk2.blk 0 rfl).cell 1
    simp only [List.getElem?_cons_zero, List.getElem?_cons_succ] at c1
    go_wp2_with fail
    go_ret2
    exact ⟨rfl, hk2.below0⟩
set_option maxRecDepth 20000 in
set_option maxHeartbeats 4000000 in
theorem rname_err (nm : ByteArray) (A : Option Addr) (c : Nat) (L : List Fd) (hB : SBd nm L) (i : Int) (v : Int) (he : schemaE nm L ≠ 0) (w : World) (hS : Flds w A L) :
    Calls Tryz.prog 29 #[schV nm A L.length c, .int .i64 i, .int .i64 v] w fun e w' => e = .returned (.tuple #[.string ByteArray.empty, .int .i64 (schemaE nm L)]) ∧ Below w.heap.size w w' := by
  have hk := (Hp.start w).new 24 [.string nm, .slice A L.length c]
  have HC := Lib.hid (rcheck_any nm A c L hB _ (hS.up hk.below0))
  obtain ⟨g1, hg1⟩ : ∃ g, w.heap.size = g := ⟨_, rfl⟩
  rw [hg1] at hk
  have hE : (schemaE nm L == 0) = false := by simpa using he
  generalize schemaE nm L = E at *
  clear he
  go_enter Tryz.func29, Tryz.ntmps29
  go_wp2_with fail
  refine HC.out.mono ?_
  rintro e w1 ⟨rfl, hb1⟩
  have hk2 := hk.next hb1
  clear hk hb1 HC
  have c1 := (hk2.blk 0 rfl).cell 1
  simp only [List.getElem?_cons_zero, List.getElem?_cons_succ] at c1
  go_wp2_with fail
  go_ret2
  exact ⟨rfl, hk2.below0⟩
set_option maxRecDepth 20000 in
set_option maxHeartbeats 4000000 in
theorem rname_out (nm : ByteArray) (A : Option Addr) (c : Nat) (L : List Fd) (hB : SBd nm L) (i : Int) (v : Int) (he : schemaE nm L = 0) (hi : ¬ (0 ≤ i ∧ i < (L.length : Int))) (w : World) (hS : Flds w A L) :
    Calls Tryz.prog 29 #[schV nm A L.length c, .int .i64 i, .int .i64 v] w fun e w' => e = .returned (.tuple #[.string ByteArray.empty, .int .i64 2]) ∧ Below w.heap.size w w' := by
  have hk := (Hp.start w).new 24 [.string nm, .slice A L.length c]
  have HC := Lib.hid (rcheck_any nm A c L hB _ (hS.up hk.below0))
  obtain ⟨g1, hg1⟩ : ∃ g, w.heap.size = g := ⟨_, rfl⟩
  rw [hg1] at hk
  rw [he] at HC
  clear he
  by_cases h1 : i < 0
  · clear hi
    go_enter Tryz.func29, Tryz.ntmps29
    go_wp2_with fail
    refine HC.out.mono ?_
    rintro e w1 ⟨rfl, hb1⟩
    have hk2 := hk.next hb1
    clear hk hb1 HC
    have c1 := (hk2.blk 0 rfl).cell 1
    simp only [List.getElem?_cons_zero, List.getElem?_cons_succ] at c1
    go_wp2_with fail
    go_ret2
    exact ⟨rfl, hk2.below0⟩
  · have h2 : (L.length : Int) ≤ i := by omega
    have h3 : ¬ i < (L.length : Int) := by omega
    clear hi
    go_enter Tryz.func29, Tryz.ntmps29
    go_wp2_with fail
    refine HC.out.mono ?_
    rintro e w1 ⟨rfl, hb1⟩
    have hk2 := hk.next hb1
    clear hk hb1 HC
    have c1 := (hk2.blk 0 rfl).cell 1
    simp only [List.getElem?_cons_zero, List.getElem?_cons_succ] at c1
    go_wp2_with fail
    go_ret2
    exact ⟨rfl, hk2.below0⟩
end Go.Proofs.YtmdjhakamapngaaGreatDoor
