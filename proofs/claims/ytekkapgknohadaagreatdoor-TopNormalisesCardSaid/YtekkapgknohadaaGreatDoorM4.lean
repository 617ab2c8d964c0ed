/- The printer's writer: a strings.Builder that lies in a larger variable. Its methods. -/
import Derived.Shelf.Strings.BuilderK
import Derived.Test.YtekkapgknohadaaGreatDoorM2
import Derived.Deep.LoopGhost
import Derived.Deep.DeepCutAuto
import Derived.Deep.RegionHeld3
import Derived.Lib.ItoaMem
import Derived.Lib.ItoaLen
import Derived.Test.YtekkapgknohadaaGreatDoorM1
set_option linter.unusedVariables false
set_option maxRecDepth 100000
set_option maxHeartbeats 4000000
namespace Go.Proofs.YtekkapgknohadaaGreatDoor
open Go.Shelf Go.RowKit
open Lib (hid)
set_option linter.unusedSimpArgs false
def WrAt (B b : Nat) (p : Value) (Q : List Value) (l : List UInt8) (w : World) : Prop :=
 B ≤ b ∧ Q.length = 8 ∧ ∃ v, w.heap[b]? = some (.cells (p :: v :: Q).toArray 102 (0, 0)) ∧ w.ownsRowF B 5 1 v (Lib.byteCells l).length (Lib.byteCells l) ∧ v.ownBlock ≠ some b
def IsW (B b : Nat) (Q : List Value) (l : List UInt8) (w : World) : Prop :=
 WrAt B b (.pointer none) Q l w ∨ WrAt B b (.pointer (some ⟨b, 0, none⟩)) Q l w
abbrev OthW (b : Nat) (w w' : World) : Prop := Lib.OthersKept 5 (some b) w w'
theorem WrAt.used {B b : Nat} {p : Value} {Q : List Value} {l : List UInt8} {w : World} (h : WrAt B b p Q l w) (q : Value) : WrAt B b q Q l (w.setCell ⟨b, 0, none⟩ q) := by
 obtain ⟨hB, hQ, v, hb, hown, hne⟩ := h
 refine ⟨hB, hQ, v, ?_, ?_, hne⟩
 ·simp [World.setCell, Array.getElem?_modify, hb]
 ·refine hown.kept (row := some b) ⟨rfl, rfl, rfl, by simp [World.setCell], fun k _ hk => Below.heap_setCell _ _ _ _ (fun e => hk (by simp [e]))⟩ ?_
  exact Or.inr hne
theorem WrAt.put {B b : Nat} {p v v' : Value} {Q : List Value} {l' : List UInt8} {w : World} (hB : B ≤ b) (hQ : Q.length = 8) (hb : w.heap[b]? = some (.cells (p :: v :: Q).toArray 102 (0, 0))) (hown : w.ownsRowF B 5 1 v' (Lib.byteCells l').length (Lib.byteCells l')) :
 WrAt B b p Q l' (w.setCell ⟨b, 1, none⟩ v') := by
 have hne := Lib.ownBlock_neF hown hb (by decide)
 refine ⟨hB, hQ, v', ?_, ?_, hne⟩
 ·simp [World.setCell, Array.getElem?_modify, hb]
 ·exact hown.kept (row := some b) ⟨rfl, rfl, rfl, by simp [World.setCell], fun k _ hk => Below.heap_setCell _ _ _ _ (fun e => hk (by simp [e]))⟩ (Or.inr hne)
theorem WrAt.lt {B b : Nat} {p : Value} {Q : List Value} {l : List UInt8} {w : World} (h : WrAt B b p Q l w) : b < w.heap.size := by
 obtain ⟨_, _, v, hb, _⟩ := h
 rcases Nat.lt_or_ge b w.heap.size with h' | h'
 ·exact h'
 ·simp [Array.getElem?_eq_none h'] at hb
theorem WrAt.alloc {B b : Nat} {p : Value} {Q : List Value} {l : List UInt8} {w : World} (h : WrAt B b p Q l w) (o : Obj) : WrAt B b p Q l (w.alloc o) := by
 have hlt := h.lt
 obtain ⟨hB, hQ, v, hb, hown, hne⟩ := h
 exact ⟨hB, hQ, v, (Lib.alloc_old w o b hlt).trans hb, hown.kept (World.grownBy_alloc w o none) (by cases hv : v.ownBlock <;> simp), hne⟩
theorem IsW.alloc {B b : Nat} {Q : List Value} {l : List UInt8} {w : World} (h : IsW B b Q l w) (o : Obj) : IsW B b Q l (w.alloc o) :=
 h.elim (fun x => .inl (x.alloc o)) (fun x => .inr (x.alloc o))
theorem IsW.drew {B b : Nat} {Q : List Value} {l : List UInt8} {w : World} (h : IsW B b Q l w) : IsW B b Q l w.drew := h
theorem IsW.lt {B b : Nat} {Q : List Value} {l : List UInt8} {w : World} (h : IsW B b Q l w) : b < w.heap.size := h.elim (fun x => x.lt) (fun x => x.lt)
theorem wr_size : ∃ j, Tryz.prog.info? 100 = some j ∧ j.size = 2 := by
 have h : (Tryz.prog.info? 100).map (·.size) = some 2 := by kernel_rfl
 obtain ⟨j, hj, hs⟩ := Option.map_eq_some_iff.1 h
 exact ⟨j, hj, hs⟩
theorem wr_lies : liesAt Tryz.prog Tryz.prog.depth 102 (10 / Tryz.prog.cellsOf 102) 0 100 1 = true := by kernel_rfl
theorem wrCheck_used (b : Nat) (w : World) (h0 : w.cell? ⟨b, 0, none⟩ = some (.pointer (some ⟨b, 0, none⟩))) :
 Calls Tryz.prog 98 #[.pointer (some ⟨b, 0, none⟩)] w fun e w' => e = .returned (.tuple #[]) ∧ w' = w := by
 obtain ⟨j, hj, hjs⟩ := wr_size
 go_enter Tryz.func98, Tryz.ntmps98
 go_wp2
 rw [Lib.run_neq_ptr_same w _ Tryz.underlying97 hj]
 go_wp2
 go_end0
 exact ⟨rfl, rfl⟩
theorem wrCheck_fresh (b : Nat) (w : World) (h0 : w.cell? ⟨b, 0, none⟩ = some (.pointer none)) (hsh : w.shape? b = some (102, 10)) (hfz : w.frozen? ⟨b, 0, none⟩ = false) :
 Calls Tryz.prog 98 #[.pointer (some ⟨b, 0, none⟩)] w fun e w' => e = .returned (.tuple #[]) ∧ w' = w.setCell ⟨b, 0, none⟩ (.pointer (some ⟨b, 0, none⟩)) := by
 obtain ⟨j, hj, hjs⟩ := wr_size
 go_enter Tryz.func98, Tryz.ntmps98
 go_wp2
 rw [Lib.run_to_unsafe w ⟨b, 0, none⟩ Tryz.underlying97 Tryz.underlying239 hj (by rw [hjs]; decide) hsh (Nat.zero_lt_succ 9)]
 simp only [Result.andThen]
 rw [Oper.upon_value]
 go_wp2
 rw [run_callFunc_extern Tryz.func164 (by kernel_rfl) (by kernel_rfl) (by kernel_rfl) (e := Extern.AbiNoEscape.same) (by kernel_rfl)]
 rw [Lib.run_noEscape]
 simp only [Result.andThen]
 rw [Oper.upon_value]
 go_wp2
 rw [Lib.run_from_unsafe w ⟨b, 0, none⟩ Tryz.underlying239 Tryz.underlying97 hj hsh wr_lies]
 simp only [Result.andThen]
 rw [Oper.upon_value]
 go_wp2
 go_end0
 exact ⟨rfl, rfl⟩
theorem WrAt.cell {B b : Nat} {p : Value} {Q : List Value} {l : List UInt8} {w : World} (h : WrAt B b p Q l w) : w.cell? ⟨b, 0, none⟩ = some p ∧ w.shape? b = some (102, 10) ∧ w.frozen? ⟨b, 0, none⟩ = false := by
 obtain ⟨_, hQ, v, hb, _⟩ := h
 refine ⟨by simp [World.cell?, hb], by simp [World.shape?, hb, hQ], by simp [World.frozen?, hb]⟩
theorem wrCheck (B b : Nat) (Q : List Value) (l : List UInt8) (w : World) (h : IsW B b Q l w) :
 Calls Tryz.prog 98 #[.pointer (some ⟨b, 0, none⟩)] w fun e w' => e = .returned (.tuple #[]) ∧ WrAt B b (.pointer (some ⟨b, 0, none⟩)) Q l w' ∧ Below B w w' ∧ OthW b w w' := by
 rcases h with h | h
 ·obtain ⟨h0, h1, h2⟩ := h.cell
  refine (wrCheck_fresh b w h0 h1 h2).mono ?_
  rintro e w' ⟨rfl, rfl⟩
  exact ⟨rfl, h.used _, (Below.refl B w).setCell (p := ⟨b, 0, none⟩) h.1 _, (Lib.OthersKept.refl _ _ w).setCell ⟨b, 0, none⟩ rfl _⟩
 ·refine (wrCheck_used b w h.cell.1).mono ?_
  rintro e w' ⟨rfl, rfl⟩
  exact ⟨rfl, h, Below.refl B _, Lib.OthersKept.refl _ _ _⟩
theorem wr_byte : ∃ i0, Tryz.prog.info? 5 = some i0 ∧ i0.zero = some (.int .u8 0) ∧ i0.size = 1 ∧ i0.bytes = 1 := by
 have h : (Tryz.prog.info? 5).map (fun i => (i.zero, i.size, i.bytes)) = some (some (.int .u8 0), 1, 1) := by kernel_rfl
 obtain ⟨i, hi, hs⟩ := Option.map_eq_some_iff.1 h
 simp only [Prod.mk.injEq] at hs
 exact ⟨i, hi, hs.1, hs.2.1, hs.2.2⟩
theorem wr_bytes_app (l m : List UInt8) : Lib.byteCells l ++ Lib.byteCells m = Lib.byteCells (l ++ m) := by simp [Lib.byteCells]
theorem wrString (B b : Nat) (Q : List Value) (l : List UInt8) (s : ByteArray) (w : World) (h : IsW B b Q l w) (hlen : l.length + s.size ≤ 140737488355328) (hBw : B ≤ w.heap.size) :
 Calls Tryz.prog 32 #[.pointer (some ⟨b, 0, none⟩), .string s] w fun e w' => e = .returned (.tuple #[.int .i64 s.size, .nilIface]) ∧ IsW B b Q (l ++ s.data.toList) w' ∧ Below B w w' ∧ OthW b w w' := by
 obtain ⟨i0, hi, hz0, hz1, hz2⟩ := wr_byte
 go_enter Tryz.func32, Tryz.ntmps32
 go_wp2_with fail
 refine (wrCheck B b Q l _ h).mono ?_
 rintro e w1 ⟨rfl, h1, hb1, hk1⟩
 obtain ⟨hB, hQ, v, hbk, hown, hne⟩ := h1
 have c0 : w1.cell? ⟨b, 0, none⟩ = some (.pointer (some ⟨b, 0, none⟩)) := by rw [Lib.cell_of_heap hbk]; simp
 have c1 : w1.cell? ⟨b, 1, none⟩ = some v := by rw [Lib.cell_of_heap hbk]; simp
 go_wp2_with (at_builtin; refine Lib.wpList_append_own_stringF _ rfl _ _ 98 9 rfl B 5 i0 Tryz.underlying98 Tryz.underlying9 hi hz0 hz1 hz2 _ _ _ rfl hown s rfl ?c3 ?c4 ?c5 ?_)
 case c3 => rw [Lib.byteCells_length]; unfold maxLen; omega
 case c4 => rw [Lib.byteCells_length]; omega
 case c5 => have := hb1.size; omega
 intro v' w2 hown' hgrow _
 have hlt : b < w1.heap.size := by
  rcases Nat.lt_or_ge b w1.heap.size with h' | h'
  ·exact h'
  ·simp [Array.getElem?_eq_none h'] at hbk
 have hb2 : w2.heap[b]? = some (.cells (.pointer (some ⟨b, 0, none⟩) :: v :: Q).toArray 102 (0, 0)) := by
  rw [hgrow.block b hlt (fun e => hne e.symm)]
  exact hbk
 have d0 : w2.cell? ⟨b, 0, none⟩ = some (.pointer (some ⟨b, 0, none⟩)) := by rw [Lib.cell_of_heap hb2]; simp
 have d1 : w2.cell? ⟨b, 1, none⟩ = some v := by rw [Lib.cell_of_heap hb2]; simp
 have f1 : w2.frozen? ⟨b, 1, none⟩ = false := Lib.frozen_of_heap hb2 1
 obtain ⟨ao, n', cap, rfl⟩ : ∃ ao n' cap, v' = .slice ao n' cap := by
  rcases hown'.2 with ⟨hv, _⟩ | ⟨g, cap, cur, fz, hv, _⟩
  ·exact ⟨_, _, _, hv⟩
  ·exact ⟨_, _, _, hv⟩
 go_wp2
 go_ret2
 have hss : Lib.strCells s = Lib.byteCells s.data.toList := by simp [Lib.strCells, Lib.byteCells]
 refine ⟨rfl, .inr ?_, ?_, (hk1.grown hgrow (Lib.ownsRowF_kind hown)).setCell ⟨b, 1, none⟩ rfl _⟩
 ·refine WrAt.put hB hQ hb2 ?_
  rw [hss, wr_bytes_app] at hown'
  have e : (Lib.byteCells l).length + s.size = (Lib.byteCells (l ++ s.data.toList)).length := by
   rw [Lib.byteCells_length, Lib.byteCells_length, List.length_append]; rfl
  rw [e] at hown'
  exact hown'
 ·exact (hb1.grown hgrow (by have := hb1.size; omega) (fun k hk => (hown.lt k hk).1)).setCell (p := ⟨b, 1, none⟩) hB _
theorem wrDone (B b : Nat) (Q : List Value) (l : List UInt8) (w : World) (h : IsW B b Q l w) (h0 : l ≠ []) :
 Calls Tryz.prog 45 #[.pointer (some ⟨b, 0, none⟩)] w fun e w' => e = .returned (.string ⟨l.toArray⟩) ∧ Below B w w' := by
 obtain ⟨p, hAt⟩ : ∃ p, WrAt B b p Q l w := by
  rcases h with h | h
  ·exact ⟨_, h⟩
  ·exact ⟨_, h⟩
 obtain ⟨hB, hQ, v, hbk, hown, hne⟩ := hAt
 have hl0 : l.length ≠ 0 := by simpa using h0
 rw [Lib.byteCells_length] at hown
 obtain ⟨g, cap, cur, fz, rfl, hbg, hg, hfz, hnc, hcm, hcs, htake⟩ : ∃ g cap cur fz, v = .slice (some ⟨g, 0, none⟩) l.length cap ∧ B ≤ g ∧ w.heap[g]? = some (.cells cur 5 fz) ∧ fz.2 ≤ l.length * 1 ∧ l.length ≤ cap ∧ cap ≤ maxLen ∧ cur.size = cap * 1 ∧ cur.toList.take (l.length * 1) = Lib.byteCells l := by
  rcases hown.2 with ⟨_, hz⟩ | ⟨g, cap, cur, fz, hv, r⟩
  ·exact absurd hz hl0
  ·exact ⟨g, cap, cur, fz, hv, r⟩
 have c1 : w.drew.cell? ⟨b, 1, none⟩ = some (.slice (some ⟨g, 0, none⟩) l.length cap) := by
  have : w.drew.heap[b]? = some (.cells (p :: .slice (some ⟨g, 0, none⟩) l.length cap :: Q).toArray 102 (0, 0)) := hbk
  rw [Lib.cell_of_heap this]; simp
 have hSD : (Builtin.unsafeSliceData_ #[98] 191 #[.slice (some ⟨g, 0, none⟩) l.length cap]).run Tryz.prog w.drew = .ok (.pointer (some ⟨g, 0, none⟩)) w.drew :=
  Lib.run_unsafeSliceData_row _ _ _ _ _ _ (by omega)
 have hUS : (Builtin.unsafeString_ #[191, 3] 9 #[.pointer (some ⟨g, 0, none⟩), .int .i64 l.length]).run Tryz.prog w.drew = .ok (.string ⟨l.toArray⟩) (w.drew.freeze ⟨g, 0, none⟩ l.length) := by
  refine Lib.run_unsafeString_row w.drew 191 3 9 5 Tryz.underlying191 (by kernel_rfl) g cur.size (by have hg' : w.drew.heap[g]? = some (.cells cur 5 fz) := hg; simp [World.shape?, hg']) l h0 (by omega) (by unfold maxLen at hcm; omega) ?_
  intro j x hx
  have := hown.cells (g := g) rfl j (.int .u8 x.toNat) (by simp [Lib.byteCells, hx])
  exact this
 have mixed : Tryz.prog.follows Departure.mixedOrders = true := by kernel_rfl
 go_enter Tryz.func45, Tryz.ntmps45
 go_wp2
 go_region_o
 all_goals (go_wp2; go_ret; exact ⟨rfl, Lib.below_freeze (Below.drew (Below.refl B w)) (p := ⟨g, 0, none⟩) hbg _⟩)
open Go.Shelf Go.RowKit
open Lib (hid)
set_option linter.unusedSimpArgs false
def Wr (B b : Nat) (Q : List Value) (l t : List UInt8) (W : World) (e : Ending) (w' : World) : Prop :=
 e = .returned (.tuple #[]) ∧ IsW B b Q (l ++ t) w' ∧ Below B W w' ∧ OthW b W w'
def KeepS (B b : Nat) (S : World → Prop) : Prop := ∀ W W', S W → Below B W W' → OthW b W W' → S W'
def zak (B b : Nat) (Q : List Value) (S : World → Prop) (f : FuncId) (args : Array Value) (t : List UInt8) : Prop :=
 ∀ (l : List UInt8) (W : World), S W → IsW B b Q l W → B ≤ W.heap.size → l.length + t.length ≤ 1000000 → Calls Tryz.prog f args W fun e w' => Wr B b Q l t W e w'
theorem Blk.othW {W W' : World} {b g : Nat} {t : TypeId} {cs : List Value} (h : Blk W g t cs) (ho : OthW b W W') (hg : g ≠ b) (ht : t ≠ 5) : Blk W' g t cs :=
 ho g _ h (fun e => hg (Option.some.inj e)) (fun c fz e => by injection e with _ e1; exact ht e1)
theorem zbs (B b : Nat) (Q : List Value) (l t : List UInt8) (W : World) (h : IsW B b Q l W) (hB : B ≤ W.heap.size) (hlen : l.length + t.length ≤ 1000000) (s : ByteArray) (hs : s = ⟨t.toArray⟩) :
 Calls Tryz.prog 32 #[.pointer (some ⟨b, 0, none⟩), .string s] W fun e w' => e = .returned (.tuple #[.int .i64 (t.length : Int), .nilIface]) ∧ IsW B b Q (l ++ t) w' ∧ Below B W w' ∧ OthW b W w' := by
 subst hs
 have e1 : (⟨t.toArray⟩ : ByteArray).size = t.length := by simp [ByteArray.size]
 refine (wrString B b Q l ⟨t.toArray⟩ W h (by rw [e1]; omega) hB).mono ?_
 rintro e w' ⟨rfl, h1, h2, h3⟩
 rw [e1]
 exact ⟨rfl, by simpa using h1, h2, h3⟩
def cms : List (List UInt8) → List UInt8
 | [] => []
 | [t] => t
 | t :: u :: r => t ++ ([44, 32] ++ cms (u :: r))
theorem zc8 (x : List UInt8) : ∀ l : List (List UInt8), cms (l ++ [x]) = if l = [] then x else cms l ++ ([44, 32] ++ x)
 | [] => rfl
 | [t] => rfl
 | t :: u :: r => by
  have ih := zc8 x (u :: r)
  rw [if_neg (by simp)] at ih
  rw [if_neg (by simp)]
  show t ++ ([44, 32] ++ cms ((u :: r) ++ [x])) = t ++ ([44, 32] ++ cms (u :: r)) ++ ([44, 32] ++ x)
  rw [ih]
  simp only [List.append_assoc]
theorem commas_mono (t : Nat → List UInt8) : ∀ {m n : Nat}, m ≤ n → (cms ((List.range m).map t)).length ≤ (cms ((List.range n).map t)).length := by
 intro m n h
 induction n with
 | zero =>
  obtain rfl : m = 0 := by omega
  exact Nat.le_refl _
 | succ n ih =>
  by_cases h1 : m = n + 1
  ·rw [h1]; exact Nat.le_refl _
  ·have := ih (by omega)
   rw [List.range_succ, List.map_append, List.map_singleton, zc8]
   split
   ·rename_i h2
    rw [h2] at this
    have e : (cms []).length = 0 := rfl
    omega
   ·simp only [List.length_append]; omega
theorem wlist_any (B b : Nat) (Q : List Value) (S : World → Prop) (hK : KeepS B b S) (n : Nat) (hn : n ≤ 1000000) (f : FuncId) (he : ∀ args w, (callFunc f args).run Tryz.prog w = .ok (.enter f args) w) (c0 c1 : Value) (t : Nat → List UInt8)
 (hp : ∀ i, i < n → zak B b Q S f #[.int .i64 (i : Int), c0, c1] (t i)) :
 zak B b Q S 35 #[.pointer (some ⟨b, 0, none⟩), .int .i64 (n : Int), .func (.func f) #[] #[c0, c1]] (cms ((List.range n).map t)) := by
 intro l W hS hW hB hlen
 have HP := hid hp
 have HKK := hid hK
 clear hp hK
 go_enter Tryz.func35, Tryz.ntmps35
 go_wp2_with fail
 go_loopg [8] n (fun m s8 wx => ∃ j : Nat, j ≤ n ∧ m = n - j ∧ s8 = .int .i64 (j : Int) ∧ IsW B b Q (l ++ cms ((List.range j).map t)) wx ∧ Below B W wx ∧ OthW b W wx ∧ S wx)
 case atStart => exact ⟨0, Nat.zero_le _, rfl, rfl, by simpa [cms] using hW, Below.refl _ _, Lib.OthersKept.refl _ _ _, hS⟩
 case round =>
  obtain ⟨j, hj, rfl, rfl, hI, hb, ho, hSx⟩ := hrel
  clear hW hS
  by_cases hjl : j < n
  ·have hd1 : decide ((j : Int) < (n : Int)) = true := by rw [decide_eq_true_iff]; omega
   have hbs := hb.size
   have HL : Hid (l.length + (cms ((List.range (j + 1)).map t)).length ≤ 1000000) := by
    refine hid ?_
    have := commas_mono t (show j + 1 ≤ n by omega)
    omega
   have e1 : (List.range (j + 1)).map t = (List.range j).map t ++ [t j] := by rw [List.range_succ, List.map_append, List.map_singleton]
   by_cases hj0 : j = 0
   ·have hd2 : decide (0 < j) = false := by rw [decide_eq_false_iff_not]; omega
    have hj1 : ¬ 0 < j := by omega
    have HJ : Hid (l ++ cms ((List.range (j + 1)).map t) = l ++ cms ((List.range j).map t) ++ t j) := by
     refine hid ?_
     rw [e1, zc8, if_pos (by simp [hj0]), hj0]
     simp [cms]
    have HC := hid (HP.out j hjl (l ++ cms ((List.range j).map t)) wr hSx hI (by omega) (by
     have := HL.out
     have h2 := congrArg List.length HJ.out
     simp only [List.length_append] at h2 ⊢
     omega))
    clear e1 hj0 hI HP
    go_wp2_with fail
    refine HC.out.mono ?_
    rintro e w2 ⟨rfl, h1, h2, h3⟩
    clear HC
    go_wp2_with fail
    go_roundg (n - (j + 1))
    case measure => omega
    case rel =>
     refine ⟨j + 1, hjl, rfl, by first | rfl | simp, ?_, hb.trans h2, ho.trans h3, HKK.out _ _ hSx h2 h3⟩
     rw [HJ.out]; exact h1
   ·have hd2 : decide (0 < j) = true := by rw [decide_eq_true_iff]; omega
    have hj1 : 0 < j := by omega
    have HJ : Hid (l ++ cms ((List.range (j + 1)).map t) = l ++ cms ((List.range j).map t) ++ [44, 32] ++ t j) := by
     refine hid ?_
     rw [e1, zc8, if_neg (by simp [hj0])]
     simp only [List.append_assoc]
    have HA := hid (zbs B b Q (l ++ cms ((List.range j).map t)) [44, 32] wr hI (by omega) (by
     have := HL.out
     have h2 := congrArg List.length HJ.out
     simp only [List.length_append] at h2 ⊢
     omega) ⟨#[44, 32]⟩ rfl)
    have HC := hid (fun W' => HP.out j hjl (l ++ cms ((List.range j).map t) ++ [44, 32]) W')
    have HL2 : Hid ((l ++ cms ((List.range j).map t) ++ [44, 32]).length + (t j).length ≤ 1000000) := by
     refine hid ?_
     have := HL.out
     have h2 := congrArg List.length HJ.out
     simp only [List.length_append] at h2 ⊢
     omega
    clear e1 hj0 hI HP
    go_wp2_with fail
    refine HA.out.mono ?_
    rintro e w1 ⟨rfl, g1, g2, g3⟩
    have HC2 := hid (HC.out w1 (HKK.out _ _ hSx g2 g3) g1 (by have := g2.size; omega) HL2.out)
    clear HA HC g1
    go_wp2_with fail
    refine HC2.out.mono ?_
    rintro e w2 ⟨rfl, h1, h2, h3⟩
    clear HC2
    go_wp2_with fail
    go_roundg (n - (j + 1))
    case measure => omega
    case rel =>
     refine ⟨j + 1, hjl, rfl, by first | rfl | simp, ?_, (hb.trans g2).trans h2, (ho.trans g3).trans h3, HKK.out _ _ (HKK.out _ _ hSx g2 g3) h2 h3⟩
     rw [HJ.out]; exact h1
  ·have hjj : j = n := by omega
   subst hjj
   have hd1 : decide ((j : Int) < (j : Int)) = false := by simp
   go_wp2_with fail
   go_end0
   exact ⟨rfl, hI, hb, ho⟩
open Go.Shelf Go.RowKit
open Lib (hid)
set_option linter.unusedSimpArgs false
def Wbox (b g : Nat) (W : World) : Prop := Blk W g 96 [.pointer (some ⟨b, 0, none⟩)]
theorem IsW.ne {B b : Nat} {Q : List Value} {l : List UInt8} {W : World} (h : IsW B b Q l W) {g : Nat} {t : TypeId} {cs : List Value} (hg : Blk W g t cs) (ht : t ≠ 102) : g ≠ b := by
 intro e
 subst e
 rcases h with ⟨_, _, v, hb, _⟩ | ⟨_, _, v, hb, _⟩
 all_goals
  rw [show W.heap[g]? = some (.cells cs.toArray t (0, 0)) from hg] at hb
  injection hb with h1
  injection h1 with _ h2
  exact ht h2
theorem wword_any (s : ByteArray) (gw : Nat) (W : World) : Calls Tryz.prog 102 #[.string s, .pointer (some ⟨gw, 0, none⟩)] W fun e w' =>
 e = .returned (.func (.func 103) #[] #[.pointer (some ⟨gw, 0, none⟩), .pointer (some ⟨W.heap.size, 0, none⟩)]) ∧ w' = W.alloc (.cells #[.string s] 9) := by
 go_enter Tryz.func102, Tryz.ntmps102
 go_wp2_with fail
 go_ret
 exact ⟨rfl, rfl⟩
theorem gate_any (s : ByteArray) (gw gn : Nat) (W : World) : Calls Tryz.prog 99 #[.string s, .pointer (some ⟨gw, 0, none⟩), .pointer (some ⟨gn, 0, none⟩)] W fun e w' =>
 e = .returned (.func (.func 100) #[] #[.pointer (some ⟨gw, 0, none⟩), .pointer (some ⟨W.heap.size, 0, none⟩), .pointer (some ⟨gn, 0, none⟩)]) ∧ w' = W.alloc (.cells #[.string s] 9) := by
 go_enter Tryz.func99, Tryz.ntmps99
 go_wp2_with fail
 go_ret
 exact ⟨rfl, rfl⟩
theorem word_run (B b : Nat) (Q : List Value) (gw gs : Nat) (t : List UInt8) (s : ByteArray) (hs : s = ⟨t.toArray⟩) :
 zak B b Q (fun W => Wbox b gw W ∧ Blk W gs 9 [.string s]) 103 #[.pointer (some ⟨gw, 0, none⟩), .pointer (some ⟨gs, 0, none⟩)] t := by
 rintro l W ⟨hw, hg⟩ hI hB hlen
 have c0 : W.cell? ⟨gw, 0, none⟩ = some (.pointer (some ⟨b, 0, none⟩)) := Blk.cell hw 0
 have c1 : W.cell? ⟨gs, 0, none⟩ = some (.string s) := Blk.cell hg 0
 have HA := hid (zbs B b Q l t W.drew hI hB hlen s hs)
 clear hs
 go_enter Tryz.func103, Tryz.ntmps103
 have k0 : W.drew.cell? ⟨gw, 0, none⟩ = some (.pointer (some ⟨b, 0, none⟩)) := c0
 have k1 : W.drew.cell? ⟨gs, 0, none⟩ = some (.string s) := c1
 have n0 : gw ≠ b := hI.ne hw (by decide)
 have n1 : gs ≠ b := hI.ne hg (by decide)
 go_upto_region 0 with fail
 first | go_region_held3 (fun w' => w'.cell? ⟨gw, 0, none⟩ = some (.pointer (some ⟨b, 0, none⟩)) ∧ w'.cell? ⟨gs, 0, none⟩ = some (.string s)) (first | exact ⟨k0, k1⟩ | exact ⟨(Blk.othW (W := W.drew) hw (by assumption) n0 (by decide)).cell 0, (Blk.othW (W := W.drew) hg (by assumption) n1 (by decide)).cell 0⟩)
  (first | (go_at_call 32; refine HA.out.mono ?_; rintro e w1 ⟨rfl, g1, g2, g3⟩)) | fail
 all_goals
  go_wp2_with fail
  go_end0
  exact ⟨rfl, g1, (Below.drew (Below.refl B W)).trans g2, g3⟩
def ShowsI (S : World → Prop) (ka : Option Addr) (ks : List Int) : Prop :=
 ∀ W, S W → ∀ i x, ks[i]? = some x → ∃ ad, ka = some ad ∧ W.cell? (ad.add i) = some (.int .i64 x)
theorem part_run (B b : Nat) (Q : List Value) (S : World → Prop) (hK : KeepS B b S) (gw gl : Nat) (ka : Option Addr) (c : Nat) (ks : List Int) (hs : ShowsI S ka ks) (hks : ks.length ≤ 1000000) (i : Nat) (x : Int) (hx : ks[i]? = some x) (t : List UInt8)
 (hn : zak B b Q S 40 #[.pointer (some ⟨b, 0, none⟩), .int .i64 x] t) :
 zak B b Q (fun W => S W ∧ Wbox b gw W ∧ Blk W gl 61 [.slice ka ks.length c]) 165 #[.int .i64 (i : Int), .pointer (some ⟨gw, 0, none⟩), .pointer (some ⟨gl, 0, none⟩)] t := by
 rintro l W ⟨hS, hw, hg⟩ hI hB hlen
 have hil : i < ks.length := (List.getElem?_eq_some_iff.1 hx).1
 have hSd : S W.drew := hK W W.drew hS (Below.drew (Below.refl B W)) (Lib.OthersKept.refl _ _ W).drew
 obtain ⟨ad, rfl, cx⟩ := hs W.drew hSd i x hx
 have k0 : W.drew.cell? ⟨gw, 0, none⟩ = some (.pointer (some ⟨b, 0, none⟩)) := Blk.cell hw 0
 have k1 : W.drew.cell? ⟨gl, 0, none⟩ = some (.slice (some ad) ks.length c) := Blk.cell hg 0
 have HA := hid (hn l W.drew hSd hI hB hlen)
 have n0 : gw ≠ b := hI.ne hw (by decide)
 have n1 : gl ≠ b := hI.ne hg (by decide)
 have hi0 : (0 : Int) ≤ (i : Int) := by omega
 have hi1 : (i : Int) < (ks.length : Int) := by omega
 have HS := hid hs
 have HKK := hid hK
 clear hn hs hK
 go_enter Tryz.func165, Tryz.ntmps165
 go_upto_region 0 with fail
 first | go_region_held3 (fun w' => w'.cell? ⟨gw, 0, none⟩ = some (.pointer (some ⟨b, 0, none⟩)) ∧ w'.cell? ⟨gl, 0, none⟩ = some (.slice (some ad) ks.length c) ∧ w'.cell? (ad.add i) = some (.int .i64 x))
  (first | exact ⟨k0, k1, cx⟩ | (refine ⟨(Blk.othW (W := W.drew) hw (by assumption) n0 (by decide)).cell 0, (Blk.othW (W := W.drew) hg (by assumption) n1 (by decide)).cell 0, ?_⟩; obtain ⟨ad', e', cx'⟩ := HS.out _ (HKK.out _ _ hSd (by assumption) (by assumption)) i x hx; injection e' with e'; subst e'; exact cx'))
  (first | (go_at_call 40; refine HA.out.mono ?_; rintro e w1 ⟨rfl, g1, g2, g3⟩)) | fail
 all_goals
  go_wp2_with fail
  go_end0
  exact ⟨rfl, g1, (Below.drew (Below.refl B W)).trans g2, g3⟩
theorem KeepS.box {B b : Nat} {S : World → Prop} (h : KeepS B b S) {g1 g2 : Nat} {t1 t2 : TypeId} {l1 l2 : List Value} (n1 : g1 ≠ b) (n2 : g2 ≠ b) (h1 : t1 ≠ 5) (h2 : t2 ≠ 5) : KeepS B b (fun W => S W ∧ Blk W g1 t1 l1 ∧ Blk W g2 t2 l2) :=
 fun W W' ⟨a1, a2, a3⟩ hb ho => ⟨h W W' a1 hb ho, a2.othW ho n1 h1, a3.othW ho n2 h2⟩
theorem range_map (tt : Int → List UInt8) (ks : List Int) : (List.range ks.length).map (fun i => tt (ks.getD i 0)) = ks.map tt := by
 apply List.ext_getElem?
 intro i
 rw [List.getElem?_map, List.getElem?_map]
 by_cases h : i < ks.length
 ·rw [List.getElem?_range h, List.getElem?_eq_getElem h]
  simp [List.getD_eq_getElem?_getD, List.getElem?_eq_getElem h]
 ·rw [List.getElem?_eq_none (by simpa using h), List.getElem?_eq_none (by omega)]; rfl
theorem nodes_run (B b : Nat) (Q : List Value) (S : World → Prop) (hK : KeepS B b S) (ka : Option Addr) (c : Nat) (ks : List Int) (hs : ShowsI S ka ks) (hks : ks.length ≤ 1000000) (tt : Int → List UInt8)
 (hn : ∀ x ∈ ks, zak B b Q S 40 #[.pointer (some ⟨b, 0, none⟩), .int .i64 x] (tt x)) :
 zak B b Q S 101 #[.pointer (some ⟨b, 0, none⟩), .slice ka ks.length c] (cms (ks.map tt)) := by
 intro l W hS hI hB hlen
 have hlt := hI.lt
 obtain ⟨W2, hW2⟩ : ∃ W2, W2 = ((W.alloc (.cells #[.pointer (some ⟨b, 0, none⟩)] 96)).alloc (.cells #[.slice ka ks.length c] 61)) := ⟨_, rfl⟩
 have hb2 : Below B W W2 := by
  rw [hW2]
  exact ((((Below.refl B W).alloc hB _)).alloc (by have := ((Below.refl B W).alloc hB (.cells #[.pointer (some ⟨b, 0, none⟩)] 96)).size; omega) _)
 have ho2 : OthW b W W2 := by
  rw [hW2]
  exact (((Lib.OthersKept.refl _ _ W).alloc _).alloc _)
 have hI2 : IsW B b Q l W2 := by rw [hW2]; exact (hI.alloc _).alloc _
 have hw2 : Blk W2 W.heap.size 96 [.pointer (some ⟨b, 0, none⟩)] := by
  rw [hW2]
  exact (Lib.alloc_old (W.alloc _) _ W.heap.size (by simp)).trans (Blk.new W 96 [.pointer (some ⟨b, 0, none⟩)])
 have hsz : (W.alloc (.cells #[.pointer (some ⟨b, 0, none⟩)] 96)).heap.size = W.heap.size + 1 := by simp
 have hg2 : Blk W2 (W.heap.size + 1) 61 [.slice ka ks.length c] := by
  rw [hW2, ← hsz]
  exact Blk.new (W.alloc (.cells #[.pointer (some ⟨b, 0, none⟩)] 96)) 61 [.slice ka ks.length c]
 have n0 : W.heap.size ≠ b := hI2.ne hw2 (by decide)
 have n1 := hI2.ne hg2 (by decide)
 have hS2 := hK W W2 hS hb2 ho2
 have HA := hid (wlist_any B b Q (fun W' => S W' ∧ Wbox b W.heap.size W' ∧ Blk W' (W.heap.size + 1) 61 [.slice ka ks.length c]) (hK.box n0 n1 (by decide) (by decide)) ks.length hks 165
  (enters_of Tryz.func165 (by kernel_rfl) rfl) (.pointer (some ⟨W.heap.size, 0, none⟩)) (.pointer (some ⟨W.heap.size + 1, 0, none⟩)) (fun i => tt (ks.getD i 0))
  (fun i hi => part_run B b Q S hK W.heap.size _ ka c ks hs hks i (ks.getD i 0) (by rw [List.getElem?_eq_getElem hi, List.getD_eq_getElem?_getD, List.getElem?_eq_getElem hi]; rfl) _ (hn _ (by rw [List.getD_eq_getElem?_getD, List.getElem?_eq_getElem hi]; exact List.getElem_mem hi)))
  l W2 ⟨hS2, hw2, hg2⟩ hI2 (by have := hb2.size; omega) (by rw [range_map]; exact hlen))
 rw [range_map] at HA
 have k0 : W2.cell? ⟨W.heap.size, 0, none⟩ = some (.pointer (some ⟨b, 0, none⟩)) := hw2.cell 0
 have k1 : W2.cell? ⟨W.heap.size + 1, 0, none⟩ = some (.slice ka ks.length c) := hg2.cell 0
 clear hs hn hS hS2 hI hK
 go_enter Tryz.func101, Tryz.ntmps101
 go_upto_region 1 with fail
 rw [← hW2]
 clear hW2 hsz
 go_wp2_with fail
 refine HA.out.mono ?_
 rintro e w1 ⟨rfl, g1, g2, g3⟩
 clear HA
 go_wp2_with fail
 go_end0
 exact ⟨rfl, g1, hb2.trans g2, ho2.trans g3⟩
open Go.Shelf Go.RowKit
open Lib (hid)
set_option linter.unusedSimpArgs false
theorem bs_snoc (t m : List UInt8) : (bs t) ++ (⟨m.toArray⟩ : ByteArray) = ⟨(t ++ m).toArray⟩ := by
 apply ByteArray.ext
 rw [ByteArray.data_append]
 simp [bs]
theorem OthW.trans3 {b : Nat} {W w1 w2 w3 : World} (h : OthW b W.drew w1) (k : OthW b w1 w2) (j : OthW b w2 w3) : OthW b W w3 := (Lib.OthersKept.trans h k).trans j
theorem gate_run (B b : Nat) (Q : List Value) (S : World → Prop) (hK : KeepS B b S) (gw gs gn : Nat) (nm : List UInt8) (hnm : nm.length ≤ 1000) (n0 n1 n2 n3 n5 : Value) (ka : Option Addr) (c : Nat) (ks : List Int) (hs : ShowsI S ka ks) (hks : ks.length ≤ 1000000) (tt : Int → List UInt8)
 (hn : ∀ x ∈ ks, zak B b Q S 40 #[.pointer (some ⟨b, 0, none⟩), .int .i64 x] (tt x)) :
 zak B b Q (fun W => S W ∧ Wbox b gw W ∧ Blk W gs 9 [.string (bs nm)] ∧ Blk W gn 68 [n0, n1, n2, n3, .slice ka ks.length c, n5]) 100 #[.pointer (some ⟨gw, 0, none⟩), .pointer (some ⟨gs, 0, none⟩), .pointer (some ⟨gn, 0, none⟩)] (nm ++ [40] ++ cms (ks.map tt) ++ [41]) := by
 rintro l W ⟨hS, hw, hg, hnode⟩ hI hB hlen
 simp only [List.length_append, List.length_cons, List.length_nil] at hlen
 have d0 : gw ≠ b := hI.ne hw (by decide)
 have d1 : gs ≠ b := hI.ne hg (by decide)
 have d2 : gn ≠ b := hI.ne hnode (by decide)
 have HS := hid hK
 have HN := hid (nodes_run B b Q S hK ka c ks hs hks tt hn)
 have HA := hid (zbs B b Q l (nm ++ [40]) W.drew hI hB (by simp only [List.length_append, List.length_cons, List.length_nil]; omega) _ (bs_snoc nm [40]))
 have k0 : W.drew.cell? ⟨gw, 0, none⟩ = some (.pointer (some ⟨b, 0, none⟩)) := Blk.cell hw 0
 have k1 : W.drew.cell? ⟨gs, 0, none⟩ = some (.string (bs nm)) := Blk.cell hg 0
 have hsz : (bs nm).size ≤ 1000 := by rw [zbc]; exact hnm
 have hsz2 : ¬ 9223372036854775807 < (bs nm).size + 1 := by omega
 clear hK hn hs
 go_enter Tryz.func100, Tryz.ntmps100
 go_upto_region 0 with fail
 first | go_region_held3 (fun w' => w'.cell? ⟨gw, 0, none⟩ = some (.pointer (some ⟨b, 0, none⟩)) ∧ w'.cell? ⟨gs, 0, none⟩ = some (.string (bs nm))) (first | exact ⟨k0, k1⟩ | exact ⟨(Blk.othW (W := W.drew) hw (by assumption) d0 (by decide)).cell 0, (Blk.othW (W := W.drew) hg (by assumption) d1 (by decide)).cell 0⟩)
  (first | (go_at_call 32; refine HA.out.mono ?_; rintro e w1 ⟨rfl, g1, g2, g3⟩)) | fail
 all_goals
  clear HA k0 k1
  have hw1 : Wbox b gw w1 := Blk.othW (W := W.drew) hw g3 d0 (by decide)
  have hn1 := Blk.othW (W := W.drew) hnode g3 d2 (by decide)
  have hS1 := HS.out W w1 hS ((Below.drew (Below.refl B W)).trans g2) g3
  have hB1 : B ≤ w1.heap.size := Nat.le_trans hB g2.size
  have HA := hid (HN.out (l ++ (nm ++ [40])) w1 hS1 g1 hB1 (by simp only [List.length_append, List.length_cons, List.length_nil]; omega))
  have k0 : w1.cell? ⟨gw, 0, none⟩ = some (.pointer (some ⟨b, 0, none⟩)) := Blk.cell hw1 0
  have k1 : w1.cell? ⟨gn, 4, none⟩ = some (.slice ka ks.length c) := Blk.cell hn1 4
  go_wp2_with fail
  refine HA.out.mono ?_
  rintro e w2 ⟨rfl, f1, f2, f3⟩
  clear HA HN k0 k1
  have hw2 : Wbox b gw w2 := Blk.othW hw1 f3 d0 (by decide)
  have k0 : w2.cell? ⟨gw, 0, none⟩ = some (.pointer (some ⟨b, 0, none⟩)) := Blk.cell hw2 0
  have HB := hid (zbs B b Q (l ++ (nm ++ [40]) ++ cms (ks.map tt)) [41] w2 f1 (Nat.le_trans hB1 f2.size) (by simp only [List.length_append, List.length_cons, List.length_nil]; omega) ⟨#[41]⟩ rfl)
  go_wp2_with fail
  refine HB.out.mono ?_
  rintro e w3 ⟨rfl, e1, e2, e3⟩
  clear HB k0
  go_wp2_with fail
  go_end0
  refine ⟨rfl, ?_, ((Below.drew (Below.refl B W)).trans g2).trans (f2.trans e2), OthW.trans3 g3 f3 e3⟩
  have e9 : l ++ (nm ++ [40] ++ cms (ks.map tt) ++ [41]) = l ++ (nm ++ [40]) ++ cms (ks.map tt) ++ [41] := by simp only [List.append_assoc]
  rw [e9]; exact e1
open Go.Shelf Go.RowKit
open Lib (hid)
set_option linter.unusedSimpArgs false
theorem OthW.trans2 {b : Nat} {w1 w2 w3 : World} (k : OthW b w1 w2) (j : OthW b w2 w3) : OthW b w1 w3 := Lib.OthersKept.trans k j
theorem not_run (B b : Nat) (Q : List Value) (S : World → Prop) (hK : KeepS B b S) (gw gn : Nat) (n0 n1 n2 n3 n5 : Value) (ka : Option Addr) (c : Nat) (ks : List Int) (hs : ShowsI S ka ks) (x : Int) (hx : ks[0]? = some x) (t : List UInt8)
 (hn : zak B b Q S 40 #[.pointer (some ⟨b, 0, none⟩), .int .i64 x] t) :
 zak B b Q (fun W => S W ∧ Wbox b gw W ∧ Blk W gn 68 [n0, n1, n2, n3, .slice ka ks.length c, n5]) 104 #[.pointer (some ⟨gw, 0, none⟩), .pointer (some ⟨gn, 0, none⟩)] ([110, 111, 116, 32] ++ t) := by
 rintro l W ⟨hS, hw, hnode⟩ hI hB hlen
 simp only [List.length_append, List.length_cons, List.length_nil] at hlen
 have hil : 0 < ks.length := (List.getElem?_eq_some_iff.1 hx).1
 have d0 : gw ≠ b := hI.ne hw (by decide)
 have d2 : gn ≠ b := hI.ne hnode (by decide)
 have HA := hid (zbs B b Q l [110, 111, 116, 32] W hI hB (by simp only [List.length_append, List.length_cons, List.length_nil]; omega) ⟨#[110, 111, 116, 32]⟩ rfl)
 have k0 : W.cell? ⟨gw, 0, none⟩ = some (.pointer (some ⟨b, 0, none⟩)) := Blk.cell hw 0
 have HS := hid hK
 have HC := hid hs
 have HN := hid hn
 have hi1 : (0 : Int) < (ks.length : Int) := by omega
 clear hK hn hs
 go_enter Tryz.func104, Tryz.ntmps104
 go_wp2_with fail
 refine HA.out.mono ?_
 rintro e w1 ⟨rfl, g1, g2, g3⟩
 clear HA k0
 have hS1 := HS.out W w1 hS g2 g3
 have hw1 : Wbox b gw w1 := Blk.othW hw g3 d0 (by decide)
 have hn1 := Blk.othW hnode g3 d2 (by decide)
 obtain ⟨ad, rfl, cx⟩ := HC.out w1 hS1 0 x hx
 have hS1d : S w1.drew := HS.out w1 w1.drew hS1 (Below.drew (Below.refl B w1)) (Lib.OthersKept.refl _ _ w1).drew
 have ea : ad.add 0 = ad := rfl
 have k0 : w1.drew.cell? ⟨gw, 0, none⟩ = some (.pointer (some ⟨b, 0, none⟩)) := Blk.cell hw1 0
 have k1 : w1.drew.cell? ⟨gn, 4, none⟩ = some (.slice (some ad) ks.length c) := Blk.cell hn1 4
 have k2 : w1.drew.cell? (ad.add 0) = some (.int .i64 x) := cx
 have k3 : w1.drew.cell? ad = some (.int .i64 x) := cx
 have HA := hid (HN.out (l ++ [110, 111, 116, 32]) w1.drew hS1d g1 (Nat.le_trans hB g2.size) (by simp only [List.length_append, List.length_cons, List.length_nil]; omega))
 clear ea cx
 go_upto_region 1 with fail
 first | go_region_held3 (fun w' => w'.cell? ⟨gw, 0, none⟩ = some (.pointer (some ⟨b, 0, none⟩)) ∧ w'.cell? ⟨gn, 4, none⟩ = some (.slice (some ad) ks.length c) ∧ w'.cell? (ad.add 0) = some (.int .i64 x) ∧ w'.cell? ad = some (.int .i64 x)) (first | exact ⟨k0, k1, k2, k3⟩ | (refine ⟨(Blk.othW (W := w1.drew) hw1 (by assumption) d0 (by decide)).cell 0, (Blk.othW (W := w1.drew) hn1 (by assumption) d2 (by decide)).cell 4, ?_⟩; obtain ⟨ad', e', cx'⟩ := HC.out _ (HS.out _ _ hS1d (by assumption) (by assumption)) 0 x hx; injection e' with e'; subst e'; exact ⟨cx', cx'⟩))
  (first | (go_at_call 40; refine HA.out.mono ?_; rintro e w2 ⟨rfl, f1, f2, f3⟩)) | fail
 all_goals
  go_wp2_with fail
  go_end0
  refine ⟨rfl, ?_, g2.trans ((Below.drew (Below.refl B w1)).trans f2), OthW.trans2 g3 f3⟩
  have e9 : l ++ ([110, 111, 116, 32] ++ t) = l ++ [110, 111, 116, 32] ++ t := (List.append_assoc ..).symm
  exact e9 ▸ f1
theorem zce (B b : Nat) (Q : List Value) (S : World → Prop) (hK : KeepS B b S) (x y : Int) (sg t u : List UInt8) (hsg : sg.length ≤ 1000)
 (hx : zak B b Q S 40 #[.pointer (some ⟨b, 0, none⟩), .int .i64 x] t) (hy : zak B b Q S 40 #[.pointer (some ⟨b, 0, none⟩), .int .i64 y] u) :
 zak B b Q S 106 #[.pointer (some ⟨b, 0, none⟩), .int .i64 x, .string (bs sg), .int .i64 y] (t ++ ([32] ++ sg ++ [32]) ++ u) := by
 intro l W hS hI hB hlen
 simp only [List.length_append, List.length_cons, List.length_nil] at hlen
 have HS := hid hK
 have HA := hid (hx l W hS hI hB (by omega))
 have HY := hid hy
 have hsz : (bs sg).size ≤ 1000 := by rw [zbc]; exact hsg
 have hz1 : ¬ 9223372036854775807 < 1 + (bs sg).size := by omega
 have hz2 : ¬ 9223372036854775807 < 1 + (bs sg).size + 1 := by omega
 clear hK hx hy
 go_enter Tryz.func106, Tryz.ntmps106
 go_wp2_with fail
 refine HA.out.mono ?_
 rintro e w1 ⟨rfl, g1, g2, g3⟩
 clear HA
 have hB1 := Nat.le_trans hB g2.size
 have hS1 := HS.out _ _ hS g2 g3
 have hq : (⟨#[32]⟩ : ByteArray) ++ bs sg ++ ⟨#[32]⟩ = ⟨([32] ++ sg ++ [32]).toArray⟩ := by
  apply ByteArray.ext
  rw [ByteArray.data_append, ByteArray.data_append]
  simp [bs]
 have HB := hid (zbs B b Q (l ++ t) ([32] ++ sg ++ [32]) w1 g1 hB1 (by simp only [List.length_append, List.length_cons, List.length_nil]; omega) _ hq)
 clear hq
 go_wp2_with fail
 refine HB.out.mono ?_
 rintro e w2 ⟨rfl, f1, f2, f3⟩
 clear HB
 have HC := hid (HY.out _ w2 (HS.out _ _ hS1 f2 f3) f1 (Nat.le_trans hB1 f2.size) (by simp only [List.length_append, List.length_cons, List.length_nil]; omega))
 go_wp2_with fail
 refine HC.out.mono ?_
 rintro e w3 ⟨rfl, e1, e2, e3⟩
 clear HC
 go_wp2_with fail
 go_end0
 refine ⟨rfl, ?_, (g2.trans f2).trans e2, (OthW.trans2 g3 f3).trans2 e3⟩
 have e9 : l ++ (t ++ ([32] ++ sg ++ [32]) ++ u) = l ++ t ++ ([32] ++ sg ++ [32]) ++ u := by simp only [List.append_assoc]
 exact e9 ▸ e1
open Go.Shelf Go.RowKit
open Lib (hid)
set_option linter.unusedSimpArgs false
theorem between_run (B b : Nat) (Q : List Value) (S : World → Prop) (hK : KeepS B b S) (gw gn : Nat) (n0 n1 n2 n3 n5 : Value) (ka : Option Addr) (c : Nat) (x y z : Int) (hs : ShowsI S ka [x, y, z]) (t u v : List UInt8)
 (hx : zak B b Q S 40 #[.pointer (some ⟨b, 0, none⟩), .int .i64 x] t) (hy : zak B b Q S 40 #[.pointer (some ⟨b, 0, none⟩), .int .i64 y] u)
 (hz : zak B b Q S 40 #[.pointer (some ⟨b, 0, none⟩), .int .i64 z] v) :
 zak B b Q (fun W => S W ∧ Wbox b gw W ∧ Blk W gn 68 [n0, n1, n2, n3, .slice ka 3 c, n5]) 107 #[.pointer (some ⟨gw, 0, none⟩), .pointer (some ⟨gn, 0, none⟩)] (t ++ ([32] ++ [98, 101, 116, 119, 101, 101, 110] ++ [32]) ++ u ++ [32, 97, 110, 100, 32] ++ v) := by
 rintro l W ⟨hS, hw, hnode⟩ hI hB hlen
 simp only [List.length_append, List.length_cons, List.length_nil] at hlen
 have d0 : gw ≠ b := hI.ne hw (by decide)
 have d2 : gn ≠ b := hI.ne hnode (by decide)
 have HS := hid hK
 have HC := hid hs
 have hSd : S W.drew := hK W W.drew hS (Below.drew (Below.refl B W)) (Lib.OthersKept.refl _ _ W).drew
 obtain ⟨ad, rfl, cx⟩ := hs W.drew hSd 0 x rfl
 obtain ⟨ad', e', cy⟩ := hs W.drew hSd 1 y rfl
 injection e' with e'
 subst e'
 have HA := hid (zce B b Q S hK x y [98, 101, 116, 119, 101, 101, 110] t u (by decide) hx hy l W.drew hSd hI hB (by simp only [List.length_append, List.length_cons, List.length_nil]; omega))
 rw [show bs [98, 101, 116, 119, 101, 101, 110] = (⟨#[98, 101, 116, 119, 101, 101, 110]⟩ : ByteArray) from rfl] at HA
 have HZ := hid hz
 have k0 : W.drew.cell? ⟨gw, 0, none⟩ = some (.pointer (some ⟨b, 0, none⟩)) := Blk.cell hw 0
 have k1 : W.drew.cell? ⟨gn, 4, none⟩ = some (.slice (some ad) 3 c) := Blk.cell hnode 4
 have k3 : W.drew.cell? ad = some (.int .i64 x) := cx
 clear hK hx hy hz hs
 go_enter Tryz.func107, Tryz.ntmps107
 go_upto_region 0 with fail
 first | go_region_held3 (fun w' => w'.cell? ⟨gw, 0, none⟩ = some (.pointer (some ⟨b, 0, none⟩)) ∧ w'.cell? ⟨gn, 4, none⟩ = some (.slice (some ad) 3 c) ∧ w'.cell? (ad.add 0) = some (.int .i64 x) ∧ w'.cell? ad = some (.int .i64 x) ∧ w'.cell? ⟨ad.block, ad.off + 1, none⟩ = some (.int .i64 y)) (first | exact ⟨k0, k1, cx, k3, cy⟩ | (refine ⟨(Blk.othW (W := W.drew) hw (by assumption) d0 (by decide)).cell 0, (Blk.othW (W := W.drew) hnode (by assumption) d2 (by decide)).cell 4, ?_⟩; obtain ⟨ad1, e1, cx1⟩ := HC.out _ (HS.out _ _ hSd (by assumption) (by assumption)) 0 x rfl; obtain ⟨ad2, e2, cx2⟩ := HC.out _ (HS.out _ _ hSd (by assumption) (by assumption)) 1 y rfl; injection e1 with e1; injection e2 with e2; subst e1; subst e2; exact ⟨cx1, cx1, cx2⟩))
  (first | (go_at_call 106; refine HA.out.mono ?_; rintro e w1 ⟨rfl, g1, g2, g3⟩)) | fail
 all_goals
  clear HA k0 k1 k3 cx cy
  have hS1 := HS.out _ _ hSd g2 g3
  have hw1 : Wbox b gw w1 := Blk.othW (W := W.drew) hw g3 d0 (by decide)
  have hn1 := Blk.othW (W := W.drew) hnode g3 d2 (by decide)
  have hB1 : B ≤ w1.heap.size := Nat.le_trans hB g2.size
  have HB := hid (zbs B b Q _ [32, 97, 110, 100, 32] w1 g1 hB1 (by simp only [List.length_append, List.length_cons, List.length_nil]; omega) ⟨#[32, 97, 110, 100, 32]⟩ rfl)
  have k0 : w1.cell? ⟨gw, 0, none⟩ = some (.pointer (some ⟨b, 0, none⟩)) := Blk.cell hw1 0
  go_wp2_with fail
  refine HB.out.mono ?_
  rintro e w2 ⟨rfl, f1, f2, f3⟩
  clear HB k0
  have hS2 := HS.out _ _ hS1 f2 f3
  have hS2d : S w2.drew := HS.out w2 w2.drew hS2 (Below.drew (Below.refl B w2)) (Lib.OthersKept.refl _ _ w2).drew
  have hw2 : Wbox b gw w2 := Blk.othW hw1 f3 d0 (by decide)
  have hn2 := Blk.othW hn1 f3 d2 (by decide)
  obtain ⟨ad3, e3, cz⟩ := HC.out w2.drew hS2d 2 z rfl
  injection e3 with e3
  subst e3
  have HZ2 := hid (HZ.out _ w2.drew hS2d f1 (Nat.le_trans hB1 f2.size) (by simp only [List.length_append, List.length_cons, List.length_nil]; omega))
  have k0 : w2.drew.cell? ⟨gw, 0, none⟩ = some (.pointer (some ⟨b, 0, none⟩)) := Blk.cell hw2 0
  have k1 : w2.drew.cell? ⟨gn, 4, none⟩ = some (.slice (some ad) 3 c) := Blk.cell hn2 4
  go_upto_region 2 with fail
  first | go_region_held3 (fun w' => w'.cell? ⟨gw, 0, none⟩ = some (.pointer (some ⟨b, 0, none⟩)) ∧ w'.cell? ⟨gn, 4, none⟩ = some (.slice (some ad) 3 c) ∧ w'.cell? ⟨ad.block, ad.off + 2, none⟩ = some (.int .i64 z)) (first | exact ⟨k0, k1, cz⟩ | (refine ⟨(Blk.othW (W := w2.drew) hw2 (by assumption) d0 (by decide)).cell 0, (Blk.othW (W := w2.drew) hn2 (by assumption) d2 (by decide)).cell 4, ?_⟩; obtain ⟨ad1, e1, cx1⟩ := HC.out _ (HS.out _ _ hS2d (by assumption) (by assumption)) 2 z rfl; injection e1 with e1; subst e1; exact cx1))
   (first | (go_at_call 40; refine HZ2.out.mono ?_; rintro e w3 ⟨rfl, q1, q2, q3⟩)) | fail
 all_goals
  go_wp2_with fail
  go_end0
  refine ⟨rfl, ?_, (Below.drew (Below.refl B W)).trans (g2.trans (f2.trans ((Below.drew (Below.refl B w2)).trans q2))), OthW.trans3 g3 f3 q3⟩
  have e9 : l ++ (t ++ ([32] ++ [98, 101, 116, 119, 101, 101, 110] ++ [32]) ++ u ++ [32, 97, 110, 100, 32] ++ v) = l ++ (t ++ ([32] ++ [98, 101, 116, 119, 101, 101, 110] ++ [32]) ++ u) ++ [32, 97, 110, 100, 32] ++ v := by simp only [List.append_assoc]
  exact e9 ▸ q1
open Go.RowKit Go.Shelf Go.Sort
open Lib (hid)
def sgW (k : Int) : List UInt8 := ([[61], [33, 61], [60], [60, 61], [62], [62, 61]] : List (List UInt8)).getD k.toNat []
def nodeW (kind num : Int) (name attr : List UInt8) (l : List (List UInt8)) : List UInt8 :=
 if kind = 0 then [116, 114, 117, 101]
 else if kind = 1 then [102, 97, 108, 115, 101]
 else if kind = 2 then [110, 111, 116, 32] ++ l.getD 0 []
 else if kind = 3 then [97, 108, 108] ++ [40] ++ cms l ++ [41]
 else if kind = 4 then [97, 110, 121] ++ [40] ++ cms l ++ [41]
 else if kind = 5 then ([97, 116, 108, 101, 97, 115, 116, 32] ++ Lib.itoa num) ++ [40] ++ cms l ++ [41]
 else if kind = 6 then l.getD 0 [] ++ ([32] ++ sgW num ++ [32]) ++ l.getD 1 []
 else if kind = 7 then l.getD 0 [] ++ ([32] ++ [98, 101, 116, 119, 101, 101, 110] ++ [32]) ++ l.getD 1 [] ++ [32, 97, 110, 100, 32] ++ l.getD 2 []
 else if kind = 8 then l.getD 0 [] ++ [32, 105, 110, 32, 123] ++ cms l.tail ++ [125]
 else if kind = 9 then name ++ [46] ++ attr
 else if kind = 10 then Lib.itoa num
 else [39] ++ name ++ [39]
structure Glob (W : World) : Prop where
 tab : Lib.TabIs Tryz.prog W "internal/strconv.uint64pow10" .u64 Lib.pow10Tab
theorem var_up {W W' : World} {n : String} {cs : Array Value} (h : W.var? Tryz.prog n = some cs) (hb : Below W.heap.size W W') : W'.var? Tryz.prog n = some cs := by
 unfold World.var? at h ⊢
 cases hg : Tryz.prog.globalNamed n with
 | none => rw [hg] at h; cases h
 | some g =>
  rw [hg] at h
  simp only [Option.bind_some] at h ⊢
  have hlt : g < W.heap.size := by
   rcases Nat.lt_or_ge g W.heap.size with h1 | h1
   ·exact h1
   ·rw [Array.getElem?_eq_none h1] at h; cases h
  rw [hb.block g hlt]
  exact h
theorem Glob.up {W W' : World} (h : Glob W) (hb : Below W.heap.size W W') : Glob W' := ⟨var_up h.tab hb⟩
theorem below_gr (w : World) (k : Nat) (os : Array Obj) : Below w.heap.size w (grow (w.drewN k) os) := by
 refine ⟨rfl, rfl, rfl, ?_, fun i hi => ?_⟩
 ·show w.heap.size ≤ (w.heap ++ os).size
  simp
 ·show (w.heap ++ os)[i]? = w.heap[i]?
  rw [Array.getElem?_append_left hi]
theorem itoa_any (n : Int) (h0 : -9223372036854775808 ≤ n) (h1 : n ≤ 9223372036854775807) (w : World) (hG : Glob w) :
 Calls Tryz.prog 42 #[.int .i64 n] w fun e w' => e = .returned (.string (bs (Lib.itoa n))) ∧ Below w.heap.size w w' := by
 refine (Tryz.strconv_Itoa n h0 h1 w hG.tab).mono ?_
 rintro e w' ⟨rfl, k, os, rfl⟩
 exact ⟨rfl, below_gr w k os⟩
open Go.Shelf Go.RowKit
open Lib (hid)
set_option linter.unusedSimpArgs false
theorem cmp_run0 (B b : Nat) (Q : List Value) (S : World → Prop) (hK : KeepS B b S) (gw gn : Nat) (n0 n2 n3 n5 : Value) (ka : Option Addr) (c : Nat) (x y : Int) (hs : ShowsI S ka [x, y]) (t u : List UInt8)
 (hx : zak B b Q S 40 #[.pointer (some ⟨b, 0, none⟩), .int .i64 x] t) (hy : zak B b Q S 40 #[.pointer (some ⟨b, 0, none⟩), .int .i64 y] u) :
 zak B b Q (fun W => S W ∧ Wbox b gw W ∧ Blk W gn 68 [n0, .int .i64 0, n2, n3, .slice ka 2 c, n5]) 105 #[.pointer (some ⟨gw, 0, none⟩), .pointer (some ⟨gn, 0, none⟩)] (t ++ ([32] ++ [61] ++ [32]) ++ u) := by
 rintro l W ⟨hS, hw, hnode⟩ hI hB hlen
 obtain ⟨W2, hW2⟩ : ∃ W2, W2 = W.alloc (.cells #[.string ⟨#[61]⟩, .string ⟨#[33, 61]⟩, .string ⟨#[60]⟩, .string ⟨#[60, 61]⟩, .string ⟨#[62]⟩, .string ⟨#[62, 61]⟩] 188) := ⟨_, rfl⟩
 have hb2 : Below B W W2 := by rw [hW2]; exact (Below.refl B W).alloc hB _
 have ho2 : OthW b W W2 := by rw [hW2]; exact (Lib.OthersKept.refl _ _ W).alloc _
 have hI2 : IsW B b Q l W2 := by rw [hW2]; exact hI.alloc _
 have hA2 : Blk W2 W.heap.size 188 [.string ⟨#[61]⟩, .string ⟨#[33, 61]⟩, .string ⟨#[60]⟩, .string ⟨#[60, 61]⟩, .string ⟨#[62]⟩, .string ⟨#[62, 61]⟩] := by rw [hW2]; exact Blk.new W 188 [.string ⟨#[61]⟩, .string ⟨#[33, 61]⟩, .string ⟨#[60]⟩, .string ⟨#[60, 61]⟩, .string ⟨#[62]⟩, .string ⟨#[62, 61]⟩]
 have hB2 : B ≤ W2.heap.size := Nat.le_trans hB hb2.size
 have hS2 : S W2 := hK W W2 hS hb2 ho2
 have d0 : gw ≠ b := hI.ne hw (by decide)
 have d2 : gn ≠ b := hI.ne hnode (by decide)
 have d3 : W.heap.size ≠ b := hI2.ne hA2 (by decide)
 have hw2 : Wbox b gw W2 := Blk.othW hw ho2 d0 (by decide)
 have hn2 := Blk.othW hnode ho2 d2 (by decide)
 have HS := hid hK
 have HC := hid hs
 have hSd : S W2.drew := hK W2 W2.drew hS2 (Below.drew (Below.refl B W2)) (Lib.OthersKept.refl _ _ W2).drew
 obtain ⟨ad, rfl, cx⟩ := hs W2.drew hSd 0 x rfl
 obtain ⟨ad', e', cy⟩ := hs W2.drew hSd 1 y rfl
 injection e' with e'
 subst e'
 have HA := hid (zce B b Q S hK x y [61] t u (by decide) hx hy l W2.drew hSd hI2 hB2 hlen)
 rw [show bs [61] = (⟨#[61]⟩ : ByteArray) from rfl] at HA
 have k0 : W2.drew.cell? ⟨gw, 0, none⟩ = some (.pointer (some ⟨b, 0, none⟩)) := Blk.cell hw2 0
 have k1 : W2.drew.cell? ⟨gn, 4, none⟩ = some (.slice (some ad) 2 c) := Blk.cell hn2 4
 have k2 : W2.drew.cell? ⟨gn, 1, none⟩ = some (.int .i64 0) := Blk.cell hn2 1
 have k3 : W2.drew.cell? ad = some (.int .i64 x) := cx
 have k4 : W2.drew.cell? ⟨W.heap.size, 0, none⟩ = some (.string ⟨#[61]⟩) := Blk.cell hA2 0
 clear hK hx hy hs
 go_enter Tryz.func105, Tryz.ntmps105
 go_upto_region 1 with fail
 rw [← hW2]
 clear hW2
 first | go_region_held3 (fun w' => w'.cell? ⟨gw, 0, none⟩ = some (.pointer (some ⟨b, 0, none⟩)) ∧ w'.cell? ⟨gn, 4, none⟩ = some (.slice (some ad) 2 c) ∧ w'.cell? ⟨gn, 1, none⟩ = some (.int .i64 0) ∧ w'.cell? (ad.add 0) = some (.int .i64 x) ∧ w'.cell? ad = some (.int .i64 x) ∧ w'.cell? ⟨ad.block, ad.off + 1, none⟩ = some (.int .i64 y) ∧ w'.cell? ⟨W.heap.size, 0, none⟩ = some (.string ⟨#[61]⟩)) (first | exact ⟨k0, k1, k2, cx, k3, cy, k4⟩ | (refine ⟨(Blk.othW (W := W2.drew) hw2 (by assumption) d0 (by decide)).cell 0, (Blk.othW (W := W2.drew) hn2 (by assumption) d2 (by decide)).cell 4, (Blk.othW (W := W2.drew) hn2 (by assumption) d2 (by decide)).cell 1, ?_⟩; obtain ⟨ad1, e1, cx1⟩ := HC.out _ (HS.out _ _ hSd (by assumption) (by assumption)) 0 x rfl; obtain ⟨ad2, e2, cx2⟩ := HC.out _ (HS.out _ _ hSd (by assumption) (by assumption)) 1 y rfl; injection e1 with e1; injection e2 with e2; subst e1; subst e2; exact ⟨cx1, cx1, cx2, (Blk.othW (W := W2.drew) hA2 (by assumption) d3 (by decide)).cell 0⟩))
  (first | (go_at_call 106; refine HA.out.mono ?_; rintro e w1 ⟨rfl, g1, g2, g3⟩)) | fail
 all_goals
  go_wp2_with fail
  go_end0
  exact ⟨rfl, g1, hb2.trans ((Below.drew (Below.refl B W2)).trans g2), OthW.trans2 ho2 g3⟩
theorem cmp_run1 (B b : Nat) (Q : List Value) (S : World → Prop) (hK : KeepS B b S) (gw gn : Nat) (n0 n2 n3 n5 : Value) (ka : Option Addr) (c : Nat) (x y : Int) (hs : ShowsI S ka [x, y]) (t u : List UInt8)
 (hx : zak B b Q S 40 #[.pointer (some ⟨b, 0, none⟩), .int .i64 x] t) (hy : zak B b Q S 40 #[.pointer (some ⟨b, 0, none⟩), .int .i64 y] u) :
 zak B b Q (fun W => S W ∧ Wbox b gw W ∧ Blk W gn 68 [n0, .int .i64 1, n2, n3, .slice ka 2 c, n5]) 105 #[.pointer (some ⟨gw, 0, none⟩), .pointer (some ⟨gn, 0, none⟩)] (t ++ ([32] ++ [33, 61] ++ [32]) ++ u) := by
 rintro l W ⟨hS, hw, hnode⟩ hI hB hlen
 obtain ⟨W2, hW2⟩ : ∃ W2, W2 = W.alloc (.cells #[.string ⟨#[61]⟩, .string ⟨#[33, 61]⟩, .string ⟨#[60]⟩, .string ⟨#[60, 61]⟩, .string ⟨#[62]⟩, .string ⟨#[62, 61]⟩] 188) := ⟨_, rfl⟩
 have hb2 : Below B W W2 := by rw [hW2]; exact (Below.refl B W).alloc hB _
 have ho2 : OthW b W W2 := by rw [hW2]; exact (Lib.OthersKept.refl _ _ W).alloc _
 have hI2 : IsW B b Q l W2 := by rw [hW2]; exact hI.alloc _
 have hA2 : Blk W2 W.heap.size 188 [.string ⟨#[61]⟩, .string ⟨#[33, 61]⟩, .string ⟨#[60]⟩, .string ⟨#[60, 61]⟩, .string ⟨#[62]⟩, .string ⟨#[62, 61]⟩] := by rw [hW2]; exact Blk.new W 188 [.string ⟨#[61]⟩, .string ⟨#[33, 61]⟩, .string ⟨#[60]⟩, .string ⟨#[60, 61]⟩, .string ⟨#[62]⟩, .string ⟨#[62, 61]⟩]
 have hB2 : B ≤ W2.heap.size := Nat.le_trans hB hb2.size
 have hS2 : S W2 := hK W W2 hS hb2 ho2
 have d0 : gw ≠ b := hI.ne hw (by decide)
 have d2 : gn ≠ b := hI.ne hnode (by decide)
 have d3 : W.heap.size ≠ b := hI2.ne hA2 (by decide)
 have hw2 : Wbox b gw W2 := Blk.othW hw ho2 d0 (by decide)
 have hn2 := Blk.othW hnode ho2 d2 (by decide)
 have HS := hid hK
 have HC := hid hs
 have hSd : S W2.drew := hK W2 W2.drew hS2 (Below.drew (Below.refl B W2)) (Lib.OthersKept.refl _ _ W2).drew
 obtain ⟨ad, rfl, cx⟩ := hs W2.drew hSd 0 x rfl
 obtain ⟨ad', e', cy⟩ := hs W2.drew hSd 1 y rfl
 injection e' with e'
 subst e'
 have HA := hid (zce B b Q S hK x y [33, 61] t u (by decide) hx hy l W2.drew hSd hI2 hB2 hlen)
 rw [show bs [33, 61] = (⟨#[33, 61]⟩ : ByteArray) from rfl] at HA
 have k0 : W2.drew.cell? ⟨gw, 0, none⟩ = some (.pointer (some ⟨b, 0, none⟩)) := Blk.cell hw2 0
 have k1 : W2.drew.cell? ⟨gn, 4, none⟩ = some (.slice (some ad) 2 c) := Blk.cell hn2 4
 have k2 : W2.drew.cell? ⟨gn, 1, none⟩ = some (.int .i64 1) := Blk.cell hn2 1
 have k3 : W2.drew.cell? ad = some (.int .i64 x) := cx
 have k4 : W2.drew.cell? ⟨W.heap.size, 1, none⟩ = some (.string ⟨#[33, 61]⟩) := Blk.cell hA2 1
 clear hK hx hy hs
 go_enter Tryz.func105, Tryz.ntmps105
 go_upto_region 1 with fail
 rw [← hW2]
 clear hW2
 first | go_region_held3 (fun w' => w'.cell? ⟨gw, 0, none⟩ = some (.pointer (some ⟨b, 0, none⟩)) ∧ w'.cell? ⟨gn, 4, none⟩ = some (.slice (some ad) 2 c) ∧ w'.cell? ⟨gn, 1, none⟩ = some (.int .i64 1) ∧ w'.cell? (ad.add 0) = some (.int .i64 x) ∧ w'.cell? ad = some (.int .i64 x) ∧ w'.cell? ⟨ad.block, ad.off + 1, none⟩ = some (.int .i64 y) ∧ w'.cell? ⟨W.heap.size, 1, none⟩ = some (.string ⟨#[33, 61]⟩)) (first | exact ⟨k0, k1, k2, cx, k3, cy, k4⟩ | (refine ⟨(Blk.othW (W := W2.drew) hw2 (by assumption) d0 (by decide)).cell 0, (Blk.othW (W := W2.drew) hn2 (by assumption) d2 (by decide)).cell 4, (Blk.othW (W := W2.drew) hn2 (by assumption) d2 (by decide)).cell 1, ?_⟩; obtain ⟨ad1, e1, cx1⟩ := HC.out _ (HS.out _ _ hSd (by assumption) (by assumption)) 0 x rfl; obtain ⟨ad2, e2, cx2⟩ := HC.out _ (HS.out _ _ hSd (by assumption) (by assumption)) 1 y rfl; injection e1 with e1; injection e2 with e2; subst e1; subst e2; exact ⟨cx1, cx1, cx2, (Blk.othW (W := W2.drew) hA2 (by assumption) d3 (by decide)).cell 1⟩))
  (first | (go_at_call 106; refine HA.out.mono ?_; rintro e w1 ⟨rfl, g1, g2, g3⟩)) | fail
 all_goals
  go_wp2_with fail
  go_end0
  exact ⟨rfl, g1, hb2.trans ((Below.drew (Below.refl B W2)).trans g2), OthW.trans2 ho2 g3⟩
theorem cmp_run2 (B b : Nat) (Q : List Value) (S : World → Prop) (hK : KeepS B b S) (gw gn : Nat) (n0 n2 n3 n5 : Value) (ka : Option Addr) (c : Nat) (x y : Int) (hs : ShowsI S ka [x, y]) (t u : List UInt8)
 (hx : zak B b Q S 40 #[.pointer (some ⟨b, 0, none⟩), .int .i64 x] t) (hy : zak B b Q S 40 #[.pointer (some ⟨b, 0, none⟩), .int .i64 y] u) :
 zak B b Q (fun W => S W ∧ Wbox b gw W ∧ Blk W gn 68 [n0, .int .i64 2, n2, n3, .slice ka 2 c, n5]) 105 #[.pointer (some ⟨gw, 0, none⟩), .pointer (some ⟨gn, 0, none⟩)] (t ++ ([32] ++ [60] ++ [32]) ++ u) := by
 rintro l W ⟨hS, hw, hnode⟩ hI hB hlen
 obtain ⟨W2, hW2⟩ : ∃ W2, W2 = W.alloc (.cells #[.string ⟨#[61]⟩, .string ⟨#[33, 61]⟩, .string ⟨#[60]⟩, .string ⟨#[60, 61]⟩, .string ⟨#[62]⟩, .string ⟨#[62, 61]⟩] 188) := ⟨_, rfl⟩
 have hb2 : Below B W W2 := by rw [hW2]; exact (Below.refl B W).alloc hB _
 have ho2 : OthW b W W2 := by rw [hW2]; exact (Lib.OthersKept.refl _ _ W).alloc _
 have hI2 : IsW B b Q l W2 := by rw [hW2]; exact hI.alloc _
 have hA2 : Blk W2 W.heap.size 188 [.string ⟨#[61]⟩, .string ⟨#[33, 61]⟩, .string ⟨#[60]⟩, .string ⟨#[60, 61]⟩, .string ⟨#[62]⟩, .string ⟨#[62, 61]⟩] := by rw [hW2]; exact Blk.new W 188 [.string ⟨#[61]⟩, .string ⟨#[33, 61]⟩, .string ⟨#[60]⟩, .string ⟨#[60, 61]⟩, .string ⟨#[62]⟩, .string ⟨#[62, 61]⟩]
 have hB2 : B ≤ W2.heap.size := Nat.le_trans hB hb2.size
 have hS2 : S W2 := hK W W2 hS hb2 ho2
 have d0 : gw ≠ b := hI.ne hw (by decide)
 have d2 : gn ≠ b := hI.ne hnode (by decide)
 have d3 : W.heap.size ≠ b := hI2.ne hA2 (by decide)
 have hw2 : Wbox b gw W2 := Blk.othW hw ho2 d0 (by decide)
 have hn2 := Blk.othW hnode ho2 d2 (by decide)
 have HS := hid hK
 have HC := hid hs
 have hSd : S W2.drew := hK W2 W2.drew hS2 (Below.drew (Below.refl B W2)) (Lib.OthersKept.refl _ _ W2).drew
 obtain ⟨ad, rfl, cx⟩ := hs W2.drew hSd 0 x rfl
 obtain ⟨ad', e', cy⟩ := hs W2.drew hSd 1 y rfl
 injection e' with e'
 subst e'
 have HA := hid (zce B b Q S hK x y [60] t u (by decide) hx hy l W2.drew hSd hI2 hB2 hlen)
 rw [show bs [60] = (⟨#[60]⟩ : ByteArray) from rfl] at HA
 have k0 : W2.drew.cell? ⟨gw, 0, none⟩ = some (.pointer (some ⟨b, 0, none⟩)) := Blk.cell hw2 0
 have k1 : W2.drew.cell? ⟨gn, 4, none⟩ = some (.slice (some ad) 2 c) := Blk.cell hn2 4
 have k2 : W2.drew.cell? ⟨gn, 1, none⟩ = some (.int .i64 2) := Blk.cell hn2 1
 have k3 : W2.drew.cell? ad = some (.int .i64 x) := cx
 have k4 : W2.drew.cell? ⟨W.heap.size, 2, none⟩ = some (.string ⟨#[60]⟩) := Blk.cell hA2 2
 clear hK hx hy hs
 go_enter Tryz.func105, Tryz.ntmps105
 go_upto_region 1 with fail
 rw [← hW2]
 clear hW2
 first | go_region_held3 (fun w' => w'.cell? ⟨gw, 0, none⟩ = some (.pointer (some ⟨b, 0, none⟩)) ∧ w'.cell? ⟨gn, 4, none⟩ = some (.slice (some ad) 2 c) ∧ w'.cell? ⟨gn, 1, none⟩ = some (.int .i64 2) ∧ w'.cell? (ad.add 0) = some (.int .i64 x) ∧ w'.cell? ad = some (.int .i64 x) ∧ w'.cell? ⟨ad.block, ad.off + 1, none⟩ = some (.int .i64 y) ∧ w'.cell? ⟨W.heap.size, 2, none⟩ = some (.string ⟨#[60]⟩)) (first | exact ⟨k0, k1, k2, cx, k3, cy, k4⟩ | (refine ⟨(Blk.othW (W := W2.drew) hw2 (by assumption) d0 (by decide)).cell 0, (Blk.othW (W := W2.drew) hn2 (by assumption) d2 (by decide)).cell 4, (Blk.othW (W := W2.drew) hn2 (by assumption) d2 (by decide)).cell 1, ?_⟩; obtain ⟨ad1, e1, cx1⟩ := HC.out _ (HS.out _ _ hSd (by assumption) (by assumption)) 0 x rfl; obtain ⟨ad2, e2, cx2⟩ := HC.out _ (HS.out _ _ hSd (by assumption) (by assumption)) 1 y rfl; injection e1 with e1; injection e2 with e2; subst e1; subst e2; exact ⟨cx1, cx1, cx2, (Blk.othW (W := W2.drew) hA2 (by assumption) d3 (by decide)).cell 2⟩))
  (first | (go_at_call 106; refine HA.out.mono ?_; rintro e w1 ⟨rfl, g1, g2, g3⟩)) | fail
 all_goals
  go_wp2_with fail
  go_end0
  exact ⟨rfl, g1, hb2.trans ((Below.drew (Below.refl B W2)).trans g2), OthW.trans2 ho2 g3⟩
theorem cmp_run3 (B b : Nat) (Q : List Value) (S : World → Prop) (hK : KeepS B b S) (gw gn : Nat) (n0 n2 n3 n5 : Value) (ka : Option Addr) (c : Nat) (x y : Int) (hs : ShowsI S ka [x, y]) (t u : List UInt8)
 (hx : zak B b Q S 40 #[.pointer (some ⟨b, 0, none⟩), .int .i64 x] t) (hy : zak B b Q S 40 #[.pointer (some ⟨b, 0, none⟩), .int .i64 y] u) :
 zak B b Q (fun W => S W ∧ Wbox b gw W ∧ Blk W gn 68 [n0, .int .i64 3, n2, n3, .slice ka 2 c, n5]) 105 #[.pointer (some ⟨gw, 0, none⟩), .pointer (some ⟨gn, 0, none⟩)] (t ++ ([32] ++ [60, 61] ++ [32]) ++ u) := by
 rintro l W ⟨hS, hw, hnode⟩ hI hB hlen
 obtain ⟨W2, hW2⟩ : ∃ W2, W2 = W.alloc (.cells #[.string ⟨#[61]⟩, .string ⟨#[33, 61]⟩, .string ⟨#[60]⟩, .string ⟨#[60, 61]⟩, .string ⟨#[62]⟩, .string ⟨#[62, 61]⟩] 188) := ⟨_, rfl⟩
 have hb2 : Below B W W2 := by rw [hW2]; exact (Below.refl B W).alloc hB _
 have ho2 : OthW b W W2 := by rw [hW2]; exact (Lib.OthersKept.refl _ _ W).alloc _
 have hI2 : IsW B b Q l W2 := by rw [hW2]; exact hI.alloc _
 have hA2 : Blk W2 W.heap.size 188 [.string ⟨#[61]⟩, .string ⟨#[33, 61]⟩, .string ⟨#[60]⟩, .string ⟨#[60, 61]⟩, .string ⟨#[62]⟩, .string ⟨#[62, 61]⟩] := by rw [hW2]; exact Blk.new W 188 [.string ⟨#[61]⟩, .string ⟨#[33, 61]⟩, .string ⟨#[60]⟩, .string ⟨#[60, 61]⟩, .string ⟨#[62]⟩, .string ⟨#[62, 61]⟩]
 have hB2 : B ≤ W2.heap.size := Nat.le_trans hB hb2.size
 have hS2 : S W2 := hK W W2 hS hb2 ho2
 have d0 : gw ≠ b := hI.ne hw (by decide)
 have d2 : gn ≠ b := hI.ne hnode (by decide)
 have d3 : W.heap.size ≠ b := hI2.ne hA2 (by decide)
 have hw2 : Wbox b gw W2 := Blk.othW hw ho2 d0 (by decide)
 have hn2 := Blk.othW hnode ho2 d2 (by decide)
 have HS := hid hK
 have HC := hid hs
 have hSd : S W2.drew := hK W2 W2.drew hS2 (Below.drew (Below.refl B W2)) (Lib.OthersKept.refl _ _ W2).drew
 obtain ⟨ad, rfl, cx⟩ := hs W2.drew hSd 0 x rfl
 obtain ⟨ad', e', cy⟩ := hs W2.drew hSd 1 y rfl
 injection e' with e'
 subst e'
 have HA := hid (zce B b Q S hK x y [60, 61] t u (by decide) hx hy l W2.drew hSd hI2 hB2 hlen)
 rw [show bs [60, 61] = (⟨#[60, 61]⟩ : ByteArray) from rfl] at HA
 have k0 : W2.drew.cell? ⟨gw, 0, none⟩ = some (.pointer (some ⟨b, 0, none⟩)) := Blk.cell hw2 0
 have k1 : W2.drew.cell? ⟨gn, 4, none⟩ = some (.slice (some ad) 2 c) := Blk.cell hn2 4
 have k2 : W2.drew.cell? ⟨gn, 1, none⟩ = some (.int .i64 3) := Blk.cell hn2 1
 have k3 : W2.drew.cell? ad = some (.int .i64 x) := cx
 have k4 : W2.drew.cell? ⟨W.heap.size, 3, none⟩ = some (.string ⟨#[60, 61]⟩) := Blk.cell hA2 3
 clear hK hx hy hs
 go_enter Tryz.func105, Tryz.ntmps105
 go_upto_region 1 with fail
 rw [← hW2]
 clear hW2
 first | go_region_held3 (fun w' => w'.cell? ⟨gw, 0, none⟩ = some (.pointer (some ⟨b, 0, none⟩)) ∧ w'.cell? ⟨gn, 4, none⟩ = some (.slice (some ad) 2 c) ∧ w'.cell? ⟨gn, 1, none⟩ = some (.int .i64 3) ∧ w'.cell? (ad.add 0) = some (.int .i64 x) ∧ w'.cell? ad = some (.int .i64 x) ∧ w'.cell? ⟨ad.block, ad.off + 1, none⟩ = some (.int .i64 y) ∧ w'.cell? ⟨W.heap.size, 3, none⟩ = some (.string ⟨#[60, 61]⟩)) (first | exact ⟨k0, k1, k2, cx, k3, cy, k4⟩ | (refine ⟨(Blk.othW (W := W2.drew) hw2 (by assumption) d0 (by decide)).cell 0, (Blk.othW (W := W2.drew) hn2 (by assumption) d2 (by decide)).cell 4, (Blk.othW (W := W2.drew) hn2 (by assumption) d2 (by decide)).cell 1, ?_⟩; obtain ⟨ad1, e1, cx1⟩ := HC.out _ (HS.out _ _ hSd (by assumption) (by assumption)) 0 x rfl; obtain ⟨ad2, e2, cx2⟩ := HC.out _ (HS.out _ _ hSd (by assumption) (by assumption)) 1 y rfl; injection e1 with e1; injection e2 with e2; subst e1; subst e2; exact ⟨cx1, cx1, cx2, (Blk.othW (W := W2.drew) hA2 (by assumption) d3 (by decide)).cell 3⟩))
  (first | (go_at_call 106; refine HA.out.mono ?_; rintro e w1 ⟨rfl, g1, g2, g3⟩)) | fail
 all_goals
  go_wp2_with fail
  go_end0
  exact ⟨rfl, g1, hb2.trans ((Below.drew (Below.refl B W2)).trans g2), OthW.trans2 ho2 g3⟩
theorem cmp_run4 (B b : Nat) (Q : List Value) (S : World → Prop) (hK : KeepS B b S) (gw gn : Nat) (n0 n2 n3 n5 : Value) (ka : Option Addr) (c : Nat) (x y : Int) (hs : ShowsI S ka [x, y]) (t u : List UInt8)
 (hx : zak B b Q S 40 #[.pointer (some ⟨b, 0, none⟩), .int .i64 x] t) (hy : zak B b Q S 40 #[.pointer (some ⟨b, 0, none⟩), .int .i64 y] u) :
 zak B b Q (fun W => S W ∧ Wbox b gw W ∧ Blk W gn 68 [n0, .int .i64 4, n2, n3, .slice ka 2 c, n5]) 105 #[.pointer (some ⟨gw, 0, none⟩), .pointer (some ⟨gn, 0, none⟩)] (t ++ ([32] ++ [62] ++ [32]) ++ u) := by
 rintro l W ⟨hS, hw, hnode⟩ hI hB hlen
 obtain ⟨W2, hW2⟩ : ∃ W2, W2 = W.alloc (.cells #[.string ⟨#[61]⟩, .string ⟨#[33, 61]⟩, .string ⟨#[60]⟩, .string ⟨#[60, 61]⟩, .string ⟨#[62]⟩, .string ⟨#[62, 61]⟩] 188) := ⟨_, rfl⟩
 have hb2 : Below B W W2 := by rw [hW2]; exact (Below.refl B W).alloc hB _
 have ho2 : OthW b W W2 := by rw [hW2]; exact (Lib.OthersKept.refl _ _ W).alloc _
 have hI2 : IsW B b Q l W2 := by rw [hW2]; exact hI.alloc _
 have hA2 : Blk W2 W.heap.size 188 [.string ⟨#[61]⟩, .string ⟨#[33, 61]⟩, .string ⟨#[60]⟩, .string ⟨#[60, 61]⟩, .string ⟨#[62]⟩, .string ⟨#[62, 61]⟩] := by rw [hW2]; exact Blk.new W 188 [.string ⟨#[61]⟩, .string ⟨#[33, 61]⟩, .string ⟨#[60]⟩, .string ⟨#[60, 61]⟩, .string ⟨#[62]⟩, .string ⟨#[62, 61]⟩]
 have hB2 : B ≤ W2.heap.size := Nat.le_trans hB hb2.size
 have hS2 : S W2 := hK W W2 hS hb2 ho2
 have d0 : gw ≠ b := hI.ne hw (by decide)
 have d2 : gn ≠ b := hI.ne hnode (by decide)
 have d3 : W.heap.size ≠ b := hI2.ne hA2 (by decide)
 have hw2 : Wbox b gw W2 := Blk.othW hw ho2 d0 (by decide)
 have hn2 := Blk.othW hnode ho2 d2 (by decide)
 have HS := hid hK
 have HC := hid hs
 have hSd : S W2.drew := hK W2 W2.drew hS2 (Below.drew (Below.refl B W2)) (Lib.OthersKept.refl _ _ W2).drew
 obtain ⟨ad, rfl, cx⟩ := hs W2.drew hSd 0 x rfl
 obtain ⟨ad', e', cy⟩ := hs W2.drew hSd 1 y rfl
 injection e' with e'
 subst e'
 have HA := hid (zce B b Q S hK x y [62] t u (by decide) hx hy l W2.drew hSd hI2 hB2 hlen)
 rw [show bs [62] = (⟨#[62]⟩ : ByteArray) from rfl] at HA
 have k0 : W2.drew.cell? ⟨gw, 0, none⟩ = some (.pointer (some ⟨b, 0, none⟩)) := Blk.cell hw2 0
 have k1 : W2.drew.cell? ⟨gn, 4, none⟩ = some (.slice (some ad) 2 c) := Blk.cell hn2 4
 have k2 : W2.drew.cell? ⟨gn, 1, none⟩ = some (.int .i64 4) := Blk.cell hn2 1
 have k3 : W2.drew.cell? ad = some (.int .i64 x) := cx
 have k4 : W2.drew.cell? ⟨W.heap.size, 4, none⟩ = some (.string ⟨#[62]⟩) := Blk.cell hA2 4
 clear hK hx hy hs
 go_enter Tryz.func105, Tryz.ntmps105
 go_upto_region 1 with fail
 rw [← hW2]
 clear hW2
 first | go_region_held3 (fun w' => w'.cell? ⟨gw, 0, none⟩ = some (.pointer (some ⟨b, 0, none⟩)) ∧ w'.cell? ⟨gn, 4, none⟩ = some (.slice (some ad) 2 c) ∧ w'.cell? ⟨gn, 1, none⟩ = some (.int .i64 4) ∧ w'.cell? (ad.add 0) = some (.int .i64 x) ∧ w'.cell? ad = some (.int .i64 x) ∧ w'.cell? ⟨ad.block, ad.off + 1, none⟩ = some (.int .i64 y) ∧ w'.cell? ⟨W.heap.size, 4, none⟩ = some (.string ⟨#[62]⟩)) (first | exact ⟨k0, k1, k2, cx, k3, cy, k4⟩ | (refine ⟨(Blk.othW (W := W2.drew) hw2 (by assumption) d0 (by decide)).cell 0, (Blk.othW (W := W2.drew) hn2 (by assumption) d2 (by decide)).cell 4, (Blk.othW (W := W2.drew) hn2 (by assumption) d2 (by decide)).cell 1, ?_⟩; obtain ⟨ad1, e1, cx1⟩ := HC.out _ (HS.out _ _ hSd (by assumption) (by assumption)) 0 x rfl; obtain ⟨ad2, e2, cx2⟩ := HC.out _ (HS.out _ _ hSd (by assumption) (by assumption)) 1 y rfl; injection e1 with e1; injection e2 with e2; subst e1; subst e2; exact ⟨cx1, cx1, cx2, (Blk.othW (W := W2.drew) hA2 (by assumption) d3 (by decide)).cell 4⟩))
  (first | (go_at_call 106; refine HA.out.mono ?_; rintro e w1 ⟨rfl, g1, g2, g3⟩)) | fail
 all_goals
  go_wp2_with fail
  go_end0
  exact ⟨rfl, g1, hb2.trans ((Below.drew (Below.refl B W2)).trans g2), OthW.trans2 ho2 g3⟩
theorem cmp_run5 (B b : Nat) (Q : List Value) (S : World → Prop) (hK : KeepS B b S) (gw gn : Nat) (n0 n2 n3 n5 : Value) (ka : Option Addr) (c : Nat) (x y : Int) (hs : ShowsI S ka [x, y]) (t u : List UInt8)
 (hx : zak B b Q S 40 #[.pointer (some ⟨b, 0, none⟩), .int .i64 x] t) (hy : zak B b Q S 40 #[.pointer (some ⟨b, 0, none⟩), .int .i64 y] u) :
 zak B b Q (fun W => S W ∧ Wbox b gw W ∧ Blk W gn 68 [n0, .int .i64 5, n2, n3, .slice ka 2 c, n5]) 105 #[.pointer (some ⟨gw, 0, none⟩), .pointer (some ⟨gn, 0, none⟩)] (t ++ ([32] ++ [62, 61] ++ [32]) ++ u) := by
 rintro l W ⟨hS, hw, hnode⟩ hI hB hlen
 obtain ⟨W2, hW2⟩ : ∃ W2, W2 = W.alloc (.cells #[.string ⟨#[61]⟩, .string ⟨#[33, 61]⟩, .string ⟨#[60]⟩, .string ⟨#[60, 61]⟩, .string ⟨#[62]⟩, .string ⟨#[62, 61]⟩] 188) := ⟨_, rfl⟩
 have hb2 : Below B W W2 := by rw [hW2]; exact (Below.refl B W).alloc hB _
 have ho2 : OthW b W W2 := by rw [hW2]; exact (Lib.OthersKept.refl _ _ W).alloc _
 have hI2 : IsW B b Q l W2 := by rw [hW2]; exact hI.alloc _
 have hA2 : Blk W2 W.heap.size 188 [.string ⟨#[61]⟩, .string ⟨#[33, 61]⟩, .string ⟨#[60]⟩, .string ⟨#[60, 61]⟩, .string ⟨#[62]⟩, .string ⟨#[62, 61]⟩] := by rw [hW2]; exact Blk.new W 188 [.string ⟨#[61]⟩, .string ⟨#[33, 61]⟩, .string ⟨#[60]⟩, .string ⟨#[60, 61]⟩, .string ⟨#[62]⟩, .string ⟨#[62, 61]⟩]
 have hB2 : B ≤ W2.heap.size := Nat.le_trans hB hb2.size
 have hS2 : S W2 := hK W W2 hS hb2 ho2
 have d0 : gw ≠ b := hI.ne hw (by decide)
 have d2 : gn ≠ b := hI.ne hnode (by decide)
 have d3 : W.heap.size ≠ b := hI2.ne hA2 (by decide)
 have hw2 : Wbox b gw W2 := Blk.othW hw ho2 d0 (by decide)
 have hn2 := Blk.othW hnode ho2 d2 (by decide)
 have HS := hid hK
 have HC := hid hs
 have hSd : S W2.drew := hK W2 W2.drew hS2 (Below.drew (Below.refl B W2)) (Lib.OthersKept.refl _ _ W2).drew
 obtain ⟨ad, rfl, cx⟩ := hs W2.drew hSd 0 x rfl
 obtain ⟨ad', e', cy⟩ := hs W2.drew hSd 1 y rfl
 injection e' with e'
 subst e'
 have HA := hid (zce B b Q S hK x y [62, 61] t u (by decide) hx hy l W2.drew hSd hI2 hB2 hlen)
 rw [show bs [62, 61] = (⟨#[62, 61]⟩ : ByteArray) from rfl] at HA
 have k0 : W2.drew.cell? ⟨gw, 0, none⟩ = some (.pointer (some ⟨b, 0, none⟩)) := Blk.cell hw2 0
 have k1 : W2.drew.cell? ⟨gn, 4, none⟩ = some (.slice (some ad) 2 c) := Blk.cell hn2 4
 have k2 : W2.drew.cell? ⟨gn, 1, none⟩ = some (.int .i64 5) := Blk.cell hn2 1
 have k3 : W2.drew.cell? ad = some (.int .i64 x) := cx
 have k4 : W2.drew.cell? ⟨W.heap.size, 5, none⟩ = some (.string ⟨#[62, 61]⟩) := Blk.cell hA2 5
 clear hK hx hy hs
 go_enter Tryz.func105, Tryz.ntmps105
 go_upto_region 1 with fail
 rw [← hW2]
 clear hW2
 first | go_region_held3 (fun w' => w'.cell? ⟨gw, 0, none⟩ = some (.pointer (some ⟨b, 0, none⟩)) ∧ w'.cell? ⟨gn, 4, none⟩ = some (.slice (some ad) 2 c) ∧ w'.cell? ⟨gn, 1, none⟩ = some (.int .i64 5) ∧ w'.cell? (ad.add 0) = some (.int .i64 x) ∧ w'.cell? ad = some (.int .i64 x) ∧ w'.cell? ⟨ad.block, ad.off + 1, none⟩ = some (.int .i64 y) ∧ w'.cell? ⟨W.heap.size, 5, none⟩ = some (.string ⟨#[62, 61]⟩)) (first | exact ⟨k0, k1, k2, cx, k3, cy, k4⟩ | (refine ⟨(Blk.othW (W := W2.drew) hw2 (by assumption) d0 (by decide)).cell 0, (Blk.othW (W := W2.drew) hn2 (by assumption) d2 (by decide)).cell 4, (Blk.othW (W := W2.drew) hn2 (by assumption) d2 (by decide)).cell 1, ?_⟩; obtain ⟨ad1, e1, cx1⟩ := HC.out _ (HS.out _ _ hSd (by assumption) (by assumption)) 0 x rfl; obtain ⟨ad2, e2, cx2⟩ := HC.out _ (HS.out _ _ hSd (by assumption) (by assumption)) 1 y rfl; injection e1 with e1; injection e2 with e2; subst e1; subst e2; exact ⟨cx1, cx1, cx2, (Blk.othW (W := W2.drew) hA2 (by assumption) d3 (by decide)).cell 5⟩))
  (first | (go_at_call 106; refine HA.out.mono ?_; rintro e w1 ⟨rfl, g1, g2, g3⟩)) | fail
 all_goals
  go_wp2_with fail
  go_end0
  exact ⟨rfl, g1, hb2.trans ((Below.drew (Below.refl B W2)).trans g2), OthW.trans2 ho2 g3⟩
theorem ShowsI.tail {S : World → Prop} {ad : Addr} {x : Int} {ks : List Int} (h : ShowsI S (some ad) (x :: ks)) : ShowsI S (some (ad.add 1)) ks := by
 intro W hS i y hy
 obtain ⟨ad', e, h1⟩ := h W hS (i + 1) y hy
 injection e with e
 subst e
 refine ⟨_, rfl, ?_⟩
 have : (ad.add 1).add i = ad.add (i + 1) := by
  unfold Addr.add
  split
  ·rename_i h; subst h; simp
  ·simp
   omega
 rw [this]
 exact h1
theorem in_run (B b : Nat) (Q : List Value) (S : World → Prop) (hK : KeepS B b S) (gw gn : Nat) (n0 n1 n2 n3 n5 : Value) (ad : Addr) (c : Nat) (x : Int) (ks : List Int) (hs : ShowsI S (some ad) (x :: ks)) (hks : ks.length ≤ 1000000) (h1k : 1 ≤ ks.length) (hc : ks.length + 1 ≤ c) (tt : Int → List UInt8)
 (hn : ∀ z ∈ x :: ks, zak B b Q S 40 #[.pointer (some ⟨b, 0, none⟩), .int .i64 z] (tt z)) :
 zak B b Q (fun W => S W ∧ Wbox b gw W ∧ Blk W gn 68 [n0, n1, n2, n3, .slice (some ad) (ks.length + 1) c, n5]) 108 #[.pointer (some ⟨gw, 0, none⟩), .pointer (some ⟨gn, 0, none⟩)] (tt x ++ [32, 105, 110, 32, 123] ++ cms (ks.map tt) ++ [125]) := by
 rintro l W ⟨hS, hw, hnode⟩ hI hB hlen
 simp only [List.length_append, List.length_cons, List.length_nil] at hlen
 have d0 : gw ≠ b := hI.ne hw (by decide)
 have d2 : gn ≠ b := hI.ne hnode (by decide)
 have HS := hid hK
 have HC := hid hs
 have hSd : S W.drew := hK W W.drew hS (Below.drew (Below.refl B W)) (Lib.OthersKept.refl _ _ W).drew
 obtain ⟨ad', e', cx⟩ := hs W.drew hSd 0 x rfl
 injection e' with e'
 subst e'
 have HA := hid (hn x (List.mem_cons_self ..) l W.drew hSd hI hB (by omega))
 have HN := hid (nodes_run B b Q S hK (some ⟨ad.block, ad.off + 1, none⟩) (c - 1) ks hs.tail (by omega) tt (fun z hz => hn z (List.mem_cons_of_mem _ hz)))
 have k0 : W.drew.cell? ⟨gw, 0, none⟩ = some (.pointer (some ⟨b, 0, none⟩)) := Blk.cell hw 0
 have k1 : W.drew.cell? ⟨gn, 4, none⟩ = some (.slice (some ad) (ks.length + 1) c) := Blk.cell hnode 4
 have k3 : W.drew.cell? ad = some (.int .i64 x) := cx
 have hpos : (0 : Int) < ((ks.length + 1 : Nat) : Int) := by omega
 have hc1 : ¬ c = 1 := by omega
 have hpos1 : (1 : Int) ≤ (ks.length : Int) + 1 := by omega
 have hpos2 : (ks.length : Int) + 1 ≤ (c : Int) := by omega
 have hpos3 : (1 : Int) ≤ ((ks.length + 1 : Nat) : Int) := by omega
 have hpos4 : ((ks.length + 1 : Nat) : Int) ≤ (c : Int) := by omega
 clear hK hn hs
 go_enter Tryz.func108, Tryz.ntmps108
 go_upto_region 0 with fail
 first | go_region_held3 (fun w' => w'.cell? ⟨gw, 0, none⟩ = some (.pointer (some ⟨b, 0, none⟩)) ∧ w'.cell? ⟨gn, 4, none⟩ = some (.slice (some ad) (ks.length + 1) c) ∧ w'.cell? (ad.add 0) = some (.int .i64 x) ∧ w'.cell? ad = some (.int .i64 x)) (first | exact ⟨k0, k1, cx, k3⟩ | (refine ⟨(Blk.othW (W := W.drew) hw (by assumption) d0 (by decide)).cell 0, (Blk.othW (W := W.drew) hnode (by assumption) d2 (by decide)).cell 4, ?_⟩; obtain ⟨ad1, e1, cx1⟩ := HC.out _ (HS.out _ _ hSd (by assumption) (by assumption)) 0 x rfl; injection e1 with e1; subst e1; exact ⟨cx1, cx1⟩))
  (first | (go_at_call 40; refine HA.out.mono ?_; rintro e w1 ⟨rfl, g1, g2, g3⟩)) | fail
 all_goals
  clear HA k0 k1 k3 cx
  have hS1 := HS.out _ _ hSd g2 g3
  have hw1 : Wbox b gw w1 := Blk.othW (W := W.drew) hw g3 d0 (by decide)
  have hn1 := Blk.othW (W := W.drew) hnode g3 d2 (by decide)
  have hB1 : B ≤ w1.heap.size := Nat.le_trans hB g2.size
  have HB := hid (zbs B b Q _ [32, 105, 110, 32, 123] w1 g1 hB1 (by simp only [List.length_append, List.length_cons, List.length_nil]; omega) ⟨#[32, 105, 110, 32, 123]⟩ rfl)
  have k0 : w1.cell? ⟨gw, 0, none⟩ = some (.pointer (some ⟨b, 0, none⟩)) := Blk.cell hw1 0
  go_wp2_with fail
  refine HB.out.mono ?_
  rintro e w2 ⟨rfl, f1, f2, f3⟩
  clear HB k0
  have hS2 := HS.out _ _ hS1 f2 f3
  have hS2d : S w2.drew := HS.out w2 w2.drew hS2 (Below.drew (Below.refl B w2)) (Lib.OthersKept.refl _ _ w2).drew
  have hw2 : Wbox b gw w2 := Blk.othW hw1 f3 d0 (by decide)
  have hn2 := Blk.othW hn1 f3 d2 (by decide)
  have HZ2 := hid (HN.out _ w2.drew hS2d f1 (Nat.le_trans hB1 f2.size) (by simp only [List.length_append, List.length_cons, List.length_nil]; omega))
  have k0 : w2.drew.cell? ⟨gw, 0, none⟩ = some (.pointer (some ⟨b, 0, none⟩)) := Blk.cell hw2 0
  have k1 : w2.drew.cell? ⟨gn, 4, none⟩ = some (.slice (some ad) (ks.length + 1) c) := Blk.cell hn2 4
  go_upto_region 2 with fail
  first | go_region_held3 (fun w' => w'.cell? ⟨gw, 0, none⟩ = some (.pointer (some ⟨b, 0, none⟩)) ∧ w'.cell? ⟨gn, 4, none⟩ = some (.slice (some ad) (ks.length + 1) c)) (first | exact ⟨k0, k1⟩ | exact ⟨(Blk.othW (W := w2.drew) hw2 (by assumption) d0 (by decide)).cell 0, (Blk.othW (W := w2.drew) hn2 (by assumption) d2 (by decide)).cell 4⟩)
   (first | (go_at_call 101; refine HZ2.out.mono ?_; rintro e w3 ⟨rfl, q1, q2, q3⟩)) | fail
 all_goals
  have hw3 : Wbox b gw w3 := Blk.othW (W := w2.drew) hw2 q3 d0 (by decide)
  have k0 : w3.cell? ⟨gw, 0, none⟩ = some (.pointer (some ⟨b, 0, none⟩)) := Blk.cell hw3 0
  have HB := hid (zbs B b Q _ [125] w3 q1 (Nat.le_trans (Nat.le_trans hB1 f2.size) q2.size) (by simp only [List.length_append, List.length_cons, List.length_nil]; omega) ⟨#[125]⟩ rfl)
  go_wp2_with fail
  refine HB.out.mono ?_
  rintro e w4 ⟨rfl, r1, r2, r3⟩
  go_wp2_with fail
  go_end0
  refine ⟨rfl, ?_, (Below.drew (Below.refl B W)).trans (g2.trans (f2.trans ((Below.drew (Below.refl B w2)).trans (q2.trans r2)))), (OthW.trans3 g3 f3 q3).trans2 r3⟩
  have e9 : l ++ (tt x ++ [32, 105, 110, 32, 123] ++ cms (ks.map tt) ++ [125]) = l ++ tt x ++ [32, 105, 110, 32, 123] ++ cms (ks.map tt) ++ [125] := by simp only [List.append_assoc]
  exact e9 ▸ r1
end Go.Proofs.YtekkapgknohadaaGreatDoor
