/-
  The lexer: the table of classes.
-/
import Derived.Test.YtminghdnclpocaaGreatDoorLxW4
import Derived.Lib.SmallJoins
import Derived.Deep.Cut
namespace Go.Proofs.YtminghdnclpocaaGreatDoor
open Go.RowKit
set_option linter.unusedVariables false

def zeroL : List Value := List.replicate 256 (.int .u8 0)
/-- entries laid into a table -/
def putS (t : List Value) (l : List (Nat × Nat)) : List Value := l.foldl (fun t p => t.set p.1 (.int .u8 (p.2 : Int))) t
theorem putS_snoc (t : List Value) (l : List (Nat × Nat)) (i v : Nat) : putS t (l ++ [(i, v)]) = (putS t l).set i (.int .u8 (v : Int)) := by simp [putS]
theorem putS_len (t : List Value) (l : List (Nat × Nat)) : (putS t l).length = t.length := by
  induction l generalizing t with
  | nil => rfl
  | cons p l ih => show (putS (t.set p.1 _) l).length = _; rw [ih]; simp
def spL : List (Nat × Nat) := [(32, 1), (9, 1), (13, 1), (10, 1)]
def letL (k : Nat) : List (Nat × Nat) := (List.range k).flatMap fun i => [(97 + i, 2), (65 + i, 2)]
def digL2 (k : Nat) : List (Nat × Nat) := (List.range k).map fun i => (48 + i, 3)
theorem letL_succ (k : Nat) : letL (k + 1) = letL k ++ [(97 + k, 2)] ++ [(65 + k, 2)] := by simp [letL, List.range_succ]
theorem digL2_succ (k : Nat) : digL2 (k + 1) = digL2 k ++ [(48 + k, 3)] := by simp [digL2, List.range_succ]
def tab2 (k : Nat) : List Value := putS (putS zeroL spL) (letL k)
def tab3 (k : Nat) : List Value := putS (tab2 26) (digL2 k)
theorem tab_all : ((tab3 10).set 95 (.int .u8 4)).set 45 (.int .u8 5) = tabV := by kernel_rfl
theorem zeroL_len : zeroL.length = 256 := by rw [zeroL, List.length_replicate]
theorem some_at {t : List Value} (h : t.length = 256) {i : Nat} (hi : i < 256) : ∃ v, t[i]? = some v := ⟨t[i], List.getElem?_eq_getElem (by omega)⟩
def bytes4 : Array Value := #[.int .u8 32, .int .u8 9, .int .u8 13, .int .u8 10]
structure CL (w W : World) (t : List Value) : Prop where
  b0 : Blk W w.heap.size 73 zeroL
  b1 : Blk W (w.heap.size + 1) 73 t
  b2 : W.heap[w.heap.size + 1 + 1]? = some (.cells bytes4 5 (4, 5))
  below : Below w.heap.size w W
  len : t.length = 256
theorem CL.set {w W : World} {t : List Value} (h : CL w W t) (i : Nat) (v : Value) : CL w (W.setCell ⟨w.heap.size + 1, i, none⟩ v) (t.set i v) :=
  ⟨h.b0.far (by simp) _, h.b1.set_ i v, (Below.heap_setCell _ _ _ _ (by simp)).trans h.b2, h.below.setCell (by simp) _, by rw [List.length_set]; exact h.len⟩
theorem CL.start (w : World) : CL w (((w.alloc (.cells zeroL.toArray 73)).alloc (.cells zeroL.toArray 73)).alloc (.cells bytes4 5 (4, 5))) zeroL := by
  refine ⟨((Blk.new w _ _).alloc _).alloc _, ?_, ?_, ?_, zeroL_len⟩
  · have h := (Blk.new (w.alloc (.cells zeroL.toArray 73)) 73 zeroL).alloc (.cells bytes4 5 (4, 5))
    simpa using h
  · have h := heap_alloc_new ((w.alloc (.cells zeroL.toArray 73)).alloc (.cells zeroL.toArray 73)) (.cells bytes4 5 (4, 5))
    simpa using h
  · exact (((Below.refl _ _).alloc (Nat.le_refl _) _).alloc (by simp) _).alloc (by simp; omega) _
def R1 (w : World) (c i : Value) (W : World) : Prop := ∃ k : Nat, k ≤ 4 ∧ i = .int .i64 (k : Int) ∧ CL w W (putS zeroL (spL.take k))
def R2 (w : World) (c : Value) (W : World) : Prop := ∃ k : Nat, k ≤ 26 ∧ c = .int .i32 (97 + (k : Int)) ∧ CL w W (tab2 k)
def R3 (w : World) (c : Value) (W : World) : Prop := ∃ k : Nat, k ≤ 10 ∧ c = .int .i32 (48 + (k : Int)) ∧ CL w W (tab3 k)
theorem CL.cell {w W : World} {t : List Value} (h : CL w W t) (i : Nat) (hi : i < 256) : ∃ v, W.cell? ⟨w.heap.size + 1, i, none⟩ = some v := by
  obtain ⟨v, hv⟩ := some_at h.len hi
  exact ⟨v, (h.b1.cell i).trans hv⟩
theorem below_setRow {B : Nat} {w W : World} (h : Below B w W) {g : Nat} (hg : B ≤ g) (cs : Array Value) : Below B w (W.setRow g cs) :=
  h.trans ⟨rfl, rfl, rfl, by simp [World.setRow], fun k hk => by simp only [World.setRow, Array.getElem?_modify]; rw [if_neg (by omega)]⟩
set_option maxRecDepth 100000 in
theorem classes_any (w : World) : Calls Tryz.prog 26 #[] w fun e w' => e = .returned (.agg tabV.toArray) ∧ Below w.heap.size w w' := by
  have hz : ∀ W : World, (zeroValue 73).run Tryz.prog W = .ok (.agg zeroL.toArray) W := fun _ => by kernel_rfl
  have kc := _root_.Go.Joins.run_convert_bytes_const_at (P := Tryz.prog) ((w.alloc (.cells zeroL.toArray 73)).alloc (.cells zeroL.toArray 73)) 117 5 #[.int .u8 32, .int .u8 9, .int .u8 13, .int .u8 10] 4 4 (w.heap.size + 1 + 1) (by simp) Tryz.underlying117 Tryz.underlying5
  have h0 := CL.start w
  go_enter Tryz.func26, Tryz.ntmps26
  go_wp2_with fail
  unfold bytes4 at h0
  clear hz kc
  generalize ((w.alloc (.cells zeroL.toArray 73)).alloc (.cells zeroL.toArray 73)).alloc (.cells _ 5 (4, 5)) = W0 at *
  go_loopw [3, 9] (R1 w) (fun _ i _ => 4 - (intOf i).toNat)
  case atStart => exact ⟨0, by omega, rfl, h0⟩
  case round =>
    obtain ⟨k, hk, rfl, hC⟩ := hrel
    have hk' : k = 0 ∨ k = 1 ∨ k = 2 ∨ k = 3 ∨ k = 4 := by omega
    have d2 : ∀ j, wr.cell? ⟨w.heap.size + 1 + 1, j, none⟩ = bytes4[j]? := fun j => Joins.cell_of_block hC.b2 j
    rcases hk' with rfl | rfl | rfl | rfl | rfl
    · obtain ⟨v, hv⟩ := hC.cell 32 (by decide)
      have hf : wr.frozen? ⟨w.heap.size + 1, 32, none⟩ = false := hC.b1.frozen _
      have d3 : wr.cell? ⟨w.heap.size + 1 + 1, 0, none⟩ = some (.int .u8 32) := d2 0
      clear d2
      go_wp2_with fail
      go_roundw
      case rel => exact ⟨1, by decide, rfl, hC.set 32 (.int .u8 1)⟩
      case measure => simp [intOf]
    · obtain ⟨v, hv⟩ := hC.cell 9 (by decide)
      have hf : wr.frozen? ⟨w.heap.size + 1, 9, none⟩ = false := hC.b1.frozen _
      have d3 : wr.cell? ⟨w.heap.size + 1 + 1, 1, none⟩ = some (.int .u8 9) := d2 1
      clear d2
      go_wp2_with fail
      go_roundw
      case rel => exact ⟨2, by decide, rfl, hC.set 9 (.int .u8 1)⟩
      case measure => simp [intOf]
    · obtain ⟨v, hv⟩ := hC.cell 13 (by decide)
      have hf : wr.frozen? ⟨w.heap.size + 1, 13, none⟩ = false := hC.b1.frozen _
      have d3 : wr.cell? ⟨w.heap.size + 1 + 1, 2, none⟩ = some (.int .u8 13) := d2 2
      clear d2
      go_wp2_with fail
      go_roundw
      case rel => exact ⟨3, by decide, rfl, hC.set 13 (.int .u8 1)⟩
      case measure => simp [intOf]
    · obtain ⟨v, hv⟩ := hC.cell 10 (by decide)
      have hf : wr.frozen? ⟨w.heap.size + 1, 10, none⟩ = false := hC.b1.frozen _
      have d3 : wr.cell? ⟨w.heap.size + 1 + 1, 3, none⟩ = some (.int .u8 10) := d2 3
      clear d2
      go_wp2_with fail
      go_roundw
      case rel => exact ⟨4, by decide, rfl, hC.set 10 (.int .u8 1)⟩
      case measure => simp [intOf]
    · clear d2
      rw [show ((4 : Nat) : Int) = 4 from rfl]
      go_wp2_with fail
      go_loopw [4] (R2 w) (fun c _ => (123 - intOf c).toNat)
      case atStart => exact ⟨0, by omega, rfl, hC⟩
      case round =>
        clear hC
        obtain ⟨k, hk, rfl, hC⟩ := hrel
        by_cases hlt : k < 26
        · obtain ⟨v, hv⟩ := hC.cell (97 + k) (by omega)
          have hf : wr.frozen? ⟨w.heap.size + 1, 97 + k, none⟩ = false := hC.b1.frozen _
          obtain ⟨v2, hv2⟩ := hC.cell (k + 65) (by omega)
          have hf2 := hC.b1.frozen (k + 65)
          go_wp2_with fail
          go_roundw
          case rel =>
            refine ⟨k + 1, by omega, val_int (by omega), ?_⟩
            have h := (hC.set (97 + k) (.int .u8 2)).set (k + 65) (.int .u8 2)
            rw [show tab2 (k + 1) = ((tab2 k).set (97 + k) (.int .u8 2)).set (k + 65) (.int .u8 2) by unfold tab2; rw [letL_succ, putS_snoc, putS_snoc, Nat.add_comm 65 k]; rfl]
            exact h
          case measure => simp [intOf]; omega
        · have hk26 : k = 26 := by omega
          subst hk26
          rw [show (97 + ((26 : Nat) : Int)) = 123 from rfl]
          go_wp2_with fail
          go_loopw [5] (R3 w) (fun c _ => (58 - intOf c).toNat)
          case atStart => exact ⟨0, by omega, rfl, hC⟩
          case round =>
            clear hC
            obtain ⟨k, hk, rfl, hC⟩ := hrel
            by_cases hlt : k < 10
            · obtain ⟨v, hv⟩ := hC.cell (48 + k) (by omega)
              have hf : wr.frozen? ⟨w.heap.size + 1, 48 + k, none⟩ = false := hC.b1.frozen _
              go_wp2_with fail
              go_roundw
              case rel =>
                refine ⟨k + 1, by omega, val_int (by omega), ?_⟩
                have h := hC.set (48 + k) (.int .u8 3)
                rw [show tab3 (k + 1) = (tab3 k).set (48 + k) (.int .u8 3) by unfold tab3; rw [digL2_succ, putS_snoc]; rfl]
                exact h
              case measure => simp [intOf]; omega
            · have hk10 : k = 10 := by omega
              subst hk10
              rw [show (48 + ((10 : Nat) : Int)) = 58 from rfl]
              obtain ⟨v, hv⟩ := hC.cell 95 (by decide)
              have hf := hC.b1.frozen 95
              obtain ⟨v2, hv2⟩ := hC.cell 45 (by decide)
              have hf2 := hC.b1.frozen 45
              have hD := (hC.set 95 (.int .u8 4)).set 45 (.int .u8 5)
              rw [tab_all] at hD
              have HD := Lib.hid hD
              clear hD hC
              go_upto_region 16 with fail
              have hD := HD.out
              clear HD hv hf hv2 hf2
              generalize (wr.setCell ⟨w.heap.size + 1, 95, none⟩ (.int .u8 4)).setCell ⟨w.heap.size + 1, 45, none⟩ (.int .u8 5) = W5 at *
              have hsz : (Tryz.prog.info? 73).map (·.size) = some tabV.toArray.size := by kernel_rfl
              have hzz : zeroL.toArray.size = tabV.toArray.size := by kernel_rfl
              have h1c : tabV.toArray.all (·.oneCell') = true := by kernel_rfl
              go_wp2_with (first | (refine wpList_load_row rfl 73 (.tmp 1) rfl (w.heap.size + 1) rfl 73 tabV.toArray (0, 0) _ hD.b1 Tryz.underlying73 rfl hsz ?_) | (refine wpList_store_row rfl 73 (.tmp 0) (.tmp 34) rfl w.heap.size tabV.toArray rfl rfl 73 zeroL.toArray hD.b0 hsz hzz h1c ?_))
              refine bodyPost_ret (v := .agg tabV.toArray) (results_cell_row rfl _ _ w.heap.size 73 tabV.toArray (0, 0) _ rfl (setRow_heap W5 w.heap.size _ _ _ _ hD.b0) Tryz.underlying73 rfl hsz) rfl ⟨rfl, ?_⟩
              exact below_setRow hD.below (Nat.le_refl _) _
end Go.Proofs.YtminghdnclpocaaGreatDoor
