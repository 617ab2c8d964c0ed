/-
  The parser's reader: the comparisons.
-/
import Derived.Test.YtminghdnclpocaaGreatDoorPbE
namespace Go.Proofs.YtminghdnclpocaaGreatDoor
open Go.RowKit Go.Shelf
set_option linter.unusedVariables false

theorem idx_bs (t : Pa.Tx) : ∀ (l : List Pa.Tx) (i : Nat), Lib.idxFromS (l.map bs) (bs t) i = (match l.findIdx? (fun s => s == t) with
    | some k => ((i + k : Nat) : Int)
    | none => -1)
  | [], i => rfl
  | a :: l, i => by
    rw [List.map_cons, Lib.idxFromS, List.findIdx?_cons]
    by_cases h : a = t
    · subst h; simp
    · have h2 : ¬ bs a = bs t := fun e => h (bs_inj.1 e)
      have h3 : (a == t) = false := by simpa using h
      rw [if_neg h2, idx_bs t l (i + 1), h3]
      cases hf : l.findIdx? (fun s => s == t) with
      | none => simp
      | some k =>
        show ((i + 1 + k : Nat) : Int) = ((i + (k + 1) : Nat) : Int)
        congr 1
        omega
abbrev cmpsV : List Value := [.string ⟨#[61]⟩, .string ⟨#[33, 61]⟩, .string ⟨#[60]⟩, .string ⟨#[60, 61]⟩, .string ⟨#[62]⟩, .string ⟨#[62, 61]⟩]
abbrev icmps (g : Nat) : It := iblk g 9 cmpsV
theorem cmps_cells {W : World} {g : Nat} (h : Blk W g 9 cmpsV) : ∀ j, j < (Pa.cmps.map bs).length → W.cell? ⟨g, 0 + j, none⟩ = some (.string ((Pa.cmps.map bs).getD j ByteArray.empty)) := by
  intro j hj
  rw [Nat.zero_add, h.cell j]
  have hj : j < 6 := hj
  match j, hj with
  | 0, _ => rfl
  | 1, _ => rfl
  | 2, _ => rfl
  | 3, _ => rfl
  | 4, _ => rfl
  | 5, _ => rfl
theorem cmps_take : (Pa.cmps.map bs).take 6 = Pa.cmps.map bs := rfl
def cmpT (t : Pa.Tx) : Option Nat := Pa.cmps.findIdx? fun s => s == t
theorem contains_any (t : Pa.Tx) (g : Nat) (W : World) (h : Blk W g 9 cmpsV) : Calls Tryz.prog 44 #[.slice (some ⟨g, 0, none⟩) 6 6, .string (bs t)] W fun e w' => e = .returned (.bool (cmpT t).isSome) ∧ w' = W := by
  refine (Tryz.slices_Contains_string g 0 6 6 (Pa.cmps.map bs) (bs t) W (by decide) (by decide) (cmps_cells h)).mono ?_
  rintro e w' ⟨rfl, rfl⟩
  refine ⟨?_, rfl⟩
  refine ret_bool ?_
  rw [cmps_take, Lib.containsS, Lib.idxOfS, idx_bs]
  show _ = (cmpT t).isSome
  unfold cmpT
  cases Pa.cmps.findIdx? (fun s => s == t) with
  | none => rfl
  | some k => simp
theorem index_any (t : Pa.Tx) (k : Nat) (hk : cmpT t = some k) (g : Nat) (W : World) (h : Blk W g 9 cmpsV) : Calls Tryz.prog 87 #[.slice (some ⟨g, 0, none⟩) 6 6, .string (bs t)] W fun e w' => e = .returned (.int .i64 (k : Int)) ∧ w' = W := by
  refine (Tryz.slices_Index_string g 0 6 6 (Pa.cmps.map bs) (bs t) W (by decide) (by decide) (cmps_cells h)).mono ?_
  rintro e w' ⟨rfl, rfl⟩
  refine ⟨?_, rfl⟩
  refine ret_int ?_
  rw [cmps_take, Lib.idxOfS, idx_bs]
  unfold cmpT at hk
  rw [hk]
  simp
set_option maxRecDepth 20000 in
set_option maxHeartbeats 4000000 in
theorem comparisons_any (W : World) : Calls Tryz.prog 113 #[] W fun e w' => e = .returned (.slice (some ⟨W.heap.size, 0, none⟩) 6 6) ∧ Hp [] W [icmps W.heap.size] w' := by
  go_enter Tryz.func113, Tryz.ntmps113
  go_wp2_with fail
  go_ret
  exact ⟨rfl, (Hp.start W).new 9 cmpsV⟩
theorem cmpOf_eq (t : Lx.Tok) (q : List Lx.Tok) : Pa.cmpOf (t :: q) = if t.kind == 2 then cmpT t.text else none := rfl
end Go.Proofs.YtminghdnclpocaaGreatDoor
