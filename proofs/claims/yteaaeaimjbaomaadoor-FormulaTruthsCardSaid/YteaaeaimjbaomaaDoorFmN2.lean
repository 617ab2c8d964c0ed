/-
  slices.Clone at []bool, []api.Gate, []int.
-/
import Derived.Test.YteaaeaimjbaomaaDoorHp
import Derived.Test.YteaaeaimjbaomaaDoorFmR3
import Derived.Lib.SliceRun
namespace Go.Proofs.YteaaeaimjbaomaaDoor
open Go.RowKit
set_option linter.unusedVariables false

theorem bool_info : (Tryd.prog.info? 4).map (fun i => (i.zero, i.size, i.bytes)) = some (some (.bool false), 1, 1) := by kernel_rfl
/-- a row that append has laid behind an empty one of the call's own -/
theorem clone_hp {w w1 : World} {e : TypeId} {k n : Nat} {v : Value} {xs : List Value} {o : Obj} (h : w1.ownsRow w.heap.size e k v n xs) (hg : (w.alloc o).grownBy w1 (some w.heap.size)) : Hp [] w [irow e k v n xs] w1 := by
  have hs : (w.alloc o).heap.size = w.heap.size + 1 := by simp
  have hsz := hg.size
  refine ⟨⟨fun x hx => ?_, ?_⟩, ⟨⟨hg.os, hg.tape, hg.output, by omega, fun k hk => absurd hk (Nat.not_lt_zero _)⟩, fun j hj _ => ?_, fun b hb => .inr ?_⟩⟩
  · rw [List.mem_singleton.1 hx]
    refine ⟨h.1, ?_⟩
    rcases h.2 with hn | ⟨g, cap, cur, hv, hb, rest⟩
    · exact .inl hn
    · exact .inr ⟨g, cap, cur, hv, Nat.zero_le _, rest⟩
  · show (v.ownBlock.toList ++ []).Nodup
    cases v.ownBlock <;> simp
  · rw [hg.block j (by omega) (fun h9 => by injection h9 with h9; omega)]
    exact Below.heap_alloc w o j hj
  · have hb' : v.ownBlock = some b := by simpa [irow, Option.mem_toList] using hb
    exact (h.lt b hb').1

set_option maxHeartbeats 2000000 in
theorem clone_bools (ad : Addr) (n c : Nat) (news : List Value) (hl : news.length = n * 1) (hn : n ≤ 1000000) (w : World) (hnews : ∀ j u, news[j]? = some u → w.cell? (ad.add j) = some u) (h1 : ∀ u ∈ news, u.oneCell' = true) (hb : news ≠ [] → ad.block < w.heap.size) :
    Calls Tryd.prog 57 #[.slice (some ad) n c] w fun e w' => ∃ v, e = .returned v ∧ Hp [] w [irow 4 1 v n news] w' := by
  obtain ⟨i0, hi0, hz0, hz1, hz2⟩ := info_parts bool_info
  have hq : ∀ (w : World) (a : Option Addr) (n c n' c' : Nat), (binOp .eql 31 (.slice a n c) (.slice none n' c')).run Tryd.prog w = .ok (.bool a.isNone) w := fun w a n c n' c' => Lib.run_eql_slice_nil w _ _ a n c n' c' Tryd.underlying31
  have hk : ∀ j u, news[j]? = some u → (w.alloc (.cells #[] 4)).cell? (ad.add j) = some u := fun j u hj => by
    rw [Below.cell (B := w.heap.size) ((Below.refl _ _).alloc (Nat.le_refl _) _) (by rw [add_block]; exact hb (by rintro rfl; simp at hj))]; exact hnews j u hj
  go_enter Tryd.func57, Tryd.ntmps57
  go_wp2_with (at_builtin; refine wpList_append_own _ rfl _ _ 31 rfl w.heap.size 4 i0 _ 1 1 Tryd.underlying31 hi0 hz0 hz1 hz2 rfl (by decide) _ _ _ rfl (World.ownsRow_made w #[] 0 (Nat.le_refl _) (Nat.zero_le _) rfl) ad n c news rfl ?qc1 ?qc2 ?qc3 ?qc4 ?qc5 ?qc6 ?_)
  case qc1 => exact hl
  case qc2 => exact hk
  case qc3 => exact h1
  case qc4 => unfold maxLen; omega
  case qc5 => omega
  case qc6 => simp
  intro v' w1 hown hgrow hnil
  go_wp2_with fail
  go_ret
  refine ⟨v', rfl, ?_⟩
  have h9 : w1.ownsRow w.heap.size 4 1 v' n news := by simpa using hown
  exact clone_hp h9 hgrow
set_option maxHeartbeats 1000000 in
theorem clone_bools_nil (n c : Nat) (w : World) : Calls Tryd.prog 57 #[.slice none n c] w fun e w' => e = .returned (.slice none 0 0) ∧ w' = w := by
  have hq : ∀ (w : World) (a : Option Addr) (n c n' c' : Nat), (binOp .eql 31 (.slice a n c) (.slice none n' c')).run Tryd.prog w = .ok (.bool a.isNone) w := fun w a n c n' c' => Lib.run_eql_slice_nil w _ _ a n c n' c' Tryd.underlying31
  go_enter Tryd.func57, Tryd.ntmps57
  go_wp2_with fail
  go_ret
  exact ⟨rfl, rfl⟩
set_option maxHeartbeats 2000000 in
theorem clone_gates (ad : Addr) (n c : Nat) (news : List Value) (hl : news.length = n * 3) (hn : n ≤ 1000000) (w : World) (hnews : ∀ j u, news[j]? = some u → w.cell? (ad.add j) = some u) (h1 : ∀ u ∈ news, u.oneCell' = true) (hb : news ≠ [] → ad.block < w.heap.size) :
    Calls Tryd.prog 63 #[.slice (some ad) n c] w fun e w' => ∃ v, e = .returned v ∧ Hp [] w [irow 40 3 v n news] w' := by
  obtain ⟨i0, hi0, hz0, hz1, hz2⟩ := info_parts gate_info
  have hq : ∀ (w : World) (a : Option Addr) (n c n' c' : Nat), (binOp .eql 22 (.slice a n c) (.slice none n' c')).run Tryd.prog w = .ok (.bool a.isNone) w := fun w a n c n' c' => Lib.run_eql_slice_nil w _ _ a n c n' c' Tryd.underlying22
  have hk : ∀ j u, news[j]? = some u → (w.alloc (.cells #[] 40)).cell? (ad.add j) = some u := fun j u hj => by
    rw [Below.cell (B := w.heap.size) ((Below.refl _ _).alloc (Nat.le_refl _) _) (by rw [add_block]; exact hb (by rintro rfl; simp at hj))]; exact hnews j u hj
  go_enter Tryd.func63, Tryd.ntmps63
  go_wp2_with (at_builtin; refine wpList_append_own _ rfl _ _ 22 rfl w.heap.size 40 i0 _ 3 40 Tryd.underlying22 hi0 hz0 hz1 hz2 rfl (by decide) _ _ _ rfl (World.ownsRow_made w #[] 0 (Nat.le_refl _) (Nat.zero_le _) rfl) ad n c news rfl ?qc1 ?qc2 ?qc3 ?qc4 ?qc5 ?qc6 ?_)
  case qc1 => exact hl
  case qc2 => exact hk
  case qc3 => exact h1
  case qc4 => unfold maxLen; omega
  case qc5 => omega
  case qc6 => simp
  intro v' w1 hown hgrow hnil
  go_wp2_with fail
  go_ret
  refine ⟨v', rfl, ?_⟩
  have h9 : w1.ownsRow w.heap.size 40 3 v' n news := by simpa using hown
  exact clone_hp h9 hgrow
set_option maxHeartbeats 1000000 in
theorem clone_gates_nil (n c : Nat) (w : World) : Calls Tryd.prog 63 #[.slice none n c] w fun e w' => e = .returned (.slice none 0 0) ∧ w' = w := by
  have hq : ∀ (w : World) (a : Option Addr) (n c n' c' : Nat), (binOp .eql 22 (.slice a n c) (.slice none n' c')).run Tryd.prog w = .ok (.bool a.isNone) w := fun w a n c n' c' => Lib.run_eql_slice_nil w _ _ a n c n' c' Tryd.underlying22
  go_enter Tryd.func63, Tryd.ntmps63
  go_wp2_with fail
  go_ret
  exact ⟨rfl, rfl⟩
set_option maxHeartbeats 2000000 in
theorem clone_ints (ad : Addr) (n c : Nat) (news : List Value) (hl : news.length = n * 1) (hn : n ≤ 1000000) (w : World) (hnews : ∀ j u, news[j]? = some u → w.cell? (ad.add j) = some u) (h1 : ∀ u ∈ news, u.oneCell' = true) (hb : news ≠ [] → ad.block < w.heap.size) :
    Calls Tryd.prog 38 #[.slice (some ad) n c] w fun e w' => ∃ v, e = .returned v ∧ Hp [] w [irow 3 1 v n news] w' := by
  obtain ⟨i0, hi0, hz0, hz1, hz2⟩ := info_parts int_info
  have hq : ∀ (w : World) (a : Option Addr) (n c n' c' : Nat), (binOp .eql 38 (.slice a n c) (.slice none n' c')).run Tryd.prog w = .ok (.bool a.isNone) w := fun w a n c n' c' => Lib.run_eql_slice_nil w _ _ a n c n' c' Tryd.underlying38
  have hk : ∀ j u, news[j]? = some u → (w.alloc (.cells #[] 3)).cell? (ad.add j) = some u := fun j u hj => by
    rw [Below.cell (B := w.heap.size) ((Below.refl _ _).alloc (Nat.le_refl _) _) (by rw [add_block]; exact hb (by rintro rfl; simp at hj))]; exact hnews j u hj
  go_enter Tryd.func38, Tryd.ntmps38
  go_wp2_with (at_builtin; refine wpList_append_own _ rfl _ _ 38 rfl w.heap.size 3 i0 _ 1 8 Tryd.underlying38 hi0 hz0 hz1 hz2 rfl (by decide) _ _ _ rfl (World.ownsRow_made w #[] 0 (Nat.le_refl _) (Nat.zero_le _) rfl) ad n c news rfl ?qc1 ?qc2 ?qc3 ?qc4 ?qc5 ?qc6 ?_)
  case qc1 => exact hl
  case qc2 => exact hk
  case qc3 => exact h1
  case qc4 => unfold maxLen; omega
  case qc5 => omega
  case qc6 => simp
  intro v' w1 hown hgrow hnil
  go_wp2_with fail
  go_ret
  refine ⟨v', rfl, ?_⟩
  have h9 : w1.ownsRow w.heap.size 3 1 v' n news := by simpa using hown
  exact clone_hp h9 hgrow
set_option maxHeartbeats 1000000 in
theorem clone_ints_nil (n c : Nat) (w : World) : Calls Tryd.prog 38 #[.slice none n c] w fun e w' => e = .returned (.slice none 0 0) ∧ w' = w := by
  have hq : ∀ (w : World) (a : Option Addr) (n c n' c' : Nat), (binOp .eql 38 (.slice a n c) (.slice none n' c')).run Tryd.prog w = .ok (.bool a.isNone) w := fun w a n c n' c' => Lib.run_eql_slice_nil w _ _ a n c n' c' Tryd.underlying38
  go_enter Tryd.func38, Tryd.ntmps38
  go_wp2_with fail
  go_ret
  exact ⟨rfl, rfl⟩
end Go.Proofs.YteaaeaimjbaomaaDoor
