/-
  dominoref40.Keyword (as in XLxK, without the law's walk).
-/
import Derived.Test.YtogmhaihmkcjgaaGreatDoorPaT
namespace Go.Proofs.YtogmhaihmkcjgaaGreatDoor
open Go.RowKit
set_option linter.unusedVariables false

def kw16 : List ByteArray := (Lx.kws.take 16).map bs
theorem kw16_len : kw16.length = 16 := rfl
theorem kw_split (l : List UInt8) : Lx.kw l = ((Lx.kws.take 16).contains l || (l == [105, 110])) := by
  have h : Lx.kws = Lx.kws.take 16 ++ [[105, 110]] := rfl
  rw [Lx.kw]
  rw [h, List.contains_append, ← h, List.contains_cons, List.contains_nil, Bool.or_false]
def KwRel (s : ByteArray) (w : World) (g : Nat) (W0 : World) (i : Value) (W : World) : Prop := ∃ k : Nat, k ≤ 16 ∧ i = .int .i64 (k : Int) ∧ ((Lx.kws.take k).contains (tl s)) = false ∧ W = W0
theorem rkey_any (s : ByteArray) (w : World) (hs : s.size ≤ 1000000) : Calls Tryz.prog 152 #[.string s] w fun e w' => e = .returned (.bool (Lx.kw (tl s))) ∧ Below w.heap.size w w' := by
  go_enter Tryz.func152, Tryz.ntmps152
  go_wp2_with fail
  have hB := Blk.new w 9 (kw16.map Value.string)
  have hb := (Below.refl w.heap.size w).alloc (Nat.le_refl _) (.cells (kw16.map Value.string).toArray 9)
  have e : (kw16.map Value.string).toArray = #[.string ⟨#[112, 111, 108, 105, 99, 121]⟩, .string ⟨#[117, 115, 101, 115]⟩, .string ⟨#[114, 101, 118, 101, 97, 108]⟩, .string ⟨#[112, 114, 111, 118, 101]⟩, .string ⟨#[115, 99, 111, 112, 101]⟩, .string ⟨#[108, 105, 109, 105, 116]⟩, .string ⟨#[101, 115, 99, 114, 111, 119]⟩, .string ⟨#[101, 110, 100]⟩, .string ⟨#[97, 108, 108]⟩, .string ⟨#[97, 110, 121]⟩, .string ⟨#[97, 116, 108, 101, 97, 115, 116]⟩, .string ⟨#[110, 111, 116]⟩, .string ⟨#[116, 114, 117, 101]⟩, .string ⟨#[102, 97, 108, 115, 101]⟩, .string ⟨#[98, 101, 116, 119, 101, 101, 110]⟩, .string ⟨#[97, 110, 100]⟩] := rfl
  rw [e] at hB hb
  clear e
  generalize w.alloc (.cells _ 9) = W0 at *
  go_loopw [4] (KwRel s w w.heap.size W0) (fun i _ => 16 - (intOf i).toNat)
  case atStart => exact ⟨0, by omega, rfl, rfl, rfl⟩
  case round =>
    obtain ⟨k, hk, rfl, hc, rfl⟩ := hrel
    have HC := Lib.hid hc
    clear hc
    by_cases hlt : k < 16
    · have hx : ∃ x, kw16[k]? = some x := ⟨_, List.getElem?_eq_getElem (by rw [kw16_len]; exact hlt)⟩
      obtain ⟨x, hx⟩ := hx
      have c0 : wr.cell? ⟨w.heap.size, k, none⟩ = some (.string x) := by rw [hB.cell k]; simp [hx]
      have hk2 : k < (Lx.kws.take 16).length := hlt
      have hx2 : x = bs (Lx.kws.take 16)[k] := by
        rw [kw16, List.getElem?_map, List.getElem?_eq_getElem hk2] at hx
        simpa using hx.symm
      have hsn : (Lx.kws.take (k + 1)).contains (tl s) = ((Lx.kws.take k).contains (tl s) || (x.toList == s.toList)) := by
        have h17 : k < Lx.kws.length := Nat.lt_of_lt_of_le hlt (by decide)
        rw [List.take_succ_eq_append_getElem h17, List.contains_append, toList_tl, toList_tl, hx2, tl_bs, List.getElem_take]
        simp only [List.contains_cons, List.contains_nil, Bool.or_false]
        rw [Bool.beq_comm]
      rw [HC.out, Bool.false_or] at hsn
      have HS := Lib.hid hsn
      have HX := Lib.hid hx
      clear hsn hx hx2 hk2
      cases ht : (x.toList == s.toList) with
      | true =>
        go_wp2_with fail
        go_ret
        refine ⟨ret_bool ?_, hb⟩
        symm
        rw [kw_split, Bool.or_eq_true]
        left
        have h1 := HS.out
        rw [ht] at h1
        rw [List.contains_iff_mem] at h1 ⊢
        exact List.mem_of_mem_take (by rw [show Lx.kws.take (k + 1) = (Lx.kws.take 16).take (k + 1) by rw [List.take_take, Nat.min_eq_left (by omega)]] at h1; exact h1)
      | false =>
        go_wp2_with fail
        go_roundw
        case rel => exact ⟨k + 1, by omega, by simp, by rw [HS.out]; exact ht, rfl⟩
        case measure => simp [intOf]; omega
    · have hk16 : k = 16 := by omega
      subst hk16
      rw [show ((16 : Nat) : Int) = 16 from rfl]
      go_wp2_with fail
      go_ret
      refine ⟨ret_bool ?_, hb⟩
      rw [kw_split, HC.out, Bool.false_or, toList_tl]
end Go.Proofs.YtogmhaihmkcjgaaGreatDoor
