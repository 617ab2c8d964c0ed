/-
  Walks over dominoref01: Minus.
-/
import Derived.Test.YtlagcdgfmgkooaaDoorRef1
namespace Go.Proofs.YtlagcdgfmgkooaaDoor
open Go.RowKit
set_option linter.unusedVariables false

set_option maxHeartbeats 1000000 in
theorem ref_Minus_any (s t : ByteArray) (w : World) (h1 : s.size ≤ 100000) (ht : t.size ≤ s.size) (hv : Dm.val (tl t) ≤ Dm.val (tl s)) :
    Calls Tryd.prog 80 #[.string s, .string t] w fun e w' => e = .returned (Sv (Dm.str (Dm.val (tl s) - Dm.val (tl t)))) ∧ Below w.heap.size w w' := by
  have HA := Lib.hid (less_end (tl s) (tl t) hv (by rw [length_tl, length_tl]; exact ht))
  rw [length_tl] at HA
  have hmk := make_bytes s.size (by omega)
  clear hv
  go_enter Tryd.func80, Tryd.ntmps80
  go_wp2_with fail
  clear hmk
  go_loopw [7, 8] (LessRel (tl s) (tl t) s.size w) (fun _ i _ => s.size - (intOf i).toNat)
  case atStart => exact ⟨0, by omega, rfl, rfl, by rw [Dm.soFar_zero, bvs_zero]; exact Blk.new _ _ _, (Below.refl _ _).alloc (Nat.le_refl _) _⟩
  case round =>
    obtain ⟨k, hk, rfl, rfl, hB, hW⟩ := hrel
    by_cases hlt : k < s.size
    · obtain ⟨v, hcell⟩ : ∃ v, wr.cell? ⟨w.heap.size, s.size - 1 - k, none⟩ = some v := ⟨_, (hB.cell _).trans (bvs_at (by rw [Dm.length_be]; omega))⟩
      have hfr := hB.frozen (s.size - 1 - k)
      have hc := Dm.borC_le (digN (tl s)) (digN (tl t)) k
      have hd1 : (Dm.dig (tl s) k).toNat ≤ 255 := digN_le _ _
      have hd2 : (Dm.dig (tl t) k).toNat ≤ 255 := digN_le _ _
      have HC : Hid (Dm.borC (digN (tl s)) (digN (tl t)) (k + 1) = if (Dm.dig (tl s) k).toNat < (Dm.dig (tl t) k).toNat + Dm.borC (digN (tl s)) (digN (tl t)) k then 1 else 0) := rfl
      have HO : Hid ((Dm.subC (digN (tl s)) (digN (tl t)) k).toNat = (256 + (Dm.dig (tl s) k).toNat - ((Dm.dig (tl t) k).toNat + Dm.borC (digN (tl s)) (digN (tl t)) k)) % 256) := Dm.subC_toNat _ _ _
      have hrel2 : ∀ (W : World) (u : Int) (c : Int), W = wr.setCell ⟨w.heap.size, s.size - 1 - k, none⟩ (.int .u8 u) → u = ((Dm.subC (digN (tl s)) (digN (tl t)) k).toNat : Int) → c = (Dm.borC (digN (tl s)) (digN (tl t)) (k + 1) : Nat) → LessRel (tl s) (tl t) s.size w (.int .i64 c) (.int .i64 ((k : Int) + 1)) W := by
        intro W u c hWe hu hce
        subst hWe hu hce
        refine ⟨k + 1, by omega, by go_num, rfl, ?_, hW.setCell (Nat.le_refl _) _⟩
        rw [← Dm.soFar_set _ s.size k hlt, ← bvs_set]
        exact hB.set_ _ _
      have HR := Lib.hid hrel2
      clear hrel2
      by_cases hneg : ((Dm.dig (tl s) k).toNat : Int) - ((Dm.dig (tl t) k).toNat : Int) - (Dm.borC (digN (tl s)) (digN (tl t)) k : Int) < 0
      · go_wp2_with fail
        refine (ref_at_at s _ k _ rfl (by omega) (by omega)).mono ?_
        rintro e w' ⟨rfl, rfl⟩
        go_wp2_with fail
        refine (ref_at_at t _ k _ rfl (by omega) (by omega)).mono ?_
        rintro e w' ⟨rfl, rfl⟩
        go_wp2_with fail
        go_roundw
        case rel => exact HR.out _ _ _ rfl (by rw [HO.out]; omega) (by rw [HC.out, if_pos (by omega)]; rfl)
        case measure => simp [intOf] <;> omega
      · go_wp2_with fail
        refine (ref_at_at s _ k _ rfl (by omega) (by omega)).mono ?_
        rintro e w' ⟨rfl, rfl⟩
        go_wp2_with fail
        refine (ref_at_at t _ k _ rfl (by omega) (by omega)).mono ?_
        rintro e w' ⟨rfl, rfl⟩
        go_wp2_with fail
        go_roundw
        case rel => exact HR.out _ _ _ rfl (by rw [HO.out]; omega) (by rw [HC.out, if_neg (by omega)]; rfl)
        case measure => simp [intOf] <;> omega
    · obtain rfl : k = s.size := by omega
      go_wp2_with fail
      refine (ref_trim_blk _ _ (Dm.be (Dm.soFar (Dm.subC (digN (tl s)) (digN (tl t))) s.size) s.size) s.size _ (by rw [Dm.length_be]) (by omega) hB).mono ?_
      rintro e w' ⟨rfl, rfl⟩
      rw [Dm.soFar_all, HA.out]
      go_wp2_with fail
      go_ret
      exact ⟨rfl, hW⟩
end Go.Proofs.YtlagcdgfmgkooaaDoor
