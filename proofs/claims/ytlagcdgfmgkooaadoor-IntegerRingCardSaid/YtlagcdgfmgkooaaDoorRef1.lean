/-
  Walks over dominoref01: at, Small, fit, Plus.
-/
import Derived.Test.YtlagcdgfmgkooaaDoorNat6
namespace Go.Proofs.YtlagcdgfmgkooaaDoor
open Go.RowKit
set_option linter.unusedVariables false

theorem ref_at_any (s : ByteArray) (i : Nat) (w : World) (h1 : s.size ≤ 1073741824) (h2 : i ≤ 1073741824) :
    Calls Tryd.prog 92 #[.string s, .int .i64 i] w fun e w' => e = .returned (.int .i64 ((Dm.dig (tl s) i).toNat : Int)) ∧ w = w' := by
  by_cases h : i < s.size
  · have HD := Lib.hid (dig_at s i h)
    go_enter Tryd.func92, Tryd.ntmps92
    go_wp2
    go_ret
    refine ⟨ret_int ?_, rfl⟩
    rw [HD.out, wrap64_u8]
  · have HD := Lib.hid (dig_out s i (by omega))
    go_enter Tryd.func92, Tryd.ntmps92
    go_wp2
    go_ret
    exact ⟨ret_int (by rw [HD.out]; rfl), rfl⟩
theorem ref_at_at (s : ByteArray) (a : Int) (i : Nat) (w : World) (ha : a = i) (h1 : s.size ≤ 1073741824) (h2 : i ≤ 1073741824) :
    Calls Tryd.prog 92 #[.string s, .int .i64 a] w fun e w' => e = .returned (.int .i64 ((Dm.dig (tl s) i).toNat : Int)) ∧ w = w' := by
  subst ha
  exact ref_at_any s i w h1 h2
theorem ref_trim_blk (g : Nat) (t : TypeId) (l : List UInt8) (n : Nat) (w : World) (hn : l.length = n) (hl : n ≤ 1073741824) (hb : Blk w g t (bvs l)) :
    Calls Tryd.prog 88 #[.slice (some ⟨g, 0, none⟩) n n] w fun e w' => e = .returned (Sv (Dm.trim l)) ∧ w = w' :=
  ref_trim_any g 0 l n n w hn (Nat.le_refl _) hl (fun i hi => by rw [Nat.zero_add, hb.cell, bvs_at hi])
set_option maxHeartbeats 400000 in
theorem ref_fit_any (s : ByteArray) (w : World) (h1 : s.size ≤ 1073741824) :
    Calls Tryd.prog 77 #[.string s] w fun e w' => e = .returned (fitV (tl s)) ∧ w = w' := by
  by_cases h : s.size ≤ 128
  · have HF : Hid (fitV (tl s) = .tuple #[.string s, .int .i64 0]) := by show _ = _; rw [fitV, length_tl, if_pos h, Sv, bs_tl]
    go_enter Tryd.func77, Tryd.ntmps77
    go_wp2
    go_ret2
    exact ⟨by rw [HF.out]; rfl, rfl⟩
  · have HF : Hid (fitV (tl s) = .tuple #[Sv [], .int .i64 5]) := by show _ = _; rw [fitV, length_tl, if_neg h]
    go_enter Tryd.func77, Tryd.ntmps77
    go_wp2
    go_ret2
    exact ⟨by rw [HF.out]; rfl, rfl⟩
set_option maxHeartbeats 1000000 in
theorem ref_Plus_any (s t : ByteArray) (w : World) (h1 : s.size ≤ 100000) (h2 : t.size ≤ 100000) :
    Calls Tryd.prog 78 #[.string s, .string t] w fun e w' => e = .returned (Sv (Dm.str (Dm.val (tl s) + Dm.val (tl t)))) ∧ Below w.heap.size w w' := by
  obtain ⟨n, hn⟩ : ∃ n, max s.size t.size + 1 = n := ⟨_, rfl⟩
  have HA := Lib.hid (add_end (tl s) (tl t) n (by rw [length_tl, length_tl]; exact hn))
  have hmk : ∀ w, (Instr.makeSlice 93 (.int .i64 (max (s.size : Int) (t.size : Int) + 1)) (.int .i64 (max (s.size : Int) (t.size : Int) + 1))).run Tryd.prog w = .ok (.slice (some ⟨w.heap.size, 0, none⟩) n n) (w.alloc (.cells (List.replicate n (.int .u8 0)).toArray 5)) := fun w => by
    rw [show max (s.size : Int) (t.size : Int) + 1 = (n : Int) from by omega]; exact make_bytes n (by omega) w
  have hnl : n ≤ 100001 := by omega
  have hnp : 1 ≤ n := by omega
  have HN := Lib.hid hn
  clear hn
  go_enter Tryd.func78, Tryd.ntmps78
  go_wp2_with fail
  clear hmk
  rw [show max (s.size : Int) (t.size : Int) + 1 = (n : Int) from by have := HN.out; omega]
  go_loopw [7, 8] (AddRel (tl s) (tl t) n w) (fun _ i _ => n - (intOf i).toNat)
  case atStart => exact ⟨0, by omega, rfl, rfl, by rw [Dm.soFar_zero, bvs_zero]; exact Blk.new _ _ _, (Below.refl _ _).alloc (Nat.le_refl _) _⟩
  case round =>
    obtain ⟨k, hk, rfl, rfl, hB, hW⟩ := hrel
    by_cases hlt : k < n
    · obtain ⟨v, hcell⟩ : ∃ v, wr.cell? ⟨w.heap.size, n - 1 - k, none⟩ = some v := ⟨_, (hB.cell _).trans (bvs_at (by rw [Dm.length_be]; omega))⟩
      have hfr := hB.frozen (n - 1 - k)
      have hc := Dm.carryC_le (c := addC (tl s) (tl t)) (B := 2) (fun k => addC_le _ _ k) k
      have hd1 := (Dm.dig (tl s) k).toNat_lt
      have hd2 := (Dm.dig (tl t) k).toNat_lt
      have HC : Hid (Dm.carryC (addC (tl s) (tl t)) (k + 1) = (Dm.carryC (addC (tl s) (tl t)) k + ((Dm.dig (tl s) k).toNat + (Dm.dig (tl t) k).toNat)) / 256) := rfl
      have HO := Lib.hid (Dm.outC_toNat (addC (tl s) (tl t)) k)
      have HU : Hid (addC (tl s) (tl t) k = (Dm.dig (tl s) k).toNat + (Dm.dig (tl t) k).toNat) := rfl
      go_wp2_with fail
      refine (ref_at_at s _ k _ rfl (by omega) (by omega)).mono ?_
      rintro e w' ⟨rfl, rfl⟩
      go_wp2_with fail
      refine (ref_at_at t _ k _ rfl (by omega) (by omega)).mono ?_
      rintro e w' ⟨rfl, rfl⟩
      go_wp2_with fail
      go_roundw
      case rel =>
        refine ⟨k + 1, by omega, by go_num, val_int (by rw [HC.out]; omega), ?_, hW.setCell (Nat.le_refl _) _⟩
        have e : (((Dm.dig (tl s) k).toNat : Int) + ((Dm.dig (tl t) k).toNat : Int) + (Dm.carryC (addC (tl s) (tl t)) k : Int)) % 256 = ((Dm.outC (addC (tl s) (tl t)) k).toNat : Int) := by rw [HO.out, HU.out]; omega
        rw [e, ← Dm.soFar_set _ n k hlt, ← bvs_set]
        exact hB.set_ _ _
      case measure => simp [intOf] <;> omega
    · obtain rfl : k = n := by omega
      go_wp2_with fail
      refine (ref_trim_blk _ _ (Dm.be (Dm.soFar (Dm.outC (addC (tl s) (tl t))) k) k) k _ (by rw [Dm.length_be]) (by omega) hB).mono ?_
      rintro e w' ⟨rfl, rfl⟩
      rw [Dm.soFar_all, HA.out]
      go_wp2_with fail
      go_ret
      exact ⟨rfl, hW⟩
end Go.Proofs.YtlagcdgfmgkooaaDoor
