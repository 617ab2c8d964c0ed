/-
  The walk of the law FoursquaresGreatest.
-/
import Derived.Test.YtdbhmhabgbfplaaFsLaw2
import Derived.Deep.QuietTactic
import Derived.BigQuiet
namespace Go.Proofs.Ytdbhmhabgbfplaa
open Go.RowKit
set_option linter.unusedVariables false

theorem FourW_str {n : Nat} (h : n < 4294967296) : FourW (Dm.str n) = .tuple #[.agg #[Sv (Dm.str (quadOf (Dm.four n)).1), Sv (Dm.str (quadOf (Dm.four n)).2.1), Sv (Dm.str (quadOf (Dm.four n)).2.2.1), Sv (Dm.str (quadOf (Dm.four n)).2.2.2)], .int .i64 0] := by
  rw [FourW, if_pos (errOf_str h), numOf_str h]; rfl
theorem ThreeW_str {n : Nat} (h : n < 4294967296) : ThreeW (Dm.str n) = .tuple #[.agg #[Sv (Dm.str (tripleOf (threeOf (Dm.str n))).1), Sv (Dm.str (tripleOf (threeOf (Dm.str n))).2.1), Sv (Dm.str (tripleOf (threeOf (Dm.str n))).2.2)], .bool (threeOf (Dm.str n)).isSome, .int .i64 0] := by
  rw [ThreeW, if_pos (errOf_str h)]
theorem threeOf_str {n : Nat} (h : n < 4294967296) : threeOf (Dm.str n) = if Dm.seven n then none else Dm.three n n := by
  rw [threeOf, numOf_str h]
theorem smallV_str {n : Nat} (h : n < 4294967296) : smallV (Dm.str n) = .tuple #[.int .u64 (n : Nat), .bool true] := by
  rw [smallV, validB_str h, Dm.val_str]
  have := length_str4 h
  rw [if_pos (by simp; omega)]
theorem cmpV_str {a b : Nat} (ha : a < 4294967296) (hb : b < 4294967296) : cmpV (Dm.str a) (Dm.str b) = Dm.cmpN a b := by
  rw [cmpV, validB_str ha, validB_str hb, Dm.val_str, Dm.val_str]; rfl
theorem quad_le {n : Nat} : (quadOf (Dm.four n)).1 * (quadOf (Dm.four n)).1 ≤ n := by
  unfold quadOf
  cases h : Dm.four n with
  | none => simp
  | some q =>
    have := (Dm.fourFrom_some h).1
    exact Dm.le_rt.1 this

theorem Kp.dN {w W : World} {bl : List (Nat × TypeId × List Value)} (h : Kp w bl W) (n : Nat) : Kp w bl (W.drewN n) := ⟨h.blk, ⟨h.below.os, h.below.tape, h.below.output, h.below.size, h.below.block⟩⟩
theorem Kp.drop {w W : World} {bl : List (Nat × TypeId × List Value)} (h : Kp w bl W) : Kp w [] W := ⟨fun _ h => (List.not_mem_nil h).elim, h.below⟩
def GreatRel (n : Nat) (w : World) (x : Value) (wr : World) : Prop := ∃ B : Nat, x = .int .u64 (B : Int) ∧ (quadOf (Dm.four n)).1 < B ∧ B ≤ 257 ∧ Kp w [] wr

set_option maxRecDepth 20000 in
set_option maxHeartbeats 1000000 in
theorem greatest_nat (n : Nat) (hn : n < 65536) (w : World) :
    Calls Try.prog 7 #[.int .u16 n] w fun e w' => e = .returned (.bool true) ∧ Below w.heap.size w w' := by
  have hq : (quadOf (Dm.four n)).1 < 256 := Dm.lt_of_sq_lt (b := 256) (Nat.lt_of_le_of_lt quad_le (by omega))
  have HF := Lib.hid (FourW_str (n := n) (by omega))
  have HS := Lib.hid (smallV_str (n := (quadOf (Dm.four n)).1) (by omega))
  have hqi : ¬ ((256 : Int) < ((quadOf (Dm.four n)).1 : Int)) := by omega
  go_enter Try.func7, Try.ntmps7
  go_wp2_with fail
  refine (of_at _ n _ rfl (by omega)).mono ?_
  rintro e w1 ⟨rfl, hb1⟩
  have hk1 := (Kp.start w).next hb1
  go_wp2_with fail
  refine (Four_any _ _ (by rw [size_bs]; have := length_str4 (n := n) (by omega); omega)).mono ?_
  rintro e w2 ⟨rfl, hb2⟩
  have hk2 := hk1.next hb2
  rw [tl_bs, HF.out]
  go_wp2_with fail
  refine (small_any _ _ (by rw [size_bs]; have := length_str4 (n := (quadOf (Dm.four n)).1) (by omega); omega)).mono ?_
  rintro e w3 ⟨rfl, rfl⟩
  rw [tl_bs, HS.out]
  go_wp2_with fail
  have hk3 := hk2.alloc (.cells #[Sv (Dm.str (quadOf (Dm.four n)).1), Sv (Dm.str (quadOf (Dm.four n)).2.1), Sv (Dm.str (quadOf (Dm.four n)).2.2.1), Sv (Dm.str (quadOf (Dm.four n)).2.2.2)] 36)
  clear hb1 hb2 hk1 hk2
  go_loopw [8] (GreatRel n w) (fun x _ => 258 - (intOf x).toNat)
  case atStart => exact ⟨(quadOf (Dm.four n)).1 + 1, by go_num, by omega, by omega, hk3⟩
  case round =>
    obtain ⟨B, rfl, hB, hB2, hk⟩ := hrel
    have hBB : B * B ≤ 257 * 257 := Nat.mul_le_mul hB2 hB2
    have hi : (B : Int) * (B : Int) ≤ 66049 := by rw [← Int.natCast_mul]; omega
    have hi0 : 0 ≤ (B : Int) * (B : Int) := Int.mul_nonneg (by omega) (by omega)
    by_cases hle : (B : Int) * (B : Int) ≤ (n : Int)
    · have hle' : B * B ≤ n := by rw [← Int.natCast_mul] at hle; omega
      have hB3 : B < 256 := Dm.lt_of_sq_lt (b := 256) (by omega)
      have hsub : (n : Int) - (B : Int) * (B : Int) = ((n - B * B : Nat) : Int) := by rw [← Int.natCast_mul]; omega
      have HU := Lib.hid hsub
      clear hsub
      have hm : n - B * B < 4294967296 := by omega
      have HT := Lib.hid (ThreeW_str hm)
      cases ho : threeOf (Dm.str (n - B * B)) with
      | none =>
        have HO := Lib.hid ho
        clear ho
        go_wp2_with fail
        refine (of_at _ (n - B * B) _ HU.out (by omega)).mono ?_
        rintro e w4 ⟨rfl, hb4⟩
        go_wp2_with fail
        refine (Three_any _ _ (by rw [size_bs]; have := length_str4 hm; omega)).mono ?_
        rintro e w5 ⟨rfl, hb5⟩
        rw [tl_bs, HT.out, HO.out]
        simp only [Option.isSome_none]
        have hk5 := (((hk.next hb4).next hb5).alloc (.cells #[Sv (Dm.str (tripleOf none).1), Sv (Dm.str (tripleOf none).2.1), Sv (Dm.str (tripleOf none).2.2)] 31))
        clear hb4 hb5 hk
        go_wp2_with fail
        go_quiet (fail)
        go_wp2_with fail
        go_roundw
        case rel => exact ⟨B + 1, by go_num, by omega, by omega, hk5.dN _⟩
        case measure => simp [intOf] <;> omega
      | some t =>
        have hgr : B < t.1 := by
          rw [threeOf_str hm] at ho
          cases h7 : Dm.seven (n - B * B) with
          | true => rw [h7] at ho; cases ho
          | false => rw [h7] at ho; exact Dm.four_greatest hB hle' h7 (by simpa using ho)
        have htl : t.1 < 4294967296 := by
          rw [threeOf_str hm] at ho
          have h3 : Dm.three (n - B * B) (n - B * B) = some t := by
            cases h7 : Dm.seven (n - B * B) with
            | true => rw [h7] at ho; cases ho
            | false => rw [h7] at ho; simpa using ho
          have h4 := Dm.three_some h3
          omega
        have HO := Lib.hid ho
        clear ho
        have hcmp : Dm.cmpN t.1 B = 1 := Dm.cmpN_gt hgr
        have HC : Hid (cmpV (Dm.str t.1) (Dm.str B) = 1) := by show _ = _; rw [cmpV_str htl (by omega)]; exact hcmp
        clear hcmp
        have hs1 : (bs (Dm.str t.1)).size ≤ 1073741824 := by rw [size_bs]; have := length_str4 htl; omega
        have hs2 : (bs (Dm.str B)).size ≤ 1073741824 := by rw [size_bs]; have := length_str4 (n := B) (by omega); omega
        have hcm : ∀ W, Calls Try.prog 19 #[Sv (Dm.str t.1), Sv (Dm.str B)] W fun e w' => e = .returned (.int .i64 1) ∧ W = w' := fun W =>
          (Cmp_any _ _ W hs1 hs2).mono fun e w' ⟨he, hw⟩ => ⟨by rw [he, tl_bs, tl_bs, HC.out], hw⟩
        have HCM := Lib.hid hcm
        clear hcm
        go_wp2_with fail
        refine (of_at _ (n - B * B) _ HU.out (by omega)).mono ?_
        rintro e w4 ⟨rfl, hb4⟩
        go_wp2_with fail
        refine (Three_any _ _ (by rw [size_bs]; have := length_str4 hm; omega)).mono ?_
        rintro e w5 ⟨rfl, hb5⟩
        rw [tl_bs, HT.out, HO.out]
        simp only [Option.isSome_some, tripleOf, Option.getD_some]
        have hk5 := (((hk.next hb4).next hb5).new 31 [Sv (Dm.str t.1), Sv (Dm.str t.2.1), Sv (Dm.str t.2.2)]).drew
        clear hb4 hb5 hk
        go_wp2_with fail
        generalize w5.heap.size = g at *
        generalize w5.alloc (.cells #[Sv (Dm.str t.1), Sv (Dm.str t.2.1), Sv (Dm.str t.2.2)] 31) = W at *
        go_region_held3 (fun w' => w'.cell? ⟨g, 0, none⟩ = some (Sv (Dm.str t.1))) (exact awake_cell (w := w) (bl := [(g, 31, [Sv (Dm.str t.1), Sv (Dm.str t.2.1), Sv (Dm.str t.2.2)])]) (by assumption) 0 0)
          (first | (go_at_call 17; refine (of_at _ B _ rfl (by omega)).mono ?_; rintro e wa ⟨rfl, hba⟩; have hk6 := Kp.next (w := w) (bl := [(g, 31, [Sv (Dm.str t.1), Sv (Dm.str t.2.1), Sv (Dm.str t.2.2)])]) (by assumption) hba) | (go_at_call 19; refine (HCM.out _).mono ?_; rintro e wb ⟨rfl, rfl⟩))
        go_wp2_with fail
        go_roundw
        case rel => exact ⟨B + 1, by go_num, by omega, by omega, Kp.drop (by assumption)⟩
        case measure => simp [intOf] <;> omega
    · go_wp2_with (first | (go_at_call 10; refine (awake_any _).mono ?_; rintro e w3 ⟨rfl, hb3⟩))
      go_ret
      exact ⟨rfl, (hk.next hb3).below⟩
theorem greatest_walk (a : Int) (ha : (Lit.int .u16 a).wf = true) (w : World) :
    Calls Try.prog 7 #[.int .u16 a] w fun e w' => e = .returned (.bool true) ∧ Below w.heap.size w w' := by
  have hx : 0 ≤ a ∧ a ≤ 65535 := by simpa [Lit.wf, IntKind.min, IntKind.max, IntKind.signed, IntKind.bits] using ha
  obtain ⟨n, rfl⟩ : ∃ n : Nat, a = n := ⟨a.toNat, by omega⟩
  exact greatest_nat n (by omega) w
end Go.Proofs.Ytdbhmhabgbfplaa
