/-
  Walk over dominoref01.Times.
-/
import Derived.Test.YtlagcdgfmgkooaaDoorRef6
import Derived.Test.YtlagcdgfmgkooaaDoorDivP
namespace Go.Proofs.YtlagcdgfmgkooaaDoor
open Go.RowKit
set_option linter.unusedVariables false

theorem make_intsN (n : Nat) (hn : n ≤ 1000000) : ∀ w, (Instr.makeSlice 105 (.int .i64 (n : Int)) (.int .i64 (n : Int))).run Tryd.prog w = .ok (.slice (some ⟨w.heap.size, 0, none⟩) n n) (w.alloc (.cells (List.replicate n (.int .i64 0)).toArray 3)) :=
  run_make_one 105 3 Tryd.underlying105 (.int .i64 0) rfl 8 (by kernel_rfl) n (by omega) (by omega)
def TmRel (a b : List UInt8) (g n : Nat) (w : World) (i : Value) (wr : World) : Prop :=
  ∃ (I : Nat) (f : Nat → Nat), I ≤ a.length ∧ i = .int .i64 (I : Int) ∧ Blk wr g 3 (ivs f (n + 1)) ∧ Below g w wr ∧ Dm.colsum f (a.length + b.length) = Dm.low a I * Dm.val b ∧ ∀ j, f j ≤ 65025 * I
def TmIn (a b : List UInt8) (g n I : Nat) (w : World) (k : Value) (wr : World) : Prop :=
  ∃ (K : Nat) (f : Nat → Nat), K ≤ b.length ∧ k = .int .i64 (K : Int) ∧ Blk wr g 3 (ivs f (n + 1)) ∧ Below g w wr ∧ Dm.colsum f (a.length + b.length) = Dm.low a I * Dm.val b + (Dm.dig a I).toNat * 256 ^ I * Dm.low b K ∧ (∀ j, f j ≤ 65025 * (I + 1)) ∧ ∀ j, I + K ≤ j → f j ≤ 65025 * I
def TmOut (f : Nat → Nat) (g g0 n : Nat) (w : World) (c i : Value) (wr : World) : Prop := ∃ k : Nat, k ≤ n ∧ i = .int .i64 (k : Int) ∧ c = .int .i64 (Dm.carryC f k : Nat) ∧ Blk wr g0 5 (bvs (Dm.be (Dm.soFar (Dm.outC f) k) n)) ∧ Blk wr g 3 (ivs f (n + 1)) ∧ Below g w wr
set_option maxRecDepth 20000 in
set_option maxHeartbeats 1000000 in
theorem ref_Times_short (s t : ByteArray) (w : World) (h : s.size + t.size ≤ 8) :
    Calls Tryd.prog 83 #[.string s, .string t] w fun e w' => e = .returned (Sv (Dm.str (Dm.val (tl s) * Dm.val (tl t)))) ∧ Below w.heap.size w w' := by
  have h1 := Dm.val_lt (tl s)
  have h2 := Dm.val_lt (tl t)
  rw [length_tl] at h1 h2
  have hm : Dm.val (tl s) * Dm.val (tl t) < 18446744073709551616 := by
    have h3 : Dm.val (tl s) * Dm.val (tl t) < 256 ^ s.size * 256 ^ t.size := Nat.mul_lt_mul'' h1 h2
    rw [← Nat.pow_add] at h3
    have h4 : (256 : Nat) ^ (s.size + t.size) ≤ 256 ^ 8 := Nat.pow_le_pow_right (by omega) h
    have : (256 : Nat) ^ 8 = 18446744073709551616 := rfl
    omega
  have hu1 := fun W : World => ref_u64_any s W (by omega)
  have hu2 := fun W : World => ref_u64_any t W (by omega)
  have HU1 := Lib.hid hu1
  have HU2 := Lib.hid hu2
  clear hu1 hu2 h1 h2
  have h8 : (s.size : Int) + (t.size : Int) ≤ 8 := by omega
  generalize Dm.val (tl s) = x at *
  generalize Dm.val (tl t) = y at *
  go_enter Tryd.func83, Tryd.ntmps83
  go_wp2_with fail
  refine (HU1.out _).mono ?_
  rintro e w' ⟨rfl, rfl⟩
  go_wp2_with fail
  refine (HU2.out _).mono ?_
  rintro e w' ⟨rfl, rfl⟩
  go_wp2_with fail
  refine (ref_of_at _ (x * y) _ (by rw [← Int.natCast_mul]) hm).mono ?_
  rintro e w' ⟨rfl, hb⟩
  go_wp2_with fail
  go_ret
  exact ⟨rfl, hb⟩
set_option maxRecDepth 20000 in
set_option maxHeartbeats 1000000 in
theorem ref_Times_long (s t : ByteArray) (w : World) (hs : s.size ≤ 500) (ht : t.size ≤ 500) (h : ¬ s.size + t.size ≤ 8) :
    Calls Tryd.prog 83 #[.string s, .string t] w fun e w' => e = .returned (Sv (Dm.str (Dm.val (tl s) * Dm.val (tl t)))) ∧ Below w.heap.size w w' := by
  obtain ⟨n, hn⟩ : ∃ n, s.size + t.size = n := ⟨_, rfl⟩
  have hmk : ∀ w, (Instr.makeSlice 105 (.int .i64 ((s.size : Int) + (t.size : Int) + 1)) (.int .i64 ((s.size : Int) + (t.size : Int) + 1))).run Tryd.prog w = .ok (.slice (some ⟨w.heap.size, 0, none⟩) (n + 1) (n + 1)) (w.alloc (.cells (List.replicate (n + 1) (.int .i64 0)).toArray 3)) := fun w => by
    rw [show (s.size : Int) + (t.size : Int) + 1 = ((n + 1 : Nat) : Int) from by omega]; exact make_intsN (n + 1) (by omega) w
  have hnl : n ≤ 1000 := by omega
  have h8 : ¬ (s.size : Int) + (t.size : Int) ≤ 8 := by omega
  have HN := Lib.hid hn
  clear hn
  go_enter Tryd.func83, Tryd.ntmps83
  go_wp2_with fail
  clear hmk
  rw [show (s.size : Int) + (t.size : Int) = (n : Int) from by have := HN.out; omega]
  go_loopw [7] (TmRel (tl s) (tl t) w.heap.size n w) (fun i _ => s.size - (intOf i).toNat)
  case atStart => exact ⟨0, fun _ => 0, by omega, rfl, by rw [ivs_zero]; exact Blk.new _ _ _, (Below.refl _ _).alloc (Nat.le_refl _) _, by rw [Dm.low_zero, Nat.zero_mul]; exact colsum_zero _, fun _ => Nat.zero_le _⟩
  case round =>
    obtain ⟨I, f, hI, rfl, hB, hW, hsum, hbd⟩ := hrel
    rw [length_tl] at hI
    have HSUM := Lib.hid hsum
    have HBD := Lib.hid hbd
    clear hsum hbd
    have hnn := HN.out
    by_cases hlt : I < s.size
    · clear hnn
      go_wp2_with fail
      obtain ⟨wo, rfl⟩ : ∃ wo : World, wo = wr := ⟨_, rfl⟩
      go_loopw [8] (TmIn (tl s) (tl t) w.heap.size n I w) (fun i _ => t.size - (intOf i).toNat)
      case atStart => exact ⟨0, f, by omega, rfl, hB, hW, by rw [Dm.low_zero, Nat.mul_zero, Nat.add_zero]; exact HSUM.out, fun j => Nat.le_trans (HBD.out j) (by omega), fun j _ => HBD.out j⟩
      case round =>
        obtain ⟨K, f2, hK, rfl, hB2, hW2, hsum2, hbd2, hbd3⟩ := hrel
        rw [length_tl] at hK
        have HS2 := Lib.hid hsum2
        have HB2 := Lib.hid hbd2
        have HB3 := Lib.hid hbd3
        clear hsum2 hbd2 hbd3
        by_cases hltk : K < t.size
        · have hIK : I + K < n + 1 := by have := HN.out; omega
          have hc := (hB2.cell (I + K)).trans (ivs_at hIK)
          have hfr := hB2.frozen (I + K)
          have hd1 := (Dm.dig (tl s) I).toNat_lt
          have hd2 := (Dm.dig (tl t) K).toNat_lt
          have hdg := fun W : World => ref_at_at t (K : Int) K W rfl (by omega) (by omega)
          have hdg0 := fun W : World => ref_at_at s (I : Int) I W rfl (by omega) (by omega)
          have HDG := Lib.hid hdg
          have HDG0 := Lib.hid hdg0
          clear hdg hdg0
          have hm : (Dm.dig (tl s) I).toNat * (Dm.dig (tl t) K).toNat ≤ 255 * 255 := Nat.mul_le_mul (by omega) (by omega)
          have hf2 := HB2.out (I + K)
          go_wp2_with fail
          have e1 : IntKind.i64.wrap ((I : Int) + (K : Int)) = (I : Int) + (K : Int) := IntWalk.i64_in _ (by omega)
          have hmi : ((Dm.dig (tl s) I).toNat : Int) * ((Dm.dig (tl t) K).toNat : Int) ≤ 65025 := by rw [← Int.natCast_mul]; omega
          have hmi0 : 0 ≤ ((Dm.dig (tl s) I).toNat : Int) * ((Dm.dig (tl t) K).toNat : Int) := Int.mul_nonneg (by omega) (by omega)
          have e3 : IntKind.i64.wrap (((Dm.dig (tl s) I).toNat : Int) * ((Dm.dig (tl t) K).toNat : Int)) = ((Dm.dig (tl s) I).toNat : Int) * ((Dm.dig (tl t) K).toNat : Int) := IntWalk.i64_in _ (by omega)
          have e4 : IntKind.i64.wrap ((f2 (I + K) : Int) + ((Dm.dig (tl s) I).toNat : Int) * ((Dm.dig (tl t) K).toNat : Int)) = (f2 (I + K) : Int) + ((Dm.dig (tl s) I).toNat : Int) * ((Dm.dig (tl t) K).toNat : Int) := IntWalk.i64_in _ (by omega)
          clear hm hf2 hmi hmi0
          have h5 : (0 : Int) ≤ (I : Int) + (K : Int) := by omega
          have h6 : (I : Int) + (K : Int) < (n : Int) + 1 := by omega
          have e2 : ((I : Int) + (K : Int)).toNat = I + K := by omega
          refine wp_region_still_tail 15 (by kernel_rfl) (by kernel_rfl) ?_
          simp only [List.take_succ_cons, List.take_zero, List.drop_succ_cons, List.drop_zero]
          repeat still_step
          still_call (still_of (HDG0.out _))
          repeat still_step
          still_call (still_of (HDG.out _))
          repeat still_step
          refine wpStill_nil ?_
          clear e1 e2 e3 e4
          change wpList _ _ _ _ _ wr.drew
          go_wp2_with fail
          go_roundw
          case rel =>
            have hm : (Dm.dig (tl s) I).toNat * (Dm.dig (tl t) K).toNat ≤ 255 * 255 := Nat.mul_le_mul (by omega) (by omega)
            have hset : ∀ j, j ≠ I + K → upd f2 (I + K) ((Dm.dig (tl s) I).toNat * (Dm.dig (tl t) K).toNat) j = f2 j := fun j hj => by simp [upd, hj]
            have hat : upd f2 (I + K) ((Dm.dig (tl s) I).toNat * (Dm.dig (tl t) K).toNat) (I + K) = f2 (I + K) + (Dm.dig (tl s) I).toNat * (Dm.dig (tl t) K).toNat := by simp [upd]
            refine ⟨K + 1, upd f2 (I + K) ((Dm.dig (tl s) I).toNat * (Dm.dig (tl t) K).toNat), by rw [length_tl]; omega, by go_num, ?_, (hW2.setCell (Nat.le_refl _) _).drew, ?_, ?_, ?_⟩
            · have e : ((f2 (I + K) : Int) + ((Dm.dig (tl s) I).toNat : Int) * ((Dm.dig (tl t) K).toNat : Int)) = ((upd f2 (I + K) ((Dm.dig (tl s) I).toNat * (Dm.dig (tl t) K).toNat) (I + K) : Nat) : Int) := by rw [hat, Int.natCast_add, Int.natCast_mul]
              rw [e, ← ivs_set hset]
              exact (hB2.set_ _ _).drew
            · rw [Dm.colsum_upd (f := f2) (p := I + K) (by rw [length_tl, length_tl]; omega) hat hset, HS2.out, Dm.low_succ, Nat.mul_add, Nat.pow_add]
              generalize (Dm.dig (tl s) I).toNat = x
              generalize (Dm.dig (tl t) K).toNat = y
              generalize 256 ^ I = p
              generalize 256 ^ K = q
              have : x * y * (p * q) = x * p * (y * q) := by grind
              omega
            · intro j
              by_cases hj : j = I + K
              · subst hj
                rw [hat]
                have := HB3.out (I + K) (Nat.le_refl _)
                omega
              · rw [hset j hj]; exact HB2.out j
            · intro j hj
              rw [hset j (by omega)]
              exact HB3.out j (by omega)
          case measure => simp [intOf] <;> omega
        · obtain rfl : K = t.size := by omega
          go_wp2_with fail
          go_roundw
          case rel =>
            refine ⟨I + 1, f2, by rw [length_tl]; omega, by go_num, hB2, hW2, ?_, HB2.out⟩
            have h1 := Dm.low_all (tl t)
            rw [length_tl] at h1
            rw [HS2.out, h1, Dm.low_succ, Nat.add_mul]
          case measure => simp [intOf] <;> omega
    · clear hnn
      obtain rfl : I = s.size := by omega
      have hlow := Dm.low_all (tl s)
      rw [length_tl] at hlow
      rw [hlow, length_tl, length_tl, HN.out] at HSUM
      clear hlow
      have hmk := make_bytes n (by omega)
      go_wp2_with fail
      clear hmk
      obtain ⟨wo, rfl⟩ : ∃ wo : World, wo = wr := ⟨_, rfl⟩
      have hgo := hB.lt
      go_loopw [10, 11] (TmOut f w.heap.size wo.heap.size n w) (fun _ i _ => n - (intOf i).toNat)
      case atStart => exact ⟨0, by omega, rfl, rfl, by rw [Dm.soFar_zero, bvs_zero]; exact Blk.new _ _ _, hB.alloc _, hW.alloc (by have := hB.lt; omega) _⟩
      case round =>
        obtain ⟨k, hk, rfl, rfl, hO, hB3, hW3⟩ := hrel
        by_cases hltk : k < n
        · obtain ⟨v, hcell⟩ : ∃ v, wr.cell? ⟨wo.heap.size, n - 1 - k, none⟩ = some v := ⟨_, (hO.cell _).trans (bvs_at (by rw [Dm.length_be]; omega))⟩
          have hfr := hO.frozen (n - 1 - k)
          have hcol := (hB3.cell k).trans (ivs_at (by omega))
          have hbk := HBD.out k
          have hc := Dm.carryC_le (c := f) (B := 255 * s.size) (fun k => by have := HBD.out k; omega) k
          have HC : Hid (Dm.carryC f (k + 1) = (Dm.carryC f k + f k) / 256) := rfl
          have HO := Lib.hid (Dm.outC_toNat f k)
          go_wp2_with fail
          go_roundw
          case rel =>
            refine ⟨k + 1, by omega, by go_num, val_int (by rw [HC.out]; omega), ?_, hB3.far (by simp; omega) _, hW3.setCell (by simp; omega) _⟩
            have e : ((f k : Int) + (Dm.carryC f k : Int)) % 256 = ((Dm.outC f k).toNat : Int) := by rw [HO.out]; omega
            rw [e, ← Dm.soFar_set _ n k hltk, ← bvs_set]
            exact hO.set_ _ _
          case measure => simp [intOf] <;> omega
        · obtain rfl : k = n := by omega
          go_wp2_with fail
          refine (ref_trim_blk _ _ (Dm.be (Dm.soFar (Dm.outC f) k) k) k _ (by rw [Dm.length_be]) (by omega) hO).mono ?_
          rintro e w' ⟨rfl, rfl⟩
          rw [Dm.soFar_all, Dm.trim_outC HSUM.out (by rw [← HN.out, Nat.pow_add]; exact Nat.mul_lt_mul'' (by rw [← length_tl]; exact Dm.val_lt _) (by rw [← length_tl]; exact Dm.val_lt _))]
          go_wp2_with fail
          go_ret
          exact ⟨rfl, hW3⟩
theorem ref_Times_any (s t : ByteArray) (w : World) (hs : s.size ≤ 500) (ht : t.size ≤ 500) :
    Calls Tryd.prog 83 #[.string s, .string t] w fun e w' => e = .returned (Sv (Dm.str (Dm.val (tl s) * Dm.val (tl t)))) ∧ Below w.heap.size w w' := by
  by_cases h : s.size + t.size ≤ 8
  · exact ref_Times_short s t w h
  · exact ref_Times_long s t w hs ht h
end Go.Proofs.YtlagcdgfmgkooaaDoor
