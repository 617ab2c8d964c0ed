/-
  Walks over dominoref01: Mul, DivMod, Common, Gcd, twos, Sqrt.
-/
import Derived.Test.YtchnjdiolnpabaaRef8
import Derived.Test.YtchnjdiolnpabaaNat5
namespace Go.Proofs.Ytchnjdiolnpabaa
open Go.RowKit
set_option linter.unusedVariables false

set_option maxHeartbeats 1000000 in
theorem ref_Mul_any (s t : ByteArray) (w : World) (h1 : s.size ≤ 1073741824) (h2 : t.size ≤ 1073741824) :
    Calls Try.prog 13 #[.string s, .string t] w fun e w' => e = .returned (mulV (tl s) (tl t)) ∧ Below w.heap.size w w' := by
  cases hs : validB (tl s) with
  | false =>
    have HS := Lib.hid hs
    clear hs
    go_enter Try.func13, Try.ntmps13
    go_wp2_with fail
    refine (ref_valid_at s false _ h1 HS.out).mono ?_
    rintro e w' ⟨rfl, rfl⟩
    go_wp2_with fail
    go_ret2
    exact ⟨by rw [mulV, HS.out]; rfl, Below.refl _ _⟩
  | true =>
    have hs1 := validB_size hs
    have HS := Lib.hid hs
    clear hs
    cases ht : validB (tl t) with
    | false =>
      have HT := Lib.hid ht
      clear ht
      go_enter Try.func13, Try.ntmps13
      go_wp2_with fail
      refine (ref_valid_at s true _ h1 HS.out).mono ?_
      rintro e w' ⟨rfl, rfl⟩
      go_wp2_with fail
      refine (ref_valid_at t false _ h2 HT.out).mono ?_
      rintro e w' ⟨rfl, rfl⟩
      go_wp2_with fail
      go_ret2
      exact ⟨by rw [mulV, HS.out, HT.out]; rfl, Below.refl _ _⟩
    | true =>
      have ht1 := validB_size ht
      have HT := Lib.hid ht
      clear ht
      obtain ⟨fr, fe, hf⟩ := fitV_form (Dm.str (Dm.val (tl s) * Dm.val (tl t)))
      have HF := Lib.hid hf
      have hl : (bs (Dm.str (Dm.val (tl s) * Dm.val (tl t)))).size ≤ 1073741824 := by
        rw [size_bs]
        have h3 : (Dm.str (Dm.val (tl s) * Dm.val (tl t))).length ≤ s.size + t.size := Dm.length_str_le.2 (by
          rw [Nat.pow_add]
          exact Nat.mul_lt_mul'' (by rw [← length_tl]; exact Dm.val_lt _) (by rw [← length_tl]; exact Dm.val_lt _))
        omega
      clear hf
      go_enter Try.func13, Try.ntmps13
      go_wp2_with fail
      refine (ref_valid_at s true _ h1 HS.out).mono ?_
      rintro e w' ⟨rfl, rfl⟩
      go_wp2_with fail
      refine (ref_valid_at t true _ h2 HT.out).mono ?_
      rintro e w' ⟨rfl, rfl⟩
      go_wp2_with fail
      refine (ref_Times_any s t _ (by omega) (by omega)).mono ?_
      rintro e w' ⟨rfl, hb⟩
      go_wp2_with fail
      refine (ref_fit_any _ _ hl).mono ?_
      rintro e w2 ⟨rfl, rfl⟩
      rw [tl_bs, HF.out]
      go_wp2_with fail
      go_ret2
      exact ⟨by rw [mulV, HS.out, HT.out, if_pos (show (true && true) = true from rfl), HF.out]; rfl, hb⟩
set_option maxHeartbeats 1000000 in
theorem ref_DivMod_any (s t : ByteArray) (w : World) (h1 : s.size ≤ 1073741824) (h2 : t.size ≤ 1073741824) :
    Calls Try.prog 15 #[.string s, .string t] w fun e w' => e = .returned (dmV (tl s) (tl t)) ∧ Below w.heap.size w w' := by
  cases hs : validB (tl s) with
  | false =>
    have HS := Lib.hid hs
    clear hs
    go_enter Try.func15, Try.ntmps15
    go_wp2_with fail
    refine (ref_valid_at s false _ h1 HS.out).mono ?_
    rintro e w' ⟨rfl, rfl⟩
    go_wp2_with fail
    go_ret3
    exact ⟨by rw [dmV, HS.out]; rfl, Below.refl _ _⟩
  | true =>
    have hs1 := validB_size hs
    have HS := Lib.hid hs
    clear hs
    cases ht : validB (tl t) with
    | false =>
      have HT := Lib.hid ht
      clear ht
      go_enter Try.func15, Try.ntmps15
      go_wp2_with fail
      refine (ref_valid_at s true _ h1 HS.out).mono ?_
      rintro e w' ⟨rfl, rfl⟩
      go_wp2_with fail
      refine (ref_valid_at t false _ h2 HT.out).mono ?_
      rintro e w' ⟨rfl, rfl⟩
      go_wp2_with fail
      go_ret3
      exact ⟨by rw [dmV, HS.out, HT.out]; rfl, Below.refl _ _⟩
    | true =>
      have ht1 := validB_size ht
      have HT := Lib.hid ht
      clear ht
      by_cases h0 : t.size = 0
      · obtain ⟨he1, he2⟩ := str_empty h0
        have HV := Lib.hid (val_empty h0)
        clear h0
        go_enter Try.func15, Try.ntmps15
        go_wp2_with fail
        refine (ref_valid_at s true _ h1 HS.out).mono ?_
        rintro e w' ⟨rfl, rfl⟩
        go_wp2_with fail
        refine (ref_valid_at t true _ h2 HT.out).mono ?_
        rintro e w' ⟨rfl, rfl⟩
        go_wp2_with fail
        go_ret3
        exact ⟨by rw [dmV, HS.out, HT.out, if_pos (show (true && true) = true from rfl), if_pos HV.out]; rfl, Below.refl _ _⟩
      · obtain ⟨he1, he2⟩ := str_full (s := t) (by omega)
        have HP := Lib.hid (val_pos (validB_canon HT.out) (show 0 < t.size by omega))
        clear h0
        go_enter Try.func15, Try.ntmps15
        go_wp2_with fail
        refine (ref_valid_at s true _ h1 HS.out).mono ?_
        rintro e w' ⟨rfl, rfl⟩
        go_wp2_with fail
        refine (ref_valid_at t true _ h2 HT.out).mono ?_
        rintro e w' ⟨rfl, rfl⟩
        go_wp2_with fail
        refine (ref_Over_any s t _ (validB_canon HS.out) (validB_canon HT.out) (by omega) (by omega) HP.out).mono ?_
        rintro e w1 ⟨rfl, hb1⟩
        simp only [divV]
        go_wp2_with fail
        go_ret3
        exact ⟨by rw [dmV, HS.out, HT.out, if_pos (show (true && true) = true from rfl), if_neg (by have := HP.out; omega)]; rfl, hb1⟩
set_option maxHeartbeats 1000000 in
theorem ref_Common_any (s t : ByteArray) (w : World) (hs : validB (tl s) = true) (ht : validB (tl t) = true) :
    Calls Try.prog 43 #[.string s, .string t] w fun e w' => e = .returned (Sv (Dm.str (Nat.gcd (Dm.val (tl s)) (Dm.val (tl t))))) ∧ Below w.heap.size w w' := by
  have HS := Lib.hid hs
  have HT := Lib.hid ht
  clear hs ht
  go_enter Try.func43, Try.ntmps43
  go_wp2_with fail
  go_loopw [0, 1] (GcdRel 128 (Nat.gcd (Dm.val (tl s)) (Dm.val (tl t))) w) (fun _ y _ => numV y)
  case atStart => exact ⟨s, t, rfl, rfl, HS.out, HT.out, validB_size HS.out, validB_size HT.out, rfl, Below.refl _ _⟩
  case round =>
    obtain ⟨a, b, rfl, rfl, ha, hb, ha2, hb2, hg, hW⟩ := hrel
    have HA := Lib.hid ha
    have HB := Lib.hid hb
    have HG := Lib.hid hg
    clear ha hb hg
    by_cases h0 : b.size = 0
    · obtain ⟨he1, he2⟩ := str_empty h0
      have HV := Lib.hid (val_empty h0)
      clear h0
      go_wp2_with fail
      go_ret
      refine ⟨?_, hW⟩
      rw [← HG.out, HV.out, Nat.gcd_zero_right, Dm.str_val_canon (validB_canon HA.out), Sv, bs_tl]
      rfl
    · obtain ⟨he1, he2⟩ := str_full (s := b) (by omega)
      have HP := Lib.hid (val_pos (validB_canon HB.out) (show 0 < b.size by omega))
      clear h0
      go_wp2_with fail
      refine (ref_Over_any a b _ (validB_canon HA.out) (validB_canon HB.out) (by omega) (by omega) HP.out).mono ?_
      rintro e w1 ⟨rfl, hb1⟩
      simp only [divV]
      go_wp2_with fail
      go_roundw
      case rel =>
        have hm := Nat.mod_lt (Dm.val (tl a)) HP.out
        obtain ⟨hv1, hv2⟩ := validB_str_le HB.out (Nat.le_of_lt hm)
        refine ⟨b, bs (Dm.str (Dm.val (tl a) % Dm.val (tl b))), rfl, rfl, HB.out, by rw [tl_bs]; exact hv1, hb2, by rw [size_bs]; rw [length_tl] at hv2; omega, ?_, hW.trans (hb1.mono hW.size)⟩
        rw [tl_bs, Dm.val_str, ← HG.out, Nat.gcd_comm (Dm.val (tl b)) (Dm.val (tl a) % Dm.val (tl b)), ← Nat.gcd_rec, Nat.gcd_comm]
      case measure =>
        have hm := Nat.mod_lt (Dm.val (tl a)) HP.out
        simp only [numV]
        rw [tl_bs, Dm.val_str]
        exact hm
set_option maxHeartbeats 1000000 in
theorem ref_Gcd_any (s t : ByteArray) (w : World) (h1 : s.size ≤ 1073741824) (h2 : t.size ≤ 1073741824) :
    Calls Try.prog 17 #[.string s, .string t] w fun e w' => e = .returned (gcdV (tl s) (tl t)) ∧ Below w.heap.size w w' := by
  cases hs : validB (tl s) with
  | false =>
    have HS := Lib.hid hs
    clear hs
    go_enter Try.func17, Try.ntmps17
    go_wp2_with fail
    refine (ref_valid_at s false _ h1 HS.out).mono ?_
    rintro e w' ⟨rfl, rfl⟩
    go_wp2_with fail
    go_ret2
    exact ⟨by rw [gcdV, HS.out]; rfl, Below.refl _ _⟩
  | true =>
    have hs1 := validB_size hs
    have HS := Lib.hid hs
    clear hs
    cases ht : validB (tl t) with
    | false =>
      have HT := Lib.hid ht
      clear ht
      go_enter Try.func17, Try.ntmps17
      go_wp2_with fail
      refine (ref_valid_at s true _ h1 HS.out).mono ?_
      rintro e w' ⟨rfl, rfl⟩
      go_wp2_with fail
      refine (ref_valid_at t false _ h2 HT.out).mono ?_
      rintro e w' ⟨rfl, rfl⟩
      go_wp2_with fail
      go_ret2
      exact ⟨by rw [gcdV, HS.out, HT.out]; rfl, Below.refl _ _⟩
    | true =>
      have ht1 := validB_size ht
      have HT := Lib.hid ht
      clear ht
      go_enter Try.func17, Try.ntmps17
      go_wp2_with fail
      refine (ref_valid_at s true _ h1 HS.out).mono ?_
      rintro e w' ⟨rfl, rfl⟩
      go_wp2_with fail
      refine (ref_valid_at t true _ h2 HT.out).mono ?_
      rintro e w' ⟨rfl, rfl⟩
      go_wp2_with fail
      refine (ref_Common_any s t _ HS.out HT.out).mono ?_
      rintro e w' ⟨rfl, hb⟩
      go_wp2_with fail
      go_ret2
      exact ⟨by rw [gcdV, HS.out, HT.out, if_pos (show (true && true) = true from rfl)]; rfl, hb⟩
def TwosRel (i : Nat) (w : World) (k : Value) (wr : World) : Prop := ∃ K : Nat, K ≤ i % 8 ∧ k = .int .i64 (K : Int) ∧ Blk wr w.heap.size 5 (bvs (UInt8.ofNat (2 ^ K) :: List.replicate (i / 8) 0)) ∧ Below w.heap.size w wr
theorem two_cell (K : Nat) (hK : K < 8) : ((UInt8.ofNat (2 ^ K)).toNat : Int) = ((2 ^ K : Nat) : Int) := by
  obtain ⟨c, rfl, h⟩ := shl_one K hK
  rw [h]
theorem arr_one (m : Nat) : (Array.replicate (m + 1) (Value.int IntKind.u8 0)).setIfInBounds 0 (Value.int IntKind.u8 1) = (bvs (UInt8.ofNat (2 ^ 0) :: List.replicate m 0)).toArray := arr_pow m 0
theorem ref_Times_str (x y : Nat) (w : World) (h1 : (Dm.str x).length ≤ 500) (h2 : (Dm.str y).length ≤ 500) : Calls Try.prog 40 #[Sv (Dm.str x), Sv (Dm.str y)] w fun e w' => e = .returned (Sv (Dm.str (x * y))) ∧ Below w.heap.size w w' := by
  refine (ref_Times_any (bs (Dm.str x)) (bs (Dm.str y)) w (by rw [size_bs]; exact h1) (by rw [size_bs]; exact h2)).mono fun e w' ⟨he, hw⟩ => ⟨?_, hw⟩
  rw [he, tl_bs, tl_bs, Dm.val_str, Dm.val_str]
theorem pow2_str (i : Nat) : Dm.str (2 ^ i) = UInt8.ofNat (2 ^ (i % 8)) :: List.replicate (i / 8) 0 := by
  rw [← val_pow2 i, Dm.str_val_canon]
  obtain ⟨c, hc, h⟩ := shl_one (i % 8) (by omega)
  rw [← hc]
  have : c ≠ 0 := fun e => by rw [e] at h; have := Nat.two_pow_pos (i % 8); simp at h; omega
  simp [Dm.canon, this]
set_option maxHeartbeats 1000000 in
theorem ref_twos_any (i : Nat) (w : World) (hi : i ≤ 8000) :
    Calls Try.prog 48 #[.int .i64 (i : Int)] w fun e w' => e = .returned (Sv (Dm.str (2 ^ i))) ∧ Below w.heap.size w w' := by
  have hmk : ∀ w, (Instr.makeSlice 58 (.int .i64 ((i : Int) / 8 + 1)) (.int .i64 ((i : Int) / 8 + 1))).run Try.prog w = .ok (.slice (some ⟨w.heap.size, 0, none⟩) (i / 8 + 1) (i / 8 + 1)) (w.alloc (.cells (List.replicate (i / 8 + 1) (.int .u8 0)).toArray 5)) := fun w => by
    rw [show (i : Int) / 8 + 1 = ((i / 8 + 1 : Nat) : Int) from by omega]; exact make_bytes (i / 8 + 1) (by omega) w
  go_enter Try.func48, Try.ntmps48
  go_wp2_with fail
  clear hmk
  rw [arr_one]
  go_loopw [4] (TwosRel i w) (fun k _ => i % 8 - (intOf k).toNat)
  case atStart => exact ⟨0, by omega, rfl, Blk.new _ _ _, (Below.refl _ _).alloc (Nat.le_refl _) _⟩
  case round =>
    obtain ⟨K, hK, rfl, hB, hW⟩ := hrel
    by_cases hlt : K < i % 8
    · have hp : 2 ^ K ≤ 2 ^ 6 := Nat.pow_le_pow_right (by omega) (by omega)
      have HP : Hid (2 ^ (K + 1) = 2 ^ K * 2) := Nat.pow_succ ..
      have hcell : wr.cell? ⟨w.heap.size, 0, none⟩ = some (.int .u8 ((2 ^ K : Nat) : Int)) := by rw [hB.cell, ← two_cell K (by omega)]; rfl
      have hfr := hB.frozen 0
      have HT := Lib.hid (two_cell (K + 1) (by omega))
      generalize 2 ^ K = pj at *
      go_wp2_with fail
      go_roundw
      case rel =>
        refine ⟨K + 1, by omega, by go_num, ?_, hW.setCell (Nat.le_refl _) _⟩
        rw [show (pj : Int) * 2 = ((UInt8.ofNat (2 ^ (K + 1))).toNat : Int) from by rw [HT.out, HP.out]; omega]
        exact hB.set_ 0 _
      case measure => simp [intOf] <;> omega
    · obtain rfl : K = i % 8 := by omega
      have hcv := run_bytes_str (P := Try.prog) wr 58 22 5 (some ⟨w.heap.size, 0, none⟩) (UInt8.ofNat (2 ^ (i % 8)) :: List.replicate (i / 8) 0) (i / 8 + 1) Try.underlying58 Try.underlying5 Try.underlying22 hB.bytes
      rw [List.length_cons, List.length_replicate, ← pow2_str] at hcv
      go_wp2_with fail
      go_ret
      exact ⟨rfl, hW⟩
theorem cmpN_pos {a b : Nat} : 0 < Dm.cmpN a b ↔ b < a := by
  unfold Dm.cmpN
  by_cases h : a < b
  · rw [if_pos h]; omega
  · rw [if_neg h]
    by_cases h2 : b < a
    · rw [if_pos h2]; omega
    · rw [if_neg h2]; omega
def RSqRel (A : Nat) (w : World) (x i : Value) (wr : World) : Prop := ∃ I : Nat, I ≤ (Dm.nb A + 1) / 2 + 1 ∧ i = .int .i64 ((I : Int) - 1) ∧ x = Sv (Dm.str (Dm.rt A / 2 ^ I * 2 ^ I)) ∧ Below w.heap.size w wr
theorem len_pow {x k m : Nat} (h : x < 2 ^ k) (hk : k ≤ 8 * m) : (Dm.str x).length ≤ m := by
  rw [Dm.length_str_le, show (256 : Nat) = 2 ^ 8 from rfl, ← Nat.pow_mul]
  exact Nat.lt_of_lt_of_le h (Nat.pow_le_pow_right (by omega) hk)
theorem rsq_bounds {A i : Nat} (hA : Dm.nb A ≤ 1024) (hi : i ≤ (Dm.nb A + 1) / 2) : (Dm.str (Dm.rt A / 2 ^ (i + 1) * 2 ^ (i + 1))).length ≤ 100 ∧ (Dm.str (2 ^ i)).length ≤ 100 ∧ (Dm.str (Dm.rt A / 2 ^ (i + 1) * 2 ^ (i + 1) + 2 ^ i)).length ≤ 100 ∧ (Dm.str ((Dm.rt A / 2 ^ (i + 1) * 2 ^ (i + 1) + 2 ^ i) * (Dm.rt A / 2 ^ (i + 1) * 2 ^ (i + 1) + 2 ^ i))).length ≤ 200 := by
  have h1 := Dm.newton_start A
  have h2 : Dm.rt A / 2 ^ (i + 1) * 2 ^ (i + 1) ≤ Dm.rt A := Nat.div_mul_le_self _ _
  obtain ⟨K, hK⟩ : ∃ K, K = 512 := ⟨_, rfl⟩
  have h3 : 2 ^ ((Dm.nb A + 1) / 2) ≤ 2 ^ K := Nat.pow_le_pow_right (by omega) (by omega)
  have h4 : 2 ^ i ≤ 2 ^ K := Nat.pow_le_pow_right (by omega) (by omega)
  generalize Dm.rt A / 2 ^ (i + 1) * 2 ^ (i + 1) = x at *
  have h5 : x < 2 ^ K := by omega
  have h6 : x + 2 ^ i < 2 ^ (K + 1) := by rw [Nat.pow_succ]; omega
  have h7 : (x + 2 ^ i) * (x + 2 ^ i) < 2 ^ (K + 1 + (K + 1)) := by rw [Nat.pow_add]; exact Nat.mul_lt_mul'' h6 h6
  exact ⟨len_pow h5 (by omega), len_pow (k := K + 1) (by rw [Nat.pow_succ]; have := Nat.two_pow_pos K; omega) (by omega), len_pow h6 (by omega), len_pow h7 (by omega)⟩
set_option maxHeartbeats 1000000 in
theorem ref_Sqrt_any (s : ByteArray) (w : World) (h1 : s.size ≤ 1073741824) :
    Calls Try.prog 19 #[.string s] w fun e w' => e = .returned (sqrtV (tl s)) ∧ Below w.heap.size w w' := by
  cases hs : validB (tl s) with
  | false =>
    have HS := Lib.hid hs
    clear hs
    go_enter Try.func19, Try.ntmps19
    go_wp2_with fail
    refine (ref_valid_at s false _ h1 HS.out).mono ?_
    rintro e w' ⟨rfl, rfl⟩
    go_wp2_with fail
    go_ret2
    exact ⟨by rw [sqrtV, HS.out]; rfl, Below.refl _ _⟩
  | true =>
    have hs1 := validB_size hs
    have hnb := nb_le_1024 hs
    have HS := Lib.hid hs
    clear hs
    have hbits := fun W : World => ref_bits_any s W (by omega) (validB_canon HS.out)
    have HBITS := Lib.hid hbits
    have HSQ : Hid (sqrtV (tl s) = .tuple #[Sv (Dm.str (Dm.rt (Dm.val (tl s)))), .int .i64 0]) := by show _ = _; rw [sqrtV, HS.out]; rfl
    have hord := fun (x : Nat) (hx : (Dm.str x).length ≤ 1000) (W : World) => (ref_Order_any (bs (Dm.str x)) s W (by rw [tl_bs]; exact Dm.canon_str _) (validB_canon HS.out) (by rw [size_bs]; omega) (by omega)).mono (R' := fun e w' => e = .returned (.int .i64 (Dm.cmpN x (Dm.val (tl s)))) ∧ Below W.heap.size W w') fun e w' ⟨he, hw⟩ => ⟨by rw [he, tl_bs, Dm.val_str], hw⟩
    have HORD := Lib.hid hord
    clear hbits hord
    have HNS := Lib.hid (Dm.newton_start (Dm.val (tl s)))
    have hV := fun W : World => ref_valid_at s true W h1 HS.out
    have HV := Lib.hid hV
    clear hV
    generalize Dm.val (tl s) = A at *
    go_enter Try.func19, Try.ntmps19
    go_wp2_with fail
    refine (HV.out _).mono ?_
    rintro e w' ⟨rfl, rfl⟩
    go_wp2_with fail
    refine (HBITS.out _).mono ?_
    rintro e w' ⟨rfl, rfl⟩
    go_wp2_with fail
    go_loopw [4, 5] (RSqRel A w) (fun _ i _ => (intOf i + 1).toNat)
    case atStart => exact ⟨(Dm.nb A + 1) / 2 + 1, by omega, val_int (by omega), by rw [Nat.div_eq_of_lt (by rw [Nat.pow_succ]; have := HNS.out; omega), Nat.zero_mul]; rfl, Below.refl _ _⟩
    case round =>
      obtain ⟨I, hI, rfl, rfl, hW⟩ := hrel
      by_cases hI0 : I = 0
      · subst hI0
        rw [show (((0 : Nat) : Int) - 1) = -1 from by omega, Nat.pow_zero, Nat.div_one, Nat.mul_one]
        go_wp2_with fail
        go_ret2
        exact ⟨by rw [HSQ.out]; rfl, hW⟩
      · obtain ⟨i, rfl⟩ : ∃ i, I = i + 1 := ⟨I - 1, by omega⟩
        rw [show (((i + 1 : Nat) : Int) - 1) = (i : Int) from by omega]
        obtain ⟨l1, l2, l3, l4⟩ := rsq_bounds (i := i) hnb (by omega)
        have HST := Lib.hid (Dm.root_step A i)
        have hk := Kp.mk (w := w) (bl := []) (fun _ h => (List.not_mem_nil h).elim) hW
        clear hW
        generalize Dm.rt A / 2 ^ (i + 1) * 2 ^ (i + 1) = x at *
        go_wp2_with fail
        refine (ref_twos_any i _ (by omega)).mono ?_
        rintro e w1 ⟨rfl, hb1⟩
        have hk1 := hk.next hb1
        clear hk hb1
        go_wp2_with fail
        refine (ref_Plus_str x (2 ^ i) _ (by omega) (by omega)).mono ?_
        rintro e w2 ⟨rfl, hb2⟩
        have hk2 := hk1.next hb2
        clear hk1 hb2
        go_wp2_with fail
        refine (ref_Times_str (x + 2 ^ i) (x + 2 ^ i) _ (by omega) (by omega)).mono ?_
        rintro e w3 ⟨rfl, hb3⟩
        have hk3 := hk2.next hb3
        clear hk2 hb3
        go_wp2_with fail
        refine (HORD.out ((x + 2 ^ i) * (x + 2 ^ i)) (by omega) _).mono ?_
        rintro e w4 ⟨rfl, hb4⟩
        have hk4 := hk3.next hb4
        clear hk3 hb4
        by_cases hle : (x + 2 ^ i) * (x + 2 ^ i) ≤ A
        · have hcv : ¬ 0 < Dm.cmpN ((x + 2 ^ i) * (x + 2 ^ i)) A := fun h => by have := cmpN_pos.1 h; omega
          have hst := HST.out
          rw [if_pos hle] at hst
          have HST2 := Lib.hid hst
          clear hst hle
          generalize Dm.cmpN ((x + 2 ^ i) * (x + 2 ^ i)) A = cv at *
          have hcv' : cv ≤ 0 := by omega
          go_wp2_with fail
          go_roundw
          case rel => exact ⟨i, by omega, rfl, by rw [HST2.out], hk4.below⟩
          case measure => simp [intOf] <;> omega
        · have hcv : 0 < Dm.cmpN ((x + 2 ^ i) * (x + 2 ^ i)) A := cmpN_pos.2 (by omega)
          have hst := HST.out
          rw [if_neg hle, Nat.add_zero] at hst
          have HST2 := Lib.hid hst
          clear hst hle
          generalize Dm.cmpN ((x + 2 ^ i) * (x + 2 ^ i)) A = cv at *
          have hcv' : ¬ cv ≤ 0 := by omega
          go_wp2_with fail
          go_roundw
          case rel => exact ⟨i, by omega, rfl, by rw [HST2.out], hk4.below⟩
          case measure => simp [intOf] <;> omega
end Go.Proofs.Ytchnjdiolnpabaa
