/-
  Walks over natural: Bits, Sqrt.
-/
import Derived.Test.YtchnjdiolnpabaaDoorNat8
import Derived.Test.YtchnjdiolnpabaaDoorRoot
namespace Go.Proofs.YtchnjdiolnpabaaDoor
open Go.RowKit
set_option linter.unusedVariables false

theorem bitLen_spec : ∀ c, c < 256 → 0 < c → 2 ^ (Lib.bitLen c - 1) ≤ c ∧ c < 2 ^ (Lib.bitLen c) ∧ 1 ≤ Lib.bitLen c ∧ Lib.bitLen c ≤ 8 := by decide +kernel
def bitsN (l : List UInt8) : Nat := if validB l then Dm.nb (Dm.val l) else 0
theorem bits_of (s : ByteArray) (hs : Dm.canon (tl s) = true) (h : 0 < s.size) : Dm.nb (Dm.val (tl s)) = 8 * (s.size - 1) + Lib.bitLen s[0].toNat ∧ 1 ≤ Lib.bitLen s[0].toNat ∧ Lib.bitLen s[0].toNat ≤ 8 := by
  have h1 := tl_cons s h
  have h2 : s[0] ≠ 0 := by rw [h1] at hs; simpa [Dm.canon] using hs
  have h3 : 0 < s[0].toNat := by
    have : s[0].toNat ≠ 0 := fun e => h2 (UInt8.toNat_inj.1 (by simpa using e))
    omega
  obtain ⟨a, b, c, d⟩ := bitLen_spec s[0].toNat s[0].toNat_lt h3
  refine ⟨?_, c, d⟩
  obtain ⟨k, hk⟩ : ∃ k, Lib.bitLen s[0].toNat = k + 1 := ⟨_, (Nat.sub_add_cancel c).symm⟩
  rw [hk] at a b ⊢
  have h5 : (tl s).tail.length = s.size - 1 := by rw [List.length_tail, length_tl]
  rw [h1, Dm.nb_bytes (k := k) (by simpa using a) b, h5]
set_option maxHeartbeats 1000000 in
theorem Bits_any (s : ByteArray) (w : World) (h1 : s.size ≤ 1073741824) :
    Calls Tryd.prog 31 #[.string s] w fun e w' => e = .returned (.int .i64 (bitsN (tl s) : Nat)) ∧ w = w' := by
  cases hs : validB (tl s) with
  | false =>
    have HS := Lib.hid hs
    clear hs
    go_enter Tryd.func31, Tryd.ntmps31
    go_wp2_with (first | (go_at_call 17; refine (valid_at s false _ h1 HS.out).mono ?_; rintro e w' ⟨rfl, rfl⟩))
    go_ret
    exact ⟨ret_int (by rw [bitsN, HS.out]; rfl), rfl⟩
  | true =>
    have HS := Lib.hid hs
    have hsz := validB_size hs
    clear hs
    by_cases h0 : s.size = 0
    · obtain ⟨he1, he2⟩ := str_empty h0
      have HV := Lib.hid (val_empty h0)
      clear h0
      go_enter Tryd.func31, Tryd.ntmps31
      go_wp2_with (first | (go_at_call 17; refine (valid_at s true _ h1 HS.out).mono ?_; rintro e w' ⟨rfl, rfl⟩))
      go_ret
      exact ⟨ret_int (by rw [bitsN, HS.out, HV.out]; rfl), rfl⟩
    · have hpos : 0 < s.size := by omega
      obtain ⟨he1, he2⟩ := str_full hpos
      obtain ⟨hb, hb1, hb2⟩ := bits_of s (validB_canon HS.out) hpos
      have HB := Lib.hid hb
      clear hb h0
      have hc := s[0].toNat_lt
      have hlen : ∀ W : World, Calls Tryd.prog 50 #[.int .u8 (s[0].toNat : Int)] W fun e w' => e = .returned (.int .i64 (Lib.bitLen s[0].toNat : Nat)) ∧ W = w' := fun W =>
        (Tryd.bits_Len8 (s[0].toNat : Int) W (by omega) (by omega)).mono fun e w' ⟨he, hw⟩ => ⟨by rw [he, Int.toNat_natCast], hw.symm⟩
      have HLN := Lib.hid hlen
      clear hlen
      go_enter Tryd.func31, Tryd.ntmps31
      go_wp2_with fail
      refine (valid_at s true _ h1 HS.out).mono ?_
      rintro e w' ⟨rfl, rfl⟩
      go_wp2_with fail
      refine (HLN.out _).mono ?_
      rintro e w' ⟨rfl, rfl⟩
      go_wp2_with fail
      go_ret
      exact ⟨ret_int (by rw [bitsN, HS.out, HB.out]; simp; omega), rfl⟩

/-- the bytes of a power of 2 -/
theorem val_pow2 (k : Nat) : Dm.val (UInt8.ofNat (2 ^ (k % 8)) :: List.replicate (k / 8) 0) = 2 ^ k := by
  have hz : ∀ m, Dm.val (List.replicate m 0) = 0 := fun m => by
    induction m with
    | zero => rfl
    | succ m ih => rw [List.replicate_succ, Dm.val_cons, ih]; simp
  rw [Dm.val_cons, hz, List.length_replicate, UInt8.toNat_ofNat']
  have h1 : 2 ^ (k % 8) ≤ 2 ^ 7 := Nat.pow_le_pow_right (by omega) (by omega)
  rw [Nat.mod_eq_of_lt (by have : (2 : Nat) ^ 7 = 128 := rfl; have : (2 : Nat) ^ 8 = 256 := rfl; omega)]
  rw [show (256 : Nat) = 2 ^ 8 from rfl, ← Nat.pow_mul, ← Nat.pow_add, Nat.add_zero, show k % 8 + 8 * (k / 8) = k from by omega]
theorem shl_one (k : Nat) (h : k < 8) : ∃ c : UInt8, c = UInt8.ofNat (2 ^ k) ∧ c.toNat = 2 ^ k := by
  refine ⟨_, rfl, ?_⟩
  rw [UInt8.toNat_ofNat']
  have h1 : 2 ^ k ≤ 2 ^ 7 := Nat.pow_le_pow_right (by omega) (by omega)
  exact Nat.mod_eq_of_lt (by have : (2 : Nat) ^ 7 = 128 := rfl; have : (2 : Nat) ^ 8 = 256 := rfl; omega)

theorem arr_pow (m k : Nat) : (Array.replicate (m + 1) (Value.int IntKind.u8 0)).setIfInBounds 0 (Value.int IntKind.u8 (2 ^ (k % 8) % 256)) = (bvs (UInt8.ofNat (2 ^ (k % 8)) :: List.replicate m 0)).toArray := by
  obtain ⟨c, hc, hc2⟩ := shl_one (k % 8) (by omega)
  rw [← hc]
  have e : ((2 : Int) ^ (k % 8) % 256) = (c.toNat : Int) := by
    rw [hc2]
    have h1 : 2 ^ (k % 8) ≤ 2 ^ 7 := Nat.pow_le_pow_right (by omega) (by omega)
    have h2 : (2 : Nat) ^ 7 = 128 := rfl
    have h3 : ((2 : Int) ^ (k % 8)) = ((2 ^ (k % 8) : Nat) : Int) := by rw [Int.natCast_pow]; rfl
    rw [h3]; omega
  rw [e]
  apply Array.ext'
  simp [bvs, List.replicate_succ]
theorem validB_short {n : Nat} (h : (Dm.str n).length ≤ 128) : validB (Dm.str n) = true := by
  unfold validB
  rw [Dm.canon_str]
  simp [h]
theorem sqrt_sizes {X q k m : Nat} (hk : k ≤ 4 * m) (hX : X ≤ 2 ^ k) (hq : q ≤ 2 ^ k + 2) : (Dm.str X).length ≤ m / 2 + 1 ∧ (Dm.str q).length ≤ m / 2 + 1 ∧ (Dm.str (X + q)).length ≤ m / 2 + 1 := by
  have hp : 0 < 2 ^ k := Nat.pow_pos (by omega)
  have h1 : X + q < 256 ^ (m / 2 + 1) := by
    have e : (256 : Nat) ^ (m / 2 + 1) = 2 ^ (8 * (m / 2 + 1)) := by rw [Nat.pow_mul]
    rw [e]
    have h2 : 2 ^ (k + 3) ≤ 2 ^ (8 * (m / 2 + 1)) := Nat.pow_le_pow_right (by omega) (by omega)
    have h3 : 2 ^ (k + 3) = 8 * 2 ^ k := by rw [Nat.pow_add]; omega
    omega
  exact ⟨Dm.length_str_le.2 (by omega), Dm.length_str_le.2 (by omega), Dm.length_str_le.2 h1⟩

def sqrtV (l : List UInt8) : Value := if validB l then .tuple #[Sv (Dm.str (Dm.rt (Dm.val l))), .int .i64 0] else .tuple #[Sv [], .int .i64 3]
def SqrtRel (a : Nat) (w : World) (x : Value) (wr : World) : Prop := ∃ X : Nat, x = Sv (Dm.str X) ∧ 0 < X ∧ Dm.rt a ≤ X ∧ X ≤ 2 ^ ((Dm.nb a + 1) / 2) ∧ Below w.heap.size w wr
set_option maxRecDepth 20000 in
set_option maxHeartbeats 1000000 in
theorem Sqrt_any (N : Nat) (hD : DivUpto N) (hN8 : 8 ≤ N) (s : ByteArray) (w : World) (h1 : s.size ≤ 1073741824) (hN : validB (tl s) = true → s.size ≤ N) :
    Calls Tryd.prog 15 #[.string s] w fun e w' => e = .returned (sqrtV (tl s)) ∧ Below w.heap.size w w' := by
  have HDD := Lib.hid hD
  have HN := Lib.hid hN
  clear hD hN
  cases hs : validB (tl s) with
  | false =>
    have HS := Lib.hid hs
    clear hs
    go_enter Tryd.func15, Tryd.ntmps15
    go_wp2_with (first | (go_at_call 17; refine (valid_at s false _ h1 HS.out).mono ?_; rintro e w' ⟨rfl, rfl⟩))
    go_ret2
    exact ⟨by rw [sqrtV, HS.out]; rfl, Below.refl _ _⟩
  | true =>
    have HS := Lib.hid hs
    have hsz := validB_size hs
    clear hs
    by_cases h0 : s.size = 0
    · obtain ⟨he1, he2⟩ := str_empty h0
      have HV := Lib.hid (val_empty h0)
      clear h0
      go_enter Tryd.func15, Tryd.ntmps15
      go_wp2_with (first | (go_at_call 17; refine (valid_at s true _ h1 HS.out).mono ?_; rintro e w' ⟨rfl, rfl⟩))
      go_ret2
      exact ⟨by rw [sqrtV, HS.out, HV.out]; rfl, Below.refl _ _⟩
    · have hpos : 0 < s.size := by omega
      obtain ⟨he1, he2⟩ := str_full hpos
      obtain ⟨hb, hb1, hb2⟩ := bits_of s (validB_canon HS.out) hpos
      have hbN : bitsN (tl s) = Dm.nb (Dm.val (tl s)) := by rw [bitsN, HS.out]; rfl
      have HBN := Lib.hid hbN
      have hnb : Dm.nb (Dm.val (tl s)) ≤ 8 * s.size := by omega
      clear hb hb1 hb2 h0 hbN
      obtain ⟨k, hk⟩ : ∃ k, (Dm.nb (Dm.val (tl s)) + 1) / 2 = k := ⟨_, rfl⟩
      have hk2 : k ≤ 4 * s.size := by omega
      obtain ⟨B, hB⟩ : ∃ B, Dm.nb (Dm.val (tl s)) = B := ⟨_, rfl⟩
      rw [hB] at HBN hnb hk
      have ek : ((B : Int) + 1) / 2 = (k : Int) := by omega
      have HK := Lib.hid hk
      have HB := Lib.hid hB
      clear hk hB
      have hmk : ∀ w, (Instr.makeSlice 43 (.int .i64 ((k : Int) / 8 + 1)) (.int .i64 ((k : Int) / 8 + 1))).run Tryd.prog w = .ok (.slice (some ⟨w.heap.size, 0, none⟩) (k / 8 + 1) (k / 8 + 1)) (w.alloc (.cells (List.replicate (k / 8 + 1) (.int .u8 0)).toArray 5)) := fun w => by
        rw [show (k : Int) / 8 + 1 = ((k / 8 + 1 : Nat) : Int) from by omega]; exact make_bytes (k / 8 + 1) (by omega) w
      have hc0 : ∀ W : World, (W.alloc (.cells (List.replicate (k / 8 + 1) (.int .u8 0)).toArray 5)).cell? ⟨W.heap.size, 0, none⟩ = some (.int .u8 0) := fun W => (Blk.new W _ _).cell 0
      have hf0 : ∀ W : World, (W.alloc (.cells (List.replicate (k / 8 + 1) (.int .u8 0)).toArray 5)).frozen? ⟨W.heap.size, 0, none⟩ = false := fun W => (Blk.new W _ _).frozen 0
      go_enter Tryd.func15, Tryd.ntmps15
      go_wp2_with fail
      refine (valid_at s true _ h1 HS.out).mono ?_
      rintro e w' ⟨rfl, rfl⟩
      go_wp2_with fail
      refine (Bits_any s _ h1).mono ?_
      rintro e w' ⟨rfl, rfl⟩
      rw [HBN.out]
      go_wp2_with fail
      clear hmk hc0 hf0
      rw [arr_pow]
      refine (trimmed_at _ (UInt8.ofNat (2 ^ (k % 8)) :: List.replicate (k / 8) 0) (k / 8 + 1) (k / 8 + 1) _ (by simp) (by omega) (by omega) (Blk.new w _ _).bytes).mono ?_
      rintro e w' ⟨rfl, rfl⟩
      rw [Dm.trim_eq_str (val_pow2 k)]
      go_wp2_with fail
      clear ek
      go_loopw [6] (SqrtRel (Dm.val (tl s)) w) (fun x _ => numV x)
      case atStart =>
        refine ⟨2 ^ k, rfl, Nat.pow_pos (by omega), ?_, ?_, (Below.refl _ _).alloc (Nat.le_refl _) _⟩
        · have := Dm.newton_start (Dm.val (tl s)); rw [HB.out, HK.out] at this; omega
        · rw [HB.out, HK.out]; exact Nat.le_refl _
      case round =>
        obtain ⟨X, rfl, hX0, hXr, hX2, hW⟩ := hrel
        rw [HB.out, HK.out] at hX2
        have hq := Dm.div_rt hXr hX0
        have hrk : Dm.rt (Dm.val (tl s)) < 2 ^ k := by have := Dm.newton_start (Dm.val (tl s)); rwa [HB.out, HK.out] at this
        obtain ⟨hl1, hl2, hl3⟩ := sqrt_sizes (X := X) (q := Dm.val (tl s) / X) (m := s.size) hk2 hX2 (by omega)
        have HQ := Lib.hid hq
        have HXR := Lib.hid hXr
        have HX2 := Lib.hid hX2
        clear hq hrk hX2 hXr
        have hvX : validB (tl (bs (Dm.str X))) = true := by rw [tl_bs]; exact validB_short (by omega)
        have hvq : validB (tl (bs (Dm.str (Dm.val (tl s) / X)))) = true := by rw [tl_bs]; exact validB_short (by omega)
        have hvs : validB (tl (bs (Dm.str (X + Dm.val (tl s) / X)))) = true := by rw [tl_bs]; exact validB_short (by omega)
        have hvy : validB (tl (bs (Dm.str ((X + Dm.val (tl s) / X) / 2)))) = true := by
          rw [tl_bs]
          refine validB_short (Nat.le_trans (Dm.length_str_le.2 (Nat.lt_of_le_of_lt (Nat.div_le_self _ _) (Dm.length_str_le.1 hl3))) (by omega))
        have hv2 : validB (tl (bs (Dm.str 2))) = true := by rw [tl_bs]; exact validB_short (by decide)
        have hdX : divV (tl s) (tl (bs (Dm.str X))) = .tuple #[Sv (Dm.str (Dm.val (tl s) / X)), Sv (Dm.str (Dm.val (tl s) % X))] := by rw [divV, tl_bs, Dm.val_str]
        have hd2 : divV (tl (bs (Dm.str (X + Dm.val (tl s) / X)))) (tl (bs (Dm.str 2))) = .tuple #[Sv (Dm.str ((X + Dm.val (tl s) / X) / 2)), Sv (Dm.str ((X + Dm.val (tl s) / X) % 2))] := by rw [divV, tl_bs, tl_bs, Dm.val_str, Dm.val_str]
        have had : addV (tl (bs (Dm.str X))) (tl (bs (Dm.str (Dm.val (tl s) / X)))) = .tuple #[Sv (Dm.str (X + Dm.val (tl s) / X)), .int .i64 0] := by
          rw [addV, hvX, hvq, tl_bs, tl_bs, Dm.val_str, Dm.val_str, if_pos (show (true && true) = true from rfl), fitV, if_pos (by omega)]
        have hcm := fun W : World => compare_any (bs (Dm.str ((X + Dm.val (tl s) / X) / 2))) (bs (Dm.str X)) W (validB_canon hvy) (validB_canon hvX) (by have := validB_size hvy; omega) (by have := validB_size hvX; omega)
        simp only [tl_bs, Dm.val_str] at hcm
        have HCM := Lib.hid hcm
        have HVX := Lib.hid hvX
        have HVQ := Lib.hid hvq
        have HVS := Lib.hid hvs
        have HV2 := Lib.hid hv2
        have HDX := Lib.hid hdX
        have HD2 := Lib.hid hd2
        have HAD := Lib.hid had
        have hszX := validB_size hvX
        have hszq := validB_size hvq
        have hszs := validB_size hvs
        clear hcm hvX hvq hvs hvy hv2 hdX hd2 had
        rw [size_bs] at hszX hszq hszs
        have hsN := HN.out HS.out
        by_cases hend : X ≤ (X + Dm.val (tl s) / X) / 2
        · have HE := Lib.hid (Dm.newton_end HXR.out hend)
          have hcv : 0 ≤ Dm.cmpN ((X + Dm.val (tl s) / X) / 2) X := by
            rcases Nat.lt_or_ge X ((X + Dm.val (tl s) / X) / 2) with h | h
            · rw [Dm.cmpN_gt h]; decide
            · rw [Dm.cmpN_eq (by omega)]; decide
          generalize Dm.cmpN ((X + Dm.val (tl s) / X) / 2) X = cv at *
          clear hend
          go_wp2_with fail
          refine (HDD.out s (bs (Dm.str X)) _ HS.out HVX.out hsN (by rw [tl_bs, Dm.val_str]; exact hX0)).mono ?_
          rintro e w1 ⟨rfl, hb1⟩
          rw [HDX.out]
          go_wp2_with fail
          refine (Add_any _ _ _ (by rw [size_bs]; omega) (by rw [size_bs]; omega)).mono ?_
          rintro e w2 ⟨rfl, hb2⟩
          rw [HAD.out]
          go_wp2_with fail
          refine (of_at _ 2 _ rfl (by omega)).mono ?_
          rintro e w3 ⟨rfl, hb3⟩
          go_wp2_with fail
          refine (HDD.out _ _ _ HVS.out HV2.out (by rw [size_bs]; omega) (by rw [tl_bs, Dm.val_str]; omega)).mono ?_
          rintro e w4 ⟨rfl, hb4⟩
          rw [HD2.out]
          go_wp2_with fail
          refine (HCM.out _).mono ?_
          rintro e w5 ⟨rfl, rfl⟩
          have hBB := (((Kp.mk (bl := []) (fun _ h => (List.not_mem_nil h).elim) hW).next hb1).next hb2 |>.next hb3 |>.next hb4).below
          clear hb1 hb2 hb3 hb4
          go_wp2_with fail
          go_ret2
          refine ⟨?_, hBB⟩
          rw [sqrtV, HS.out, if_pos rfl, ← HE.out]
          rfl
        · have hcv : Dm.cmpN ((X + Dm.val (tl s) / X) / 2) X = -1 := Dm.cmpN_lt (by omega)
          rw [hcv] at HCM
          clear hcv
          go_wp2_with fail
          refine (HDD.out s (bs (Dm.str X)) _ HS.out HVX.out hsN (by rw [tl_bs, Dm.val_str]; exact hX0)).mono ?_
          rintro e w1 ⟨rfl, hb1⟩
          rw [HDX.out]
          go_wp2_with fail
          refine (Add_any _ _ _ (by rw [size_bs]; omega) (by rw [size_bs]; omega)).mono ?_
          rintro e w2 ⟨rfl, hb2⟩
          rw [HAD.out]
          go_wp2_with fail
          refine (of_at _ 2 _ rfl (by omega)).mono ?_
          rintro e w3 ⟨rfl, hb3⟩
          go_wp2_with fail
          refine (HDD.out _ _ _ HVS.out HV2.out (by rw [size_bs]; omega) (by rw [tl_bs, Dm.val_str]; omega)).mono ?_
          rintro e w4 ⟨rfl, hb4⟩
          rw [HD2.out]
          go_wp2_with fail
          refine (HCM.out _).mono ?_
          rintro e w5 ⟨rfl, rfl⟩
          have hBB := (((Kp.mk (bl := []) (fun _ h => (List.not_mem_nil h).elim) hW).next hb1).next hb2 |>.next hb3 |>.next hb4).below
          clear hb1 hb2 hb3 hb4
          go_wp2_with fail
          have hge := Dm.newton_ge (Dm.val (tl s)) X hX0
          go_roundw
          case rel =>
            refine ⟨(X + Dm.val (tl s) / X) / 2, rfl, ?_, hge, ?_, hBB⟩
            · have h3 : 0 < Dm.val (tl s) := val_pos (validB_canon HS.out) hpos
              have h4 : 1 ≤ Dm.rt (Dm.val (tl s)) := Dm.le_rt.2 (by omega)
              omega
            · rw [HB.out, HK.out]; have := HX2.out; omega
          case measure =>
            simp only [numV]
            rw [tl_bs, tl_bs, Dm.val_str, Dm.val_str]
            omega
end Go.Proofs.YtchnjdiolnpabaaDoor
