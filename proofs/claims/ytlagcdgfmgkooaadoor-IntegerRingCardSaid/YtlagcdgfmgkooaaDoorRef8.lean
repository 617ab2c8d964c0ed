/-
  Walk over dominoref01.Over.
-/
import Derived.Test.YtlagcdgfmgkooaaDoorRef7
import Derived.Test.YtlagcdgfmgkooaaDoorOvP
import Derived.Test.YtlagcdgfmgkooaaDoorBit
namespace Go.Proofs.YtlagcdgfmgkooaaDoor
open Go.RowKit
set_option linter.unusedVariables false

set_option maxRecDepth 100000 in
set_option maxHeartbeats 1000000 in
theorem ref_Over_short (s t : ByteArray) (w : World) (h8 : s.size ≤ 8) (ht8 : t.size ≤ 8) (h0 : 0 < Dm.val (tl t)) :
    Calls Tryd.prog 84 #[.string s, .string t] w fun e w' => e = .returned (divV (tl s) (tl t)) ∧ Below w.heap.size w w' := by
  have hxl := val_lt8 h8
  have hyl := val_lt8 ht8
  have HD : Hid (divV (tl s) (tl t) = .tuple #[Sv (Dm.str (Dm.val (tl s) / Dm.val (tl t))), Sv (Dm.str (Dm.val (tl s) % Dm.val (tl t)))]) := rfl
  have hu1 := fun W : World => ref_u64_any s W h8
  have hu2 := fun W : World => ref_u64_any t W ht8
  have HU1 := Lib.hid hu1
  have HU2 := Lib.hid hu2
  clear hu1 hu2
  generalize Dm.val (tl s) = x at *
  generalize Dm.val (tl t) = y at *
  have hq : x / y < 18446744073709551616 := Nat.lt_of_le_of_lt (Nat.div_le_self _ _) hxl
  have hr : x % y < 18446744073709551616 := Nat.lt_of_le_of_lt (Nat.mod_le _ _) hxl
  have hy0 : ((y : Int) == 0) = false := by rw [beq_eq_false_iff_ne]; omega
  have h8i : (s.size : Int) ≤ 8 := by omega
  have h8j : (t.size : Int) ≤ 8 := by omega
  go_enter Tryd.func84, Tryd.ntmps84
  go_wp2_with fail
  refine (HU1.out _).mono ?_
  rintro e w' ⟨rfl, rfl⟩
  go_wp2_with fail
  refine (HU2.out _).mono ?_
  rintro e w' ⟨rfl, rfl⟩
  go_wp2_with fail
  have hk := (Kp.start w).drew
  have ed : IntKind.u64.wrap ((x : Int) / (y : Int)) = ((x / y : Nat) : Int) := by
    rw [show (x : Int) / (y : Int) = ((x / y : Nat) : Int) from by rw [Int.natCast_ediv], IntKind.wrap_u64]
    generalize x / y = q at *
    omega
  have em : (x : Int).tmod (y : Int) = ((x % y : Nat) : Int) := by rw [Int.tmod_eq_emod_of_nonneg (by omega), Int.natCast_emod]
  have em2 : ((x : Int) % (y : Int)) = ((x % y : Nat) : Int) := by rw [← Int.natCast_emod]
  have HED := Lib.hid ed
  have HEM := Lib.hid em
  have HEM2 := Lib.hid em2
  clear ed em em2
  go_region_with (first | (go_at_call 65; with_reducible refine (ref_of_at (IntKind.u64.wrap ((x : Int) / (y : Int))) (x / y) _ HED.out hq).mono ?_; rintro e wa ⟨rfl, hba⟩; have hk1 := hk.next hba) | (go_at_call 65; with_reducible refine (ref_of_at _ (x % y) _ HEM.out hr).mono ?_; rintro e wb ⟨rfl, hbb⟩; have hk2 := hk1.next hbb) | (go_at_call 65; with_reducible refine (ref_of_at _ (x % y) _ HEM2.out hr).mono ?_; rintro e wb ⟨rfl, hbb⟩; have hk2 := hk1.next hbb))
  all_goals
    go_wp2_with fail
    go_ret2
    exact ⟨by rw [HD.out]; rfl, hk2.below⟩
def OvRel (A B n g : Nat) (w : World) (r i : Value) (wr : World) : Prop :=
  ∃ I : Nat, I ≤ 8 * n ∧ i = .int .i64 ((I : Int) - 1) ∧ r = Sv (Dm.str (A / 2 ^ I % B)) ∧ Blk wr g 5 (bvs (Dm.be (Dm.byteAt (A / 2 ^ I / B * 2 ^ I)) n)) ∧ Below w.heap.size w wr
def OvIn (i : Nat) (k j : Value) : Prop := ∃ J : Nat, J ≤ i % 8 ∧ j = .int .i64 (J : Int) ∧ k = .int .u8 ((2 ^ J : Nat) : Int)
theorem plus_one : Dm.val (tl ⟨#[1]⟩) = 1 := by decide +kernel
theorem ref_Plus_str (x y : Nat) (w : World) (h1 : (Dm.str x).length ≤ 100000) (h2 : (Dm.str y).length ≤ 100000) : Calls Tryd.prog 78 #[Sv (Dm.str x), Sv (Dm.str y)] w fun e w' => e = .returned (Sv (Dm.str (x + y))) ∧ Below w.heap.size w w' := by
  refine (ref_Plus_any (bs (Dm.str x)) (bs (Dm.str y)) w (by rw [size_bs]; exact h1) (by rw [size_bs]; exact h2)).mono fun e w' ⟨he, hw⟩ => ⟨?_, hw⟩
  rw [he, tl_bs, tl_bs, Dm.val_str, Dm.val_str]
theorem ref_Plus_one (x : Nat) (w : World) (h1 : (Dm.str x).length ≤ 100000) : Calls Tryd.prog 78 #[Sv (Dm.str x), .string ⟨#[1]⟩] w fun e w' => e = .returned (Sv (Dm.str (x + 1))) ∧ Below w.heap.size w w' := by
  refine (ref_Plus_any (bs (Dm.str x)) ⟨#[1]⟩ w (by rw [size_bs]; exact h1) (by decide)).mono fun e w' ⟨he, hw⟩ => ⟨?_, hw⟩
  rw [he, tl_bs, Dm.val_str, plus_one]
theorem cmpN_ge' {x y : Nat} (h : y ≤ x) : 0 ≤ Dm.cmpN x y := by
  refine Int.not_lt.1 fun h1 => ?_
  have := Dm.cmpN_neg.1 h1
  omega
theorem blk_byte {W : World} {g n k : Nat} {t : TypeId} {f : Nat → UInt8} (hB : Blk W g t (bvs (Dm.be f n))) (hk : k < n) (h : Nat → UInt8) (hh : ∀ j, j ≠ k → h j = f j) : Blk (W.setCell ⟨g, n - 1 - k, none⟩ (.int .u8 ((h k).toNat : Int))) g t (bvs (Dm.be h n)) := by
  rw [← Dm.be_set f h n k hk (fun i _ hi => hh i hi), ← bvs_set]
  exact hB.set_ _ _
theorem nb_le_of {n k : Nat} (h : n < 2 ^ k) : Dm.nb n ≤ k := by
  rcases Nat.eq_zero_or_pos n with rfl | h0
  · rw [Dm.nb_zero]; omega
  · have h1 := Nat.lt_of_le_of_lt (Dm.nb_le h0) h
    have := (Nat.pow_lt_pow_iff_right (by omega)).1 h1
    omega
theorem be_byte0 (w : World) (n : Nat) : Blk (w.alloc (.cells (List.replicate n (.int .u8 0)).toArray 5)) w.heap.size 5 (bvs (Dm.be (Dm.byteAt 0) n)) := by
  have e : Dm.byteAt 0 = fun _ => 0 := by funext i; unfold Dm.byteAt; simp
  rw [e, be_zero, bvs_zero]
  exact Blk.new _ _ _
theorem over_len {x B n : Nat} (hB : B < 256 ^ n) (h : x < B) (hn : n ≤ 500) : (Dm.str x).length ≤ 500 :=
  Nat.le_trans (Dm.length_str_le.2 (Nat.lt_trans h hB)) hn
theorem over_len2 {x B n : Nat} (hB : B < 256 ^ n) (h : x < 2 * B) (hn : n ≤ 500) : (Dm.str x).length ≤ 501 :=
  Nat.le_trans ((Dm.length_str_le (k := n + 1)).2 (by rw [Nat.pow_succ]; omega)) (by omega)
theorem over_fits {A B n : Nat} (hA : A < 2 ^ Dm.nb A) (hn : Dm.nb A ≤ 8 * n) : A / B % 256 ^ n = A / B := by
  refine Nat.mod_eq_of_lt (Nat.lt_of_le_of_lt (Nat.div_le_self _ _) (Nat.lt_of_lt_of_le hA ?_))
  rw [show (256 : Nat) = 2 ^ 8 from rfl, ← Nat.pow_mul]
  exact Nat.pow_le_pow_right (by omega) hn
set_option maxRecDepth 100000 in
set_option maxHeartbeats 1000000 in
theorem ref_Over_long (s t : ByteArray) (w : World) (hs : Dm.canon (tl s) = true) (ht : Dm.canon (tl t) = true) (h1 : s.size ≤ 500) (h2 : t.size ≤ 500) (hl : ¬ (s.size ≤ 8 ∧ t.size ≤ 8)) (h0 : 0 < Dm.val (tl t)) :
    Calls Tryd.prog 84 #[.string s, .string t] w fun e w' => e = .returned (divV (tl s) (tl t)) ∧ Below w.heap.size w w' := by
  have HCS := Lib.hid hs
  have HCT := Lib.hid ht
  have HT0 := Lib.hid h0
  clear hs ht h0
  have hmk := make_bytes s.size (by omega)
  have hnb : Dm.nb (Dm.val (tl s)) ≤ 8 * s.size := by
    refine nb_le_of ?_
    have := Dm.val_lt (tl s)
    rw [length_tl, show (256 : Nat) = 2 ^ 8 from rfl, ← Nat.pow_mul] at this
    exact this
  have HNB := Lib.hid (Dm.lt_nb (Dm.val (tl s)))
  have hBl := Dm.val_lt (tl t)
  rw [length_tl] at hBl
  have HBL := Lib.hid hBl
  clear hBl
  have hbits := fun W : World => ref_bits_any s W (by omega) HCS.out
  have HBITS := Lib.hid hbits
  have hone := fun (i : Nat) (hi : i ≤ 8000) (W : World) => ref_one_any s i W (by omega) (by omega)
  have HONE := Lib.hid hone
  have HDV : Hid (divV (tl s) (tl t) = .tuple #[Sv (Dm.str (Dm.val (tl s) / Dm.val (tl t))), Sv (Dm.str (Dm.val (tl s) % Dm.val (tl t)))]) := rfl
  have hord := fun (x : Nat) (hx : (Dm.str x).length ≤ 1000) (W : World) => (ref_Order_any (bs (Dm.str x)) t W (by rw [tl_bs]; exact Dm.canon_str _) HCT.out (by rw [size_bs]; omega) (by omega)).mono (R' := fun e w' => e = .returned (.int .i64 (Dm.cmpN x (Dm.val (tl t)))) ∧ Below W.heap.size W w') fun e w' ⟨he, hw⟩ => ⟨by rw [he, tl_bs, Dm.val_str], hw⟩
  have HORD := Lib.hid hord
  have hmin := fun (x : Nat) (hx : (Dm.str x).length ≤ 1000) (hle : Dm.val (tl t) ≤ x) (W : World) => (ref_Minus_any (bs (Dm.str x)) t W (by rw [size_bs]; omega) (by rw [size_bs, ← length_tl]; exact length_le_of_val HCT.out (by rw [Dm.val_str]; exact hle)) (by rw [tl_bs, Dm.val_str]; exact hle)).mono (R' := fun e w' => e = .returned (Sv (Dm.str (x - Dm.val (tl t)))) ∧ Below W.heap.size W w') fun e w' ⟨he, hw⟩ => ⟨by rw [he, tl_bs, Dm.val_str], hw⟩
  have HMIN := Lib.hid hmin
  clear hbits hone hord hmin HCS HCT
  generalize Dm.val (tl s) = A at *
  generalize Dm.val (tl t) = B at *
  have hB0 := HT0.out
  rcases (show (s.size ≤ 8 ∧ ¬ t.size ≤ 8) ∨ ¬ s.size ≤ 8 by omega) with ⟨h8, ht8⟩ | h8
  all_goals
    clear hl
    go_enter Tryd.func84, Tryd.ntmps84
    go_wp2_with fail
    refine (HBITS.out _).mono ?_
    rintro e w' ⟨rfl, rfl⟩
    go_wp2_with fail
    clear hmk
    go_loopw [9, 10] (OvRel A B s.size w.heap.size w) (fun _ i _ => (intOf i + 1).toNat)
    case atStart => exact ⟨Dm.nb A, hnb, rfl, by rw [Nat.div_eq_of_lt HNB.out, Nat.zero_mod]; rfl, by rw [Nat.div_eq_of_lt HNB.out, Nat.zero_div, Nat.zero_mul]; exact be_byte0 w s.size, (Below.refl _ _).alloc (Nat.le_refl _) _⟩
    case round =>
      obtain ⟨I, hI, rfl, rfl, hB, hW⟩ := hrel
      by_cases hI0 : I = 0
      · subst hI0
        rw [show (((0 : Nat) : Int) - 1) = -1 from by omega]
        rw [Nat.pow_zero, Nat.div_one, Nat.mul_one] at hB
        rw [Nat.pow_zero, Nat.div_one]
        go_wp2_with fail
        refine (ref_trim_blk _ _ (Dm.be (Dm.byteAt (A / B)) s.size) s.size _ (by rw [Dm.length_be]) (by omega) hB).mono ?_
        rintro e w' ⟨rfl, rfl⟩
        go_wp2_with fail
        go_ret2
        refine ⟨?_, hW⟩
        rw [HDV.out, Dm.trim_eq_str (n := A / B) (by rw [Dm.val_be_byteAt]; exact over_fits HNB.out hnb)]
        rfl
      · obtain ⟨i, rfl⟩ : ∃ i, I = i + 1 := ⟨I - 1, by omega⟩
        rw [show (((i + 1 : Nat) : Int) - 1) = (i : Int) from by omega]
        obtain ⟨o1, o2, o3⟩ := Dm.over_step (A := A) (B := B) (i := i) hB0
        have O2 := Lib.hid o2
        have hc2 : A / 2 ^ i % 2 < 2 := Nat.mod_lt _ (by omega)
        have hm := Nat.mod_lt (A / 2 ^ (i + 1)) hB0
        have OB := fun hle j => Dm.over_bytes (A := A) (B := B) (i := i) hB0 hle j
        have OS := fun hle => Dm.over_same (A := A) (B := B) (i := i) hB0 hle
        have HOB := Lib.hid OB
        have HOS := Lib.hid OS
        have HBN : Hid (Dm.bitN A i = (A / 2 ^ i % 2 == 1)) := rfl
        clear o1 o2 o3 OB OS
        have hk := Kp.mk (w := w) (bl := [(w.heap.size, 5, bvs (Dm.be (Dm.byteAt (A / 2 ^ (i + 1) / B * 2 ^ (i + 1))) s.size))]) (by intro x hx; rw [List.mem_singleton] at hx; subst hx; exact hB) hW
        clear hB hW
        have hx1 : (Dm.str (A / 2 ^ (i + 1) % B)).length ≤ 500 := over_len HBL.out (by omega) h2
        have hx2 : ∀ c, c < 2 → (Dm.str (A / 2 ^ (i + 1) % B + A / 2 ^ (i + 1) % B + c)).length ≤ 501 := fun c hc => over_len2 HBL.out (by omega) h2
        have HX2 := Lib.hid hx2
        clear hx2
        generalize A / 2 ^ (i + 1) % B = r at *
        generalize A / 2 ^ (i + 1) / B * 2 ^ (i + 1) = Q0 at *
        go_wp2_with fail
        refine (ref_Plus_str r r _ (by omega) (by omega)).mono ?_
        rintro e w1 ⟨rfl, hb1⟩
        have hk1 := hk.next hb1
        clear hk hb1
        go_wp2_with fail
        refine (HONE.out i (by omega) _).mono ?_
        rintro e w' ⟨rfl, rfl⟩
        rw [HBN.out]
        generalize A / 2 ^ i % 2 = c at *
        rcases (show c = 1 ∨ c = 0 by omega) with rfl | rfl
        · rw [show ((1 : Nat) == 1) = true from rfl]
          go_wp2_with fail
          refine (ref_Plus_one (r + r) _ (by have := HX2.out 0 (by omega); simp only [Nat.add_zero] at this; omega)).mono ?_
          rintro e w2 ⟨rfl, hb2⟩
          have hk2 := hk1.next hb2
          clear hk1 hb2
          go_wp2_with fail
          refine (HORD.out (r + r + 1) (by have := HX2.out 1 (by omega); omega) _).mono ?_
          rintro e w3 ⟨rfl, hb3⟩
          have hk3 := hk2.next hb3
          clear hk2 hb3
          by_cases hle : B ≤ r + r + 1
          · have hcv := cmpN_ge' hle
            have HOB2 := Lib.hid (HOB.out (by omega))
            have hO2 := O2.out
            rw [if_pos (by omega)] at hO2
            have HO2 := Lib.hid hO2
            clear hO2
            generalize Dm.cmpN (r + r + 1) B = cv at *
            go_wp2_with fail
            refine (HMIN.out (r + r + 1) (by have := HX2.out 1 (by omega); omega) hle _).mono ?_
            rintro e w4 ⟨rfl, hb4⟩
            have hk4 := hk3.next hb4
            clear hk3 hb4
            go_wp2_with fail
            go_loop [11, 12] (OvIn i) (fun _ j => i % 8 - (intOf j).toNat)
            case atStart => exact ⟨0, by omega, rfl, rfl⟩
            case round =>
              obtain ⟨J, hJ, rfl, rfl⟩ := hrel
              by_cases hJl : J < i % 8
              · have hp : 2 ^ J ≤ 2 ^ 6 := Nat.pow_le_pow_right (by omega) (by omega)
                have HP : Hid (2 ^ (J + 1) = 2 ^ J * 2) := Nat.pow_succ ..
                generalize 2 ^ J = pj at *
                go_wp2_with fail
                go_round
                case rel => exact ⟨J + 1, by omega, by go_num, val_int (by rw [HP.out]; omega)⟩
                case measure => simp [intOf]; omega
              · obtain rfl : J = i % 8 := by omega
                have hbk := hk4.blk _ (List.mem_singleton.2 rfl)
                have hcell : w4.cell? ⟨w.heap.size, s.size - 1 - i / 8, none⟩ = some (.int .u8 ((Dm.byteAt Q0 (i / 8)).toNat : Int)) := by
                  rw [hbk.cell, bvs_at (by rw [Dm.length_be]; omega)]
                  have := Dm.be_get (Dm.byteAt Q0) s.size (s.size - 1 - i / 8) (by omega)
                  rw [show s.size - 1 - (s.size - 1 - i / 8) = i / 8 from by omega] at this
                  rw [List.getElem?_eq_getElem (by rw [Dm.length_be]; omega)] at this
                  rw [Option.some.inj this]
                have hfr : w4.frozen? ⟨w.heap.size, s.size - 1 - i / 8, none⟩ = false := hbk.frozen _
                have hob := HOB2.out (i / 8)
                rw [if_pos rfl] at hob
                have hu := (Dm.byteAt (A / 2 ^ i / B * 2 ^ i) (i / 8)).toNat_lt
                have hsum : (Dm.byteAt Q0 (i / 8)).toNat + 2 ^ (i % 8) ≤ 255 := by omega
                have HOBI := Lib.hid hob
                clear hob hu
                generalize 2 ^ (i % 8) = pj at *
                go_wp2_with fail
                go_roundw
                case rel =>
                  refine ⟨i, by omega, rfl, by rw [HO2.out]; congr 2; omega, ?_, hk4.below.setCell (Nat.le_refl _) _⟩
                  rw [show (((Dm.byteAt Q0 (i / 8)).toNat : Int) + (pj : Int)) = ((Dm.byteAt (A / 2 ^ i / B * 2 ^ i) (i / 8)).toNat : Int) from by rw [HOBI.out]; omega]
                  exact blk_byte hbk (by omega) _ (fun j hj => UInt8.toNat_inj.1 (by have h := HOB2.out j; rw [if_neg hj] at h; omega))
                case measure => simp [intOf] <;> omega
          · have hcv := Dm.cmpN_lt (show r + r + 1 < B by omega)
            have hos := HOS.out (by omega)
            have hO2 := O2.out
            rw [if_neg (by omega)] at hO2
            have HO2 := Lib.hid hO2
            have HOS2 := Lib.hid hos
            clear hO2 hos
            rw [hcv]
            clear hcv
            go_wp2_with fail
            go_roundw
            case rel => exact ⟨i, by omega, rfl, by rw [HO2.out]; congr 2; omega, by rw [HOS2.out]; exact hk3.blk _ (List.mem_singleton.2 rfl), hk3.below⟩
            case measure => simp [intOf] <;> omega
        · rw [show ((0 : Nat) == 1) = false from rfl]
          go_wp2_with fail
          refine (HORD.out (r + r) (by have := HX2.out 0 (by omega); simp only [Nat.add_zero] at this; omega) _).mono ?_
          rintro e w3 ⟨rfl, hb3⟩
          have hk3 := hk1.next hb3
          clear hk1 hb3
          by_cases hle : B ≤ r + r
          · have hcv := cmpN_ge' hle
            have HOB2 := Lib.hid (HOB.out (by omega))
            have hO2 := O2.out
            rw [if_pos (by omega)] at hO2
            have HO2 := Lib.hid hO2
            clear hO2
            generalize Dm.cmpN (r + r) B = cv at *
            go_wp2_with fail
            refine (HMIN.out (r + r) (by have := HX2.out 0 (by omega); simp only [Nat.add_zero] at this; omega) hle _).mono ?_
            rintro e w4 ⟨rfl, hb4⟩
            have hk4 := hk3.next hb4
            clear hk3 hb4
            go_wp2_with fail
            go_loop [11, 12] (OvIn i) (fun _ j => i % 8 - (intOf j).toNat)
            case atStart => exact ⟨0, by omega, rfl, rfl⟩
            case round =>
              obtain ⟨J, hJ, rfl, rfl⟩ := hrel
              by_cases hJl : J < i % 8
              · have hp : 2 ^ J ≤ 2 ^ 6 := Nat.pow_le_pow_right (by omega) (by omega)
                have HP : Hid (2 ^ (J + 1) = 2 ^ J * 2) := Nat.pow_succ ..
                generalize 2 ^ J = pj at *
                go_wp2_with fail
                go_round
                case rel => exact ⟨J + 1, by omega, by go_num, val_int (by rw [HP.out]; omega)⟩
                case measure => simp [intOf]; omega
              · obtain rfl : J = i % 8 := by omega
                have hbk := hk4.blk _ (List.mem_singleton.2 rfl)
                have hcell : w4.cell? ⟨w.heap.size, s.size - 1 - i / 8, none⟩ = some (.int .u8 ((Dm.byteAt Q0 (i / 8)).toNat : Int)) := by
                  rw [hbk.cell, bvs_at (by rw [Dm.length_be]; omega)]
                  have := Dm.be_get (Dm.byteAt Q0) s.size (s.size - 1 - i / 8) (by omega)
                  rw [show s.size - 1 - (s.size - 1 - i / 8) = i / 8 from by omega] at this
                  rw [List.getElem?_eq_getElem (by rw [Dm.length_be]; omega)] at this
                  rw [Option.some.inj this]
                have hfr : w4.frozen? ⟨w.heap.size, s.size - 1 - i / 8, none⟩ = false := hbk.frozen _
                have hob := HOB2.out (i / 8)
                rw [if_pos rfl] at hob
                have hu := (Dm.byteAt (A / 2 ^ i / B * 2 ^ i) (i / 8)).toNat_lt
                have hsum : (Dm.byteAt Q0 (i / 8)).toNat + 2 ^ (i % 8) ≤ 255 := by omega
                have HOBI := Lib.hid hob
                clear hob hu
                generalize 2 ^ (i % 8) = pj at *
                go_wp2_with fail
                go_roundw
                case rel =>
                  refine ⟨i, by omega, rfl, by rw [HO2.out]; congr 2; omega, ?_, hk4.below.setCell (Nat.le_refl _) _⟩
                  rw [show (((Dm.byteAt Q0 (i / 8)).toNat : Int) + (pj : Int)) = ((Dm.byteAt (A / 2 ^ i / B * 2 ^ i) (i / 8)).toNat : Int) from by rw [HOBI.out]; omega]
                  exact blk_byte hbk (by omega) _ (fun j hj => UInt8.toNat_inj.1 (by have h := HOB2.out j; rw [if_neg hj] at h; omega))
                case measure => simp [intOf] <;> omega
          · have hcv := Dm.cmpN_lt (show r + r < B by omega)
            have hos := HOS.out (by omega)
            have hO2 := O2.out
            rw [if_neg (by omega)] at hO2
            have HO2 := Lib.hid hO2
            have HOS2 := Lib.hid hos
            clear hO2 hos
            rw [hcv]
            clear hcv
            go_wp2_with fail
            go_roundw
            case rel => exact ⟨i, by omega, rfl, by rw [HO2.out]; congr 2; omega, by rw [HOS2.out]; exact hk3.blk _ (List.mem_singleton.2 rfl), hk3.below⟩
            case measure => simp [intOf] <;> omega
theorem ref_Over_any (s t : ByteArray) (w : World) (hs : Dm.canon (tl s) = true) (ht : Dm.canon (tl t) = true) (h1 : s.size ≤ 500) (h2 : t.size ≤ 500) (h0 : 0 < Dm.val (tl t)) :
    Calls Tryd.prog 84 #[.string s, .string t] w fun e w' => e = .returned (divV (tl s) (tl t)) ∧ Below w.heap.size w w' := by
  by_cases h : s.size ≤ 8 ∧ t.size ≤ 8
  · exact ref_Over_short s t w h.1 h.2 h0
  · exact ref_Over_long s t w hs ht h1 h2 h h0
end Go.Proofs.YtlagcdgfmgkooaaDoor
