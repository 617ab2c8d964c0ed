/-
  Walk over natural.divided, the long way.
-/
import Derived.Test.YtlagcdgfmgkooaaDoorNat8
import Derived.Test.YtlagcdgfmgkooaaDoorNat4
import Derived.Test.YtlagcdgfmgkooaaDoorKnu
import Derived.Test.YtlagcdgfmgkooaaDoorIb
import Derived.Test.YtlagcdgfmgkooaaDoorDivP
import Derived.Deep.QuietTactic
import Derived.BigQuiet
namespace Go.Proofs.YtlagcdgfmgkooaaDoor
open Go.RowKit
set_option linter.unusedVariables false

/-- make([]int, n) -/
theorem make_ints (n : Nat) (hn : n ≤ 1000000) : ∀ w, (Instr.makeSlice 105 (.int .i64 (n : Int)) (.int .i64 (n : Int))).run Tryd.prog w = .ok (.slice (some ⟨w.heap.size, 0, none⟩) n n) (w.alloc (.cells (List.replicate n (.int .i64 0)).toArray 3)) :=
  run_make_one 105 3 Tryd.underlying105 (.int .i64 0) rfl 8 (by kernel_rfl) n (by omega) (by omega)
theorem make_ints1 (n : Nat) (hn : n ≤ 1000) : ∀ w, (Instr.makeSlice 105 (.int .i64 ((n : Int) + 1)) (.int .i64 ((n : Int) + 1))).run Tryd.prog w = .ok (.slice (some ⟨w.heap.size, 0, none⟩) (n + 1) (n + 1)) (w.alloc (.cells (List.replicate (n + 1) (.int .i64 0)).toArray 3)) := fun w => by
  rw [show (n : Int) + 1 = ((n + 1 : Nat) : Int) from by omega]; exact make_ints (n + 1) (by omega) w
theorem make_q (a b : Nat) (h : b ≤ a) (hn : a ≤ 1000) : ∀ w, (Instr.makeSlice 93 (.int .i64 ((a : Int) - (b : Int) + 1)) (.int .i64 ((a : Int) - (b : Int) + 1))).run Tryd.prog w = .ok (.slice (some ⟨w.heap.size, 0, none⟩) (a - b + 1) (a - b + 1)) (w.alloc (.cells (List.replicate (a - b + 1) (.int .u8 0)).toArray 5)) := fun w => by
  rw [show (a : Int) - (b : Int) + 1 = ((a - b + 1 : Nat) : Int) from by omega]; exact make_bytes (a - b + 1) (by omega) w
/-- as far as k, zero behind -/
def upTo (f : Nat → Nat) (k : Nat) : Nat → Nat := fun i => if i < k then f i else 0
theorem upTo_zero (f : Nat → Nat) : upTo f 0 = fun _ => 0 := by funext i; simp [upTo]
theorem ivs_upTo (f : Nat → Nat) (n : Nat) : ivs (upTo f n) n = ivs f n := by
  unfold ivs
  apply List.map_congr_left
  intro i hi
  rw [List.mem_range] at hi
  simp [upTo, hi]
def L1Rel (f : Nat → Nat) (g n : Nat) (w : World) (i : Value) (wr : World) : Prop := ∃ k : Nat, k ≤ n ∧ i = .int .i64 (k : Int) ∧ Blk wr g 3 (ivs (upTo f k) n) ∧ Below w.heap.size w wr
theorem sc_zero (l : List UInt8) (s : Nat) : Dm.sc l s 0 = (Dm.dig l 0).toNat * 2 ^ s % 256 := rfl
theorem shl_and (x sh : Nat) (hx : x < 256) (hs : sh ≤ 7) : bits BinOp.and IntKind.i64 (wrap64 ((x : Int) * 2 ^ sh)) 255 = ((x * 2 ^ sh % 256 : Nat) : Int) := by
  have h : x * 2 ^ sh < 32768 := by
    have h1 : 2 ^ sh ≤ 2 ^ 7 := Nat.pow_le_pow_right (by omega) hs
    have h2 : x * 2 ^ sh ≤ 255 * 2 ^ 7 := Nat.mul_le_mul (by omega) h1
    omega
  have e : (x : Int) * 2 ^ sh = ((x * 2 ^ sh : Nat) : Int) := by push_cast; rfl
  rw [e]
  generalize x * 2 ^ sh = y at *
  rw [IntWalk.wrap64_in _ ⟨by omega, by omega⟩, and_i64_255 _ (by omega) (by omega)]
  omega
theorem upTo_at (f : Nat → Nat) (k : Nat) : upTo f (k + 1) k = f k := by simp [upTo]
theorem upTo_ne (f : Nat → Nat) {k j : Nat} (h : j ≠ k) : upTo f (k + 1) j = upTo f k j := by
  unfold upTo
  by_cases h1 : j < k
  · rw [if_pos h1, if_pos (by omega)]
  · rw [if_neg h1, if_neg (by omega)]
def L2Rel (f : Nat → Nat) (g n : Nat) (d : Nat → Nat) (gd nd : Nat) (w : World) (i : Value) (wr : World) : Prop := ∃ k : Nat, k ≤ n ∧ i = .int .i64 (k : Int) ∧ Blk wr g 3 (ivs (upTo f k) n) ∧ Blk wr gd 3 (ivs d nd) ∧ Below w.heap.size w wr
structure Blks (gd gr gq : Nat) (d : Nat → Nat) (n : Nat) (r : Nat → Nat) (L : Nat) (qs : List Value) (w : World) (W : World) : Prop where
  D : Blk W gd 3 (ivs d n)
  R : Blk W gr 3 (ivs r (L + 1))
  Q : Blk W gq 5 qs
  below : Below w.heap.size w W
theorem Blks.drew {gd gr gq : Nat} {d : Nat → Nat} {n : Nat} {r : Nat → Nat} {L : Nat} {qs : List Value} {w W : World} (h : Blks gd gr gq d n r L qs w W) (k : Nat) : Blks gd gr gq d n r L qs w (W.drewN k) :=
  ⟨h.D, h.R, h.Q, ⟨h.below.os, h.below.tape, h.below.output, h.below.size, h.below.block⟩⟩
theorem Blks.putR {gd gr gq : Nat} {d : Nat → Nat} {n : Nat} {r : Nat → Nat} {L : Nat} {qs : List Value} {w W : World} (h : Blks gd gr gq d n r L qs w W) (h1 : gd ≠ gr) (h2 : gq ≠ gr) (h3 : w.heap.size ≤ gr) (p v : Nat) : Blks gd gr gq d n (Dm.put r p v) L qs w (W.setCell ⟨gr, p, none⟩ (.int .i64 (v : Int))) :=
  ⟨h.D.far h1 _, blk_put h.R _ _ (fun j hj => Dm.put_ne _ _ hj) (Dm.put_at _ _ _).symm, h.Q.far h2 _, h.below.setCell h3 _⟩
theorem Blks.far {gd gr gq : Nat} {d : Nat → Nat} {n : Nat} {r : Nat → Nat} {L : Nat} {qs : List Value} {w W : World} (h : Blks gd gr gq d n r L qs w W) {p : Addr} (h1 : gd ≠ p.block) (h2 : gr ≠ p.block) (h3 : gq ≠ p.block) (h4 : w.heap.size ≤ p.block) (v : Value) : Blks gd gr gq d n r L qs w (W.setCell p v) :=
  ⟨h.D.far h1 _, h.R.far h2 _, h.Q.far h3 _, h.below.setCell h4 _⟩
theorem Blks.putQ {gd gr gq : Nat} {d : Nat → Nat} {n : Nat} {r : Nat → Nat} {L m j : Nat} {q : Nat → UInt8} {w W : World} (h : Blks gd gr gq d n r L (bvs (Dm.be q m)) w W) (h1 : gd ≠ gq) (h2 : gr ≠ gq) (h4 : w.heap.size ≤ gq) (hj : j < m) (v : UInt8) : Blks gd gr gq d n r L (bvs (Dm.be (Dm.putB q j v) m)) w (W.setCell ⟨gq, m - 1 - j, none⟩ (.int .u8 (v.toNat : Int))) := by
  refine ⟨h.D.far h1 _, h.R.far h2 _, ?_, h.below.setCell h4 _⟩
  rw [← bvs_be_put q m j v hj]
  exact h.Q.set_ _ _
def M3Rel (A D n L : Nat) (d : Nat → Nat) (gd gr gq : Nat) (w : World) (jv : Value) (wr : World) : Prop :=
  ∃ (J : Nat) (r : Nat → Nat) (q : Nat → UInt8), J ≤ L - n + 1 ∧ jv = .int .i64 ((J : Int) - 1) ∧ Dm.Rest A D n L J r q ∧ Blks gd gr gq d n r L (bvs (Dm.be q (L - n + 1))) w wr
def L7Rel (R gx n gd gr gq : Nat) (d r : Nat → Nat) (L : Nat) (qs : List Value) (w : World) (i : Value) (wr : World) : Prop :=
  ∃ k : Nat, k ≤ n ∧ i = .int .i64 (k : Int) ∧ Blk wr gx 5 (bvs (Dm.be (Dm.soFar (Dm.byteAt R) k) n)) ∧ Blks gd gr gq d n r L qs w wr
def T4Rel (r d : Nat → Nat) (j g n L gd gr gq : Nat) (qs : List Value) (w : World) (c b i : Value) (wr : World) : Prop :=
  ∃ (k cc ww : Nat) (q : Nat → Nat), k ≤ n ∧ i = .int .i64 (k : Int) ∧ c = .int .i64 (cc : Int) ∧ b = .int .i64 (ww : Int) ∧ Dm.Took r d j g k cc ww q ∧ Blks gd gr gq d n q L qs w wr
def M5Rel (r d : Nat → Nat) (U D j n L gd gr gq : Nat) (qs : List Value) (w : World) (gv tv : Value) (wr : World) : Prop :=
  ∃ (g : Nat) (t : Int) (q : Nat → Nat), gv = .int .i64 (g : Int) ∧ tv = .int .i64 t ∧ Dm.Mend r U D j n g t q ∧ Blks gd gr gq d n q L qs w wr
def G6Rel (r d : Nat → Nat) (j n L gd gr gq : Nat) (qs : List Value) (w : World) (c i : Value) (wr : World) : Prop :=
  ∃ (k cc : Nat) (q : Nat → Nat), k ≤ n ∧ i = .int .i64 (k : Int) ∧ c = .int .i64 (cc : Int) ∧ Dm.Gave r d j k cc q ∧ Blks gd gr gq d n q L qs w wr
set_option maxRecDepth 100000 in
set_option maxHeartbeats 2000000 in
theorem divided_long (s t : ByteArray) (w : World) (hs : validB (tl s) = true) (ht : validB (tl t) = true) (h8 : 8 < s.size) (hge : Dm.val (tl t) ≤ Dm.val (tl s)) (h0 : 0 < Dm.val (tl t)) :
    Calls Tryd.prog 62 #[.string s, .string t] w fun e w' => e = .returned (divV (tl s) (tl t)) ∧ Below w.heap.size w w' := by
  have h1 := validB_size hs
  have h2 := validB_size ht
  have htl : t.size ≤ s.size := by
    have := length_le_of_val (validB_canon ht) hge
    rw [length_tl, length_tl] at this
    omega
  have ht0 : 0 < t.size := by
    rcases Nat.eq_zero_or_pos t.size with h | h
    · rw [val_empty h] at h0; omega
    · exact h
  have hnn : ¬ Dm.cmpN (Dm.val (tl s)) (Dm.val (tl t)) < 0 := fun h => by have := Dm.cmpN_neg.1 h; omega
  have HS := Lib.hid hs
  have HT := Lib.hid ht
  have HGE := Lib.hid hge
  have HT0 := Lib.hid h0
  clear hs ht hge h0
  have hcmp := fun W : World => compare_any s t W (validB_canon HS.out) (validB_canon HT.out) (by omega) (by omega)
  generalize Dm.cmpN (Dm.val (tl s)) (Dm.val (tl t)) = cv at *
  have HC := Lib.hid hcmp
  clear hcmp
  have h9 : ¬ ((s.size : Int) ≤ 8) := by omega
  obtain ⟨hb, hb1, hb2⟩ := bits_of t (validB_canon HT.out) ht0
  have hc := t[0].toNat_lt
  obtain ⟨sh, hsh⟩ : ∃ sh : Nat, sh = 8 - Lib.bitLen t[0].toNat := ⟨_, rfl⟩
  have hs7 : sh ≤ 7 := by omega
  have HLZ : Hid (∀ W : World, Calls Tryd.prog 85 #[.int .u8 (t[0].toNat : Int)] W fun e w' => e = .returned (.int .i64 (sh : Int)) ∧ W = w') := fun W =>
    (Tryd.bits_LeadingZeros8 (t[0].toNat : Int) W (by omega) (by omega)).mono fun e w' ⟨he, hw⟩ => ⟨by rw [he, Int.toNat_natCast]; exact ret_int (by omega), hw.symm⟩
  have HSH := Lib.hid hsh
  clear hb hb1 hb2 hsh
  have hmk := make_ints t.size (by omega)
  go_enter Tryd.func62, Tryd.ntmps62
  go_wp2_with fail
  refine (HC.out _).mono ?_
  rintro e w' ⟨rfl, rfl⟩
  go_wp2_with fail
  refine (HLZ.out _).mono ?_
  rintro e w' ⟨rfl, rfl⟩
  go_wp2_with fail
  clear hmk
  go_loopw [63] (L1Rel (Dm.sc (tl t) sh) w.heap.size t.size w) (fun i _ => t.size - (intOf i).toNat)
  case atStart => exact ⟨0, by omega, rfl, by rw [upTo_zero, ivs_zero]; exact Blk.new _ _ _, (Below.refl _ _).alloc (Nat.le_refl _) _⟩
  case round =>
    obtain ⟨k, hk, rfl, hB, hW⟩ := hrel
    by_cases hlt : k < t.size
    · have hcell := (hB.cell k).trans (ivs_at hlt)
      have hfr := hB.frozen k
      have hdg := fun W : World => digit_at t (k : Int) k W rfl (by omega) (by omega)
      have HDG := Lib.hid hdg
      clear hdg
      by_cases hk0 : k = 0
      · subst hk0
        go_wp2_with fail
        refine (HDG.out _).mono ?_
        rintro e w' ⟨rfl, rfl⟩
        go_wp2_with fail
        go_roundw
        case rel =>
          rw [shl_and _ sh (by have := (Dm.dig (tl t) 0).toNat_lt; omega) hs7]
          exact ⟨1, by omega, rfl, blk_put hB (upTo (Dm.sc (tl t) sh) 1) _ (fun j hj => upTo_ne _ hj) (by rw [upTo_at, sc_zero]), hW.setCell (Nat.le_refl _) _⟩
        case measure => simp [intOf] <;> omega
      · go_wp2_with fail
        refine (HDG.out _).mono ?_
        rintro e w' ⟨rfl, rfl⟩
        go_wp2_with fail
        have hx := (Dm.dig (tl t) k).toNat_lt
        rw [shl_and _ sh (by omega) hs7]
        have hB1 := blk_put hB (Dm.put (upTo (Dm.sc (tl t) sh) k) k ((Dm.dig (tl t) k).toNat * 2 ^ sh % 256)) _ (fun j hj => Dm.put_ne _ _ hj) (Dm.put_at _ _ _).symm
        have hW1 : Below w.heap.size w (wr.setCell ⟨w.heap.size, k, none⟩ (.int .i64 (((Dm.dig (tl t) k).toNat * 2 ^ sh % 256 : Nat) : Int))) := hW.setCell (Nat.le_refl _) _
        clear hcell hfr
        generalize wr.setCell ⟨w.heap.size, k, none⟩ (.int .i64 (((Dm.dig (tl t) k).toNat * 2 ^ sh % 256 : Nat) : Int)) = W2 at *
        have hcell := ((hB1.cell k).trans (ivs_at hlt)).trans (by rw [Dm.put_at])
        have hfr := hB1.frozen k
        have e1 : IntKind.i64.wrap ((k : Int) - 1) = (k : Int) - 1 := IntWalk.i64_in _ (by omega)
        have e2 : IntKind.i64.wrap (8 - (sh : Int)) = 8 - (sh : Int) := IntWalk.i64_in _ (by omega)
        have hdg := fun W : World => digit_at t ((k : Int) - 1) (k - 1) W (by omega) (by omega) (by omega)
        have HDG := Lib.hid hdg
        clear hdg
        refine wp_region_still_tail 13 (by kernel_rfl) (by kernel_rfl) ?_
        simp only [List.take_succ_cons, List.take_zero, List.drop_succ_cons, List.drop_zero]
        repeat still_step
        still_call (still_of (HDG.out _))
        repeat still_step
        refine wpStill_nil ?_
        clear e1 e2
        change wpList _ _ _ _ _ W2.drew
        go_wp2_with fail
        go_roundw
        case rel =>
          rw [or_sc (tl t) sh k hs7 hk0]
          exact ⟨k + 1, by omega, by go_num, (blk_put hB1 (upTo (Dm.sc (tl t) sh) (k + 1)) _ (fun j hj => by rw [Dm.put_ne _ _ hj, upTo_ne _ hj]) (by rw [upTo_at])).drew, (hW1.setCell (Nat.le_refl _) _).drew⟩
        case measure => simp [intOf] <;> omega
    · obtain rfl : k = t.size := by omega
      rw [ivs_upTo] at hB
      have hmk := make_ints1 s.size (by omega)
      go_wp2_with fail
      clear hmk
      obtain ⟨wo, rfl⟩ : ∃ wo : World, wo = wr := ⟨_, rfl⟩
      have hgd := hB.lt
      have hsz := hW.size
      go_loopw [97] (L2Rel (Dm.sc (tl s) sh) wo.heap.size (s.size + 1) (Dm.sc (tl t) sh) w.heap.size t.size w) (fun i _ => s.size + 1 - (intOf i).toNat)
      case atStart => exact ⟨0, by omega, rfl, by rw [upTo_zero, ivs_zero]; exact Blk.new _ _ _, hB.alloc _, hW.alloc hsz _⟩
      case round =>
        obtain ⟨k, hk, rfl, hR, hD, hW⟩ := hrel
        by_cases hlt : k < s.size + 1
        · have hcell := (hR.cell k).trans (ivs_at hlt)
          have hfr := hR.frozen k
          have hdg := fun W : World => digit_at s (k : Int) k W rfl (by omega) (by omega)
          have HDG := Lib.hid hdg
          clear hdg
          by_cases hk0 : k = 0
          · subst hk0
            go_wp2_with fail
            refine (HDG.out _).mono ?_
            rintro e w' ⟨rfl, rfl⟩
            go_wp2_with fail
            go_roundw
            case rel =>
              rw [shl_and _ sh (by have := (Dm.dig (tl s) 0).toNat_lt; omega) hs7]
              exact ⟨1, by omega, rfl, blk_put hR (upTo (Dm.sc (tl s) sh) 1) _ (fun j hj => upTo_ne _ hj) (by rw [upTo_at, sc_zero]), hD.far (by show _ ≠ wo.heap.size; omega) _, hW.setCell (by show w.heap.size ≤ wo.heap.size; omega) _⟩
            case measure => simp [intOf] <;> omega
          · go_wp2_with fail
            refine (HDG.out _).mono ?_
            rintro e w' ⟨rfl, rfl⟩
            go_wp2_with fail
            have hx := (Dm.dig (tl s) k).toNat_lt
            rw [shl_and _ sh (by omega) hs7]
            have hB1 := blk_put hR (Dm.put (upTo (Dm.sc (tl s) sh) k) k ((Dm.dig (tl s) k).toNat * 2 ^ sh % 256)) _ (fun j hj => Dm.put_ne _ _ hj) (Dm.put_at _ _ _).symm
            have hW1 : Below w.heap.size w (wr.setCell ⟨wo.heap.size, k, none⟩ (.int .i64 (((Dm.dig (tl s) k).toNat * 2 ^ sh % 256 : Nat) : Int))) := hW.setCell (by show w.heap.size ≤ wo.heap.size; omega) _
            have hD1 : Blk (wr.setCell ⟨wo.heap.size, k, none⟩ (.int .i64 (((Dm.dig (tl s) k).toNat * 2 ^ sh % 256 : Nat) : Int))) w.heap.size 3 (ivs (Dm.sc (tl t) sh) t.size) := hD.far (by show _ ≠ wo.heap.size; omega) _
            clear hcell hfr
            generalize wr.setCell ⟨wo.heap.size, k, none⟩ (.int .i64 (((Dm.dig (tl s) k).toNat * 2 ^ sh % 256 : Nat) : Int)) = W2 at *
            have hcell := ((hB1.cell k).trans (ivs_at hlt)).trans (by rw [Dm.put_at])
            have hfr := hB1.frozen k
            have e1 : IntKind.i64.wrap ((k : Int) - 1) = (k : Int) - 1 := IntWalk.i64_in _ (by omega)
            have e2 : IntKind.i64.wrap (8 - (sh : Int)) = 8 - (sh : Int) := IntWalk.i64_in _ (by omega)
            have hdg := fun W : World => digit_at s ((k : Int) - 1) (k - 1) W (by omega) (by omega) (by omega)
            have HDG := Lib.hid hdg
            clear hdg
            refine wp_region_still_tail 13 (by kernel_rfl) (by kernel_rfl) ?_
            simp only [List.take_succ_cons, List.take_zero, List.drop_succ_cons, List.drop_zero]
            repeat still_step
            still_call (still_of (HDG.out _))
            repeat still_step
            refine wpStill_nil ?_
            clear e1 e2
            change wpList _ _ _ _ _ W2.drew
            go_wp2_with fail
            go_roundw
            case rel =>
              rw [or_sc (tl s) sh k hs7 hk0]
              exact ⟨k + 1, by omega, by go_num, (blk_put hB1 (upTo (Dm.sc (tl s) sh) (k + 1)) _ (fun j hj => by rw [Dm.put_ne _ _ hj, upTo_ne _ hj]) (by rw [upTo_at])).drew, (hD1.far (by show _ ≠ wo.heap.size; omega) _).drew, (hW1.setCell (by show w.heap.size ≤ wo.heap.size; omega) _).drew⟩
            case measure => simp [intOf] <;> omega
        · obtain rfl : k = s.size + 1 := by omega
          rw [ivs_upTo] at hR
          have hmk := make_q s.size t.size htl (by omega)
          go_wp2_with fail
          clear hmk
          have hrs := Dm.Rest.start (a := tl s) (b := tl t) hs7 (validB_canon HT.out) (fun e => by rw [← length_tl, e] at ht0; exact absurd ht0 (by simp)) (by rw [length_tl, length_tl]; exact htl)
          rw [length_tl, length_tl] at hrs
          obtain ⟨hdt, hds⟩ := sc_top t (validB_canon HT.out) ht0 sh HSH.out
          have hd255 := fun i => Dm.sc_le (tl t) sh i hs7
          have HRS := Lib.hid hrs
          have HDS := Lib.hid hds
          have HD255 := Lib.hid hd255
          clear hrs hds hd255
          generalize Dm.sc (tl t) sh = d at *
          obtain ⟨w3, rfl⟩ : ∃ w3 : World, w3 = wr := ⟨_, rfl⟩
          have hgr := hR.lt
          have hsz3 := hW.size
          rw [show ((s.size : Int) - (t.size : Int)) = ((s.size - t.size + 1 : Nat) : Int) - 1 from by omega]
          go_loopw [17] (M3Rel (Dm.val (tl s) * 2 ^ sh) (Dm.val (tl t) * 2 ^ sh) t.size s.size d w.heap.size wo.heap.size w3.heap.size w) (fun j _ => (intOf j + 1).toNat)
          case atStart => exact ⟨s.size - t.size + 1, _, _, by omega, rfl, HRS.out, hD.alloc _, hR.alloc _, by rw [be_zero, bvs_zero]; exact Blk.new _ _ _, hW.alloc hsz3 _⟩
          case round =>
            clear hD hR hW hB
            obtain ⟨J, r, q, hJ, rfl, hrest, hK⟩ := hrel
            have HREST := Lib.hid hrest
            clear hrest
            have n1 : w.heap.size ≠ wo.heap.size := by omega
            have n2 : w3.heap.size ≠ wo.heap.size := by omega
            have n3 : w.heap.size ≤ wo.heap.size := by omega
            have n4 : w.heap.size ≠ w3.heap.size := by omega
            have n5 : wo.heap.size ≠ w3.heap.size := by omega
            have n6 : w.heap.size ≤ w3.heap.size := by omega
            by_cases hJ0 : J = 0
            · subst hJ0
              rw [show (((0 : Nat) : Int) - 1) = -1 from by omega]
              obtain ⟨hqv, hrv⟩ := HREST.out.done HT0.out
              have HQV := Lib.hid hqv
              have HRV := Lib.hid hrv
              clear hqv hrv
              have hmk := make_bytes t.size (by omega)
              go_wp2_with fail
              clear hmk
              obtain ⟨w6, rfl⟩ : ∃ w6 : World, w6 = wr := ⟨_, rfl⟩
              have hg6 := hK.Q.lt
              have hsz6 := hK.below.size
              go_loopw [259] (L7Rel (Dm.val (tl s) % Dm.val (tl t)) w6.heap.size t.size w.heap.size wo.heap.size w3.heap.size d r s.size (bvs (Dm.be q (s.size - t.size + 1))) w) (fun i _ => t.size - (intOf i).toNat)
              case atStart => exact ⟨0, by omega, rfl, by rw [Dm.soFar_zero, bvs_zero]; exact Blk.new _ _ _, hK.D.alloc _, hK.R.alloc _, hK.Q.alloc _, hK.below.alloc hsz6 _⟩
              case round =>
                clear hK
                obtain ⟨k, hk, rfl, hX, hK⟩ := hrel
                by_cases hlt : k < t.size
                · have hc0 := (hK.R.cell k).trans (ivs_at (by omega))
                  have hc1 := (hK.R.cell (k + 1)).trans (ivs_at (by omega))
                  have b0 := HREST.out.dg k
                  have b1 := HREST.out.dg (k + 1)
                  obtain ⟨v, hcx⟩ : ∃ v, wr.cell? ⟨w6.heap.size, t.size - 1 - k, none⟩ = some v := ⟨_, (hX.cell _).trans (bvs_at (by rw [Dm.length_be]; omega))⟩
                  have hfx := hX.frozen (t.size - 1 - k)
                  have hor := or_low8 (r k) (r (k + 1)) b0 b1
                  go_wp2_with fail
                  clear hor
                  go_roundw
                  case rel =>
                    refine ⟨k + 1, by omega, by go_num, ?_, hK.far (by show _ ≠ w6.heap.size; omega) (by show _ ≠ w6.heap.size; omega) (by show _ ≠ w6.heap.size; omega) (by show w.heap.size ≤ w6.heap.size; omega) _⟩
                    rw [show ((r k : Int) + (r (k + 1) : Int) * 256) = ((r k + r (k + 1) * 256 : Nat) : Int) from by omega, byte_back HREST.out.dg hs7 HRV.out (by omega), ← Dm.soFar_set _ _ _ hlt, ← bvs_set]
                    exact hX.set_ _ _
                  case measure => simp [intOf] <;> omega
                · obtain rfl : k = t.size := by omega
                  go_wp2_with fail
                  refine (trimmed_at (some ⟨w3.heap.size, 0, none⟩) (Dm.be q (s.size - t.size + 1)) (s.size - t.size + 1) (s.size - t.size + 1) _ (Dm.length_be _ _) (Nat.le_refl _) (by omega) hK.Q.bytes).mono ?_
                  rintro e w' ⟨rfl, rfl⟩
                  go_wp2_with fail
                  refine (trimmed_at (some ⟨w6.heap.size, 0, none⟩) (Dm.be (Dm.soFar (Dm.byteAt (Dm.val (tl s) % Dm.val (tl t))) t.size) t.size) t.size t.size _ (Dm.length_be _ _) (Nat.le_refl _) (by omega) hX.bytes).mono ?_
                  rintro e w' ⟨rfl, rfl⟩
                  go_wp2_with fail
                  go_ret2
                  refine ⟨?_, hK.below⟩
                  rw [divV, Dm.trim_eq_str HQV.out, Dm.soFar_all, Dm.trim_eq_str (n := Dm.val (tl s) % Dm.val (tl t)) (by rw [Dm.val_be_byteAt, Nat.mod_eq_of_lt]; have h3 := Dm.val_lt (tl t); rw [length_tl] at h3; exact Nat.lt_trans (Nat.mod_lt _ HT0.out) h3)]
                  rfl
            · obtain ⟨j, rfl⟩ : ∃ j, J = j + 1 := ⟨J - 1, by omega⟩
              rw [show (((j + 1 : Nat) : Int) - 1) = (j : Int) from by omega]
              have hr1 := (hK.R.cell (j + t.size)).trans (ivs_at (by omega))
              have hr0 := (hK.R.cell (j + t.size - 1)).trans (ivs_at (by omega))
              have hd1 := (hK.D.cell (t.size - 1)).trans (ivs_at (by omega))
              have b1 := HREST.out.dg (j + t.size)
              have b0 := HREST.out.dg (j + t.size - 1)
              have bd := HD255.out (t.size - 1)
              have e1 : IntKind.i64.wrap ((j : Int) + (t.size : Int)) = (j : Int) + (t.size : Int) := IntWalk.i64_in _ (by omega)
              have e2 : IntKind.i64.wrap ((j : Int) + (t.size : Int) - 1) = (j : Int) + (t.size : Int) - 1 := IntWalk.i64_in _ (by omega)
              have e3 : IntKind.i64.wrap ((t.size : Int) - 1) = (t.size : Int) - 1 := IntWalk.i64_in _ (by omega)
              have g1 : 0 ≤ (j : Int) + (t.size : Int) := by omega
              have g2 : 0 ≤ (j : Int) + (t.size : Int) - 1 := by omega
              have g2' : 1 ≤ (j : Int) + (t.size : Int) := by omega
              have g3 : 0 ≤ (t.size : Int) - 1 := by omega
              have g3' : 1 ≤ (t.size : Int) := by omega
              have k1 : (j : Int) + (t.size : Int) < (s.size : Int) + 1 := by omega
              have k2 : (j : Int) + (t.size : Int) - 1 < (s.size : Int) + 1 := by omega
              have k3 : (t.size : Int) - 1 < (t.size : Int) := by omega
              have z1 : ((d (t.size - 1) : Int) == 0) = false := by rw [beq_eq_false_iff_ne]; omega
              have f1 : ((j : Int) + (t.size : Int)).toNat = j + t.size := by omega
              have f2 : ((j : Int) + (t.size : Int) - 1).toNat = j + t.size - 1 := by omega
              have f3 : ((t.size : Int) - 1).toNat = t.size - 1 := by omega
              go_wp2_with fail
              go_quiet (fail)
              go_wp2_with fail
              clear e1 e2 e3 f1 f2 f3 g1 g2 g2' g3 g3' k1 k2 k3 z1 hr1 hr0 hd1
              rw [guess_eq _ _ _ b1 b0 hdt]
              have hU := HREST.out.window (by omega)
              have hg1 := Dm.guess_ge (r := r) (d := d) (j := j) (U := Dm.win r j (t.size + 1)) (D := Dm.val (tl t) * 2 ^ sh) ht0 HREST.out.dg rfl HDS.out.symm hdt hU.2
              rw [show j + (t.size - 1) = j + t.size - 1 from by omega] at hg1
              have hg2 : min ((r (j + t.size) * 256 + r (j + t.size - 1)) / d (t.size - 1)) 255 ≤ 255 := Nat.min_le_right _ _
              generalize min ((r (j + t.size) * 256 + r (j + t.size - 1)) / d (t.size - 1)) 255 = g at *
              have HG1 := Lib.hid hg1
              have hK2 := hK.drew nq
              clear hg1 hU hK b1 b0 bd
              generalize wr.drewN nq = wq at *
              go_loopw [19, 20, 162] (T4Rel r d j g t.size s.size w.heap.size wo.heap.size w3.heap.size (bvs (Dm.be q (s.size - t.size + 1))) w) (fun _ _ i _ => t.size - (intOf i).toNat)
              case atStart => exact ⟨0, 0, 0, r, by omega, rfl, rfl, rfl, Dm.Took.start HREST.out.dg, hK2⟩
              case round =>
                clear hK2
                obtain ⟨k, cc, ww, q2, hk, rfl, rfl, rfl, htook, hK⟩ := hrel
                have HTOOK := Lib.hid htook
                have c255 := htook.c255
                have w1 := htook.w1
                clear htook
                by_cases hlt : k < t.size
                · have hcd := (hK.D.cell k).trans (ivs_at hlt)
                  have eq2 : q2 (k + j) = r (j + k) := by rw [Nat.add_comm k j]; exact HTOOK.out.out (j + k) (by omega)
                  have hcr := ((hK.R.cell (k + j)).trans (ivs_at (by omega))).trans (by rw [eq2])
                  have hfr := hK.R.frozen (k + j)
                  clear eq2
                  have b1 := HREST.out.dg (j + k)
                  have bd := HD255.out k
                  have hm0 : g * d k ≤ 255 * 255 := Nat.mul_le_mul hg2 bd
                  have hmi : (g : Int) * (d k : Int) ≤ 65025 := by rw [← Int.natCast_mul]; omega
                  have hmi0 : 0 ≤ (g : Int) * (d k : Int) := Int.mul_nonneg (by omega) (by omega)
                  obtain ⟨m, hm⟩ : ∃ m, m = (cc + g * d k) % 256 := ⟨_, rfl⟩
                  have hand : bits BinOp.and IntKind.i64 ((cc : Int) + (g : Int) * (d k : Int)) 255 = (m : Int) := by
                    rw [← Int.natCast_mul, ← Int.natCast_add, sub_and _ (by omega), hm]
                  have hm255 : m ≤ 255 := by omega
                  have HM := Lib.hid hm
                  clear hm hm0
                  by_cases hneg : (r (j + k) : Int) - (m : Int) - (ww : Int) < 0
                  · go_wp2_with fail
                    clear hand
                    go_roundw
                    case rel =>
                      refine ⟨k + 1, (cc + g * d k) / 256, 1, Dm.put q2 (j + k) (r (j + k) + 256 - m - ww), by omega, by go_num, val_int ?_, rfl, HTOOK.out.next hg2 bd (by omega) (by omega) (by rw [← HM.out]; omega), ?_⟩
                      · rw [← Int.natCast_mul, ← Int.natCast_add]; omega
                      · rw [Nat.add_comm k j, show ((r (j + k) : Int) - (m : Int) - (ww : Int) + 256) = ((r (j + k) + 256 - m - ww : Nat) : Int) from by omega]
                        exact hK.putR n1 n2 n3 _ _
                    case measure => simp [intOf] <;> omega
                  · go_wp2_with fail
                    clear hand
                    go_roundw
                    case rel =>
                      refine ⟨k + 1, (cc + g * d k) / 256, 0, Dm.put q2 (j + k) (r (j + k) - m - ww), by omega, by go_num, val_int ?_, rfl, HTOOK.out.next hg2 bd (by omega) (by omega) (by rw [← HM.out]; omega), ?_⟩
                      · rw [← Int.natCast_mul, ← Int.natCast_add]; omega
                      · rw [Nat.add_comm k j, show ((r (j + k) : Int) - (m : Int) - (ww : Int)) = ((r (j + k) - m - ww : Nat) : Int) from by omega]
                        exact hK.putR n1 n2 n3 _ _
                    case measure => simp [intOf] <;> omega
                · obtain rfl : k = t.size := by omega
                  have eq2 : q2 (j + t.size) = r (j + t.size) := HTOOK.out.out _ (by omega)
                  have hcr := ((hK.R.cell (j + t.size)).trans (ivs_at (by omega))).trans (by rw [eq2])
                  clear eq2
                  have b1 := HREST.out.dg (j + t.size)
                  go_wp2_with fail
                  have hmend := Dm.Mend.start HTOOK.out HREST.out.dg rfl HDS.out.symm hg2 HG1.out
                  have HMEND := Lib.hid hmend
                  clear hmend hcr b1 c255 w1
                  obtain ⟨wq2, rfl⟩ : ∃ wq2 : World, wq2 = wr := ⟨_, rfl⟩
                  go_loopw [18, 23] (M5Rel r d (Dm.win r j (t.size + 1)) (Dm.val (tl t) * 2 ^ sh) j t.size s.size w.heap.size wo.heap.size w3.heap.size (bvs (Dm.be q (s.size - t.size + 1))) w) (fun g _ _ => (intOf g).toNat)
                  case atStart => exact ⟨g, _, q2, rfl, rfl, HMEND.out, hK⟩
                  case round =>
                    clear hK HMEND HTOOK
                    obtain ⟨g, tt, q3, rfl, rfl, hmend, hK⟩ := hrel
                    have t1 := hmend.t1
                    have t2 := hmend.t2
                    have g2 := hmend.g2
                    have HMEND := Lib.hid hmend
                    clear hmend
                    by_cases hneg : tt < 0
                    · have hg0 := (HMEND.out.neg hneg).2
                      go_wp2_with fail
                      obtain ⟨wq3, rfl⟩ : ∃ wq3 : World, wq3 = wr := ⟨_, rfl⟩
                      go_loopw [24, 212] (G6Rel q3 d j t.size s.size w.heap.size wo.heap.size w3.heap.size (bvs (Dm.be q (s.size - t.size + 1))) w) (fun _ i _ => t.size - (intOf i).toNat)
                      case atStart => exact ⟨0, 0, q3, by omega, rfl, rfl, Dm.Gave.start HMEND.out.dg, hK⟩
                      case round =>
                        clear hK
                        obtain ⟨k, cc, q4, hk, rfl, rfl, hgave, hK⟩ := hrel
                        have c1 := hgave.c1
                        have HGAVE := Lib.hid hgave
                        clear hgave
                        by_cases hlt : k < t.size
                        · have hcd := (hK.D.cell k).trans (ivs_at hlt)
                          have eq2 : q4 (k + j) = q3 (j + k) := by rw [Nat.add_comm k j]; exact HGAVE.out.out (j + k) (by omega)
                          have hcr := ((hK.R.cell (k + j)).trans (ivs_at (by omega))).trans (by rw [eq2])
                          have hfr := hK.R.frozen (k + j)
                          clear eq2
                          have b1 := HMEND.out.dg (j + k)
                          have bd := HD255.out k
                          have e0 : IntKind.i64.wrap ((k : Int) + (j : Int)) = (k : Int) + (j : Int) := IntWalk.i64_in _ (by omega)
                          have e1 : IntKind.i64.wrap ((q3 (j + k) : Int) + (d k : Int)) = (q3 (j + k) : Int) + (d k : Int) := IntWalk.i64_in _ (by omega)
                          have e2 : IntKind.i64.wrap ((cc : Int) + ((q3 (j + k) : Int) + (d k : Int))) = (cc : Int) + ((q3 (j + k) : Int) + (d k : Int)) := IntWalk.i64_in _ (by omega)
                          have g1 : 0 ≤ (k : Int) + (j : Int) := by omega
                          have k1 : (k : Int) + (j : Int) < (s.size : Int) + 1 := by omega
                          have k2 : (k : Int) < (t.size : Int) := by omega
                          have f1 : ((k : Int) + (j : Int)).toNat = k + j := by omega
                          go_wp2_with fail
                          go_quiet (fail)
                          clear e0 e1 e2 f1 g1 k1 k2
                          have hcr2 : (wr.drewN nq).cell? ⟨wo.heap.size, k + j, none⟩ = some (.int .i64 (q3 (j + k) : Nat)) := hcr
                          have hfr2 : (wr.drewN nq).frozen? ⟨wo.heap.size, k + j, none⟩ = false := hfr
                          have hK2 := hK.drew nq
                          clear hK hcr hfr hcd
                          generalize wr.drewN nq = wq4 at *
                          have hand : bits BinOp.and IntKind.i64 ((cc : Int) + ((q3 (j + k) : Int) + (d k : Int))) 255 = ((cc + (q3 (j + k) + d k)) % 256 : Nat) := by
                            rw [← Int.natCast_add, ← Int.natCast_add, sub_and _ (by omega)]
                          go_wp2_with fail
                          clear hand
                          go_roundw
                          case rel =>
                            refine ⟨k + 1, (cc + (q3 (j + k) + d k)) / 256, Dm.put q4 (j + k) ((cc + (q3 (j + k) + d k)) % 256), by omega, by go_num, val_int (by omega), HGAVE.out.next b1 bd, ?_⟩
                            rw [Nat.add_comm k j, show (((cc : Int) + ((q3 (j + k) : Int) + (d k : Int))) % 256) = (((cc + (q3 (j + k) + d k)) % 256 : Nat) : Int) from by omega]
                            exact hK2.putR n1 n2 n3 _ _
                          case measure => simp [intOf] <;> omega
                        · obtain rfl : k = t.size := by omega
                          go_wp2_with fail
                          go_roundw
                          case rel => exact ⟨g - 1, tt + cc, q4, val_int (by omega), rfl, HMEND.out.next hneg HGAVE.out HDS.out.symm (Nat.mul_pos HT0.out (Nat.two_pow_pos sh)), hK⟩
                          case measure => simp [intOf] <;> omega
                    · have hD0 : 0 < Dm.val (tl t) * 2 ^ sh := Nat.mul_pos HT0.out (Nat.two_pow_pos sh)
                      obtain ⟨hg, hz, hwin⟩ := HMEND.out.done (by omega) hD0 (by rw [← HDS.out]; exact Nat.le_of_lt (Dm.colsum_lt HD255.out _))
                      subst hz
                      have HG := Lib.hid hg
                      have HWIN := Lib.hid hwin
                      clear hg hwin
                      have hcr := (hK.R.cell (j + t.size)).trans (ivs_at (by omega))
                      have hfr := hK.R.frozen (j + t.size)
                      obtain ⟨v, hcq⟩ : ∃ v, wr.cell? ⟨w3.heap.size, s.size - t.size - j, none⟩ = some v := ⟨_, (hK.Q.cell _).trans (bvs_at (by rw [Dm.length_be]; omega))⟩
                      have hfq := hK.Q.frozen (s.size - t.size - j)
                      go_wp2_with fail
                      go_roundw
                      case rel =>
                        refine ⟨j, Dm.put q3 (j + t.size) 0, Dm.putB q j (UInt8.ofNat (Dm.win r j (t.size + 1) / (Dm.val (tl t) * 2 ^ sh))), by omega, rfl, HREST.out.next (by omega) hD0 HMEND.out.dg HMEND.out.out HWIN.out, ?_⟩
                        rw [← HG.out, show s.size - t.size - j = s.size - t.size + 1 - 1 - j from by omega, show (g : Int) = ((UInt8.ofNat g).toNat : Int) from by rw [UInt8.toNat_ofNat']; simp only [Nat.reducePow]; omega]
                        exact (hK.putR n1 n2 n3 (j + t.size) 0).putQ n4 n5 n6 (by omega) _
                      case measure => simp [intOf] <;> omega
theorem div128 : DivUpto 128 := fun s t w hs ht h h0 => by
  rcases Nat.lt_or_ge (Dm.val (tl s)) (Dm.val (tl t)) with h1 | h1
  · exact divided_less s t w hs ht h1
  · rcases Nat.lt_or_ge 8 s.size with h8 | h8
    · exact divided_long s t w hs ht h8 h1 h0
    · exact divided_short s t w hs ht h8 h1 h0
end Go.Proofs.YtlagcdgfmgkooaaDoor
