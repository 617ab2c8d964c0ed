/-
  Walks over foursquares: Four, and the reference's.
-/
import Derived.Test.YtdbhmhabgbfplaaFsWalk5
namespace Go.Proofs.Ytdbhmhabgbfplaa
open Go.RowKit
set_option linter.unusedVariables false

def quadOf (o : Option (Nat × Nat × Nat × Nat)) : Nat × Nat × Nat × Nat := o.getD (0, 0, 0, 0)
def quadS (q : Nat × Nat × Nat × Nat) : List Value := [Sv (Dm.str q.1), Sv (Dm.str q.2.1), Sv (Dm.str q.2.2.1), Sv (Dm.str q.2.2.2)]
/-- what Four returns -/
def FourW (l : List UInt8) : Value :=
  if errOf l = 0 then .tuple #[.agg (quadS (quadOf (Dm.four (numOf l)))).toArray, .int .i64 0]
  else .tuple #[.agg #[Sv [], Sv [], Sv [], Sv []], .int .i64 (errOf l)]
abbrev E4 : List Value := [.string ⟨#[]⟩, .string ⟨#[]⟩, .string ⟨#[]⟩, .string ⟨#[]⟩]
abbrev w0 (w : World) : World := w.alloc (.cells #[.string ⟨#[]⟩, .string ⟨#[]⟩, .string ⟨#[]⟩, .string ⟨#[]⟩] 36)
theorem new4 (w : World) : Blk ((w0 w).alloc (.cells #[.string ⟨#[]⟩, .string ⟨#[]⟩, .string ⟨#[]⟩, .string ⟨#[]⟩] 36)) (w.heap.size + 1) 36 E4 := by
  have h := Blk.new (w0 w) 36 E4
  rwa [show (w0 w).heap.size = w.heap.size + 1 from by simp [w0]] at h
theorem Blk.get4 {W : World} {g : Nat} {t : TypeId} {x y z u : Value} (h : Blk W g t [x, y, z, u]) : W.cell? ⟨g, 0, none⟩ = some x ∧ W.cell? ⟨g, 1, none⟩ = some y ∧ W.cell? ⟨g, 2, none⟩ = some z ∧ W.cell? ⟨g, 3, none⟩ = some u := ⟨h.cell 0, h.cell 1, h.cell 2, h.cell 3⟩
def FourRel (n : Nat) (w : World) (x : Value) (wr : World) : Prop := ∃ X : Nat, x = .int .u64 (X : Int) ∧ X * X ≤ n ∧ Dm.fourFrom n X = Dm.four n ∧ Blk wr (w.heap.size + 1) 36 E4 ∧ Below (w.heap.size + 1) (w0 w) wr

set_option maxHeartbeats 1000000 in
theorem Four_any (s : ByteArray) (w : World) (hl : s.size ≤ 1073741824) :
    Calls Try.prog 15 #[.string s] w fun e w' => e = .returned (FourW (tl s)) ∧ Below w.heap.size w w' := by
  by_cases he : errOf (tl s) = 0
  · have hz : (errOf (tl s) != 0) = false := by simp [he]
    have HE := Lib.hid he
    have hn := numOf_lt (tl s)
    have hr : Dm.rt (numOf (tl s)) < 65536 := Dm.rt_lt (by omega)
    have hr2 : Dm.rt (numOf (tl s)) * Dm.rt (numOf (tl s)) ≤ (numOf (tl s)) := (Dm.rt_spec _).1
    clear he
    go_enter Try.func15, Try.ntmps15
    go_wp2_with fail
    go_step3
    go_wp2_with (first | (go_at_call 22; refine (fsmall_any s _ hl).mono ?_; rintro e w' ⟨rfl, rfl⟩) | (go_at_call 31; refine (root_any _ _ hn).mono ?_; rintro e w' ⟨rfl, rfl⟩))
    go_step3
    go_wp2_with (first | (go_at_call 31; refine (root_any _ _ hn).mono ?_; rintro e w' ⟨rfl, rfl⟩))
    generalize hN : numOf (tl s) = n at *
    have HN := Lib.hid hN
    clear hN
    go_loopw [7] (FourRel n w) (fun x _ => (intOf x).toNat)
    case atStart => exact ⟨Dm.rt n, rfl, hr2, rfl, new4 w, (Below.refl _ _).alloc (by simp) _⟩
    case round =>
      obtain ⟨X, rfl, hx, hX, hB, hW⟩ := hrel
      have HX := Lib.hid hX
      clear hX
      have hlt : X < 65536 := Dm.lt_of_sq_lt (b := 65536) (by omega)
      have hxx : (X : Int) * (X : Int) ≤ (n : Int) := by rw [← Int.natCast_mul]; omega
      have hxx0 : 0 ≤ (X : Int) * (X : Int) := Int.mul_nonneg (by omega) (by omega)
      have hsub : (n : Int) - (X : Int) * (X : Int) = ((n - X * X : Nat) : Int) := by rw [← Int.natCast_mul]; omega
      have HU := Lib.hid hsub
      clear hsub
      have hb2 := (Blk.new w 36 E4).below hW (by simp)
      obtain ⟨hd0, hd1, hd2, hd3⟩ := hb2.get4
      have hf0 := hb2.frozen 0
      have hf1 := hb2.frozen 1
      have hf2 := hb2.frozen 2
      have hf3 := hb2.frozen 3
      obtain ⟨he0, he1, he2, he3⟩ := hB.get4
      have hbw : Below w.heap.size w wr := ((Below.refl _ _).alloc (Nat.le_refl _) _).trans (hW.mono (by omega))
      cases h7 : Dm.seven (n - X * X) with
      | true =>
        have HA : Hid (Dm.fourAt n X = none) := by show _ = _; rw [Dm.fourAt, h7]; rfl
        have H7 := Lib.hid h7
        clear h7
        by_cases h0 : X = 0
        · have hne : ((X : Int) == 0) = true := by rw [beq_iff_eq]; omega
          have HF : Hid (Dm.four n = none) := by show _ = _; rw [← HX.out, h0]; exact Dm.fourFrom_end (by have := HA.out; rwa [h0] at this)
          clear h0
          go_wp2_with (first | (go_at_call 27; refine (seven_at _ (n - X * X) true _ HU.out H7.out (by omega)).mono ?_; rintro e w' ⟨rfl, rfl⟩))
          rw [Exit.noGoto_ret]
          refine bodyPost_ret (v := .tuple #[.agg #[Sv [], Sv [], Sv [], Sv []], .int .i64 0]) (by simp [results, Try.results15, go_sem, Sv, bs, hd0, hd1, hd2, hd3]) rfl ⟨?_, ?_⟩
          · rw [FourW, if_pos HE.out, HN.out, HF.out]; rfl
          · exact (by repeat (first | with_reducible exact hbw | (refine Below.setCell ?_ (by simp) _)))
        · have hne : ((X : Int) == 0) = false := by rw [beq_eq_false_iff_ne]; omega
          have hpos : 1 ≤ X := by omega
          have HD : Hid (Dm.fourFrom n X = Dm.fourFrom n (X - 1)) := by
            obtain ⟨Y, rfl⟩ : ∃ Y, X = Y + 1 := ⟨X - 1, by omega⟩
            exact Dm.fourFrom_on HA.out
          clear h0
          go_wp2_with (first | (go_at_call 27; refine (seven_at _ (n - X * X) true _ HU.out H7.out (by omega)).mono ?_; rintro e w' ⟨rfl, rfl⟩))
          go_roundw
          case rel => exact ⟨X - 1, val_int (by omega), Nat.le_trans (Dm.sq_le (by omega)) hx, by rw [← HD.out]; exact HX.out, hB, hW⟩
          case measure => simp [intOf] <;> omega
      | false =>
        have H7 := Lib.hid h7
        cases h3 : Dm.three (n - X * X) X with
        | none =>
          have HA : Hid (Dm.fourAt n X = none) := by show _ = _; rw [Dm.fourAt, h7, ← h3]; rfl
          have H3 := Lib.hid h3
          clear h7 h3
          by_cases h0 : X = 0
          · have hne : ((X : Int) == 0) = true := by rw [beq_iff_eq]; omega
            have HF : Hid (Dm.four n = none) := by show _ = _; rw [← HX.out, h0]; exact Dm.fourFrom_end (by have := HA.out; rwa [h0] at this)
            clear h0
            go_wp2_with (first | (go_at_call 27; refine (seven_at _ (n - X * X) false _ HU.out H7.out (by omega)).mono ?_; rintro e w' ⟨rfl, rfl⟩))
            refine (three_at _ _ (n - X * X) X none _ HU.out rfl H3.out (by omega) (by omega)).mono ?_
            rintro e w1 ⟨rfl, hb1⟩
            simp only [threeV, tripleOf, Option.getD_none, Option.isSome_none]
            have hB1 := hB.below hb1 hB.lt
            have hb3 := hb2.below hb1 hb2.lt
            obtain ⟨hd0, hd1, hd2, hd3⟩ := hb3.get4
            have hf0 := hb3.frozen 0
            have hf1 := hb3.frozen 1
            have hf2 := hb3.frozen 2
            have hf3 := hb3.frozen 3
            obtain ⟨he0, he1, he2, he3⟩ := hB1.get4
            have hz3 := hb3.lt
            have hz4 := hB1.lt
            go_wp2_with fail
            rw [Exit.noGoto_ret]
            have hbw1 : Below w.heap.size w w1 := hbw.trans (hb1.mono hbw.size)
            refine bodyPost_ret (v := .tuple #[.agg #[Sv [], Sv [], Sv [], Sv []], .int .i64 0]) (by simp [results, Try.results15, go_sem, Sv, bs, hd0, hd1, hd2, hd3, hz3]) rfl ⟨?_, ?_⟩
            · rw [FourW, if_pos HE.out, HN.out, HF.out]; rfl
            · exact (by repeat (first | with_reducible exact hbw1 | (refine Below.setCell ?_ (by simp) _) | (refine Below.alloc ?_ (by simp; omega) _)))
          · have hne : ((X : Int) == 0) = false := by rw [beq_eq_false_iff_ne]; omega
            have hpos : 1 ≤ X := by omega
            have HD : Hid (Dm.fourFrom n X = Dm.fourFrom n (X - 1)) := by
              obtain ⟨Y, rfl⟩ : ∃ Y, X = Y + 1 := ⟨X - 1, by omega⟩
              exact Dm.fourFrom_on HA.out
            clear h0
            go_wp2_with (first | (go_at_call 27; refine (seven_at _ (n - X * X) false _ HU.out H7.out (by omega)).mono ?_; rintro e w' ⟨rfl, rfl⟩) | (go_at_call 28; refine (three_at _ _ (n - X * X) X none _ HU.out rfl H3.out (by omega) (by omega)).mono ?_; rintro e w1 ⟨rfl, hb1⟩; simp only [threeV, tripleOf, Option.getD_none, Option.isSome_none]; have hz1 := hb1.size))
            go_roundw
            case rel => exact ⟨X - 1, val_int (by omega), Nat.le_trans (Dm.sq_le (by omega)) hx, by rw [← HD.out]; exact HX.out, (hB.below hb1 hB.lt).alloc _, (hW.trans (hb1.mono (by have := hB.lt; omega))).alloc (by have := hB.lt; omega) _⟩
            case measure => simp [intOf] <;> omega
        | some p =>
          have HF : Hid (Dm.four n = some (X, p)) := by show _ = _; rw [← HX.out]; exact Dm.fourFrom_found (by rw [Dm.fourAt, h7, ← h3]; rfl)
          have hp := Dm.three_some h3
          have H3 := Lib.hid h3
          clear h7 h3
          obtain ⟨x, y, z⟩ := p
          simp only at hp
          have hx1 : X < 18446744073709551616 := by omega
          have hx2 : x < 18446744073709551616 := by omega
          have hy2 : y < 18446744073709551616 := by omega
          have hz2 : z < 18446744073709551616 := by omega
          clear hp
          go_wp2_with (first | (go_at_call 27; refine (seven_at _ (n - X * X) false _ HU.out H7.out (by omega)).mono ?_; rintro e w' ⟨rfl, rfl⟩))
          refine (three_at _ _ (n - X * X) X (some (x, y, z)) _ HU.out rfl H3.out (by omega) (by omega)).mono ?_
          rintro e w1 ⟨rfl, hb1⟩
          simp only [threeV, tripleOf, Option.getD_some, Option.isSome_some]
          go_wp2_with fail
          have hB1 := hB.below hb1 hB.lt
          have hW1 : Below (w0 w).heap.size (w0 w) w1 := (hW.trans (hb1.mono (by have := hB.lt; omega))).mono (by simp [w0])
          have hs0 := (Stg.make (w := w0 w) hB1 (by simp [w0]) hW1 66 [.int .u64 x, .int .u64 y, .int .u64 z]).drew
          clear hB1 hW1 hb1 hbw hb2 hd0 hd1 hd2 hd3 hf0 hf1 hf2 hf3 he0 he1 he2 he3 hB hW
          have hne := hs0.ne
          generalize w1.heap.size = g at *
          generalize w1.alloc (Obj.cells #[Value.int IntKind.u64 ↑x, Value.int IntKind.u64 ↑y, Value.int IntKind.u64 ↑z] 66) = W at *
          go_region_held3 (fun w' => w'.cell? ⟨g, 0, none⟩ = some (.int .u64 x) ∧ w'.cell? ⟨g, 1, none⟩ = some (.int .u64 y) ∧ w'.cell? ⟨g, 2, none⟩ = some (.int .u64 z)) (first | exact Blk.get3 (Stg.b1 (w := w0 w) (by assumption)) | exact Blk.get3 (((((Stg.b1 (w := w0 w) (by assumption)).far hne _).far hne _).far hne _).far hne _))
            (first | (go_at_call 17; refine (of_any _ _ (by assumption)).mono ?_; rintro e wa ⟨rfl, hba⟩; have hs1 := Stg.next (w := w0 w) (g := g) (by assumption) hba; obtain ⟨he0, he1, he2, he3⟩ := hs1.b2.get4; have hf0 := hs1.b2.frozen 0; have hf1 := hs1.b2.frozen 1; have hf2 := hs1.b2.frozen 2; have hf3 := hs1.b2.frozen 3))
          have hb2 := (Blk.new w 36 E4).below hs1.below (by simp)
          obtain ⟨hd0, hd1, hd2, hd3⟩ := hb2.get4
          have hg0 := hb2.frozen 0
          have hg1 := hb2.frozen 1
          have hg2 := hb2.frozen 2
          have hg3 := hb2.frozen 3
          go_wp2
          rw [Exit.noGoto_ret]
          have hbw1 : Below w.heap.size w wa := ((Below.refl _ _).alloc (Nat.le_refl _) _).trans (hs1.below.mono (by simp [w0]))
          refine bodyPost_ret (v := .tuple #[.agg #[Sv (Dm.str X), Sv (Dm.str x), Sv (Dm.str y), Sv (Dm.str z)], .int .i64 0]) (by simp [results, Try.results15, go_sem, hd0, hd1, hd2, hd3]) rfl ⟨?_, ?_⟩
          · rw [FourW, if_pos HE.out, HN.out, HF.out]; rfl
          · exact (by repeat (first | with_reducible exact hbw1 | (refine Below.setCell ?_ (by simp) _)))
  · have hz : (errOf (tl s) != 0) = true := by simp [he]
    have HE := Lib.hid he
    clear he
    go_enter Try.func15, Try.ntmps15
    go_wp2_with fail
    go_step3
    go_wp2_with (first | (go_at_call 22; refine (fsmall_any s _ hl).mono ?_; rintro e w' ⟨rfl, rfl⟩))
    rw [Exit.noGoto_ret]
    refine bodyPost_ret (v := .tuple #[.agg #[Sv [], Sv [], Sv [], Sv []], .int .i64 (errOf (tl s))]) (by simp [results, Try.results15, go_sem, Sv, bs]) rfl ⟨?_, (Below.refl _ _).alloc (Nat.le_refl _) _⟩
    rw [FourW, if_neg HE.out]

def RefFourRel (n : Nat) (w : World) (x : Value) (wr : World) : Prop := ((∃ X : Nat, x = .int .i64 (X : Int) ∧ X * X ≤ n ∧ Dm.fourFrom n X = Dm.four n) ∨ (x = .int .i64 (-1) ∧ Dm.four n = none)) ∧ Blk wr w.heap.size 36 E4 ∧ Below w.heap.size w wr
set_option maxHeartbeats 1000000 in
theorem ref_Four_any (s : ByteArray) (w : World) (hl : s.size ≤ 1073741824) :
    Calls Try.prog 16 #[.string s] w fun e w' => e = .returned (FourW (tl s)) ∧ Below w.heap.size w w' := by
  by_cases he : errOf (tl s) = 0
  · have hz : (errOf (tl s) != 0) = false := by simp [he]
    have HE := Lib.hid he
    have hn := numOf_lt (tl s)
    have hr : Dm.rt (numOf (tl s)) < 65536 := Dm.rt_lt (by omega)
    have hr2 : Dm.rt (numOf (tl s)) * Dm.rt (numOf (tl s)) ≤ (numOf (tl s)) := (Dm.rt_spec _).1
    clear he
    go_enter Try.func16, Try.ntmps16
    go_wp2_with (first | (go_at_call 24; refine (number_any s _ hl).mono ?_; rintro e w' ⟨rfl, rfl⟩) | (go_at_call 32; refine (ref_root_any _ _ hn).mono ?_; rintro e w' ⟨rfl, rfl⟩))
    generalize hN : numOf (tl s) = n at *
    have HN := Lib.hid hN
    clear hN
    go_loopw [6] (RefFourRel n w) (fun x _ => (intOf x + 1).toNat)
    case atStart => exact ⟨.inl ⟨Dm.rt n, rfl, hr2, rfl⟩, Blk.new w _ E4, (Below.refl _ _).alloc (Nat.le_refl _) _⟩
    case round =>
      obtain ⟨hrel, hB, hW⟩ := hrel
      obtain ⟨hd0, hd1, hd2, hd3⟩ := hB.get4
      have hf0 := hB.frozen 0
      have hf1 := hB.frozen 1
      have hf2 := hB.frozen 2
      have hf3 := hB.frozen 3
      rcases hrel with ⟨X, rfl, hx, hX⟩ | ⟨rfl, hX⟩
      · have HX := Lib.hid hX
        clear hX
        have hlt : X < 65536 := Dm.lt_of_sq_lt (b := 65536) (by omega)
        have hxx : (X : Int) * (X : Int) ≤ (n : Int) := by rw [← Int.natCast_mul]; omega
        have hxx0 : 0 ≤ (X : Int) * (X : Int) := Int.mul_nonneg (by omega) (by omega)
        have hsub : (n : Int) - (X : Int) * (X : Int) = ((n - X * X : Nat) : Int) := by rw [← Int.natCast_mul]; omega
        have HU := Lib.hid hsub
        clear hsub
        have hnext : Dm.fourAt n X = none → (∃ Y : Nat, Value.int IntKind.i64 ((X : Int) - 1) = .int .i64 (Y : Int) ∧ Y * Y ≤ n ∧ Dm.fourFrom n Y = Dm.four n) ∨ (Value.int IntKind.i64 ((X : Int) - 1) = .int .i64 (-1) ∧ Dm.four n = none) := by
          intro ha
          by_cases h0 : X = 0
          · exact .inr ⟨val_int (by omega), by rw [← HX.out, h0]; exact Dm.fourFrom_end (by rwa [h0] at ha)⟩
          · obtain ⟨Y, rfl⟩ : ∃ Y, X = Y + 1 := ⟨X - 1, by omega⟩
            exact .inl ⟨Y, val_int (by omega), Nat.le_trans (Dm.sq_le (by omega)) hx, by rw [← Dm.fourFrom_on ha]; exact HX.out⟩
        have HNX := Lib.hid hnext
        clear hnext
        cases h7 : Dm.seven (n - X * X) with
        | true =>
          have HA : Hid (Dm.fourAt n X = none) := by show _ = _; rw [Dm.fourAt, h7]; rfl
          have H7 := Lib.hid h7
          clear h7
          go_wp2_with (first | (go_at_call 29; refine (ref_seven_at _ (n - X * X) true _ HU.out H7.out (by omega)).mono ?_; rintro e w' ⟨rfl, rfl⟩))
          go_roundw
          case rel => exact ⟨HNX.out HA.out, hB, hW⟩
          case measure => simp [intOf] <;> omega
        | false =>
          have H7 := Lib.hid h7
          cases h3 : Dm.three (n - X * X) X with
          | none =>
            have HA : Hid (Dm.fourAt n X = none) := by show _ = _; rw [Dm.fourAt, h7, ← h3]; rfl
            have H3 := Lib.hid h3
            clear h7 h3
            go_wp2_with (first | (go_at_call 29; refine (ref_seven_at _ (n - X * X) false _ HU.out H7.out (by omega)).mono ?_; rintro e w' ⟨rfl, rfl⟩))
            refine (ref_three_at _ _ (n - X * X) X none _ HU.out rfl H3.out (by omega) (by omega)).mono ?_
            rintro e w1 hsl
            obtain ⟨g, hg, rfl, hbk, hb1⟩ := hsl
            simp only [Option.isSome_none]
            go_wp2_with fail
            go_roundw
            case rel => exact ⟨HNX.out HA.out, hB.below hb1 hB.lt, hW.trans (hb1.mono hW.size)⟩
            case measure => simp [intOf] <;> omega
          | some p =>
            have HF : Hid (Dm.four n = some (X, p)) := by show _ = _; rw [← HX.out]; exact Dm.fourFrom_found (by rw [Dm.fourAt, h7, ← h3]; rfl)
            have hp := Dm.three_some h3
            have H3 := Lib.hid h3
            clear h7 h3
            obtain ⟨x, y, z⟩ := p
            simp only at hp
            have hx1 : X < 4294967296 := by omega
            have hx2 : x < 4294967296 := by omega
            have hy2 : y < 4294967296 := by omega
            have hz2 : z < 4294967296 := by omega
            clear hp
            go_wp2_with (first | (go_at_call 29; refine (ref_seven_at _ (n - X * X) false _ HU.out H7.out (by omega)).mono ?_; rintro e w' ⟨rfl, rfl⟩))
            refine (ref_three_at _ _ (n - X * X) X (some (x, y, z)) _ HU.out rfl H3.out (by omega) (by omega)).mono ?_
            rintro e w1 hsl
            obtain ⟨g, hg, rfl, hbk, hb1⟩ := hsl
            simp only [Option.isSome_some]
            go_wp2_with fail
            have hs0 := (Stg.mk2 (w := w) hbk (hB.below hb1 hB.lt) (by have := hB.lt; omega) (Nat.le_refl _) (hW.trans (hb1.mono hW.size))).drew
            clear hbk hb1 hg hd0 hd1 hd2 hd3 hf0 hf1 hf2 hf3 hB hW
            simp only [tripleOf, Option.getD_some] at hs0
            have hne := hs0.ne
            go_region_held3 (fun w' => w'.cell? ⟨g, 0, none⟩ = some (.int .i64 x) ∧ w'.cell? ⟨g, 1, none⟩ = some (.int .i64 y) ∧ w'.cell? ⟨g, 2, none⟩ = some (.int .i64 z)) (first | exact Blk.get3 (Stg.b1 (w := w) (by assumption)) | exact Blk.get3 (((((Stg.b1 (w := w) (by assumption)).far hne _).far hne _).far hne _).far hne _))
              (first | (go_at_call 26; refine (rof_any _ _ (by assumption)).mono ?_; rintro e wa ⟨rfl, hba⟩; have hs1 := Stg.next (w := w) (g := g) (by assumption) hba; obtain ⟨he0, he1, he2, he3⟩ := hs1.b2.get4; have hf0 := hs1.b2.frozen 0; have hf1 := hs1.b2.frozen 1; have hf2 := hs1.b2.frozen 2; have hf3 := hs1.b2.frozen 3))
            go_wp2
            have hbw1 := hs1.below
            refine bodyPost_ret (v := .tuple #[.agg #[Sv (Dm.str X), Sv (Dm.str x), Sv (Dm.str y), Sv (Dm.str z)], .int .i64 0]) (by simp [results, Try.results16, go_sem, he0, he1, he2, he3]) rfl ⟨?_, ?_⟩
            · rw [FourW, if_pos HE.out, HN.out, HF.out]; rfl
            · exact (by repeat (first | with_reducible exact hbw1 | (refine Below.setCell ?_ (by simp) _)))
      · have HX := Lib.hid hX
        clear hX
        go_wp2_with fail
        refine bodyPost_ret (v := .tuple #[.agg #[Sv [], Sv [], Sv [], Sv []], .int .i64 0]) (by simp [results, Try.results16, go_sem, Sv, bs, hd0, hd1, hd2, hd3]) rfl ⟨?_, ?_⟩
        · rw [FourW, if_pos HE.out, HN.out, HX.out]; rfl
        · exact (by repeat (first | with_reducible exact hW | (refine Below.setCell ?_ (by simp) _)))
  · have hz : (errOf (tl s) != 0) = true := by simp [he]
    have HE := Lib.hid he
    clear he
    go_enter Try.func16, Try.ntmps16
    go_wp2_with (first | (go_at_call 24; refine (number_any s _ hl).mono ?_; rintro e w' ⟨rfl, rfl⟩))
    refine bodyPost_ret (v := .tuple #[.agg #[Sv [], Sv [], Sv [], Sv []], .int .i64 (errOf (tl s))]) (by simp [results, Try.results16, go_sem, Sv, bs]) rfl ⟨?_, (Below.refl _ _).alloc (Nat.le_refl _) _⟩
    rw [FourW, if_neg HE.out]
end Go.Proofs.Ytdbhmhabgbfplaa
