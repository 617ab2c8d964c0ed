import Derived.Test.YtlagcdgfmgkooaaDoorIntA
/-
  Walk over integer.DivMod, and its closure.
-/
namespace Go.Proofs.YtlagcdgfmgkooaaDoor
open Go.RowKit
set_option linter.unusedVariables false

structure D5 (w : World) (gq gr : Nat) (a0 a1 b0 b1 c0 c1 q r : Value) (W : World) : Prop where
  i3 : I3 w a0 a1 b0 b1 c0 c1 W
  Q : Blk W gq 22 [q]
  R : Blk W gr 22 [r]
theorem D5.next {w : World} {gq gr : Nat} {a0 a1 b0 b1 c0 c1 q r : Value} {W W' : World} (h : D5 w gq gr a0 a1 b0 b1 c0 c1 q r W) (hb : Below W.heap.size W W') : D5 w gq gr a0 a1 b0 b1 c0 c1 q r W' :=
  ⟨h.i3.next hb, h.Q.below hb h.Q.lt, h.R.below hb h.R.lt⟩
theorem D5.drew {w : World} {gq gr : Nat} {a0 a1 b0 b1 c0 c1 q r : Value} {W : World} (h : D5 w gq gr a0 a1 b0 b1 c0 c1 q r W) : D5 w gq gr a0 a1 b0 b1 c0 c1 q r W.drew :=
  ⟨h.i3.drew, h.Q.drew, h.R.drew⟩
theorem D5.setQ {w : World} {gq gr : Nat} {a0 a1 b0 b1 c0 c1 q r : Value} {W : World} (h : D5 w gq gr a0 a1 b0 b1 c0 c1 q r W) (h1 : w.heap.size + 2 < gq) (h2 : gr ≠ gq) (v : Value) : D5 w gq gr a0 a1 b0 b1 c0 c1 v r (W.setCell ⟨gq, 0, none⟩ v) :=
  ⟨⟨h.i3.A.far (by simp; omega) _, h.i3.B.far (by simp; omega) _, h.i3.C.far (by simp; omega) _, h.i3.below.setCell (by simp; omega) _⟩, h.Q.set_ 0 v, h.R.far (by simpa using h2) _⟩
theorem D5.setR {w : World} {gq gr : Nat} {a0 a1 b0 b1 c0 c1 q r : Value} {W : World} (h : D5 w gq gr a0 a1 b0 b1 c0 c1 q r W) (h1 : w.heap.size + 2 < gr) (h2 : gq ≠ gr) (v : Value) : D5 w gq gr a0 a1 b0 b1 c0 c1 q v (W.setCell ⟨gr, 0, none⟩ v) :=
  ⟨⟨h.i3.A.far (by simp; omega) _, h.i3.B.far (by simp; omega) _, h.i3.C.far (by simp; omega) _, h.i3.below.setCell (by simp; omega) _⟩, h.Q.far (by simpa using h2) _, h.R.set_ 0 v⟩
set_option maxHeartbeats 1000000 in
theorem round_no {n k : Bool} {w W : World} {gq gr m l q r : Nat} (h : D5 w gq gr (.bool n) (Sv (Dm.str m)) (.bool k) (Sv (Dm.str l)) (.bool false) (.string ⟨#[]⟩) (Sv (Dm.str q)) (Sv (Dm.str r)) W) (hnr : n = false ∨ (n = true ∧ r = 0)) :
    Calls Tryd.prog 64 #[.pointer (some ⟨w.heap.size, 0, none⟩), .pointer (some ⟨gr, 0, none⟩), .pointer (some ⟨gq, 0, none⟩), .pointer (some ⟨w.heap.size + 1, 0, none⟩)] W fun e W' => e = .returned (.int .i64 0) ∧ W = W' := by
  obtain ⟨a0, a1, b0, b1, c0, c1, f0, f1⟩ := h.i3.cells
  have q0 : W.cell? ⟨gq, 0, none⟩ = some (Sv (Dm.str q)) := h.Q.cell 0
  have r0 : W.cell? ⟨gr, 0, none⟩ = some (Sv (Dm.str r)) := h.R.cell 0
  clear h
  rcases hnr with rfl | ⟨rfl, hr⟩
  · go_enter Tryd.func64, Tryd.ntmps64
    go_wp2_with fail
    go_ret
    exact ⟨rfl, rfl⟩
  · obtain ⟨e1, e2⟩ := str_zero hr
    clear hr
    go_enter Tryd.func64, Tryd.ntmps64
    go_wp2_with fail
    go_ret
    exact ⟨rfl, rfl⟩
set_option maxHeartbeats 1000000 in
theorem round_yes {k : Bool} {w W : World} {gq gr m l q r : Nat} (h : D5 w gq gr (.bool true) (Sv (Dm.str m)) (.bool k) (Sv (Dm.str l)) (.bool false) (.string ⟨#[]⟩) (Sv (Dm.str q)) (Sv (Dm.str r)) W) (hr : r ≠ 0)
    (g1 : w.heap.size + 2 < gq) (g2 : w.heap.size + 2 < gr) (g3 : gq ≠ gr) (hq : q < 256 ^ 128) (hq1 : q + 1 < 256 ^ 128) (hl : l < 256 ^ 128) (hrl : r ≤ l) (h1 : 1 < 256 ^ 128) :
    Calls Tryd.prog 64 #[.pointer (some ⟨w.heap.size, 0, none⟩), .pointer (some ⟨gr, 0, none⟩), .pointer (some ⟨gq, 0, none⟩), .pointer (some ⟨w.heap.size + 1, 0, none⟩)] W fun e W' => e = .returned (.int .i64 0) ∧ D5 w gq gr (.bool true) (Sv (Dm.str m)) (.bool k) (Sv (Dm.str l)) (.bool false) (.string ⟨#[]⟩) (Sv (Dm.str (q + 1))) (Sv (Dm.str (l - r))) W' := by
  obtain ⟨a0, a1, b0, b1, c0, c1, f0, f1⟩ := h.i3.cells
  have q0 : W.cell? ⟨gq, 0, none⟩ = some (Sv (Dm.str q)) := h.Q.cell 0
  have r0 : W.cell? ⟨gr, 0, none⟩ = some (Sv (Dm.str r)) := h.R.cell 0
  obtain ⟨e1, e2⟩ := str_pos hr
  have hA := fun W : World => nAdd q 1 hq h1 W
  rw [if_pos hq1] at hA
  have HA := Lib.hid hA
  have hS := fun W : World => nSub l r hl hrl W
  have HS := Lib.hid hS
  clear hA hS
  have hd := h.drew
  clear h
  go_enter Tryd.func64, Tryd.ntmps64
  go_wp2_with fail
  clear a0 a1 b0 b1 c0 c1 f0 f1 r0
  go_region_with (first | (go_at_call 47; refine (one_of _).mono ?_; rintro e wa ⟨rfl, hba⟩; have hd1 := hd.next hba; have q1 : wa.cell? ⟨gq, 0, none⟩ = some (Sv (Dm.str q)) := Blk.cell hd1.Q 0) | (go_at_call 49; refine (HA.out _).mono ?_; rintro e wb ⟨rfl, hbb⟩; have hd2 := hd1.next hbb; have q2 : wb.cell? ⟨gq, 0, none⟩ = some (Sv (Dm.str q)) := Blk.cell hd2.Q 0; have qf := Blk.frozen hd2.Q 0))
  all_goals
    have hd3 := hd2.setQ g1 (fun e => g3 e.symm) (Sv (Dm.str (q + 1)))
    clear q0 q1 q2 qf hd hd1 hd2
    obtain ⟨a0, a1, b0, b1, c0, c1, f0, f1⟩ := hd3.i3.cells
    have r0 : (wb.setCell ⟨gq, 0, none⟩ (Sv (Dm.str (q + 1)))).cell? ⟨gr, 0, none⟩ = some (Sv (Dm.str r)) := hd3.R.cell 0
    generalize wb.setCell ⟨gq, 0, none⟩ (Sv (Dm.str (q + 1))) = W3 at *
    go_wp2_with fail
    refine (HS.out _).mono ?_
    rintro e wc ⟨rfl, hbc⟩
    have hd4 := hd3.next hbc
    clear a0 a1 b0 b1 c0 c1 f0 f1 r0 hd3
    have r0 : wc.cell? ⟨gr, 0, none⟩ = some (Sv (Dm.str r)) := hd4.R.cell 0
    have rf := hd4.R.frozen 0
    go_wp2_with fail
    go_ret
    exact ⟨rfl, hd4.setR g2 g3 _⟩
theorem D5.make {w : World} {a0 a1 b0 b1 c0 c1 q r : Value} {W : World} (h : I3 w a0 a1 b0 b1 c0 c1 W) : D5 w W.heap.size (W.heap.size + 1) a0 a1 b0 b1 c0 c1 q r ((W.alloc (.cells #[q] 22)).alloc (.cells #[r] 22)) := by
  refine ⟨⟨(h.A.alloc _).alloc _, (h.B.alloc _).alloc _, (h.C.alloc _).alloc _, (h.below.alloc h.below.size _).alloc (by have := h.below.size; simp; omega) _⟩, (Blk.new W _ [q]).alloc _, ?_⟩
  have := Blk.new (W.alloc (.cells #[q] 22)) 22 [r]
  simpa using this
theorem round_any {n k : Bool} {w W : World} {gq gr m l : Nat} (h1 : Nm n m) (h2 : Nm k l) (hl0 : l ≠ 0) (h : D5 w gq gr (.bool n) (Sv (Dm.str m)) (.bool k) (Sv (Dm.str l)) (.bool false) (.string ⟨#[]⟩) (Sv (Dm.str (m / l))) (Sv (Dm.str (m % l))) W)
    (g1 : w.heap.size + 2 < gq) (g2 : w.heap.size + 2 < gr) (g3 : gq ≠ gr) :
    Calls Tryd.prog 64 #[.pointer (some ⟨w.heap.size, 0, none⟩), .pointer (some ⟨gr, 0, none⟩), .pointer (some ⟨gq, 0, none⟩), .pointer (some ⟨w.heap.size + 1, 0, none⟩)] W fun e W' => e = .returned (.int .i64 0) ∧ D5 w gq gr (.bool n) (Sv (Dm.str m)) (.bool k) (Sv (Dm.str l)) (.bool false) (.string ⟨#[]⟩) (Sv (Dm.str (qN n m l))) (Sv (Dm.str (rN n m l))) W' := by
  have hqn := qN_lt (n := n) (m := m) (l := l) h1.lt hl0
  have hrl := Nat.mod_lt m (Nat.pos_of_ne_zero hl0)
  by_cases hnr : n = true ∧ m % l ≠ 0
  · have hq : qN n m l = m / l + 1 := by rw [qN, if_pos hnr]
    have hr : rN n m l = l - m % l := by rw [rN, if_pos hnr]
    rw [hq] at hqn
    rw [hq, hr]
    obtain ⟨rfl, h3⟩ := hnr
    exact round_yes h h3 g1 g2 g3 (by omega) hqn h2.lt (by omega) (pos_lt h2)
  · have hq : qN n m l = m / l := by rw [qN, if_neg hnr]
    have hr : rN n m l = m % l := by rw [rN, if_neg hnr]
    rw [hq, hr]
    refine (round_no h ?_).mono fun e W' ⟨he, hw⟩ => ⟨he, hw ▸ h⟩
    cases n
    · exact .inl rfl
    · exact .inr ⟨rfl, by simpa using hnr⟩
theorem D5.four {w : World} {gq gr : Nat} {a0 a1 b0 b1 c0 c1 q r : Value} {W : World} (h : D5 w gq gr a0 a1 b0 b1 c0 c1 q r W) : (W.cell? ⟨w.heap.size, 0, none⟩ = some a0 ∧ W.cell? ⟨w.heap.size + 1, 0, none⟩ = some b0) ∧ W.cell? ⟨gq, 0, none⟩ = some q ∧ W.cell? ⟨gr, 0, none⟩ = some r := ⟨⟨h.i3.A.cell 0, h.i3.B.cell 0⟩, h.Q.cell 0, h.R.cell 0⟩
theorem D5.four' {w : World} {gq gr : Nat} {a0 a1 b0 b1 c0 c1 q r u v : Value} {W : World} (h : D5 w gq gr a0 a1 b0 b1 c0 c1 q r W) (g1 : w.heap.size + 2 < gq) (g2 : w.heap.size + 2 < gr) :
    (((W.setCell ⟨w.heap.size + 1 + 1, 0, none⟩ u).setCell ⟨w.heap.size + 1 + 1, 1, none⟩ v).cell? ⟨w.heap.size, 0, none⟩ = some a0 ∧ ((W.setCell ⟨w.heap.size + 1 + 1, 0, none⟩ u).setCell ⟨w.heap.size + 1 + 1, 1, none⟩ v).cell? ⟨w.heap.size + 1, 0, none⟩ = some b0) ∧ ((W.setCell ⟨w.heap.size + 1 + 1, 0, none⟩ u).setCell ⟨w.heap.size + 1 + 1, 1, none⟩ v).cell? ⟨gq, 0, none⟩ = some q ∧ ((W.setCell ⟨w.heap.size + 1 + 1, 0, none⟩ u).setCell ⟨w.heap.size + 1 + 1, 1, none⟩ v).cell? ⟨gr, 0, none⟩ = some r :=
  ⟨⟨((h.i3.A.far (p := ⟨w.heap.size + 1 + 1, 0, none⟩) (by simp; omega) u).far (p := ⟨w.heap.size + 1 + 1, 1, none⟩) (by simp; omega) v).cell 0, ((h.i3.B.far (p := ⟨w.heap.size + 1 + 1, 0, none⟩) (by simp) u).far (p := ⟨w.heap.size + 1 + 1, 1, none⟩) (by simp) v).cell 0⟩,
    ((h.Q.far (p := ⟨w.heap.size + 1 + 1, 0, none⟩) (by simp; omega) u).far (p := ⟨w.heap.size + 1 + 1, 1, none⟩) (by simp; omega) v).cell 0, ((h.R.far (p := ⟨w.heap.size + 1 + 1, 0, none⟩) (by simp; omega) u).far (p := ⟨w.heap.size + 1 + 1, 1, none⟩) (by simp; omega) v).cell 0⟩
set_option maxHeartbeats 1000000 in
theorem iDivMod_nm {n k : Bool} {m l : Nat} (h1 : Nm n m) (h2 : Nm k l) (w : World) :
    Calls Tryd.prog 26 #[.agg #[.bool n, Sv (Dm.str m)], .agg #[.bool k, Sv (Dm.str l)]] w fun e w' => e = .returned (divI (zz n m) (zz k l)) ∧ Below w.heap.size w w' := by
  have hi := I3.start w (.bool n) (Sv (Dm.str m)) (.bool k) (Sv (Dm.str l)) (.bool false) (.string ⟨#[]⟩)
  by_cases hl0 : l = 0
  · subst hl0
    obtain ⟨e1, e2⟩ := str_zero (n := 0) rfl
    have HV := Lib.hid (divI_zero n k m)
    go_enter Tryd.func26, Tryd.ntmps26
    go_wp2_with fail
    refine (both_nm h1 h2 _).mono ?_
    rintro e w1 ⟨rfl, hb1⟩
    have hi1 := hi.next hb1
    obtain ⟨a0, a1, b0, b1, c0, c1, f0, f1⟩ := hi1.cells
    clear hi hb1
    go_wp2_with fail
    refine bodyPost_ret (v := .tuple #[.agg #[.bool false, .string ⟨#[]⟩], .string ⟨#[]⟩, .int .i64 11]) (by simp [results, Tryd.results26, go_sem, c0, c1]) rfl ⟨by rw [HV.out]; rfl, ?_⟩
    exact (hi1.below.setCell (by simp; omega) _).setCell (by simp; omega) _
  · obtain ⟨e1, e2⟩ := str_pos hl0
    have HV := Lib.hid (divI_nm n k m l hl0)
    have hq0 : m / l < 256 ^ 128 := Nat.lt_of_le_of_lt (Nat.div_le_self _ _) h1.lt
    have hqn := qN_lt (n := n) (m := m) (l := l) h1.lt hl0
    have hD := fun W : World => nDiv m l h1.lt h2.lt hl0 W
    have HD := Lib.hid hD
    have hrl := Nat.mod_lt m (Nat.pos_of_ne_zero hl0)
    clear hD
    obtain ⟨x, y, hx⟩ := iV_form (zz (n != k) (qN n m l))
    have HX := Lib.hid hx
    clear hx
    go_enter Tryd.func26, Tryd.ntmps26
    go_wp2_with fail
    refine (both_nm h1 h2 _).mono ?_
    rintro e w1 ⟨rfl, hb1⟩
    have hi1 := hi.next hb1
    obtain ⟨a0, a1, b0, b1, c0, c1, f0, f1⟩ := hi1.cells
    clear hi hb1
    go_wp2_with fail
    refine (HD.out _).mono ?_
    rintro e w2 ⟨rfl, hb2⟩
    have hi2 := hi1.next hb2
    have hz2 : w.heap.size + 2 < w2.heap.size := hi2.C.lt
    clear a0 a1 b0 b1 c0 c1 f0 f1 hi1 hb2
    go_wp2_with fail
    have hd := D5.make (q := Sv (Dm.str (m / l))) (r := Sv (Dm.str (m % l))) hi2
    have g1 : w.heap.size + 2 < w2.heap.size := hz2
    have g2 : w.heap.size + 2 < w2.heap.size + 1 := by omega
    have g3 : w2.heap.size ≠ w2.heap.size + 1 := by omega
    clear hi2 hz2
    refine (round_any h1 h2 hl0 hd g1 g2 g3).mono ?_
    rintro e w3 ⟨rfl, hd3⟩
    clear hd
    generalize w2.heap.size = gq at *
    generalize gq + 1 = gr at *
    go_wp2_with fail
    have hd4 := hd3.drew
    clear hd3
    go_region_held3 (fun w' => (w'.cell? ⟨w.heap.size, 0, none⟩ = some (.bool n) ∧ w'.cell? ⟨w.heap.size + 1, 0, none⟩ = some (.bool k)) ∧ w'.cell? ⟨gq, 0, none⟩ = some (Sv (Dm.str (qN n m l))) ∧ w'.cell? ⟨gr, 0, none⟩ = some (Sv (Dm.str (rN n m l)))) (first | exact D5.four (by assumption) | exact D5.four' (by assumption) g1 g2)
      (first | (go_at_call 50; refine (made_at (n != k) (qN n m l) (zz (n != k) (qN n m l)) _ rfl).mono ?_; rintro e wa ⟨rfl, hba⟩; rw [HX.out]; have hd5 := D5.next (by assumption) hba; have c0 := hd5.i3.cells.2.2.2.2.1; have c1 := hd5.i3.cells.2.2.2.2.2.1; have f0 := hd5.i3.cells.2.2.2.2.2.2.1; have f1 := hd5.i3.cells.2.2.2.2.2.2.2))
    go_wp2_with fail
    refine bodyPost_ret (v := .tuple #[.agg #[.bool x, .string y], Sv (Dm.str (rN n m l)), .int .i64 0]) (by simp [results, Tryd.results26, go_sem, c0, c1]) rfl ⟨by rw [HV.out, HX.out], ?_⟩
    exact (hd5.i3.below.setCell (by simp; omega) _).setCell (by simp; omega) _
end Go.Proofs.YtlagcdgfmgkooaaDoor

/-
  Walks over integer and dominoref02: From, Of; DivMod at invalid arguments. (printed by wip/mkint2.py)
-/
namespace Go.Proofs.YtlagcdgfmgkooaaDoor
open Go.RowKit
set_option linter.unusedVariables false

/-- the box of a result -/
structure I1 (w : World) (c0 c1 : Value) (W : World) : Prop where
  C : Blk W w.heap.size 24 [c0, c1]
  below : Below w.heap.size w W
theorem I1.start (w : World) (c0 c1 : Value) : I1 w c0 c1 (w.alloc (.cells #[c0, c1] 24)) := ⟨Blk.new w _ [c0, c1], (Below.refl _ _).alloc (Nat.le_refl _) _⟩
theorem I1.next {w : World} {c0 c1 : Value} {W W' : World} (h : I1 w c0 c1 W) (hb : Below W.heap.size W W') : I1 w c0 c1 W' := ⟨h.C.below hb h.C.lt, h.below.trans (hb.mono h.below.size)⟩
theorem I1.cells {w : World} {c0 c1 : Value} {W : World} (h : I1 w c0 c1 W) : W.cell? ⟨w.heap.size, 0, none⟩ = some c0 ∧ W.cell? ⟨w.heap.size, 1, none⟩ = some c1 ∧ W.frozen? ⟨w.heap.size, 0, none⟩ = false ∧ W.frozen? ⟨w.heap.size, 1, none⟩ = false := ⟨h.C.cell 0, h.C.cell 1, h.C.frozen 0, h.C.frozen 1⟩
set_option maxHeartbeats 1000000 in
theorem iFrom_nm (m : Nat) (hm : m < 256 ^ 128) (w : World) :
    Calls Tryd.prog 23 #[Sv (Dm.str m)] w fun e w' => e = .returned (iV (m : Int)) ∧ Below w.heap.size w w' := by
  have hi := I1.start w (.bool false) (.string ⟨#[]⟩)
  have h1 : Nm false m := ⟨(fun h => by cases h), hm⟩
  obtain ⟨x, y, hx⟩ := iV_form (m : Int)
  have HX := Lib.hid hx
  rw [hx]
  clear hx
  go_enter Tryd.func23, Tryd.ntmps23
  go_wp2_with fail
  refine (valid_at (bs (Dm.str m)) true _ (by have := h1.str; omega) (by rw [tl_bs]; exact h1.vB)).mono ?_
  rintro e w1 ⟨rfl, rfl⟩
  go_wp2_with fail
  refine (made_at false m (m : Int) _ rfl).mono ?_
  rintro e w2 ⟨rfl, hb2⟩
  rw [HX.out]
  have hi2 := hi.next hb2
  obtain ⟨c0, c1, f0, f1⟩ := hi2.cells
  go_wp2_with fail
  refine bodyPost_ret (v := .agg #[.bool x, .string y]) (by simp [results, Tryd.results23, go_sem, c0, c1]) rfl ⟨rfl, ?_⟩
  exact (hi2.below.setCell (Nat.le_refl _) _).setCell (Nat.le_refl _) _
set_option maxHeartbeats 1000000 in
theorem iFrom_bad (s : ByteArray) (w : World) (hl : s.size ≤ 1073741824) (hv : validB (tl s) = false) :
    Calls Tryd.prog 23 #[.string s] w fun e w' => e = .returned intE ∧ Below w.heap.size w w' := by
  have hi := I1.start w (.bool false) (.string ⟨#[]⟩)
  obtain ⟨c0, c1, f0, f1⟩ := hi.cells
  have HV := Lib.hid hv
  clear hv
  go_enter Tryd.func23, Tryd.ntmps23
  go_wp2_with fail
  refine (valid_at s false _ hl HV.out).mono ?_
  rintro e w1 ⟨rfl, rfl⟩
  go_wp2_with fail
  refine bodyPost_ret (v := .agg #[.bool false, .string ⟨#[]⟩]) (by simp [results, Tryd.results23, go_sem]) rfl ⟨rfl, ?_⟩
  exact (Below.refl _ _).alloc (Nat.le_refl _) _
set_option maxHeartbeats 1000000 in
theorem rFrom_nm (m : Nat) (hm : m < 256 ^ 128) (w : World) :
    Calls Tryd.prog 39 #[Sv (Dm.str m)] w fun e w' => e = .returned (iV (m : Int)) ∧ Below w.heap.size w w' := by
  have hi := I1.start w (.bool false) (.string ⟨#[]⟩)
  have h1 : Nm false m := ⟨(fun h => by cases h), hm⟩
  obtain ⟨x, y, hx⟩ := iV_form (m : Int)
  have HX := Lib.hid hx
  rw [hx]
  clear hx
  go_enter Tryd.func39, Tryd.ntmps39
  go_wp2_with fail
  refine (ref_valid_at (bs (Dm.str m)) true _ (by have := h1.str; omega) (by rw [tl_bs]; exact h1.vB)).mono ?_
  rintro e w1 ⟨rfl, rfl⟩
  go_wp2_with fail
  refine (rmake_at false m (m : Int) _ rfl).mono ?_
  rintro e w2 ⟨rfl, hb2⟩
  rw [HX.out]
  have hi2 := hi.next hb2
  obtain ⟨c0, c1, f0, f1⟩ := hi2.cells
  go_wp2_with fail
  refine bodyPost_ret (v := .agg #[.bool x, .string y]) (by simp [results, Tryd.results39, go_sem, c0, c1]) rfl ⟨rfl, ?_⟩
  exact (hi2.below.setCell (Nat.le_refl _) _).setCell (Nat.le_refl _) _
set_option maxHeartbeats 1000000 in
theorem rFrom_bad (s : ByteArray) (w : World) (hl : s.size ≤ 1073741824) (hv : validB (tl s) = false) :
    Calls Tryd.prog 39 #[.string s] w fun e w' => e = .returned intE ∧ Below w.heap.size w w' := by
  have hi := I1.start w (.bool false) (.string ⟨#[]⟩)
  obtain ⟨c0, c1, f0, f1⟩ := hi.cells
  have HV := Lib.hid hv
  clear hv
  go_enter Tryd.func39, Tryd.ntmps39
  go_wp2_with fail
  refine (ref_valid_at s false _ hl HV.out).mono ?_
  rintro e w1 ⟨rfl, rfl⟩
  go_wp2_with fail
  refine bodyPost_ret (v := .agg #[.bool false, .string ⟨#[]⟩]) (by simp [results, Tryd.results39, go_sem]) rfl ⟨rfl, ?_⟩
  exact (Below.refl _ _).alloc (Nat.le_refl _) _
set_option maxRecDepth 20000 in
set_option maxHeartbeats 1000000 in
theorem iOf_any (z : Int) (h1 : -9223372036854775808 ≤ z) (h2 : z ≤ 9223372036854775807) (w : World) :
    Calls Tryd.prog 34 #[.int .i64 z] w fun e w' => e = .returned (iV z) ∧ Below w.heap.size w w' := by
  have hi := I1.start w (.bool false) (.string ⟨#[]⟩)
  obtain ⟨x, y, hx⟩ := iV_form z
  have HX := Lib.hid hx
  rw [hx]
  clear hx
  by_cases hz : z < 0
  · have HZ : Hid (zz true z.natAbs = z) := by show _ = _; simp [zz]; omega
    go_enter Tryd.func34, Tryd.ntmps34
    go_wp2_with fail
    refine (of_at _ z.natAbs _ ?_ (by omega)).mono ?_
    · first | (simp only [IntKind.wrap_u64]; omega) | omega
    rintro e w1 ⟨rfl, hb1⟩
    have hi1 := hi.next hb1
    go_wp2_with fail
    refine (made_at true z.natAbs z _ HZ.out).mono ?_
    rintro e w2 ⟨rfl, hb2⟩
    rw [HX.out]
    have hi2 := hi1.next hb2
    obtain ⟨c0, c1, f0, f1⟩ := hi2.cells
    go_wp2_with fail
    refine bodyPost_ret (v := .agg #[.bool x, .string y]) (by simp [results, Tryd.results34, go_sem, c0, c1]) rfl ⟨rfl, ?_⟩
    exact (hi2.below.setCell (Nat.le_refl _) _).setCell (Nat.le_refl _) _
  · have HZ : Hid (zz false z.natAbs = z) := by show _ = _; simp [zz]; omega
    go_enter Tryd.func34, Tryd.ntmps34
    go_wp2_with fail
    refine (of_at _ z.natAbs _ ?_ (by omega)).mono ?_
    · first | (simp only [IntKind.wrap_u64]; omega) | omega
    rintro e w1 ⟨rfl, hb1⟩
    have hi1 := hi.next hb1
    go_wp2_with fail
    refine (made_at false z.natAbs z _ HZ.out).mono ?_
    rintro e w2 ⟨rfl, hb2⟩
    rw [HX.out]
    have hi2 := hi1.next hb2
    obtain ⟨c0, c1, f0, f1⟩ := hi2.cells
    go_wp2_with fail
    refine bodyPost_ret (v := .agg #[.bool x, .string y]) (by simp [results, Tryd.results34, go_sem, c0, c1]) rfl ⟨rfl, ?_⟩
    exact (hi2.below.setCell (Nat.le_refl _) _).setCell (Nat.le_refl _) _
set_option maxRecDepth 20000 in
set_option maxHeartbeats 1000000 in
theorem rOf_any (z : Int) (h1 : -9223372036854775808 ≤ z) (h2 : z ≤ 9223372036854775807) (w : World) :
    Calls Tryd.prog 38 #[.int .i64 z] w fun e w' => e = .returned (iV z) ∧ Below w.heap.size w w' := by
  have hi := I1.start w (.bool false) (.string ⟨#[]⟩)
  obtain ⟨x, y, hx⟩ := iV_form z
  have HX := Lib.hid hx
  rw [hx]
  clear hx
  by_cases hz : z < 0
  · have HZ : Hid (zz true z.natAbs = z) := by show _ = _; simp [zz]; omega
    go_enter Tryd.func38, Tryd.ntmps38
    go_wp2_with fail
    refine (ref_of_at _ z.natAbs _ ?_ (by omega)).mono ?_
    · first | (simp only [IntKind.wrap_u64]; omega) | omega
    rintro e w1 ⟨rfl, hb1⟩
    have hi1 := hi.next hb1
    go_wp2_with fail
    refine (rmake_at true z.natAbs z _ HZ.out).mono ?_
    rintro e w2 ⟨rfl, hb2⟩
    rw [HX.out]
    have hi2 := hi1.next hb2
    obtain ⟨c0, c1, f0, f1⟩ := hi2.cells
    go_wp2_with fail
    refine bodyPost_ret (v := .agg #[.bool x, .string y]) (by simp [results, Tryd.results38, go_sem, c0, c1]) rfl ⟨rfl, ?_⟩
    exact (hi2.below.setCell (Nat.le_refl _) _).setCell (Nat.le_refl _) _
  · have HZ : Hid (zz false z.natAbs = z) := by show _ = _; simp [zz]; omega
    go_enter Tryd.func38, Tryd.ntmps38
    go_wp2_with fail
    refine (ref_of_at _ z.natAbs _ ?_ (by omega)).mono ?_
    · first | (simp only [IntKind.wrap_u64]; omega) | omega
    rintro e w1 ⟨rfl, hb1⟩
    have hi1 := hi.next hb1
    go_wp2_with fail
    refine (rmake_at false z.natAbs z _ HZ.out).mono ?_
    rintro e w2 ⟨rfl, hb2⟩
    rw [HX.out]
    have hi2 := hi1.next hb2
    obtain ⟨c0, c1, f0, f1⟩ := hi2.cells
    go_wp2_with fail
    refine bodyPost_ret (v := .agg #[.bool x, .string y]) (by simp [results, Tryd.results38, go_sem, c0, c1]) rfl ⟨rfl, ?_⟩
    exact (hi2.below.setCell (Nat.le_refl _) _).setCell (Nat.le_refl _) _
set_option maxHeartbeats 1000000 in
theorem iDivMod_bad (n k : Bool) (s t : ByteArray) (w : World) (hl : s.size ≤ 1073741824) (hl2 : t.size ≤ 1073741824) (hv : (validI n (tl s) && validI k (tl t)) = false) :
    Calls Tryd.prog 26 #[.agg #[.bool n, .string s], .agg #[.bool k, .string t]] w fun e w' => e = .returned (.tuple #[intE, .string ⟨#[]⟩, .int .i64 3]) ∧ Below w.heap.size w w' := by
  have hi := I3.start w (.bool n) (.string s) (.bool k) (.string t) (.bool false) (.string ⟨#[]⟩)
  have HV := Lib.hid hv
  clear hv
  go_enter Tryd.func26, Tryd.ntmps26
  go_wp2_with fail
  refine (both_at n k s t false _ hl hl2 HV.out).mono ?_
  rintro e w1 ⟨rfl, hb1⟩
  have hi1 := hi.next hb1
  obtain ⟨a0, a1, b0, b1, c0, c1, f0, f1⟩ := hi1.cells
  clear hi hb1
  go_wp2_with fail
  refine bodyPost_ret (v := .tuple #[.agg #[.bool false, .string ⟨#[]⟩], .string ⟨#[]⟩, .int .i64 3]) (by simp [results, Tryd.results26, go_sem, c0, c1]) rfl ⟨rfl, ?_⟩
  exact (hi1.below.setCell (by simp; omega) _).setCell (by simp; omega) _
set_option maxHeartbeats 1000000 in
theorem rDivMod_bad (n k : Bool) (s t : ByteArray) (w : World) (hl : s.size ≤ 1073741824) (hl2 : t.size ≤ 1073741824) (hv : (validI n (tl s) && validI k (tl t)) = false) :
    Calls Tryd.prog 27 #[.agg #[.bool n, .string s], .agg #[.bool k, .string t]] w fun e w' => e = .returned (.tuple #[intE, .string ⟨#[]⟩, .int .i64 3]) ∧ Below w.heap.size w w' := by
  have hi := I3.start w (.bool n) (.string s) (.bool k) (.string t) (.bool false) (.string ⟨#[]⟩)
  have HV := Lib.hid hv
  clear hv
  cases h1 : validI n (tl s) with
  | false =>
    have H1 := Lib.hid h1
    clear h1 HV
    go_enter Tryd.func27, Tryd.ntmps27
    go_wp2_with fail
    refine (rValid_at n s false _ hl H1.out).mono ?_
    rintro e w1 ⟨rfl, hb1⟩
    have hi1 := hi.next hb1
    obtain ⟨a0, a1, b0, b1, c0, c1, f0, f1⟩ := hi1.cells
    clear hi hb1
    go_wp2_with fail
    refine bodyPost_ret (v := .tuple #[.agg #[.bool false, .string ⟨#[]⟩], .string ⟨#[]⟩, .int .i64 3]) (by simp [results, Tryd.results27, go_sem, c0, c1]) rfl ⟨rfl, ?_⟩
    exact (hi1.below.setCell (by simp; omega) _).setCell (by simp; omega) _
  | true =>
    have H1 := Lib.hid h1
    have h2 := HV.out
    rw [h1, Bool.true_and] at h2
    have H2 := Lib.hid h2
    clear h1 h2 HV
    go_enter Tryd.func27, Tryd.ntmps27
    go_wp2_with fail
    refine (rValid_at n s true _ hl H1.out).mono ?_
    rintro e w1 ⟨rfl, hb1⟩
    have hi1 := hi.next hb1
    obtain ⟨a0, a1, b0, b1, c0, c1, f0, f1⟩ := hi1.cells
    clear hi hb1
    go_wp2_with fail
    refine (rValid_at k t false _ hl2 H2.out).mono ?_
    rintro e w2 ⟨rfl, hb2⟩
    have hi2 := hi1.next hb2
    clear a0 a1 b0 b1 c0 c1 f0 f1 hi1 hb2
    obtain ⟨a0, a1, b0, b1, c0, c1, f0, f1⟩ := hi2.cells
    go_wp2_with fail
    refine bodyPost_ret (v := .tuple #[.agg #[.bool false, .string ⟨#[]⟩], .string ⟨#[]⟩, .int .i64 3]) (by simp [results, Tryd.results27, go_sem, c0, c1]) rfl ⟨rfl, ?_⟩
    exact (hi2.below.setCell (by simp; omega) _).setCell (by simp; omega) _
end Go.Proofs.YtlagcdgfmgkooaaDoor

/-
  Walks over integer and dominoref02: Cmp. (printed by wip/mkint3.py)
-/
namespace Go.Proofs.YtlagcdgfmgkooaaDoor
open Go.RowKit
set_option linter.unusedVariables false

def cmpZ (x y : Int) : Int := if x < y then -1 else if y < x then 1 else 0
theorem cmpZ_false (m l : Nat) : cmpZ (zz false m) (zz false l) = Dm.cmpN m l := by
  unfold cmpZ zz Dm.cmpN
  simp
theorem cmpZ_true (m l : Nat) : cmpZ (zz true m) (zz true l) = Dm.cmpN l m := by
  unfold cmpZ zz Dm.cmpN
  simp
/-- the boxes of two integers -/
structure B2 (w : World) (a0 a1 b0 b1 : Value) (W : World) : Prop where
  A : Blk W w.heap.size 24 [a0, a1]
  B : Blk W (w.heap.size + 1) 24 [b0, b1]
  below : Below w.heap.size w W
theorem B2.start (w : World) (a0 a1 b0 b1 : Value) : B2 w a0 a1 b0 b1 ((w.alloc (.cells #[a0, a1] 24)).alloc (.cells #[b0, b1] 24)) :=
  have h := I2.start w a0 a1 b0 b1
  ⟨h.A, h.C, h.below⟩
theorem B2.next {w : World} {a0 a1 b0 b1 : Value} {W W' : World} (h : B2 w a0 a1 b0 b1 W) (hb : Below W.heap.size W W') : B2 w a0 a1 b0 b1 W' :=
  ⟨h.A.below hb h.A.lt, h.B.below hb h.B.lt, h.below.trans (hb.mono h.below.size)⟩
theorem B2.cells {w : World} {a0 a1 b0 b1 : Value} {W : World} (h : B2 w a0 a1 b0 b1 W) : W.cell? ⟨w.heap.size, 0, none⟩ = some a0 ∧ W.cell? ⟨w.heap.size, 1, none⟩ = some a1 ∧ W.cell? ⟨w.heap.size + 1, 0, none⟩ = some b0 ∧ W.cell? ⟨w.heap.size + 1, 1, none⟩ = some b1 :=
  ⟨h.A.cell 0, h.A.cell 1, h.B.cell 0, h.B.cell 1⟩
set_option maxHeartbeats 1000000 in
theorem iCmp_nm {n k : Bool} {m l : Nat} (h1 : Nm n m) (h2 : Nm k l) (w : World) :
    Calls Tryd.prog 33 #[.agg #[.bool n, Sv (Dm.str m)], .agg #[.bool k, Sv (Dm.str l)]] w fun e w' => e = .returned (.int .i64 (cmpZ (zz n m) (zz k l))) ∧ Below w.heap.size w w' := by
  have hi := B2.start w (.bool n) (Sv (Dm.str m)) (.bool k) (Sv (Dm.str l))
  cases n with
  | false =>
    cases k with
    | false =>
      have HV := Lib.hid (cmpZ_false m l)
      have hC := fun W : World => nCmp m l h1.lt h2.lt W
      have HC := Lib.hid hC
      clear hC
      go_enter Tryd.func33, Tryd.ntmps33
      go_wp2_with fail
      refine (both_nm h1 h2 _).mono ?_
      rintro e w1 ⟨rfl, hb1⟩
      have hi1 := hi.next hb1
      obtain ⟨a0, a1, b0, b1⟩ := hi1.cells
      clear hi hb1
      go_wp2_with fail
      refine (HC.out _).mono ?_
      rintro e w2 ⟨rfl, rfl⟩
      go_wp2_with fail
      go_ret
      exact ⟨by rw [HV.out]; rfl, hi1.below⟩
    | true =>
      have HV : Hid (cmpZ (zz false m) (zz true l) = 1) := by
        show _ = _
        have e1 := h1.ne
        have e2 := h2.ne
        unfold cmpZ zz
        simp at e1 e2 ⊢
        first | omega | (split <;> omega) | (split <;> (try split) <;> omega)
      go_enter Tryd.func33, Tryd.ntmps33
      go_wp2_with fail
      refine (both_nm h1 h2 _).mono ?_
      rintro e w1 ⟨rfl, hb1⟩
      have hi1 := hi.next hb1
      obtain ⟨a0, a1, b0, b1⟩ := hi1.cells
      clear hi hb1
      go_wp2_with fail
      go_ret
      exact ⟨by rw [HV.out]; rfl, hi1.below⟩
  | true =>
    cases k with
    | false =>
      have HV : Hid (cmpZ (zz true m) (zz false l) = -1) := by
        show _ = _
        have e1 := h1.ne
        have e2 := h2.ne
        unfold cmpZ zz
        simp at e1 e2 ⊢
        first | omega | (split <;> omega) | (split <;> (try split) <;> omega)
      go_enter Tryd.func33, Tryd.ntmps33
      go_wp2_with fail
      refine (both_nm h1 h2 _).mono ?_
      rintro e w1 ⟨rfl, hb1⟩
      have hi1 := hi.next hb1
      obtain ⟨a0, a1, b0, b1⟩ := hi1.cells
      clear hi hb1
      go_wp2_with fail
      go_ret
      exact ⟨by rw [HV.out]; rfl, hi1.below⟩
    | true =>
      have HV := Lib.hid (cmpZ_true m l)
      have hC := fun W : World => nCmp l m h2.lt h1.lt W
      have HC := Lib.hid hC
      clear hC
      go_enter Tryd.func33, Tryd.ntmps33
      go_wp2_with fail
      refine (both_nm h1 h2 _).mono ?_
      rintro e w1 ⟨rfl, hb1⟩
      have hi1 := hi.next hb1
      obtain ⟨a0, a1, b0, b1⟩ := hi1.cells
      clear hi hb1
      go_wp2_with fail
      refine (HC.out _).mono ?_
      rintro e w2 ⟨rfl, rfl⟩
      go_wp2_with fail
      go_ret
      exact ⟨by rw [HV.out]; rfl, hi1.below⟩
set_option maxHeartbeats 1000000 in
theorem iCmp_bad (n k : Bool) (s t : ByteArray) (w : World) (hl : s.size ≤ 1073741824) (hl2 : t.size ≤ 1073741824) (hv : (validI n (tl s) && validI k (tl t)) = false) :
    Calls Tryd.prog 33 #[.agg #[.bool n, .string s], .agg #[.bool k, .string t]] w fun e w' => e = .returned (.int .i64 0) ∧ Below w.heap.size w w' := by
  have hi := B2.start w (.bool n) (.string s) (.bool k) (.string t)
  have HV := Lib.hid hv
  clear hv
  go_enter Tryd.func33, Tryd.ntmps33
  go_wp2_with fail
  refine (both_at n k s t false _ hl hl2 HV.out).mono ?_
  rintro e w1 ⟨rfl, hb1⟩
  have hi1 := hi.next hb1
  go_wp2_with fail
  go_ret
  exact ⟨rfl, hi1.below⟩
set_option maxHeartbeats 1000000 in
theorem rCmp_nm {n k : Bool} {m l : Nat} (h1 : Nm n m) (h2 : Nm k l) (w : World) :
    Calls Tryd.prog 42 #[.agg #[.bool n, Sv (Dm.str m)], .agg #[.bool k, Sv (Dm.str l)]] w fun e w' => e = .returned (.int .i64 (cmpZ (zz n m) (zz k l))) ∧ Below w.heap.size w w' := by
  have hi := B2.start w (.bool n) (Sv (Dm.str m)) (.bool k) (Sv (Dm.str l))
  cases n with
  | false =>
    cases k with
    | false =>
      have HV := Lib.hid (cmpZ_false m l)
      have hC := fun W : World => rCmp m l h1.lt h2.lt W
      have HC := Lib.hid hC
      clear hC
      go_enter Tryd.func42, Tryd.ntmps42
      go_wp2_with fail
      refine (rValid_nm h1 _).mono ?_
      rintro e wv ⟨rfl, hbv⟩
      have hiv := hi.next hbv
      obtain ⟨a0, a1, b0, b1⟩ := hiv.cells
      clear hi hbv
      go_wp2_with fail
      refine (rValid_nm h2 _).mono ?_
      rintro e w1 ⟨rfl, hb1⟩
      have hi1 := hiv.next hb1
      clear a0 a1 b0 b1 hiv hb1
      obtain ⟨a0, a1, b0, b1⟩ := hi1.cells
      go_wp2_with fail
      refine (HC.out _).mono ?_
      rintro e w2 ⟨rfl, hb2⟩
      have hi2 := hi1.next hb2
      go_wp2_with fail
      go_ret
      exact ⟨by rw [HV.out]; rfl, hi2.below⟩
    | true =>
      have HV : Hid (cmpZ (zz false m) (zz true l) = 1) := by
        show _ = _
        have e1 := h1.ne
        have e2 := h2.ne
        unfold cmpZ zz
        simp at e1 e2 ⊢
        first | omega | (split <;> omega) | (split <;> (try split) <;> omega)
      go_enter Tryd.func42, Tryd.ntmps42
      go_wp2_with fail
      refine (rValid_nm h1 _).mono ?_
      rintro e wv ⟨rfl, hbv⟩
      have hiv := hi.next hbv
      obtain ⟨a0, a1, b0, b1⟩ := hiv.cells
      clear hi hbv
      go_wp2_with fail
      refine (rValid_nm h2 _).mono ?_
      rintro e w1 ⟨rfl, hb1⟩
      have hi1 := hiv.next hb1
      clear a0 a1 b0 b1 hiv hb1
      obtain ⟨a0, a1, b0, b1⟩ := hi1.cells
      go_wp2_with fail
      go_ret
      exact ⟨by rw [HV.out]; rfl, hi1.below⟩
  | true =>
    cases k with
    | false =>
      have HV : Hid (cmpZ (zz true m) (zz false l) = -1) := by
        show _ = _
        have e1 := h1.ne
        have e2 := h2.ne
        unfold cmpZ zz
        simp at e1 e2 ⊢
        first | omega | (split <;> omega) | (split <;> (try split) <;> omega)
      go_enter Tryd.func42, Tryd.ntmps42
      go_wp2_with fail
      refine (rValid_nm h1 _).mono ?_
      rintro e wv ⟨rfl, hbv⟩
      have hiv := hi.next hbv
      obtain ⟨a0, a1, b0, b1⟩ := hiv.cells
      clear hi hbv
      go_wp2_with fail
      refine (rValid_nm h2 _).mono ?_
      rintro e w1 ⟨rfl, hb1⟩
      have hi1 := hiv.next hb1
      clear a0 a1 b0 b1 hiv hb1
      obtain ⟨a0, a1, b0, b1⟩ := hi1.cells
      go_wp2_with fail
      go_ret
      exact ⟨by rw [HV.out]; rfl, hi1.below⟩
    | true =>
      have HV := Lib.hid (cmpZ_true m l)
      have hC := fun W : World => rCmp l m h2.lt h1.lt W
      have HC := Lib.hid hC
      clear hC
      go_enter Tryd.func42, Tryd.ntmps42
      go_wp2_with fail
      refine (rValid_nm h1 _).mono ?_
      rintro e wv ⟨rfl, hbv⟩
      have hiv := hi.next hbv
      obtain ⟨a0, a1, b0, b1⟩ := hiv.cells
      clear hi hbv
      go_wp2_with fail
      refine (rValid_nm h2 _).mono ?_
      rintro e w1 ⟨rfl, hb1⟩
      have hi1 := hiv.next hb1
      clear a0 a1 b0 b1 hiv hb1
      obtain ⟨a0, a1, b0, b1⟩ := hi1.cells
      go_wp2_with fail
      refine (HC.out _).mono ?_
      rintro e w2 ⟨rfl, hb2⟩
      have hi2 := hi1.next hb2
      go_wp2_with fail
      go_ret
      exact ⟨by rw [HV.out]; rfl, hi2.below⟩
set_option maxHeartbeats 1000000 in
theorem rCmp_bad (n k : Bool) (s t : ByteArray) (w : World) (hl : s.size ≤ 1073741824) (hl2 : t.size ≤ 1073741824) (hv : (validI n (tl s) && validI k (tl t)) = false) :
    Calls Tryd.prog 42 #[.agg #[.bool n, .string s], .agg #[.bool k, .string t]] w fun e w' => e = .returned (.int .i64 0) ∧ Below w.heap.size w w' := by
  have hi := B2.start w (.bool n) (.string s) (.bool k) (.string t)
  have HV := Lib.hid hv
  clear hv
  cases h1 : validI n (tl s) with
  | false =>
    have H1 := Lib.hid h1
    clear h1 HV
    go_enter Tryd.func42, Tryd.ntmps42
    go_wp2_with fail
    refine (rValid_at n s false _ hl H1.out).mono ?_
    rintro e w1 ⟨rfl, hb1⟩
    have hi1 := hi.next hb1
    go_wp2_with fail
    go_ret
    exact ⟨rfl, hi1.below⟩
  | true =>
    have H1 := Lib.hid h1
    have h2 := HV.out
    rw [h1, Bool.true_and] at h2
    have H2 := Lib.hid h2
    clear h1 h2 HV
    go_enter Tryd.func42, Tryd.ntmps42
    go_wp2_with fail
    refine (rValid_at n s true _ hl H1.out).mono ?_
    rintro e w1 ⟨rfl, hb1⟩
    have hi1 := hi.next hb1
    obtain ⟨a0, a1, b0, b1⟩ := hi1.cells
    clear hi hb1
    go_wp2_with fail
    refine (rValid_at k t false _ hl2 H2.out).mono ?_
    rintro e w2 ⟨rfl, hb2⟩
    have hi2 := hi1.next hb2
    go_wp2_with fail
    go_ret
    exact ⟨rfl, hi2.below⟩
end Go.Proofs.YtlagcdgfmgkooaaDoor

/-
  Walks over integer and dominoref02: Divide. (printed by wip/mkint4.py)
-/
namespace Go.Proofs.YtlagcdgfmgkooaaDoor
open Go.RowKit
set_option linter.unusedVariables false

def divideI (z y : Int) : Value := if y = 0 then .tuple #[intE, .int .i64 11] else if z % y = 0 then .tuple #[iV (z / y), .int .i64 0] else .tuple #[intE, .int .i64 1]
theorem zz_ne (k : Bool) {l : Nat} (h : l ≠ 0) : zz k l ≠ 0 := by cases k <;> simp [zz] <;> omega
theorem divideI_ok (n k : Bool) (m l : Nat) (hl : l ≠ 0) (hr : m % l = 0) : divideI (zz n m) (zz k l) = .tuple #[iV (zz (n != k) (m / l)), .int .i64 0] := by
  obtain ⟨h1, h2⟩ := ediv_nm n k m l hl
  have e1 : qN n m l = m / l := by rw [qN, if_neg (fun h => h.2 hr)]
  have e2 : rN n m l = 0 := by rw [rN, if_neg (fun h => h.2 hr)]; exact hr
  rw [divideI, if_neg (zz_ne k hl), h1, h2, e1, e2, if_pos (show ((0 : Nat) : Int) = 0 from rfl)]
theorem divideI_no (n k : Bool) (m l : Nat) (hl : l ≠ 0) (hr : m % l ≠ 0) : divideI (zz n m) (zz k l) = .tuple #[intE, .int .i64 1] := by
  obtain ⟨h1, h2⟩ := ediv_nm n k m l hl
  have e2 : rN n m l ≠ 0 := by
    unfold rN
    have := Nat.mod_lt m (Nat.pos_of_ne_zero hl)
    split <;> omega
  rw [divideI, if_neg (zz_ne k hl), h2, if_neg (by omega)]
theorem I3.alloc {w : World} {a0 a1 b0 b1 c0 c1 : Value} {W : World} (h : I3 w a0 a1 b0 b1 c0 c1 W) (o : Obj) : I3 w a0 a1 b0 b1 c0 c1 (W.alloc o) := ⟨h.A.alloc o, h.B.alloc o, h.C.alloc o, h.below.alloc h.below.size o⟩
set_option maxHeartbeats 1000000 in
theorem iDivide_nm {n k : Bool} {m l : Nat} (h1 : Nm n m) (h2 : Nm k l) (w : World) :
    Calls Tryd.prog 30 #[.agg #[.bool n, Sv (Dm.str m)], .agg #[.bool k, Sv (Dm.str l)]] w fun e w' => e = .returned (divideI (zz n m) (zz k l)) ∧ Below w.heap.size w w' := by
  have hi := I3.start w (.bool n) (Sv (Dm.str m)) (.bool k) (Sv (Dm.str l)) (.bool false) (.string ⟨#[]⟩)
  by_cases hl0 : l = 0
  · subst hl0
    obtain ⟨e1, e2⟩ := str_zero (n := 0) rfl
    have HV : Hid (divideI (zz n m) (zz k 0) = .tuple #[.agg #[.bool false, .string ⟨#[]⟩], .int .i64 11]) := by show _ = _; rw [divideI, if_pos (by cases k <;> rfl)]; rfl
    go_enter Tryd.func30, Tryd.ntmps30
    go_wp2_with fail
    refine (both_nm h1 h2 _).mono ?_
    rintro e w1 ⟨rfl, hb1⟩
    have hi1 := hi.next hb1
    obtain ⟨a0, a1, b0, b1, c0, c1, f0, f1⟩ := hi1.cells
    clear hi hb1
    go_wp2_with fail
    refine bodyPost_ret (v := .tuple #[.agg #[.bool false, .string ⟨#[]⟩], .int .i64 11]) (by simp [results, Tryd.results30, go_sem, c0, c1]) rfl ⟨by rw [HV.out], ?_⟩
    exact (hi1.below.setCell (by simp; omega) _).setCell (by simp; omega) _
  · obtain ⟨e1, e2⟩ := str_pos hl0
    have hD := fun W : World => nDiv m l h1.lt h2.lt hl0 W
    have HD := Lib.hid hD
    clear hD
    by_cases hr0 : m % l = 0
    · obtain ⟨e3, e4⟩ := str_zero hr0
      have HV := Lib.hid (divideI_ok n k m l hl0 hr0)
      clear hr0
      go_enter Tryd.func30, Tryd.ntmps30
      go_wp2_with fail
      refine (both_nm h1 h2 _).mono ?_
      rintro e w1 ⟨rfl, hb1⟩
      have hi1 := hi.next hb1
      obtain ⟨a0, a1, b0, b1, c0, c1, f0, f1⟩ := hi1.cells
      clear hi hb1
      go_wp2_with fail
      refine (HD.out _).mono ?_
      rintro e w2 ⟨rfl, hb2⟩
      have hi2 := hi1.next hb2
      clear a0 a1 b0 b1 c0 c1 f0 f1 hi1 hb2
      obtain ⟨a0, a1, b0, b1, c0, c1, f0, f1⟩ := hi2.cells
      obtain ⟨x, y, hx⟩ := iV_form (zz (n != k) (m / l))
      have HX := Lib.hid hx
      clear hx
      go_wp2_with fail
      refine (made_at (n != k) (m / l) (zz (n != k) (m / l)) _ rfl).mono ?_
      rintro e w3 ⟨rfl, hb3⟩
      rw [HX.out]
      have hi3 := hi2.next hb3
      clear a0 a1 b0 b1 c0 c1 f0 f1 hi2 hb3
      obtain ⟨a0, a1, b0, b1, c0, c1, f0, f1⟩ := hi3.cells
      go_wp2_with fail
      refine bodyPost_ret (v := .tuple #[.agg #[.bool x, .string y], .int .i64 0]) (by simp [results, Tryd.results30, go_sem, c0, c1]) rfl ⟨by rw [HV.out, HX.out], ?_⟩
      exact (hi3.below.setCell (by simp; omega) _).setCell (by simp; omega) _
    · obtain ⟨e3, e4⟩ := str_pos hr0
      have HV : Hid (divideI (zz n m) (zz k l) = .tuple #[.agg #[.bool false, .string ⟨#[]⟩], .int .i64 1]) := divideI_no n k m l hl0 hr0
      go_enter Tryd.func30, Tryd.ntmps30
      go_wp2_with fail
      refine (both_nm h1 h2 _).mono ?_
      rintro e w1 ⟨rfl, hb1⟩
      have hi1 := hi.next hb1
      obtain ⟨a0, a1, b0, b1, c0, c1, f0, f1⟩ := hi1.cells
      clear hi hb1
      go_wp2_with fail
      refine (HD.out _).mono ?_
      rintro e w2 ⟨rfl, hb2⟩
      have hi2 := hi1.next hb2
      clear a0 a1 b0 b1 c0 c1 f0 f1 hi1 hb2
      obtain ⟨a0, a1, b0, b1, c0, c1, f0, f1⟩ := hi2.cells
      go_wp2_with fail
      refine bodyPost_ret (v := .tuple #[.agg #[.bool false, .string ⟨#[]⟩], .int .i64 1]) (by simp [results, Tryd.results30, go_sem, c0, c1]) rfl ⟨by rw [HV.out], ?_⟩
      exact (hi2.below.setCell (by simp; omega) _).setCell (by simp; omega) _
set_option maxHeartbeats 1000000 in
theorem iDivide_bad (n k : Bool) (s t : ByteArray) (w : World) (hl : s.size ≤ 1073741824) (hl2 : t.size ≤ 1073741824) (hv : (validI n (tl s) && validI k (tl t)) = false) :
    Calls Tryd.prog 30 #[.agg #[.bool n, .string s], .agg #[.bool k, .string t]] w fun e w' => e = .returned (.tuple #[intE, .int .i64 3]) ∧ Below w.heap.size w w' := by
  have hi := I3.start w (.bool n) (.string s) (.bool k) (.string t) (.bool false) (.string ⟨#[]⟩)
  have HV := Lib.hid hv
  clear hv
  go_enter Tryd.func30, Tryd.ntmps30
  go_wp2_with fail
  refine (both_at n k s t false _ hl hl2 HV.out).mono ?_
  rintro e w1 ⟨rfl, hb1⟩
  have hi1 := hi.next hb1
  obtain ⟨a0, a1, b0, b1, c0, c1, f0, f1⟩ := hi1.cells
  clear hi hb1
  go_wp2_with fail
  refine bodyPost_ret (v := .tuple #[.agg #[.bool false, .string ⟨#[]⟩], .int .i64 3]) (by simp [results, Tryd.results30, go_sem, c0, c1]) rfl ⟨rfl, ?_⟩
  exact (hi1.below.setCell (by simp; omega) _).setCell (by simp; omega) _
set_option maxHeartbeats 1000000 in
theorem rDivide_of (n k x : Bool) (s t y r : ByteArray) (er : Int) (v : Value) (w : World) (hD : ∀ W, Calls Tryd.prog 27 #[.agg #[.bool n, .string s], .agg #[.bool k, .string t]] W fun e w' => e = .returned (.tuple #[.agg #[.bool x, .string y], .string r, .int .i64 er]) ∧ Below W.heap.size W w')
    (hv : (((er != 0) = true) ∧ v = .tuple #[.agg #[.bool false, .string ⟨#[]⟩], .int .i64 er]) ∨ ((er != 0) = false ∧ 0 < r.size ∧ v = .tuple #[.agg #[.bool false, .string ⟨#[]⟩], .int .i64 1]) ∨ ((er != 0) = false ∧ r.size = 0 ∧ v = .tuple #[.agg #[.bool x, .string y], .int .i64 0])) :
    Calls Tryd.prog 31 #[.agg #[.bool n, .string s], .agg #[.bool k, .string t]] w fun e w' => e = .returned v ∧ Below w.heap.size w w' := by
  have hi := I3.start w (.bool n) (.string s) (.bool k) (.string t) (.bool false) (.string ⟨#[]⟩)
  have HD := Lib.hid hD
  clear hD
  rcases hv with ⟨h1, rfl⟩ | ⟨h1, h2, rfl⟩ | ⟨h1, h2, rfl⟩
  · go_enter Tryd.func31, Tryd.ntmps31
    go_wp2_with fail
    refine (HD.out _).mono ?_
    rintro e w1 ⟨rfl, hb1⟩
    have hi1 := (hi.next hb1).alloc (.cells #[.bool x, .string y] 24)
    obtain ⟨a0, a1, b0, b1, c0, c1, f0, f1⟩ := hi1.cells
    go_wp2_with fail
    refine bodyPost_ret (v := .tuple #[.agg #[.bool false, .string ⟨#[]⟩], .int .i64 er]) (by simp [results, Tryd.results31, go_sem, c0, c1]) rfl ⟨rfl, ?_⟩
    exact (hi1.below.setCell (by simp; omega) _).setCell (by simp; omega) _
  · obtain ⟨e1, e2⟩ := str_full h2
    go_enter Tryd.func31, Tryd.ntmps31
    go_wp2_with fail
    refine (HD.out _).mono ?_
    rintro e w1 ⟨rfl, hb1⟩
    have hi1 := (hi.next hb1).alloc (.cells #[.bool x, .string y] 24)
    obtain ⟨a0, a1, b0, b1, c0, c1, f0, f1⟩ := hi1.cells
    go_wp2_with fail
    refine bodyPost_ret (v := .tuple #[.agg #[.bool false, .string ⟨#[]⟩], .int .i64 1]) (by simp [results, Tryd.results31, go_sem, c0, c1]) rfl ⟨rfl, ?_⟩
    exact (hi1.below.setCell (by simp; omega) _).setCell (by simp; omega) _
  · obtain ⟨e1, e2⟩ := str_empty h2
    clear h2
    go_enter Tryd.func31, Tryd.ntmps31
    go_wp2_with fail
    refine (HD.out _).mono ?_
    rintro e w1 ⟨rfl, hb1⟩
    have hi1 := (hi.next hb1).alloc (.cells #[.bool x, .string y] 24)
    obtain ⟨a0, a1, b0, b1, c0, c1, f0, f1⟩ := hi1.cells
    go_wp2_with fail
    refine bodyPost_ret (v := .tuple #[.agg #[.bool x, .string y], .int .i64 0]) (by simp [results, Tryd.results31, go_sem, c0, c1]) rfl ⟨rfl, ?_⟩
    exact (hi1.below.setCell (by simp; omega) _).setCell (by simp; omega) _
theorem rDivide_nm {n k : Bool} {m l : Nat} (h1 : Nm n m) (h2 : Nm k l) (w : World) :
    Calls Tryd.prog 31 #[.agg #[.bool n, Sv (Dm.str m)], .agg #[.bool k, Sv (Dm.str l)]] w fun e w' => e = .returned (divideI (zz n m) (zz k l)) ∧ Below w.heap.size w w' := by
  by_cases hl0 : l = 0
  · subst hl0
    have hv := divI_zero n k m
    refine rDivide_of n k false (bs (Dm.str m)) (bs (Dm.str 0)) ⟨#[]⟩ ⟨#[]⟩ 11 _ w (fun W => by have := rDivMod_nm h1 h2 W; rw [hv] at this; exact this) (.inl ⟨rfl, ?_⟩)
    rw [divideI, if_pos (by cases k <;> rfl)]; rfl
  · have hv := divI_nm n k m l hl0
    obtain ⟨x, y, hx⟩ := iV_form (zz (n != k) (qN n m l))
    rw [hx] at hv
    refine rDivide_of n k x (bs (Dm.str m)) (bs (Dm.str l)) y (bs (Dm.str (rN n m l))) 0 _ w (fun W => by have := rDivMod_nm h1 h2 W; rw [hv] at this; exact this) ?_
    by_cases hr0 : m % l = 0
    · refine .inr (.inr ⟨rfl, ?_, ?_⟩)
      · have : rN n m l = 0 := by rw [rN, if_neg (fun h => h.2 hr0)]; exact hr0
        rw [this]; rfl
      · rw [divideI_ok n k m l hl0 hr0, ← hx]
        have : qN n m l = m / l := by rw [qN, if_neg (fun h => h.2 hr0)]
        rw [this]
    · refine .inr (.inl ⟨rfl, ?_, ?_⟩)
      · have hr : rN n m l ≠ 0 := by
          unfold rN
          have := Nat.mod_lt m (Nat.pos_of_ne_zero hl0)
          split <;> omega
        rw [size_bs]
        rcases Nat.eq_zero_or_pos (Dm.str (rN n m l)).length with e | e
        · exact absurd (str_nil.1 (List.eq_nil_of_length_eq_zero e)) hr
        · exact e
      · exact divideI_no n k m l hl0 hr0
theorem rDivide_bad (n k : Bool) (s t : ByteArray) (w : World) (hl : s.size ≤ 1073741824) (hl2 : t.size ≤ 1073741824) (hv : (validI n (tl s) && validI k (tl t)) = false) :
    Calls Tryd.prog 31 #[.agg #[.bool n, .string s], .agg #[.bool k, .string t]] w fun e w' => e = .returned (.tuple #[intE, .int .i64 3]) ∧ Below w.heap.size w w' :=
  rDivide_of n k false s t ⟨#[]⟩ ⟨#[]⟩ 3 _ w (fun W => rDivMod_bad n k s t W hl hl2 hv) (.inl ⟨rfl, rfl⟩)
end Go.Proofs.YtlagcdgfmgkooaaDoor
