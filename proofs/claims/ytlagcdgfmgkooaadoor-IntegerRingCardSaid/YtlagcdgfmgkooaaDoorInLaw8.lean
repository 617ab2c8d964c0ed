/-
  The walk of the law IntegerBezout.
-/
import Derived.Test.YtlagcdgfmgkooaaDoorInLaw7
namespace Go.Proofs.YtlagcdgfmgkooaaDoor
open Go.RowKit
set_option linter.unusedVariables false

/-- a pointer to a new block that holds v, beside the kept blocks -/
def CutK (w : World) (v : List Value) (bl : List (Nat × TypeId × List Value)) (s : Value) (W : World) : Prop := ∃ g, s = .pointer (some ⟨g, 0, none⟩) ∧ Kp w ((g, 24, v) :: bl) W
set_option maxRecDepth 100000 in
set_option maxHeartbeats 4000000 in
theorem bezout_gen (a b G X : Nat) (ys ps qs : ByteArray) (yb pb qb : Bool) (HA : Hid (validB (tl (bs (Dm.str a))) = true)) (HB : Hid (validB (tl (bs (Dm.str b))) = true)) (sa : (bs (Dm.str a)).size ≤ 50) (sb : (bs (Dm.str b)).size ≤ 50)
    (h1 : Hid (∀ W : World, Calls Tryd.prog 20 #[Sv (Dm.str a), Sv (Dm.str b)] W fun e w' => e = .returned (.tuple #[Sv (Dm.str G), .agg #[.bool false, Sv (Dm.str X)], .agg #[.bool yb, .string ys], .int .i64 0]) ∧ Below W.heap.size W w'))
    (hFa : Hid (∀ W : World, Calls Tryd.prog 23 #[Sv (Dm.str a)] W fun e w' => e = .returned (.agg #[.bool false, Sv (Dm.str a)]) ∧ Below W.heap.size W w'))
    (hFb : Hid (∀ W : World, Calls Tryd.prog 23 #[Sv (Dm.str b)] W fun e w' => e = .returned (.agg #[.bool false, Sv (Dm.str b)]) ∧ Below W.heap.size W w'))
    (hFg : Hid (∀ W : World, Calls Tryd.prog 23 #[Sv (Dm.str G)] W fun e w' => e = .returned (.agg #[.bool false, Sv (Dm.str G)]) ∧ Below W.heap.size W w'))
    (hMa : Hid (∀ W : World, Calls Tryd.prog 18 #[.agg #[.bool false, Sv (Dm.str a)], .agg #[.bool false, Sv (Dm.str X)]] W fun e w' => e = .returned (.tuple #[.agg #[.bool pb, .string ps], .int .i64 0]) ∧ Below W.heap.size W w'))
    (hMb : Hid (∀ W : World, Calls Tryd.prog 18 #[.agg #[.bool false, Sv (Dm.str b)], .agg #[.bool yb, .string ys]] W fun e w' => e = .returned (.tuple #[.agg #[.bool qb, .string qs], .int .i64 0]) ∧ Below W.heap.size W w'))
    (hS : Hid (∀ W : World, Calls Tryd.prog 14 #[.agg #[.bool pb, .string ps], .agg #[.bool qb, .string qs]] W fun e w' => e = .returned (.tuple #[.agg #[.bool false, Sv (Dm.str G)], .int .i64 0]) ∧ Below W.heap.size W w'))
    (k1 : ByteArray) (m : Nat) (hG : G ≠ 0) (hc : b = 0 ∨ b ≠ 0)
    (hDa : Hid (∀ W : World, Calls Tryd.prog 24 #[Sv (Dm.str a), Sv (Dm.str G)] W fun e w' => e = .returned (.tuple #[.string k1, Sv (Dm.str 0), .int .i64 0]) ∧ Below W.heap.size W w'))
    (hDb : Hid (∀ W : World, Calls Tryd.prog 24 #[Sv (Dm.str b), Sv (Dm.str G)] W fun e w' => e = .returned (.tuple #[Sv (Dm.str m), Sv (Dm.str 0), .int .i64 0]) ∧ Below W.heap.size W w'))
    (hCm : Hid (b ≠ 0 → ∀ W : World, Calls Tryd.prog 25 #[Sv (Dm.str X), Sv (Dm.str m)] W fun e w' => e = .returned (.int .i64 (-1)) ∧ W = w'))
    (w : World) :
    Calls Tryd.prog 5 #[Sv (Dm.str a), Sv (Dm.str b)] w fun e w' => e = .returned (.bool true) ∧ Below w.heap.size w w' := by
  obtain ⟨l1, l2⟩ := str_pos hG
  obtain ⟨z1, z2⟩ := str_zero (n := 0) rfl
  go_enter Tryd.func5, Tryd.ntmps5
  go_wp2_with fail
  refine (valid_at _ true _ (by omega) HA.out).mono ?_
  rintro e w0 ⟨rfl, rfl⟩
  go_wp2_with fail
  refine (valid_at _ true _ (by omega) HB.out).mono ?_
  rintro e w0 ⟨rfl, rfl⟩
  go_wp2_with fail
  refine (h1.out _).mono ?_
  rintro e w1 ⟨rfl, hb⟩
  have k1 := Kp.next (Kp.start w) hb
  clear hb
  have j1 := Kp.new k1 24 [.bool false, Sv (Dm.str X)]
  have j1x := Kp.new j1 24 [.bool yb, .string ys]
  have hsz : (w1.alloc (.cells #[.bool false, Sv (Dm.str X)] 24)).heap.size = w1.heap.size + 1 := by simp
  rw [hsz] at j1x
  clear hsz
  go_upto_region 4 with fail
  skip
  generalize hv1 : (w1.alloc (.cells #[.bool false, Sv (Dm.str X)] 24)).alloc (.cells #[.bool yb, .string ys] 24) = v1 at *
  clear hv1
  generalize w1.heap.size + 1 = gy at *
  generalize w1.heap.size = gx at *
  have hk0 : Kp w [(gy, 24, [.bool yb, .string ys]), (gx, 24, [.bool false, Sv (Dm.str X)])] v1 := j1x
  clear j1x
  have hz3 : gx < v1.heap.size := kp_l 1 hk0 rfl
  have hkd := hk0.drew
  have hkn := (hk0.new 24 [.bool false, .string ⟨#[]⟩]).drew
  go_upto_region 4 with fail
  go_cut [9, 10] (fun s9 s10 wx => s10 = .int .i64 0 ∧ CutK w [.bool pb, .string ps] [(gy, 24, [.bool yb, .string ys]), (gx, 24, [.bool false, Sv (Dm.str X)])] s9 wx)
  case first =>
    clear hk0
    go_region_held3 (fun w' => w'.cell? ⟨gx, 0, none⟩ = some (.bool false) ∧ w'.cell? ⟨gx, 1, none⟩ = some (Sv (Dm.str X)))
      (first | exact kp_c01' (w := w) 1 (by assumption) rfl | exact kp_c01' (w := w) 2 (by assumption) rfl | exact kp_c01' (w := w) 1 (Kp.alloc (by assumption) _) rfl | exact set_keep (kp_c01' (w := w) 2 (by assumption) rfl) (by omega) | exact set_keep (kp_c01' (w := w) 1 (by assumption) rfl) (by omega))
      (first | (go_at_call 23; refine (hFa.out _).mono ?_; rintro e wa ⟨rfl, hba⟩; (first | (have hka := Kp.next (w := w) (by assumption) hba) | (have hka := Kp.next (w := w) (Kp.new (by assumption) 24 [.bool false, .string ⟨#[]⟩]) hba)); (first | (have hza : gx < wa.heap.size := kp_l 1 hka rfl) | (have hza : gx < wa.heap.size := kp_l 2 hka rfl))) | (go_at_call 18; refine (hMa.out _).mono ?_; rintro e wb ⟨rfl, hbb⟩; (first | (have hkb := Kp.next (w := w) (by assumption) hbb) | (have hkb := Kp.next (w := w) (Kp.new (by assumption) 24 [.bool false, .string ⟨#[]⟩]) hbb)); (try obtain ⟨p0, p1⟩ := kp_c01' 0 hkb rfl); (try obtain ⟨q0, q1⟩ := kp_f01' 0 hkb rfl)))
    · rename_i hHeld
      go_wp2_with fail
      go_meet
      exact ⟨rfl, _, rfl, hkb.new 24 [.bool pb, .string ps]⟩
    · rename_i hHeld
      go_wp2_with fail
      go_meet
      exact ⟨rfl, _, rfl, kp_set2 hkb hka.below.size (fun x' hx' => Nat.ne_of_lt (hka.blk x' hx').lt) _ _⟩
    · rename_i hHeld
      go_wp2_with fail
      go_meet
      exact ⟨rfl, _, rfl, kp_set2 hkb hkd.below.size (fun x' hx' => Nat.ne_of_lt (hkd.blk x' hx').lt) _ _⟩
  case rest =>
    obtain ⟨rfl, gp, rfl, k2⟩ := hcut
    clear hkd hkn hk0 hz3
    have hkp := k2
    clear k2
    have hz3 : gy < wc.heap.size := kp_l 1 hkp rfl
    have hkd := hkp.drew
    have hkn := (hkp.new 24 [.bool false, .string ⟨#[]⟩]).drew
    go_upto_region 5 with fail
    go_cut [11, 12] (fun s11 s12 wx => s12 = .int .i64 0 ∧ CutK w [.bool qb, .string qs] [(gp, 24, [.bool pb, .string ps]), (gy, 24, [.bool yb, .string ys]), (gx, 24, [.bool false, Sv (Dm.str X)])] s11 wx)
    case first =>
      clear hkp
      go_region_held3 (fun w' => w'.cell? ⟨gy, 0, none⟩ = some (.bool yb) ∧ w'.cell? ⟨gy, 1, none⟩ = some (.string ys))
        (first | exact kp_c01' (w := w) 1 (by assumption) rfl | exact kp_c01' (w := w) 2 (by assumption) rfl | exact kp_c01' (w := w) 1 (Kp.alloc (by assumption) _) rfl | exact set_keep (kp_c01' (w := w) 2 (by assumption) rfl) (by omega) | exact set_keep (kp_c01' (w := w) 1 (by assumption) rfl) (by omega))
        (first | (go_at_call 23; refine (hFb.out _).mono ?_; rintro e wa ⟨rfl, hba⟩; (first | (have hka := Kp.next (w := w) (by assumption) hba) | (have hka := Kp.next (w := w) (Kp.new (by assumption) 24 [.bool false, .string ⟨#[]⟩]) hba)); (first | (have hza : gy < wa.heap.size := kp_l 1 hka rfl) | (have hza : gy < wa.heap.size := kp_l 2 hka rfl))) | (go_at_call 18; refine (hMb.out _).mono ?_; rintro e wb ⟨rfl, hbb⟩; (first | (have hkb := Kp.next (w := w) (by assumption) hbb) | (have hkb := Kp.next (w := w) (Kp.new (by assumption) 24 [.bool false, .string ⟨#[]⟩]) hbb)); (try obtain ⟨p0, p1⟩ := kp_c01' 0 hkb rfl); (try obtain ⟨q0, q1⟩ := kp_f01' 0 hkb rfl)))
      · rename_i hHeld
        go_wp2_with fail
        go_meet
        exact ⟨rfl, _, rfl, hkb.new 24 [.bool qb, .string qs]⟩
      · rename_i hHeld
        go_wp2_with fail
        go_meet
        exact ⟨rfl, _, rfl, kp_set2 hkb hka.below.size (fun x' hx' => Nat.ne_of_lt (hka.blk x' hx').lt) _ _⟩
      · rename_i hHeld
        go_wp2_with fail
        go_meet
        exact ⟨rfl, _, rfl, kp_set2 hkb hkd.below.size (fun x' hx' => Nat.ne_of_lt (hkd.blk x' hx').lt) _ _⟩
    case rest =>
      obtain ⟨rfl, gq, rfl, k3⟩ := hcut
      clear hkd hkn hkp hz3
      have hkq := k3
      clear k3
      obtain ⟨cp0, cp1⟩ := kp_c01' 1 hkq rfl
      obtain ⟨cq0, cq1⟩ := kp_c01' 0 hkq rfl
      go_wp2_with fail
      refine (hS.out _).mono ?_
      rintro e w4 ⟨rfl, hb⟩
      clear cp0 cp1 cq0 cq1
      have k4 := Kp.next hkq hb
      clear hb hkq
      have j4 := Kp.new k4 24 [.bool false, Sv (Dm.str G)]
      go_upto_region 7 with fail
      generalize hvs : w4.alloc (.cells #[.bool false, Sv (Dm.str G)] 24) = vs at *
      clear hvs
      generalize w4.heap.size = gs at *
      have hk8 : Kp w _ vs := j4
      clear j4
      have hkd := hk8.drew
      clear hk8
      go_region_held3 (fun w' => (w'.cell? ⟨gs, 0, none⟩ = some (.bool false) ∧ w'.cell? ⟨gs, 1, none⟩ = some (Sv (Dm.str G)))) (exact kp_c01' (w := w) 0 (by assumption) rfl)
        (first | (go_at_call 23; refine (hFg.out _).mono ?_; rintro e wa ⟨rfl, hba⟩; have hka := Kp.next (w := w) (by assumption) hba))
      have hk9 := hka
      clear hka hba hkd
      go_wp2_with fail
      refine (hDa.out _).mono ?_
      rintro e w21 ⟨rfl, hb⟩
      have k21 := Kp.next hk9 hb
      clear hb hk9
      go_wp2_with fail
      refine (hDb.out _).mono ?_
      rintro e w22 ⟨rfl, hb⟩
      have k22 := Kp.next k21 hb
      clear hb k21
      go_wp2_with fail
      refine (awakeI_any _).mono ?_
      rintro e w23 ⟨rfl, hb⟩
      have k23 := Kp.next k22 hb
      clear hb k22
      obtain ⟨cx0, cx1⟩ := kp_c01' 4 k23 rfl
      rcases hc with rfl | hb0
      · go_wp2_with fail
        go_ret
        exact ⟨rfl, k23.below⟩
      · obtain ⟨l3, l4⟩ := str_pos hb0
        go_wp2_with fail
        refine (hCm.out hb0 _).mono ?_
        rintro e w99 ⟨rfl, rfl⟩
        go_wp2_with fail
        go_ret
        exact ⟨rfl, k23.below⟩
set_option maxRecDepth 100000 in
set_option maxHeartbeats 4000000 in
theorem bezout_gen0 (a b G X : Nat) (ys ps qs : ByteArray) (yb pb qb : Bool) (HA : Hid (validB (tl (bs (Dm.str a))) = true)) (HB : Hid (validB (tl (bs (Dm.str b))) = true)) (sa : (bs (Dm.str a)).size ≤ 50) (sb : (bs (Dm.str b)).size ≤ 50)
    (h1 : Hid (∀ W : World, Calls Tryd.prog 20 #[Sv (Dm.str a), Sv (Dm.str b)] W fun e w' => e = .returned (.tuple #[Sv (Dm.str G), .agg #[.bool false, Sv (Dm.str X)], .agg #[.bool yb, .string ys], .int .i64 0]) ∧ Below W.heap.size W w'))
    (hFa : Hid (∀ W : World, Calls Tryd.prog 23 #[Sv (Dm.str a)] W fun e w' => e = .returned (.agg #[.bool false, Sv (Dm.str a)]) ∧ Below W.heap.size W w'))
    (hFb : Hid (∀ W : World, Calls Tryd.prog 23 #[Sv (Dm.str b)] W fun e w' => e = .returned (.agg #[.bool false, Sv (Dm.str b)]) ∧ Below W.heap.size W w'))
    (hFg : Hid (∀ W : World, Calls Tryd.prog 23 #[Sv (Dm.str G)] W fun e w' => e = .returned (.agg #[.bool false, Sv (Dm.str G)]) ∧ Below W.heap.size W w'))
    (hMa : Hid (∀ W : World, Calls Tryd.prog 18 #[.agg #[.bool false, Sv (Dm.str a)], .agg #[.bool false, Sv (Dm.str X)]] W fun e w' => e = .returned (.tuple #[.agg #[.bool pb, .string ps], .int .i64 0]) ∧ Below W.heap.size W w'))
    (hMb : Hid (∀ W : World, Calls Tryd.prog 18 #[.agg #[.bool false, Sv (Dm.str b)], .agg #[.bool yb, .string ys]] W fun e w' => e = .returned (.tuple #[.agg #[.bool qb, .string qs], .int .i64 0]) ∧ Below W.heap.size W w'))
    (hS : Hid (∀ W : World, Calls Tryd.prog 14 #[.agg #[.bool pb, .string ps], .agg #[.bool qb, .string qs]] W fun e w' => e = .returned (.tuple #[.agg #[.bool false, Sv (Dm.str G)], .int .i64 0]) ∧ Below W.heap.size W w')) (hG : G = 0) (ha : a = 0) (hb : b = 0) (w : World) :
    Calls Tryd.prog 5 #[Sv (Dm.str a), Sv (Dm.str b)] w fun e w' => e = .returned (.bool true) ∧ Below w.heap.size w w' := by
  obtain ⟨l1, l2⟩ := str_zero hG
  obtain ⟨z1, z2⟩ := str_zero ha
  obtain ⟨y1, y2⟩ := str_zero hb
  clear hG ha hb
  go_enter Tryd.func5, Tryd.ntmps5
  go_wp2_with fail
  refine (valid_at _ true _ (by omega) HA.out).mono ?_
  rintro e w0 ⟨rfl, rfl⟩
  go_wp2_with fail
  refine (valid_at _ true _ (by omega) HB.out).mono ?_
  rintro e w0 ⟨rfl, rfl⟩
  go_wp2_with fail
  refine (h1.out _).mono ?_
  rintro e w1 ⟨rfl, hb⟩
  have k1 := Kp.next (Kp.start w) hb
  clear hb
  have j1 := Kp.new k1 24 [.bool false, Sv (Dm.str X)]
  have j1x := Kp.new j1 24 [.bool yb, .string ys]
  have hsz : (w1.alloc (.cells #[.bool false, Sv (Dm.str X)] 24)).heap.size = w1.heap.size + 1 := by simp
  rw [hsz] at j1x
  clear hsz
  go_upto_region 4 with fail
  skip
  generalize hv1 : (w1.alloc (.cells #[.bool false, Sv (Dm.str X)] 24)).alloc (.cells #[.bool yb, .string ys] 24) = v1 at *
  clear hv1
  generalize w1.heap.size + 1 = gy at *
  generalize w1.heap.size = gx at *
  have hk0 : Kp w [(gy, 24, [.bool yb, .string ys]), (gx, 24, [.bool false, Sv (Dm.str X)])] v1 := j1x
  clear j1x
  have hz3 : gx < v1.heap.size := kp_l 1 hk0 rfl
  have hkd := hk0.drew
  have hkn := (hk0.new 24 [.bool false, .string ⟨#[]⟩]).drew
  go_upto_region 4 with fail
  go_cut [9, 10] (fun s9 s10 wx => s10 = .int .i64 0 ∧ CutK w [.bool pb, .string ps] [(gy, 24, [.bool yb, .string ys]), (gx, 24, [.bool false, Sv (Dm.str X)])] s9 wx)
  case first =>
    clear hk0
    go_region_held3 (fun w' => w'.cell? ⟨gx, 0, none⟩ = some (.bool false) ∧ w'.cell? ⟨gx, 1, none⟩ = some (Sv (Dm.str X)))
      (first | exact kp_c01' (w := w) 1 (by assumption) rfl | exact kp_c01' (w := w) 2 (by assumption) rfl | exact kp_c01' (w := w) 1 (Kp.alloc (by assumption) _) rfl | exact set_keep (kp_c01' (w := w) 2 (by assumption) rfl) (by omega) | exact set_keep (kp_c01' (w := w) 1 (by assumption) rfl) (by omega))
      (first | (go_at_call 23; refine (hFa.out _).mono ?_; rintro e wa ⟨rfl, hba⟩; (first | (have hka := Kp.next (w := w) (by assumption) hba) | (have hka := Kp.next (w := w) (Kp.new (by assumption) 24 [.bool false, .string ⟨#[]⟩]) hba)); (first | (have hza : gx < wa.heap.size := kp_l 1 hka rfl) | (have hza : gx < wa.heap.size := kp_l 2 hka rfl))) | (go_at_call 18; refine (hMa.out _).mono ?_; rintro e wb ⟨rfl, hbb⟩; (first | (have hkb := Kp.next (w := w) (by assumption) hbb) | (have hkb := Kp.next (w := w) (Kp.new (by assumption) 24 [.bool false, .string ⟨#[]⟩]) hbb)); (try obtain ⟨p0, p1⟩ := kp_c01' 0 hkb rfl); (try obtain ⟨q0, q1⟩ := kp_f01' 0 hkb rfl)))
    · rename_i hHeld
      go_wp2_with fail
      go_meet
      exact ⟨rfl, _, rfl, hkb.new 24 [.bool pb, .string ps]⟩
    · rename_i hHeld
      go_wp2_with fail
      go_meet
      exact ⟨rfl, _, rfl, kp_set2 hkb hka.below.size (fun x' hx' => Nat.ne_of_lt (hka.blk x' hx').lt) _ _⟩
    · rename_i hHeld
      go_wp2_with fail
      go_meet
      exact ⟨rfl, _, rfl, kp_set2 hkb hkd.below.size (fun x' hx' => Nat.ne_of_lt (hkd.blk x' hx').lt) _ _⟩
  case rest =>
    obtain ⟨rfl, gp, rfl, k2⟩ := hcut
    clear hkd hkn hk0 hz3
    have hkp := k2
    clear k2
    have hz3 : gy < wc.heap.size := kp_l 1 hkp rfl
    have hkd := hkp.drew
    have hkn := (hkp.new 24 [.bool false, .string ⟨#[]⟩]).drew
    go_upto_region 5 with fail
    go_cut [11, 12] (fun s11 s12 wx => s12 = .int .i64 0 ∧ CutK w [.bool qb, .string qs] [(gp, 24, [.bool pb, .string ps]), (gy, 24, [.bool yb, .string ys]), (gx, 24, [.bool false, Sv (Dm.str X)])] s11 wx)
    case first =>
      clear hkp
      go_region_held3 (fun w' => w'.cell? ⟨gy, 0, none⟩ = some (.bool yb) ∧ w'.cell? ⟨gy, 1, none⟩ = some (.string ys))
        (first | exact kp_c01' (w := w) 1 (by assumption) rfl | exact kp_c01' (w := w) 2 (by assumption) rfl | exact kp_c01' (w := w) 1 (Kp.alloc (by assumption) _) rfl | exact set_keep (kp_c01' (w := w) 2 (by assumption) rfl) (by omega) | exact set_keep (kp_c01' (w := w) 1 (by assumption) rfl) (by omega))
        (first | (go_at_call 23; refine (hFb.out _).mono ?_; rintro e wa ⟨rfl, hba⟩; (first | (have hka := Kp.next (w := w) (by assumption) hba) | (have hka := Kp.next (w := w) (Kp.new (by assumption) 24 [.bool false, .string ⟨#[]⟩]) hba)); (first | (have hza : gy < wa.heap.size := kp_l 1 hka rfl) | (have hza : gy < wa.heap.size := kp_l 2 hka rfl))) | (go_at_call 18; refine (hMb.out _).mono ?_; rintro e wb ⟨rfl, hbb⟩; (first | (have hkb := Kp.next (w := w) (by assumption) hbb) | (have hkb := Kp.next (w := w) (Kp.new (by assumption) 24 [.bool false, .string ⟨#[]⟩]) hbb)); (try obtain ⟨p0, p1⟩ := kp_c01' 0 hkb rfl); (try obtain ⟨q0, q1⟩ := kp_f01' 0 hkb rfl)))
      · rename_i hHeld
        go_wp2_with fail
        go_meet
        exact ⟨rfl, _, rfl, hkb.new 24 [.bool qb, .string qs]⟩
      · rename_i hHeld
        go_wp2_with fail
        go_meet
        exact ⟨rfl, _, rfl, kp_set2 hkb hka.below.size (fun x' hx' => Nat.ne_of_lt (hka.blk x' hx').lt) _ _⟩
      · rename_i hHeld
        go_wp2_with fail
        go_meet
        exact ⟨rfl, _, rfl, kp_set2 hkb hkd.below.size (fun x' hx' => Nat.ne_of_lt (hkd.blk x' hx').lt) _ _⟩
    case rest =>
      obtain ⟨rfl, gq, rfl, k3⟩ := hcut
      clear hkd hkn hkp hz3
      have hkq := k3
      clear k3
      obtain ⟨cp0, cp1⟩ := kp_c01' 1 hkq rfl
      obtain ⟨cq0, cq1⟩ := kp_c01' 0 hkq rfl
      go_wp2_with fail
      refine (hS.out _).mono ?_
      rintro e w4 ⟨rfl, hb⟩
      clear cp0 cp1 cq0 cq1
      have k4 := Kp.next hkq hb
      clear hb hkq
      have j4 := Kp.new k4 24 [.bool false, Sv (Dm.str G)]
      go_upto_region 7 with fail
      generalize hvs : w4.alloc (.cells #[.bool false, Sv (Dm.str G)] 24) = vs at *
      clear hvs
      generalize w4.heap.size = gs at *
      have hk8 : Kp w _ vs := j4
      clear j4
      have hkd := hk8.drew
      clear hk8
      go_region_held3 (fun w' => (w'.cell? ⟨gs, 0, none⟩ = some (.bool false) ∧ w'.cell? ⟨gs, 1, none⟩ = some (Sv (Dm.str G)))) (exact kp_c01' (w := w) 0 (by assumption) rfl)
        (first | (go_at_call 23; refine (hFg.out _).mono ?_; rintro e wa ⟨rfl, hba⟩; have hka := Kp.next (w := w) (by assumption) hba))
      have hk9 := hka
      clear hka hba hkd
      go_wp2_with fail
      refine (awakeI_any _).mono ?_
      rintro e w21 ⟨rfl, hb⟩
      have k21 := Kp.next hk9 hb
      clear hb hk9
      go_wp2_with fail
      go_ret
      exact ⟨rfl, k21.below⟩
theorem p50 : (256 : Nat) ^ 50 * 256 ^ 50 + 256 ^ 50 < 256 ^ 128 := by decide +kernel
theorem p50' : (256 : Nat) ^ 50 < 256 ^ 128 := by decide +kernel
set_option maxHeartbeats 1000000 in
theorem bezout_good (a b : Nat) (ha : a < 256 ^ 50) (hb : b < 256 ^ 50) (w : World) :
    Calls Tryd.prog 5 #[Sv (Dm.str a), Sv (Dm.str b)] w fun e w' => e = .returned (.bool true) ∧ Below w.heap.size w w' := by
  have hp1 := p50
  have hp2 := p50'
  have sa : (bs (Dm.str a)).size ≤ 50 := by rw [size_bs]; exact Dm.length_str_le.2 ha
  have sb : (bs (Dm.str b)).size ≤ 50 := by rw [size_bs]; exact Dm.length_str_le.2 hb
  have vA : validB (tl (bs (Dm.str a))) = true := by rw [tl_bs]; exact validB_short' (Dm.length_str_le.2 (Nat.lt_trans ha hp2))
  have vB : validB (tl (bs (Dm.str b))) = true := by rw [tl_bs]; exact validB_short' (Dm.length_str_le.2 (Nat.lt_trans hb hp2))
  have nA : Nm false a := ⟨(fun h => by cases h), Nat.lt_trans ha hp2⟩
  have nB : Nm false b := ⟨(fun h => by cases h), Nat.lt_trans hb hp2⟩
  have h256 : (256 : Nat) ^ 128 ≠ 0 := by decide +kernel
  generalize (256 : Nat) ^ 50 = P at *
  by_cases hb0 : b = 0
  · subst hb0
    have n1 : Nm false 1 := ⟨(fun h => by cases h), by omega⟩
    have n0 : Nm false 0 := ⟨(fun h => by cases h), by omega⟩
    have hM := fun W => mulZ nA n1 (a : Int) (by show (a : Int) * 1 = a; omega) (by unfold Fits; have := nA.lt; omega) W
    have hN := fun W => mulZ n0 n0 (0 : Int) rfl (by unfold Fits; have := n0.lt; omega) W
    have hS := fun W => addZ nA n0 (a : Int) (by show (a : Int) + 0 = a; omega) (by unfold Fits; have := nA.lt; omega) W
    have ea : az (a : Int) = .agg #[.bool false, Sv (Dm.str a)] := by rw [az_nn (by omega)]; rfl
    simp only [ea] at hM hS
    by_cases ha0 : a = 0
    · exact bezout_gen0 a 0 a 1 _ _ _ _ _ _ (Lib.hid vA) (Lib.hid vB) sa sb (Lib.hid fun W => Ext_zero a nA.lt W) (Lib.hid fun W => fromN a nA.lt W) (Lib.hid fun W => fromN 0 n0.lt W) (Lib.hid fun W => fromN a nA.lt W) (Lib.hid hM) (Lib.hid hN) (Lib.hid hS) ha0 ha0 rfl w
    · exact bezout_gen a 0 a 1 _ _ _ _ _ _ (Lib.hid vA) (Lib.hid vB) sa sb (Lib.hid fun W => Ext_zero a nA.lt W) (Lib.hid fun W => fromN a nA.lt W) (Lib.hid fun W => fromN 0 n0.lt W) (Lib.hid fun W => fromN a nA.lt W) (Lib.hid hM) (Lib.hid hN) (Lib.hid hS) (bs (Dm.str (a / a))) (0 / a) ha0 (.inl rfl)
        (Lib.hid fun W => (nDiv a a nA.lt nA.lt ha0 W).mono fun e w' ⟨he, hb⟩ => ⟨by rw [he, Nat.mod_self], hb⟩) (Lib.hid fun W => (nDiv 0 a n0.lt nA.lt ha0 W).mono fun e w' ⟨he, hb⟩ => ⟨by rw [he, Nat.zero_mod], hb⟩) (Lib.hid fun h => absurd rfl h) w
  · obtain ⟨x, y, hE⟩ := ez_ex a b hb0
    have hG0 : 0 < Nat.gcd a b := Nat.gcd_pos_of_pos_right a (Nat.pos_of_ne_zero hb0)
    have hGb : Nat.gcd a b ≤ b := Nat.gcd_le_right a (Nat.pos_of_ne_zero hb0)
    have hda : a % Nat.gcd a b = 0 := Nat.mod_eq_zero_of_dvd (Nat.gcd_dvd_left a b)
    have hdb : b % Nat.gcd a b = 0 := Nat.mod_eq_zero_of_dvd (Nat.gcd_dvd_right a b)
    have hI := fun W => iExt_at a b nA.lt nB.lt hb0 x y hE W
    have e1 := hE.eq
    have e2 := hE.nn
    have e3 := hE.lt
    clear hE
    generalize Nat.gcd a b = G at *
    obtain ⟨X, rfl⟩ := Int.eq_ofNat_of_zero_le e2
    have hXlt : X * G < b := by exact_mod_cast e3
    have hXb : X < b := Nat.lt_of_le_of_lt (Nat.le_mul_of_pos_right X hG0) hXlt
    have hcm : X < b / G := by
      have h9 : b / G * G = b := Nat.div_mul_cancel (Nat.dvd_of_mod_eq_zero hdb)
      rw [← h9] at hXlt
      exact Nat.lt_of_mul_lt_mul_right hXlt
    have hbd : b / G ≤ b := Nat.div_le_self _ _
    have hax : a * X ≤ P * P := Nat.mul_le_mul (by omega) (by omega)
    have hax' : (a : Int) * (X : Int) = ((a * X : Nat) : Int) := (Int.natCast_mul a X).symm
    have hby : (b : Int) * y = (G : Int) - ((a * X : Nat) : Int) := by rw [← hax']; omega
    have fq : ((b : Int) * y).natAbs ≤ P * P + P := by rw [hby]; omega
    have fy : Fits y := by
      unfold Fits
      have : y.natAbs ≤ ((b : Int) * y).natAbs := by rw [Int.natAbs_mul, Int.natAbs_natCast]; exact Nat.le_mul_of_pos_left _ (Nat.pos_of_ne_zero hb0)
      omega
    have nX : Nm false X := ⟨(fun h => by cases h), by omega⟩
    have nG : Nm false G := ⟨(fun h => by cases h), by omega⟩
    have hM := fun W => mulZ nA nX ((a * X : Nat) : Int) (by show (a : Int) * (X : Int) = _; rw [hax']) (by unfold Fits; omega) W
    have hN := fun W => mulZ nB (nm_of y fy) ((b : Int) * y) (by rw [zz_of]; rfl) (by unfold Fits; omega) W
    have hS := fun W => addZ (nm_of ((a * X : Nat) : Int) (by unfold Fits; omega)) (nm_of ((b : Int) * y) (by unfold Fits; omega)) (G : Int) (by rw [zz_of, zz_of]; omega) (by unfold Fits; have := nG.lt; omega) W
    have eX : az (X : Int) = .agg #[.bool false, Sv (Dm.str X)] := by rw [az_nn (by omega)]; rfl
    have eG : az (G : Int) = .agg #[.bool false, Sv (Dm.str G)] := by rw [az_nn (by omega)]; rfl
    simp only [eX] at hI
    simp only [eG] at hS
    have hC : Dm.cmpN X (b / G) = -1 := Dm.cmpN_lt hcm
    exact bezout_gen a b G X _ _ _ _ _ _ (Lib.hid vA) (Lib.hid vB) sa sb (Lib.hid hI) (Lib.hid fun W => fromN a nA.lt W) (Lib.hid fun W => fromN b nB.lt W) (Lib.hid fun W => fromN G nG.lt W) (Lib.hid hM) (Lib.hid hN) (Lib.hid hS) (bs (Dm.str (a / G))) (b / G) (by omega) (.inr hb0)
      (Lib.hid fun W => (nDiv a G nA.lt nG.lt (by omega) W).mono fun e w' ⟨he, hb⟩ => ⟨by rw [he, hda], hb⟩) (Lib.hid fun W => (nDiv b G nB.lt nG.lt (by omega) W).mono fun e w' ⟨he, hb⟩ => ⟨by rw [he, hdb], hb⟩) (Lib.hid fun _ W => (nCmp X (b / G) nX.lt (by have := nB.lt; omega) W).mono fun e w' ⟨he, hb⟩ => ⟨by rw [he, hC], hb⟩) w
theorem valid_all (s : ByteArray) (v : Bool) (w : World) (hl : s.size ≤ maxLen) (hv : validB (tl s) = v) :
    Calls Tryd.prog 22 #[.string s] w fun e w' => e = .returned (.bool v) ∧ w = w' := by
  by_cases h : s.size ≤ 128
  · exact valid_at s v w (by omega) hv
  · have hv2 : v = false := by
      rw [← hv]
      cases h2 : validB (tl s) with
      | false => rfl
      | true => exact absurd (validB_size h2) h
    subst hv2
    clear hv
    unfold maxLen at hl
    go_enter Tryd.func22, Tryd.ntmps22
    go_wp2
    go_ret
    exact ⟨rfl, rfl⟩
set_option maxHeartbeats 4000000 in
theorem bezout_walk (s t : ByteArray) (hs : s.size ≤ maxLen) (ht : t.size ≤ maxLen) (w : World) :
    Calls Tryd.prog 5 #[.string s, .string t] w fun e w' => e = .returned (.bool true) ∧ Below w.heap.size w w' := by
  cases hvs : validB (tl s) with
  | false =>
    have HS := Lib.hid hvs
    clear hvs
    go_enter Tryd.func5, Tryd.ntmps5
    go_wp2_with fail
    refine (valid_all s false _ hs HS.out).mono ?_
    rintro e w0 ⟨rfl, rfl⟩
    go_wp2_with fail
    refine (awakeI_any _).mono ?_
    rintro e w1 ⟨rfl, hb⟩
    go_wp2_with fail
    go_ret
    exact ⟨rfl, hb⟩
  | true =>
    have HS := Lib.hid hvs
    cases hvt : validB (tl t) with
    | false =>
      have HT := Lib.hid hvt
      clear hvs hvt
      go_enter Tryd.func5, Tryd.ntmps5
      go_wp2_with fail
      refine (valid_all s true _ hs HS.out).mono ?_
      rintro e w0 ⟨rfl, rfl⟩
      go_wp2_with fail
      refine (valid_all t false _ ht HT.out).mono ?_
      rintro e w0 ⟨rfl, rfl⟩
      go_wp2_with fail
      refine (awakeI_any _).mono ?_
      rintro e w1 ⟨rfl, hb⟩
      go_wp2_with fail
      go_ret
      exact ⟨rfl, hb⟩
    | true =>
      have HT := Lib.hid hvt
      have h1 := validB_size hvs
      have h2 := validB_size hvt
      by_cases l1 : s.size ≤ 50
      · by_cases l2 : t.size ≤ 50
        · obtain ⟨a, ha, rfl⟩ := nat_short hvs l1
          obtain ⟨b, hb, rfl⟩ := nat_short hvt l2
          exact bezout_good a b ha hb w
        · clear hvs hvt
          go_enter Tryd.func5, Tryd.ntmps5
          go_wp2_with fail
          refine (valid_all s true _ hs HS.out).mono ?_
          rintro e w0 ⟨rfl, rfl⟩
          go_wp2_with fail
          refine (valid_all t true _ ht HT.out).mono ?_
          rintro e w0 ⟨rfl, rfl⟩
          go_wp2_with fail
          refine (awakeI_any _).mono ?_
          rintro e w1 ⟨rfl, hb⟩
          go_wp2_with fail
          go_ret
          exact ⟨rfl, hb⟩
      · clear hvs hvt
        go_enter Tryd.func5, Tryd.ntmps5
        go_wp2_with fail
        refine (valid_all s true _ hs HS.out).mono ?_
        rintro e w0 ⟨rfl, rfl⟩
        go_wp2_with fail
        refine (valid_all t true _ ht HT.out).mono ?_
        rintro e w0 ⟨rfl, rfl⟩
        go_wp2_with fail
        refine (awakeI_any _).mono ?_
        rintro e w1 ⟨rfl, hb⟩
        go_wp2_with fail
        go_ret
        exact ⟨rfl, hb⟩
end Go.Proofs.YtlagcdgfmgkooaaDoor
