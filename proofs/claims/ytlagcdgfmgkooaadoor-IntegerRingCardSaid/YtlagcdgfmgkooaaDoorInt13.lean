/-
  dominolaw02.awake. Printed by mkint6.py.
-/
import Derived.Test.YtlagcdgfmgkooaaDoorInt11
import Derived.Test.YtlagcdgfmgkooaaDoorIntD
namespace Go.Proofs.YtlagcdgfmgkooaaDoor
open Go.RowKit
set_option linter.unusedVariables false
set_option linter.unusedSimpArgs false

theorem ofG (z : Int) (h1 : -9223372036854775808 ≤ z) (h2 : z ≤ 9223372036854775807) (w : World) :
    Calls Tryd.prog 34 #[.int .i64 z] w fun e w' => e = .returned (.agg #[.bool (decide (z < 0)), Sv (Dm.str z.natAbs)]) ∧ Below w.heap.size w w' := iOf_any z h1 h2 w
theorem of_int (a : Int) (w : World) (h0 : 0 ≤ a) (h1 : a < 18446744073709551616) :
    Calls Tryd.prog 47 #[.int .u64 a] w fun e w' => e = .returned (Sv (Dm.str a.toNat)) ∧ Below w.heap.size w w' :=
  of_at a a.toNat w (by omega) (by omega)
theorem nm_small (n : Bool) (m : Nat) (h : m ≠ 0) (h2 : m < 256) : Nm n m := ⟨fun _ => h, Nat.lt_of_lt_of_le h2 (by decide +kernel)⟩
theorem aw_d1 (w : World) : Calls Tryd.prog 26 #[.agg #[.bool true, Sv (Dm.str 7)], .agg #[.bool false, Sv (Dm.str 2)]] w fun e w' => e = .returned (.tuple #[.agg #[.bool true, Sv (Dm.str 4)], Sv (Dm.str 1), .int .i64 0]) ∧ Below w.heap.size w w' :=
  (iDivMod_nm (nm_small true 7 (by decide) (by decide)) (nm_small false 2 (by decide) (by decide)) w).mono fun e w' ⟨he, hw⟩ => ⟨by rw [he, divI_nm _ _ _ _ (by decide)]; rfl, hw⟩
theorem aw_d2 (w : World) : Calls Tryd.prog 26 #[.agg #[.bool false, Sv (Dm.str 7)], .agg #[.bool true, Sv (Dm.str 2)]] w fun e w' => e = .returned (.tuple #[.agg #[.bool true, Sv (Dm.str 3)], Sv (Dm.str 1), .int .i64 0]) ∧ Below w.heap.size w w' :=
  (iDivMod_nm (nm_small false 7 (by decide) (by decide)) (nm_small true 2 (by decide) (by decide)) w).mono fun e w' ⟨he, hw⟩ => ⟨by rw [he, divI_nm _ _ _ _ (by decide)]; rfl, hw⟩
theorem aw_ext (w : World) : Calls Tryd.prog 20 #[Sv (Dm.str 12), Sv (Dm.str 18)] w fun e w' => e = .returned (.tuple #[Sv (Dm.str 6), .agg #[.bool false, Sv (Dm.str 2)], .agg #[.bool true, Sv (Dm.str 1)], .int .i64 0]) ∧ Below w.heap.size w w' :=
  (Ext_nm 12 18 (by decide +kernel) (by decide +kernel) (by decide) w).mono fun e w' ⟨⟨x, y, hz, _, _, he⟩, hw⟩ => ⟨by
    obtain ⟨rfl, rfl⟩ := EZ.unique (x' := 2) (y' := -1) (by decide) hz ⟨by decide, by decide, by decide⟩
    rw [he]
    rfl, hw⟩
theorem aw_dv (w : World) : Calls Tryd.prog 30 #[.agg #[.bool false, Sv (Dm.str 7)], .agg #[.bool false, Sv (Dm.str 2)]] w fun e w' => e = .returned (.tuple #[.agg #[.bool false, .string ⟨#[]⟩], .int .i64 1]) ∧ Below w.heap.size w w' :=
  (iDivide_nm (nm_small false 7 (by decide) (by decide)) (nm_small false 2 (by decide) (by decide)) w).mono fun e w' ⟨he, hw⟩ => ⟨by rw [he]; rfl, hw⟩
theorem aw_pv : parseI [45, 49, 50] = .tuple #[.agg #[.bool true, Sv (Dm.str 12)], .int .i64 0] := by
  have h1 : digL [45, 49, 50] = [49, 50] := by decide
  have h2 : negL [45, 49, 50] = true := by decide
  have h3 : Dm.dv [49, 50] = 12 := by decide
  have h4 : Dm.okDec [49, 50] = true := by decide
  rw [parseI, h1, h2, h3, if_pos h4, if_pos (by decide), if_neg (by decide)]
  rfl
theorem aw_p (w : World) : Calls Tryd.prog 45 #[.string ⟨#[45, 49, 50]⟩] w fun e w' => e = .returned (.tuple #[.agg #[.bool true, Sv (Dm.str 12)], .int .i64 0]) ∧ Below w.heap.size w w' :=
  (iParse_any ⟨#[45, 49, 50]⟩ w (by decide)).mono fun e w' ⟨he, hw⟩ => ⟨by rw [he]; exact congrArg Ending.returned aw_pv, hw⟩
theorem aw_S {w : World} {g1 g4 g8 g9 g11 g13 : Nat} {w' : World} (h : Kp w [(g13, 24, [.bool true, Sv (Dm.str 12)]), (g11, 24, [.bool false, .string ⟨#[]⟩]), (g9, 24, [.bool true, Sv (Dm.str 1)]), (g8, 24, [.bool false, Sv (Dm.str 2)]), (g4, 24, [.bool true, Sv (Dm.str 3)]), (g1, 24, [.bool true, Sv (Dm.str 4)])] w') :
    w'.cell? ⟨g13, 0, none⟩ = some (.bool true) ∧ w'.cell? ⟨g13, 1, none⟩ = some (Sv (Dm.str 12)) ∧ w'.cell? ⟨g11, 0, none⟩ = some (.bool false) ∧ w'.cell? ⟨g11, 1, none⟩ = some (.string ⟨#[]⟩) ∧ w'.cell? ⟨g9, 0, none⟩ = some (.bool true) ∧ w'.cell? ⟨g9, 1, none⟩ = some (Sv (Dm.str 1)) ∧ w'.cell? ⟨g8, 0, none⟩ = some (.bool false) ∧ w'.cell? ⟨g8, 1, none⟩ = some (Sv (Dm.str 2)) ∧ w'.cell? ⟨g4, 0, none⟩ = some (.bool true) ∧ w'.cell? ⟨g4, 1, none⟩ = some (Sv (Dm.str 3)) ∧ w'.cell? ⟨g1, 0, none⟩ = some (.bool true) ∧ w'.cell? ⟨g1, 1, none⟩ = some (Sv (Dm.str 4)) :=
  ⟨kp_cell h 0 0, kp_cell h 0 1, kp_cell h 1 0, kp_cell h 1 1, kp_cell h 2 0, kp_cell h 2 1, kp_cell h 3 0, kp_cell h 3 1, kp_cell h 4 0, kp_cell h 4 1, kp_cell h 5 0, kp_cell h 5 1⟩
set_option maxRecDepth 100000 in
set_option maxHeartbeats 8000000 in
theorem awakeI_any (w : World) :
    Calls Tryd.prog 13 #[] w fun e w' => e = .returned (.bool true) ∧ Below w.heap.size w w' := by
  go_enter Tryd.func13, Tryd.ntmps13
  have k0 := Kp.start w
  go_wp2_with fail
  refine (ofG (-7) (by decide) (by decide) _).mono ?_
  rintro e wa1 ⟨rfl, hb⟩
  have k1 := k0.next hb
  clear hb k0
  simp only [Int.reduceLT, Int.reduceAbs, Int.reduceNeg, decide_true, decide_false]
  go_wp2_with fail
  refine (ofG (2) (by decide) (by decide) _).mono ?_
  rintro e wa2 ⟨rfl, hb⟩
  have k2 := k1.next hb
  clear hb k1
  simp only [Int.reduceLT, Int.reduceAbs, Int.reduceNeg, decide_true, decide_false]
  go_wp2_with fail
  refine (aw_d1 _).mono ?_
  rintro e wa3 ⟨rfl, hb⟩
  have k3 := k2.next hb
  clear hb k2
  go_wp2_with fail
  have kk := (k3.new 24 [.bool true, Sv (Dm.str 4)])
  clear k3
  generalize wa3.heap.size = g1 at *
  generalize (wa3.alloc (.cells #[.bool true, Sv (Dm.str 4)] 24)) = W3 at *
  have k3 := kk
  clear kk
  refine (ofG (7) (by decide) (by decide) _).mono ?_
  rintro e wa4 ⟨rfl, hb⟩
  have k4 := k3.next hb
  clear hb k3
  simp only [Int.reduceLT, Int.reduceAbs, Int.reduceNeg, decide_true, decide_false]
  go_wp2_with fail
  refine (ofG (-2) (by decide) (by decide) _).mono ?_
  rintro e wa5 ⟨rfl, hb⟩
  have k5 := k4.next hb
  clear hb k4
  simp only [Int.reduceLT, Int.reduceAbs, Int.reduceNeg, decide_true, decide_false]
  go_wp2_with fail
  refine (aw_d2 _).mono ?_
  rintro e wa6 ⟨rfl, hb⟩
  have k6 := k5.next hb
  clear hb k5
  go_wp2_with fail
  have kk := (k6.new 24 [.bool true, Sv (Dm.str 3)])
  clear k6
  generalize wa6.heap.size = g4 at *
  generalize (wa6.alloc (.cells #[.bool true, Sv (Dm.str 3)] 24)) = W6 at *
  have k6 := kk
  clear kk
  refine (of_any 12 _ (by decide)).mono ?_
  rintro e wa7 ⟨rfl, hb⟩
  have k7 := k6.next hb
  clear hb k6
  go_wp2_with fail
  refine (of_any 18 _ (by decide)).mono ?_
  rintro e wa8 ⟨rfl, hb⟩
  have k8 := k7.next hb
  clear hb k7
  go_wp2_with fail
  refine (aw_ext _).mono ?_
  rintro e wa9 ⟨rfl, hb⟩
  have k9 := k8.next hb
  clear hb k8
  go_wp2_with fail
  have kk := ((k9.new 24 [.bool false, Sv (Dm.str 2)]).new 24 [.bool true, Sv (Dm.str 1)])
  clear k9
  have hsz : (wa9.alloc (.cells #[.bool false, Sv (Dm.str 2)] 24)).heap.size = wa9.heap.size + 1 := by simp
  simp only [hsz] at kk
  clear hsz
  generalize wa9.heap.size + 1 = g9 at *
  generalize wa9.heap.size = g8 at *
  generalize ((wa9.alloc (.cells #[.bool false, Sv (Dm.str 2)] 24)).alloc (.cells #[.bool true, Sv (Dm.str 1)] 24)) = W9 at *
  have k9 := kk
  clear kk
  refine (ofG (7) (by decide) (by decide) _).mono ?_
  rintro e wa10 ⟨rfl, hb⟩
  have k10 := k9.next hb
  clear hb k9
  simp only [Int.reduceLT, Int.reduceAbs, Int.reduceNeg, decide_true, decide_false]
  go_wp2_with fail
  refine (ofG (2) (by decide) (by decide) _).mono ?_
  rintro e wa11 ⟨rfl, hb⟩
  have k11 := k10.next hb
  clear hb k10
  simp only [Int.reduceLT, Int.reduceAbs, Int.reduceNeg, decide_true, decide_false]
  go_wp2_with fail
  refine (aw_dv _).mono ?_
  rintro e wa12 ⟨rfl, hb⟩
  have k12 := k11.next hb
  clear hb k11
  go_wp2_with fail
  have kk := (k12.new 24 [.bool false, .string ⟨#[]⟩])
  clear k12
  generalize wa12.heap.size = g11 at *
  generalize (wa12.alloc (.cells #[.bool false, .string ⟨#[]⟩] 24)) = W12 at *
  have k12 := kk
  clear kk
  refine (aw_p _).mono ?_
  rintro e wa13 ⟨rfl, hb⟩
  have k13 := k12.next hb
  clear hb k12
  go_wp2_with fail
  have kk := (k13.new 24 [.bool true, Sv (Dm.str 12)])
  clear k13
  generalize wa13.heap.size = g13 at *
  generalize (wa13.alloc (.cells #[.bool true, Sv (Dm.str 12)] 24)) = W13 at *
  have k13 := kk
  clear kk
  have kd := k13.drew
  clear k13
  go_region_held3 (fun w' => w'.cell? ⟨g13, 0, none⟩ = some (.bool true) ∧ w'.cell? ⟨g13, 1, none⟩ = some (Sv (Dm.str 12)) ∧ w'.cell? ⟨g11, 0, none⟩ = some (.bool false) ∧ w'.cell? ⟨g11, 1, none⟩ = some (.string ⟨#[]⟩) ∧ w'.cell? ⟨g9, 0, none⟩ = some (.bool true) ∧ w'.cell? ⟨g9, 1, none⟩ = some (Sv (Dm.str 1)) ∧ w'.cell? ⟨g8, 0, none⟩ = some (.bool false) ∧ w'.cell? ⟨g8, 1, none⟩ = some (Sv (Dm.str 2)) ∧ w'.cell? ⟨g4, 0, none⟩ = some (.bool true) ∧ w'.cell? ⟨g4, 1, none⟩ = some (Sv (Dm.str 3)) ∧ w'.cell? ⟨g1, 0, none⟩ = some (.bool true) ∧ w'.cell? ⟨g1, 1, none⟩ = some (Sv (Dm.str 4))) (exact aw_S (w := w) (by assumption))
    (first | (go_at_call 34; refine (ofG _ (by decide) (by decide) _).mono ?_; rintro e wa ⟨rfl, hba⟩; have hk1 := Kp.next (w := w) (bl := [(g13, 24, [.bool true, Sv (Dm.str 12)]), (g11, 24, [.bool false, .string ⟨#[]⟩]), (g9, 24, [.bool true, Sv (Dm.str 1)]), (g8, 24, [.bool false, Sv (Dm.str 2)]), (g4, 24, [.bool true, Sv (Dm.str 3)]), (g1, 24, [.bool true, Sv (Dm.str 4)])]) (by assumption) hba; simp only [Int.reduceLT, Int.reduceAbs, Int.reduceNeg, decide_true, decide_false]) | (go_at_call 47; refine (of_int _ _ (by decide) (by decide)).mono ?_; rintro e wa ⟨rfl, hba⟩; have hk1 := Kp.next (w := w) (bl := [(g13, 24, [.bool true, Sv (Dm.str 12)]), (g11, 24, [.bool false, .string ⟨#[]⟩]), (g9, 24, [.bool true, Sv (Dm.str 1)]), (g8, 24, [.bool false, Sv (Dm.str 2)]), (g4, 24, [.bool true, Sv (Dm.str 3)]), (g1, 24, [.bool true, Sv (Dm.str 4)])]) (by assumption) hba; simp only [Int.reduceToNat]))
  have k14 := hk1
  clear hk1 hba
  go_wp2_with fail
  have kd := k14.drew
  clear k14
  go_region_held3 (fun w' => w'.cell? ⟨g13, 0, none⟩ = some (.bool true) ∧ w'.cell? ⟨g13, 1, none⟩ = some (Sv (Dm.str 12)) ∧ w'.cell? ⟨g11, 0, none⟩ = some (.bool false) ∧ w'.cell? ⟨g11, 1, none⟩ = some (.string ⟨#[]⟩) ∧ w'.cell? ⟨g9, 0, none⟩ = some (.bool true) ∧ w'.cell? ⟨g9, 1, none⟩ = some (Sv (Dm.str 1)) ∧ w'.cell? ⟨g8, 0, none⟩ = some (.bool false) ∧ w'.cell? ⟨g8, 1, none⟩ = some (Sv (Dm.str 2)) ∧ w'.cell? ⟨g4, 0, none⟩ = some (.bool true) ∧ w'.cell? ⟨g4, 1, none⟩ = some (Sv (Dm.str 3)) ∧ w'.cell? ⟨g1, 0, none⟩ = some (.bool true) ∧ w'.cell? ⟨g1, 1, none⟩ = some (Sv (Dm.str 4))) (exact aw_S (w := w) (by assumption))
    (first | (go_at_call 34; refine (ofG _ (by decide) (by decide) _).mono ?_; rintro e wa ⟨rfl, hba⟩; have hk1 := Kp.next (w := w) (bl := [(g13, 24, [.bool true, Sv (Dm.str 12)]), (g11, 24, [.bool false, .string ⟨#[]⟩]), (g9, 24, [.bool true, Sv (Dm.str 1)]), (g8, 24, [.bool false, Sv (Dm.str 2)]), (g4, 24, [.bool true, Sv (Dm.str 3)]), (g1, 24, [.bool true, Sv (Dm.str 4)])]) (by assumption) hba; simp only [Int.reduceLT, Int.reduceAbs, Int.reduceNeg, decide_true, decide_false]) | (go_at_call 47; refine (of_int _ _ (by decide) (by decide)).mono ?_; rintro e wa ⟨rfl, hba⟩; have hk1 := Kp.next (w := w) (bl := [(g13, 24, [.bool true, Sv (Dm.str 12)]), (g11, 24, [.bool false, .string ⟨#[]⟩]), (g9, 24, [.bool true, Sv (Dm.str 1)]), (g8, 24, [.bool false, Sv (Dm.str 2)]), (g4, 24, [.bool true, Sv (Dm.str 3)]), (g1, 24, [.bool true, Sv (Dm.str 4)])]) (by assumption) hba; simp only [Int.reduceToNat]))
  have k15 := hk1
  go_wp2_with fail
  go_ret
  exact ⟨rfl, k15.below⟩
end Go.Proofs.YtlagcdgfmgkooaaDoor
