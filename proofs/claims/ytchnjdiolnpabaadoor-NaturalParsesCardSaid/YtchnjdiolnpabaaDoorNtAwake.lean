/-
  dominolaw01: awake. (printed by wip/genaw.py, the end by hand)
-/
import Derived.Test.YtchnjdiolnpabaaDoorNat5
import Derived.Test.YtchnjdiolnpabaaDoorNat9
import Derived.Test.YtchnjdiolnpabaaDoorNat10
import Derived.Deep.RegionHeld3
namespace Go.Proofs.YtchnjdiolnpabaaDoor
open Go.RowKit
set_option linter.unusedVariables false

theorem str_of {n : Nat} {l : List UInt8} (h : Dm.val l = n) (hc : Dm.canon l = true) : Dm.str n = l := by rw [← h, Dm.str_val_canon hc]
theorem aw_mul : mulV (tl (bs (Dm.str 65535))) (tl (bs (Dm.str 65537))) = .tuple #[Sv [255, 255, 255, 255], .int .i64 0] := by
  rw [tl_bs, tl_bs, mulV, Dm.val_str, Dm.val_str, if_pos (by decide), str_of (l := [255, 255, 255, 255]) (by decide) (by decide)]; rfl
theorem aw_div : dmV (tl (bs (Dm.str 1000))) (tl (bs (Dm.str 7))) = .tuple #[Sv (Dm.str 142), Sv (Dm.str 6), .int .i64 0] := by
  rw [tl_bs, tl_bs, dmV, Dm.val_str, Dm.val_str, if_pos (by decide)]; rfl
theorem aw_gcd : gcdV (tl (bs (Dm.str 84))) (tl (bs (Dm.str 36))) = .tuple #[Sv (Dm.str 12), .int .i64 0] := by
  rw [tl_bs, tl_bs, gcdV, Dm.val_str, Dm.val_str, if_pos (by decide)]; rfl
theorem aw_rt : Dm.rt 99 = 9 := by decide +kernel
theorem aw_sqrt : sqrtV (tl (bs (Dm.str 99))) = .tuple #[Sv (Dm.str 9), .int .i64 0] := by
  rw [tl_bs, sqrtV, Dm.val_str, if_pos (by decide), aw_rt]
theorem aw_sub : subV (tl (bs (Dm.str 1))) (tl (bs (Dm.str 2))) = .tuple #[Sv [], .int .i64 2] := by
  rw [tl_bs, tl_bs, subV, Dm.val_str, Dm.val_str, if_pos (by decide)]; rfl
theorem aw_dec : Dm.dec 258 = [50, 53, 56] := by decide +kernel
theorem aw_text : textV (tl (bs (Dm.str 258))) = .tuple #[Sv [50, 53, 56], .int .i64 0] := by
  rw [tl_bs, textV, Dm.val_str, if_pos (by decide), aw_dec]
set_option maxRecDepth 20000 in
set_option maxHeartbeats 2000000 in
theorem awake_any (w : World) :
    Calls Tryd.prog 6 #[] w fun e w' => e = .returned (.bool true) ∧ Below w.heap.size w w' := by
  go_enter Tryd.func6, Tryd.ntmps6
  have k0 := Kp.start w
  go_wp2_with fail
  refine (of_any 65535 _ (by decide)).mono ?_
  rintro e wa1 ⟨rfl, hb⟩
  have k1 := k0.next hb
  clear hb k0
  go_wp2_with fail
  refine (of_any 65537 _ (by decide)).mono ?_
  rintro e wa2 ⟨rfl, hb⟩
  have k2 := k1.next hb
  clear hb k1
  go_wp2_with fail
  refine (Mul_any _ _ _ (by rw [size_bs]; decide) (by rw [size_bs]; decide)).mono ?_
  rintro e wa3 ⟨rfl, hb⟩
  have k3 := k2.next hb
  clear hb k2
  rw [aw_mul]
  go_wp2_with fail
  refine (of_any 1000 _ (by decide)).mono ?_
  rintro e wa4 ⟨rfl, hb⟩
  have k4 := k3.next hb
  clear hb k3
  go_wp2_with fail
  refine (of_any 7 _ (by decide)).mono ?_
  rintro e wa5 ⟨rfl, hb⟩
  have k5 := k4.next hb
  clear hb k4
  go_wp2_with fail
  refine (DivMod_any 8 div8 _ _ _ (by rw [size_bs]; decide) (by rw [size_bs]; decide) (.inl (by rw [size_bs]; decide))).mono ?_
  rintro e wa6 ⟨rfl, hb⟩
  have k6 := k5.next hb
  clear hb k5
  rw [aw_div]
  go_wp2_with fail
  refine (of_any 84 _ (by decide)).mono ?_
  rintro e wa7 ⟨rfl, hb⟩
  have k7 := k6.next hb
  clear hb k6
  go_wp2_with fail
  refine (of_any 36 _ (by decide)).mono ?_
  rintro e wa8 ⟨rfl, hb⟩
  have k8 := k7.next hb
  clear hb k7
  go_wp2_with fail
  refine (Gcd_any 8 div8 _ _ _ (by rw [size_bs]; decide) (by rw [size_bs]; decide) (fun _ _ => ⟨(by rw [size_bs]; decide), (by rw [size_bs]; decide)⟩)).mono ?_
  rintro e wa9 ⟨rfl, hb⟩
  have k9 := k8.next hb
  clear hb k8
  rw [aw_gcd]
  go_wp2_with fail
  refine (of_any 99 _ (by decide)).mono ?_
  rintro e wa10 ⟨rfl, hb⟩
  have k10 := k9.next hb
  clear hb k9
  go_wp2_with fail
  refine (Sqrt_any 8 div8 (by omega) _ _ (by rw [size_bs]; decide) (fun _ => (by rw [size_bs]; decide))).mono ?_
  rintro e wa11 ⟨rfl, hb⟩
  have k11 := k10.next hb
  clear hb k10
  rw [aw_sqrt]
  go_wp2_with fail
  refine (of_any 1 _ (by decide)).mono ?_
  rintro e wa12 ⟨rfl, hb⟩
  have k12 := k11.next hb
  clear hb k11
  go_wp2_with fail
  refine (of_any 2 _ (by decide)).mono ?_
  rintro e wa13 ⟨rfl, hb⟩
  have k13 := k12.next hb
  clear hb k12
  go_wp2_with fail
  refine (Sub_any _ _ _ (by rw [size_bs]; decide) (by rw [size_bs]; decide)).mono ?_
  rintro e wa14 ⟨rfl, hb⟩
  have k14 := k13.next hb
  clear hb k13
  rw [aw_sub]
  go_wp2_with fail
  refine (of_any 258 _ (by decide)).mono ?_
  rintro e wa15 ⟨rfl, hb⟩
  have k15 := k14.next hb
  clear hb k14
  go_wp2_with fail
  refine (Text_any 8 div8 _ _ (by rw [size_bs]; decide) (fun _ => (by rw [size_bs]; decide))).mono ?_
  rintro e wa16 ⟨rfl, hb⟩
  have k16 := k15.next hb
  clear hb k15
  rw [aw_text]
  go_wp2_with fail
  refine (of_any 258 _ (by decide)).mono ?_
  rintro e wa17 ⟨rfl, hb⟩
  have k17 := k16.next hb
  clear hb k16
  rw [str_of (l := [1, 2]) (by decide) (by decide)]
  have hl1 : (bs [1, 2]).toList = [1, 2] := by decide +kernel
  have hl2 : (bs [255, 255, 255, 255]).toList = [255, 255, 255, 255] := by decide +kernel
  have hl3 : (bs [50, 53, 56]).toList = [50, 53, 56] := by decide +kernel
  go_wp2_with fail
  refine (of_any 142 _ (by decide)).mono ?_
  rintro e wa18 ⟨rfl, hb⟩
  have k18 := k17.next hb
  clear hb k17
  go_wp2_with fail
  refine (of_any 6 _ (by decide)).mono ?_
  rintro e wa19 ⟨rfl, hb⟩
  have k19 := k18.next hb
  clear hb k18
  go_wp2_with fail
  refine (of_any 12 _ (by decide)).mono ?_
  rintro e wa20 ⟨rfl, hb⟩
  have k20 := k19.next hb
  clear hb k19
  go_wp2_with fail
  refine (of_any 9 _ (by decide)).mono ?_
  rintro e wa21 ⟨rfl, hb⟩
  have k21 := k20.next hb
  clear hb k20
  go_wp2_with fail
  go_ret
  exact ⟨rfl, Kp.below (by assumption)⟩
end Go.Proofs.YtchnjdiolnpabaaDoor
