/-
  The walk of the law IntegerEuclid.
-/
import Derived.Test.YtlagcdgfmgkooaaDoorInLaw8
namespace Go.Proofs.YtlagcdgfmgkooaaDoor
open Go.RowKit
set_option linter.unusedVariables false

set_option maxRecDepth 100000 in
set_option maxHeartbeats 4000000 in
theorem euclid_gen (n k : Bool) (s t : ByteArray) (hs : s.size ≤ 60) (ht : t.size ≤ 60) (ht0 : 0 < t.size) (qb pb fb tb : Bool) (qs rs ps fs ts : ByteArray)
    (hV : Hid (∀ W : World, Calls Tryd.prog 32 #[.agg #[.bool n, .string s]] W fun e w' => e = .returned (.bool true) ∧ Below W.heap.size W w'))
    (hW : Hid (∀ W : World, Calls Tryd.prog 32 #[.agg #[.bool k, .string t]] W fun e w' => e = .returned (.bool true) ∧ Below W.heap.size W w'))
    (h1 : Hid (∀ W : World, Calls Tryd.prog 26 #[.agg #[.bool n, .string s], .agg #[.bool k, .string t]] W fun e w' => e = .returned (.tuple #[.agg #[.bool qb, .string qs], .string rs, .int .i64 0]) ∧ Below W.heap.size W w'))
    (h2 : Hid (∀ W : World, Calls Tryd.prog 18 #[.agg #[.bool qb, .string qs], .agg #[.bool k, .string t]] W fun e w' => e = .returned (.tuple #[.agg #[.bool pb, .string ps], .int .i64 0]) ∧ Below W.heap.size W w'))
    (h3 : Hid (∀ W : World, Calls Tryd.prog 23 #[.string rs] W fun e w' => e = .returned (.agg #[.bool fb, .string fs]) ∧ Below W.heap.size W w'))
    (h4 : Hid (∀ W : World, Calls Tryd.prog 14 #[.agg #[.bool pb, .string ps], .agg #[.bool fb, .string fs]] W fun e w' => e = .returned (.tuple #[.agg #[.bool n, .string s], .int .i64 0]) ∧ Below W.heap.size W w'))
    (h5 : Hid (∀ W : World, Calls Tryd.prog 25 #[.string rs, .string t] W fun e w' => e = .returned (.int .i64 (-1)) ∧ W = w'))
    (h6 : Hid (∀ W : World, Calls Tryd.prog 14 #[.agg #[.bool n, .string s], .agg #[.bool k, .string t]] W fun e w' => e = .returned (.tuple #[.agg #[.bool tb, .string ts], .int .i64 0]) ∧ Below W.heap.size W w'))
    (h7 : Hid (∀ W : World, Calls Tryd.prog 28 #[.agg #[.bool tb, .string ts], .string t] W fun e w' => e = .returned (.tuple #[.string rs, .int .i64 0]) ∧ Below W.heap.size W w'))
    (h8 : Hid (∀ W : World, Calls Tryd.prog 30 #[.agg #[.bool pb, .string ps], .agg #[.bool k, .string t]] W fun e w' => e = .returned (.tuple #[.agg #[.bool qb, .string qs], .int .i64 0]) ∧ Below W.heap.size W w'))
    (w : World) :
    Calls Tryd.prog 7 #[.agg #[.bool n, .string s], .agg #[.bool k, .string t]] w fun e w' => e = .returned (.bool true) ∧ Below w.heap.size w w' := by
  obtain ⟨z1, z2⟩ := str_full ht0
  have hk1 := ((Kp.start w).new 24 [.bool n, .string s]).new 24 [.bool k, .string t]
  simp at hk1
  go_enter Tryd.func7, Tryd.ntmps7
  go_wp2_with fail
  generalize (w.alloc (.cells #[.bool n, .string s] 24)).alloc (.cells #[.bool k, .string t] 24) = W0 at *
  generalize w.heap.size + 1 = g1 at *
  generalize hg0 : w.heap.size = g0 at *
  clear hg0
  refine (hV.out _).mono ?_
  rintro e w1 ⟨rfl, hb⟩
  have k1 := Kp.next hk1 hb
  clear hb hk1
  obtain ⟨ca0, ca1⟩ := kp_c01' 1 k1 rfl
  obtain ⟨cb0, cb1⟩ := kp_c01' 0 k1 rfl
  go_wp2_with fail
  refine (hW.out _).mono ?_
  rintro e w2 ⟨rfl, hb⟩
  clear ca0 ca1 cb0 cb1
  have k2 := Kp.next k1 hb
  clear hb k1
  obtain ⟨ca0, ca1⟩ := kp_c01' 1 k2 rfl
  obtain ⟨cb0, cb1⟩ := kp_c01' 0 k2 rfl
  go_wp2_with fail
  refine (h1.out _).mono ?_
  rintro e w3 ⟨rfl, hb⟩
  clear ca0 ca1 cb0 cb1
  have k3 := Kp.next k2 hb
  clear hb k2
  have j3 := Kp.new k3 24 [.bool qb, .string qs]
  obtain ⟨ca0, ca1⟩ := kp_c01' 1 k3 rfl
  obtain ⟨cb0, cb1⟩ := kp_c01' 0 k3 rfl
  obtain ⟨da0, da1⟩ := kp_c01' 2 j3 rfl
  obtain ⟨db0, db1⟩ := kp_c01' 1 j3 rfl
  obtain ⟨dq0, dq1⟩ := kp_c01' 0 j3 rfl
  go_wp2_with fail
  refine (h2.out _).mono ?_
  rintro e w4 ⟨rfl, hb⟩
  clear ca0 ca1 cb0 cb1 da0 da1 db0 db1 dq0 dq1
  have k4 := Kp.next j3 hb
  clear hb j3
  have j4 := Kp.new k4 24 [.bool pb, .string ps]
  go_upto_region 5 with fail
  generalize hv1 : w4.alloc (.cells #[.bool pb, .string ps] 24) = v1 at *
  clear hv1
  generalize w4.heap.size = gp at *
  have hk2 : Kp w _ v1 := j4
  clear j4
  have hz3 : gp < v1.heap.size := kp_l 0 hk2 rfl
  have hkd := hk2.drew
  have hkn := (hk2.new 24 [.bool false, .string ⟨#[]⟩]).drew
  go_upto_region 5 with fail
  go_cut [10, 11] (fun s10 s11 wx => s11 = .int .i64 0 ∧ CutK w [.bool n, .string s] [(gp, 24, [.bool pb, .string ps]), (w3.heap.size, 24, [.bool qb, .string qs]), (g1, 24, [.bool k, .string t]), (g0, 24, [.bool n, .string s])] s10 wx)
  case first =>
    clear hk2
    go_region_held3 (fun w' => w'.cell? ⟨gp, 0, none⟩ = some (.bool pb) ∧ w'.cell? ⟨gp, 1, none⟩ = some (.string ps))
      (first | exact kp_c01' (w := w) 0 (by assumption) rfl | exact kp_c01' (w := w) 1 (by assumption) rfl | exact kp_c01' (w := w) 0 (Kp.alloc (by assumption) _) rfl | exact set_keep (kp_c01' (w := w) 1 (by assumption) rfl) (by omega) | exact set_keep (kp_c01' (w := w) 0 (by assumption) rfl) (by omega))
      (first | (go_at_call 23; refine (h3.out _).mono ?_; rintro e wa ⟨rfl, hba⟩; (first | (have hka := Kp.next (w := w) (by assumption) hba) | (have hka := Kp.next (w := w) (Kp.new (by assumption) 24 [.bool false, .string ⟨#[]⟩]) hba)); (first | (have hza : gp < wa.heap.size := kp_l 0 hka rfl) | (have hza : gp < wa.heap.size := kp_l 1 hka rfl))) | (go_at_call 14; refine (h4.out _).mono ?_; rintro e wb ⟨rfl, hbb⟩; (first | (have hkb := Kp.next (w := w) (by assumption) hbb) | (have hkb := Kp.next (w := w) (Kp.new (by assumption) 24 [.bool false, .string ⟨#[]⟩]) hbb)); (try obtain ⟨p0, p1⟩ := kp_c01' 0 hkb rfl); (try obtain ⟨q0, q1⟩ := kp_f01' 0 hkb rfl)))
    · rename_i hHeld
      go_wp2_with fail
      go_meet
      exact ⟨rfl, _, rfl, hkb.new 24 [.bool n, .string s]⟩
    · rename_i hHeld
      go_wp2_with fail
      go_meet
      exact ⟨rfl, _, rfl, kp_set2 hkb hka.below.size (fun x' hx' => Nat.ne_of_lt (hka.blk x' hx').lt) _ _⟩
    · rename_i hHeld
      go_wp2_with fail
      go_meet
      exact ⟨rfl, _, rfl, kp_set2 hkb hkd.below.size (fun x' hx' => Nat.ne_of_lt (hkd.blk x' hx').lt) _ _⟩
  case rest =>
    obtain ⟨rfl, gs, rfl, k5⟩ := hcut
    clear hkd hkn hk2 hz3
    have hks := k5
    clear k5
    obtain ⟨cs0, cs1⟩ := kp_c01' 0 hks rfl
    obtain ⟨ca0, ca1⟩ := kp_c01' 4 hks rfl
    obtain ⟨cb0, cb1⟩ := kp_c01' 3 hks rfl
    go_wp2_with fail
    refine (h5.out _).mono ?_
    rintro e w6 ⟨rfl, rfl⟩
    go_wp2_with fail
    refine (h6.out _).mono ?_
    rintro e w7 ⟨rfl, hb⟩
    clear cs0 cs1 ca0 ca1 cb0 cb1
    have k7 := Kp.next hks hb
    clear hb hks
    have j7 := Kp.new k7 24 [.bool tb, .string ts]
    obtain ⟨cb0, cb1⟩ := kp_c01' 3 k7 rfl
    obtain ⟨cp0, cp1⟩ := kp_c01' 1 k7 rfl
    obtain ⟨dt0, dt1⟩ := kp_c01' 0 j7 rfl
    obtain ⟨db0, db1⟩ := kp_c01' 4 j7 rfl
    obtain ⟨dp0, dp1⟩ := kp_c01' 2 j7 rfl
    go_wp2_with fail
    refine (h7.out _).mono ?_
    rintro e w8 ⟨rfl, hb⟩
    clear cb0 cb1 cp0 cp1 dt0 dt1 db0 db1 dp0 dp1
    have k8 := Kp.next j7 hb
    clear hb j7
    obtain ⟨cp0, cp1⟩ := kp_c01' 2 k8 rfl
    obtain ⟨cb0, cb1⟩ := kp_c01' 4 k8 rfl
    go_wp2_with fail
    refine (h8.out _).mono ?_
    rintro e w9 ⟨rfl, hb⟩
    clear cp0 cp1 cb0 cb1
    have k9 := Kp.next k8 hb
    clear hb k8
    have j9 := Kp.new k9 24 [.bool qb, .string qs]
    go_wp2_with fail
    refine (awakeI_any _).mono ?_
    rintro e w10 ⟨rfl, hb⟩
    have k10 := Kp.next j9 hb
    clear hb j9
    obtain ⟨cd0, cd1⟩ := kp_c01' 0 k10 rfl
    obtain ⟨cq0, cq1⟩ := kp_c01' 4 k10 rfl
    go_wp2_with fail
    go_ret
    exact ⟨by first | rfl | (simp; done), k10.below⟩
theorem iValid_all (n : Bool) (s : ByteArray) (v : Bool) (w : World) (hl : s.size ≤ maxLen) (hv : validI n (tl s) = v) :
    Calls Tryd.prog 32 #[.agg #[.bool n, .string s]] w fun e w' => e = .returned (.bool v) ∧ Below w.heap.size w w' := by
  by_cases h : s.size ≤ 128
  · exact iValid_at n s v w (by omega) hv
  · have h3 : validB (tl s) = false := by
      cases h2 : validB (tl s) with
      | false => rfl
      | true => exact absurd (validB_size h2) h
    have hv2 : v = false := by rw [← hv, validI, h3]; rfl
    subst hv2
    have HV := Lib.hid h3
    clear hv h3
    go_enter Tryd.func32, Tryd.ntmps32
    go_wp2_with fail
    refine (valid_all s false _ hl HV.out).mono ?_
    rintro e w1 ⟨rfl, rfl⟩
    go_wp2_with fail
    go_ret
    exact ⟨rfl, (Below.refl _ _).alloc (Nat.le_refl _) _⟩
theorem euclid_facts (z y : Int) (hy : y ≠ 0) : z / y * y + ((z % y).toNat : Int) = z ∧ (z % y).toNat < y.natAbs ∧ ((z + y) % (y.natAbs : Int)).toNat = (z % y).toNat ∧ (z / y * y) % y = 0 ∧ (z / y * y) / y = z / y ∧ (z / y * y).natAbs ≤ z.natAbs + y.natAbs := by
  have h1 := Int.emod_nonneg z hy
  have h2 : z % y < (y.natAbs : Int) := Int.emod_lt z hy
  have h3 := Int.mul_ediv_add_emod z y
  have h4 : y * (z / y) = z / y * y := Int.mul_comm _ _
  have h5 : (z + y) % (y.natAbs : Int) = z % y := by
    rcases Int.natAbs_eq y with h | h
    · rw [← h, Int.add_emod_right]
    · have h2 : (y.natAbs : Int) = -y := by omega
      rw [h2, Int.emod_neg, Int.add_emod_right]
  refine ⟨by omega, by omega, by rw [h5], Int.mul_emod_left _ _, Int.mul_ediv_cancel _ hy, by omega⟩
theorem rN_of (x : Int) (l : Nat) (h : l ≠ 0) : rN (decide (x < 0)) x.natAbs l = (x % (l : Int)).toNat := by
  have := (ediv_pos (decide (x < 0)) x.natAbs l h).2
  rw [zz_of] at this
  rw [this]; rfl
set_option maxHeartbeats 1000000 in
theorem euclid_good {n k : Bool} {m l : Nat} (h1 : Nm n m) (h2 : Nm k l) (hm : m < 256 ^ 60) (hl : l < 256 ^ 60) (h0 : l ≠ 0) (w : World) :
    Calls Tryd.prog 7 #[.agg #[.bool n, Sv (Dm.str m)], .agg #[.bool k, Sv (Dm.str l)]] w fun e w' => e = .returned (.bool true) ∧ Below w.heap.size w w' := by
  have hp1 := p60
  have sa : (bs (Dm.str m)).size ≤ 60 := by rw [size_bs]; exact Dm.length_str_le.2 hm
  have sb : (bs (Dm.str l)).size ≤ 60 := by rw [size_bs]; exact Dm.length_str_le.2 hl
  have sb0 : 0 < (bs (Dm.str l)).size := by
    rw [size_bs]
    rcases Nat.eq_zero_or_pos (Dm.str l).length with h | h
    · exact absurd (str_nil.1 (List.eq_nil_of_length_eq_zero h)) h0
    · exact h
  have hy0 : zz k l ≠ 0 := zz_ne k h0
  have az1 : (zz n m).natAbs = m := zz_abs n m
  have az2 : (zz k l).natAbs = l := zz_abs k l
  obtain ⟨f1, f2, f3, f4, f5, f6⟩ := euclid_facts (zz n m) (zz k l) hy0
  rw [az2] at f2 f3
  have fq : ((zz n m) / (zz k l)).natAbs ≤ m := by have := Int.natAbs_ediv_le_natAbs (zz n m) (zz k l); omega
  have hlt : (256 : Nat) ^ 60 < 256 ^ 128 := p60'
  generalize (256 : Nat) ^ 60 = P at *
  have hPP : P ≤ P * P := Nat.le_mul_of_pos_left P (by omega)
  have fQ : Fits (zz n m / zz k l) := by unfold Fits; omega
  have fP : Fits (zz n m / zz k l * zz k l) := by unfold Fits; omega
  have fR : (zz n m % zz k l).toNat < 256 ^ 128 := by omega
  have fT : Fits (zz n m + zz k l) := by unfold Fits; omega
  have ea : ((zz n m / zz k l * zz k l) + ((zz n m % zz k l).toNat : Int)) = zz n m := f1
  have hV := iV_zz h1.ne
  have eT := rN_of (zz n m + zz k l) l h0
  rw [f3] at eT
  refine euclid_gen n k _ _ sa sb sb0 _ _ _ _ _ (bs (Dm.str (zz n m % zz k l).toNat)) _ _ _ (Lib.hid fun W => iValid_nm h1 W) (Lib.hid fun W => iValid_nm h2 W)
    (Lib.hid fun W => (iDivMod_nm h1 h2 W).mono fun e w' ⟨he, hb⟩ => ⟨by rw [he, divI, if_neg hy0]; rfl, hb⟩)
    (Lib.hid fun W => mulZ (nm_of _ fQ) h2 _ (by rw [zz_of]) fP W)
    (Lib.hid fun W => fromN _ fR W)
    (Lib.hid fun W => (addZ (nm_of _ fP) ⟨(fun h => by cases h), fR⟩ (zz n m) (by rw [zz_of]; exact ea) (by unfold Fits; omega) W).mono fun e w' ⟨he, hb⟩ => ⟨by rw [he]; exact ret_two hV rfl, hb⟩)
    (Lib.hid fun W => (nCmp _ l fR h2.lt W).mono fun e w' ⟨he, hb⟩ => ⟨by rw [he, Dm.cmpN_lt f2], hb⟩)
    (Lib.hid fun W => addZ h1 h2 _ rfl fT W)
    (Lib.hid fun W => (iMod_nm (nm_of _ fT) h2.lt h0 W).mono fun e w' ⟨he, hb⟩ => ⟨by rw [he, eT], hb⟩)
    (Lib.hid fun W => (iDivide_nm (nm_of _ fP) h2 W).mono fun e w' ⟨he, hb⟩ => ⟨by rw [he, zz_of, divideI, if_neg hy0, if_pos f4, f5]; rfl, hb⟩) w
set_option maxHeartbeats 4000000 in
theorem euclid_walk (n : Bool) (s : ByteArray) (k : Bool) (t : ByteArray) (hs : s.size ≤ maxLen) (ht : t.size ≤ maxLen) (w : World) :
    Calls Tryd.prog 7 #[.agg #[.bool n, .string s], .agg #[.bool k, .string t]] w fun e w' => e = .returned (.bool true) ∧ Below w.heap.size w w' := by
  have hk1 := ((Kp.start w).new 24 [.bool n, .string s]).new 24 [.bool k, .string t]
  simp at hk1
  cases hvs : validI n (tl s) with
  | false =>
    have HS := Lib.hid hvs
    clear hvs
    go_enter Tryd.func7, Tryd.ntmps7
    go_wp2_with fail
    generalize (w.alloc (.cells #[.bool n, .string s] 24)).alloc (.cells #[.bool k, .string t] 24) = W0 at *
    generalize w.heap.size + 1 = g1 at *
    generalize hg0 : w.heap.size = g0 at *
    clear hg0
    refine (iValid_all n s false _ hs HS.out).mono ?_
    rintro e w1 ⟨rfl, hb⟩
    have k1 := Kp.next hk1 hb
    go_wp2_with fail
    refine (awakeI_any _).mono ?_
    rintro e w9 ⟨rfl, hb9⟩
    have k9 := Kp.next k1 hb9
    go_wp2_with fail
    go_ret
    exact ⟨rfl, k9.below⟩
  | true =>
    have HS := Lib.hid hvs
    cases hvt : validI k (tl t) with
    | false =>
      have HT := Lib.hid hvt
      clear hvs hvt
      go_enter Tryd.func7, Tryd.ntmps7
      go_wp2_with fail
      generalize (w.alloc (.cells #[.bool n, .string s] 24)).alloc (.cells #[.bool k, .string t] 24) = W0 at *
      generalize w.heap.size + 1 = g1 at *
      generalize hg0 : w.heap.size = g0 at *
      clear hg0
      refine (iValid_all n s true _ hs HS.out).mono ?_
      rintro e w1 ⟨rfl, hb⟩
      have k0 := Kp.next hk1 hb
      clear hb hk1
      obtain ⟨c0, c1⟩ := kp_c01' 0 k0 rfl
      obtain ⟨d0, d1⟩ := kp_c01' 1 k0 rfl
      go_wp2_with fail
      refine (iValid_all k t false _ ht HT.out).mono ?_
      rintro e w2 ⟨rfl, hb⟩
      have k1 := Kp.next k0 hb
      go_wp2_with fail
      refine (awakeI_any _).mono ?_
      rintro e w9 ⟨rfl, hb9⟩
      have k9 := Kp.next k1 hb9
      go_wp2_with fail
      go_ret
      exact ⟨rfl, k9.below⟩
    | true =>
      have HT := Lib.hid hvt
      have sz1 : s.size ≤ 128 := by unfold validI at hvs; rw [Bool.and_eq_true] at hvs; exact validB_size hvs.1
      have sz2 : t.size ≤ 128 := by unfold validI at hvt; rw [Bool.and_eq_true] at hvt; exact validB_size hvt.1
      by_cases l1 : s.size ≤ 60
      · by_cases l2 : t.size ≤ 60
        · by_cases l3 : 0 < t.size
          · clear hk1
            obtain ⟨m, h1, rfl⟩ := nm_val hvs
            obtain ⟨l, h2, rfl⟩ := nm_val hvt
            rw [size_bs] at l1 l2 l3
            refine euclid_good h1 h2 (Dm.length_str_le.1 l1) (Dm.length_str_le.1 l2) ?_ w
            rintro rfl
            exact absurd l3 (by decide)
          · have l4 : t.size = 0 := by omega
            obtain ⟨z1, z2⟩ := str_empty l4
            clear hvs hvt l3 l4
            go_enter Tryd.func7, Tryd.ntmps7
            go_wp2_with fail
            generalize (w.alloc (.cells #[.bool n, .string s] 24)).alloc (.cells #[.bool k, .string t] 24) = W0 at *
            generalize w.heap.size + 1 = g1 at *
            generalize hg0 : w.heap.size = g0 at *
            clear hg0
            refine (iValid_all n s true _ hs HS.out).mono ?_
            rintro e w1 ⟨rfl, hb⟩
            have k0 := Kp.next hk1 hb
            clear hb hk1
            obtain ⟨c0, c1⟩ := kp_c01' 0 k0 rfl
            obtain ⟨d0, d1⟩ := kp_c01' 1 k0 rfl
            go_wp2_with fail
            refine (iValid_all k t true _ ht HT.out).mono ?_
            rintro e w2 ⟨rfl, hb⟩
            have k1 := Kp.next k0 hb
            clear c0 c1 d0 d1 hb k0
            obtain ⟨c0, c1⟩ := kp_c01' 0 k1 rfl
            obtain ⟨d0, d1⟩ := kp_c01' 1 k1 rfl
            go_wp2_with fail
            refine (awakeI_any _).mono ?_
            rintro e w9 ⟨rfl, hb9⟩
            have k9 := Kp.next k1 hb9
            go_wp2_with fail
            go_ret
            exact ⟨rfl, k9.below⟩
        · clear hvs hvt
          go_enter Tryd.func7, Tryd.ntmps7
          go_wp2_with fail
          generalize (w.alloc (.cells #[.bool n, .string s] 24)).alloc (.cells #[.bool k, .string t] 24) = W0 at *
          generalize w.heap.size + 1 = g1 at *
          generalize hg0 : w.heap.size = g0 at *
          clear hg0
          refine (iValid_all n s true _ hs HS.out).mono ?_
          rintro e w1 ⟨rfl, hb⟩
          have k0 := Kp.next hk1 hb
          clear hb hk1
          obtain ⟨c0, c1⟩ := kp_c01' 0 k0 rfl
          obtain ⟨d0, d1⟩ := kp_c01' 1 k0 rfl
          go_wp2_with fail
          refine (iValid_all k t true _ ht HT.out).mono ?_
          rintro e w2 ⟨rfl, hb⟩
          have k1 := Kp.next k0 hb
          clear c0 c1 d0 d1 hb k0
          obtain ⟨c0, c1⟩ := kp_c01' 0 k1 rfl
          obtain ⟨d0, d1⟩ := kp_c01' 1 k1 rfl
          go_wp2_with fail
          refine (awakeI_any _).mono ?_
          rintro e w9 ⟨rfl, hb9⟩
          have k9 := Kp.next k1 hb9
          go_wp2_with fail
          go_ret
          exact ⟨rfl, k9.below⟩
      · clear hvs hvt
        go_enter Tryd.func7, Tryd.ntmps7
        go_wp2_with fail
        generalize (w.alloc (.cells #[.bool n, .string s] 24)).alloc (.cells #[.bool k, .string t] 24) = W0 at *
        generalize w.heap.size + 1 = g1 at *
        generalize hg0 : w.heap.size = g0 at *
        clear hg0
        refine (iValid_all n s true _ hs HS.out).mono ?_
        rintro e w1 ⟨rfl, hb⟩
        have k0 := Kp.next hk1 hb
        clear hb hk1
        obtain ⟨c0, c1⟩ := kp_c01' 0 k0 rfl
        obtain ⟨d0, d1⟩ := kp_c01' 1 k0 rfl
        go_wp2_with fail
        refine (iValid_all k t true _ ht HT.out).mono ?_
        rintro e w2 ⟨rfl, hb⟩
        have k1 := Kp.next k0 hb
        clear c0 c1 d0 d1 hb k0
        obtain ⟨c0, c1⟩ := kp_c01' 0 k1 rfl
        obtain ⟨d0, d1⟩ := kp_c01' 1 k1 rfl
        go_wp2_with fail
        refine (awakeI_any _).mono ?_
        rintro e w9 ⟨rfl, hb9⟩
        have k9 := Kp.next k1 hb9
        go_wp2_with fail
        go_ret
        exact ⟨rfl, k9.below⟩
end Go.Proofs.YtlagcdgfmgkooaaDoor
