/-
  The walk of the law IntegerRing.
-/
import Derived.Test.YtlagcdgfmgkooaaDoorInLaw9
namespace Go.Proofs.YtlagcdgfmgkooaaDoor
open Go.RowKit
set_option linter.unusedVariables false

set_option maxRecDepth 100000 in
set_option maxHeartbeats 8000000 in
theorem ring_gen (n k o : Bool) (s t u : ByteArray) (hs : s.size ≤ 30) (ht : t.size ≤ 30) (hu : u.size ≤ 30) (abb bcb xb pb qb rb db : Bool) (abs bcs xs ps qs rs ds : ByteArray) (v v' v2 : Int)
    (hv : Hid ((v = 0 ∧ v' = 0 ∧ n = k ∧ s = t) ∨ ((IntKind.i64.wrap (-v') = v ∧ (v == 0) = false) ∧ ¬ (n = k ∧ s = t))))
    (hVa : Hid (∀ W : World, Calls Tryd.prog 32 #[.agg #[.bool n, .string s]] W fun e w' => e = .returned (.bool true) ∧ Below W.heap.size W w'))
    (hVb : Hid (∀ W : World, Calls Tryd.prog 32 #[.agg #[.bool k, .string t]] W fun e w' => e = .returned (.bool true) ∧ Below W.heap.size W w'))
    (hVc : Hid (∀ W : World, Calls Tryd.prog 32 #[.agg #[.bool o, .string u]] W fun e w' => e = .returned (.bool true) ∧ Below W.heap.size W w'))
    (hAB : Hid (∀ W : World, Calls Tryd.prog 14 #[.agg #[.bool n, .string s], .agg #[.bool k, .string t]] W fun e w' => e = .returned (.tuple #[.agg #[.bool abb, .string abs], .int .i64 0]) ∧ Below W.heap.size W w'))
    (hBA : Hid (∀ W : World, Calls Tryd.prog 14 #[.agg #[.bool k, .string t], .agg #[.bool n, .string s]] W fun e w' => e = .returned (.tuple #[.agg #[.bool abb, .string abs], .int .i64 0]) ∧ Below W.heap.size W w'))
    (hBC : Hid (∀ W : World, Calls Tryd.prog 14 #[.agg #[.bool k, .string t], .agg #[.bool o, .string u]] W fun e w' => e = .returned (.tuple #[.agg #[.bool bcb, .string bcs], .int .i64 0]) ∧ Below W.heap.size W w'))
    (hBK : Hid (∀ W : World, Calls Tryd.prog 16 #[.agg #[.bool abb, .string abs], .agg #[.bool k, .string t]] W fun e w' => e = .returned (.tuple #[.agg #[.bool n, .string s], .int .i64 0]) ∧ Below W.heap.size W w'))
    (hX : Hid (∀ W : World, Calls Tryd.prog 14 #[.agg #[.bool abb, .string abs], .agg #[.bool o, .string u]] W fun e w' => e = .returned (.tuple #[.agg #[.bool xb, .string xs], .int .i64 0]) ∧ Below W.heap.size W w'))
    (hY : Hid (∀ W : World, Calls Tryd.prog 14 #[.agg #[.bool n, .string s], .agg #[.bool bcb, .string bcs]] W fun e w' => e = .returned (.tuple #[.agg #[.bool xb, .string xs], .int .i64 0]) ∧ Below W.heap.size W w'))
    (hP : Hid (∀ W : World, Calls Tryd.prog 18 #[.agg #[.bool n, .string s], .agg #[.bool bcb, .string bcs]] W fun e w' => e = .returned (.tuple #[.agg #[.bool pb, .string ps], .int .i64 0]) ∧ Below W.heap.size W w'))
    (hQ : Hid (∀ W : World, Calls Tryd.prog 18 #[.agg #[.bool n, .string s], .agg #[.bool k, .string t]] W fun e w' => e = .returned (.tuple #[.agg #[.bool qb, .string qs], .int .i64 0]) ∧ Below W.heap.size W w'))
    (hR : Hid (∀ W : World, Calls Tryd.prog 18 #[.agg #[.bool n, .string s], .agg #[.bool o, .string u]] W fun e w' => e = .returned (.tuple #[.agg #[.bool rb, .string rs], .int .i64 0]) ∧ Below W.heap.size W w'))
    (hS : Hid (∀ W : World, Calls Tryd.prog 14 #[.agg #[.bool qb, .string qs], .agg #[.bool rb, .string rs]] W fun e w' => e = .returned (.tuple #[.agg #[.bool pb, .string ps], .int .i64 0]) ∧ Below W.heap.size W w'))
    (hT : Hid (∀ W : World, Calls Tryd.prog 18 #[.agg #[.bool k, .string t], .agg #[.bool n, .string s]] W fun e w' => e = .returned (.tuple #[.agg #[.bool qb, .string qs], .int .i64 0]) ∧ Below W.heap.size W w'))
    (hD : Hid (∀ W : World, Calls Tryd.prog 16 #[.agg #[.bool n, .string s], .agg #[.bool k, .string t]] W fun e w' => e = .returned (.tuple #[.agg #[.bool db, .string ds], .int .i64 0]) ∧ Below W.heap.size W w'))
    (hC1 : Hid (∀ W : World, Calls Tryd.prog 33 #[.agg #[.bool n, .string s], .agg #[.bool k, .string t]] W fun e w' => e = .returned (.int .i64 v) ∧ Below W.heap.size W w'))
    (hC2 : Hid (∀ W : World, Calls Tryd.prog 33 #[.agg #[.bool k, .string t], .agg #[.bool n, .string s]] W fun e w' => e = .returned (.int .i64 v') ∧ Below W.heap.size W w'))
    (hO : Hid (∀ W : World, Calls Tryd.prog 34 #[.int .i64 0] W fun e w' => e = .returned (.agg #[.bool false, Sv (Dm.str 0)]) ∧ Below W.heap.size W w'))
    (hC3 : Hid (∀ W : World, Calls Tryd.prog 33 #[.agg #[.bool db, .string ds], .agg #[.bool false, Sv (Dm.str 0)]] W fun e w' => e = .returned (.int .i64 v) ∧ Below W.heap.size W w'))
    (hC4 : Hid (∀ W : World, Calls Tryd.prog 33 #[.agg #[.bool abb, .string abs], .agg #[.bool bcb, .string bcs]] W fun e w' => e = .returned (.int .i64 v2) ∧ Below W.heap.size W w'))
    (hC5 : Hid (∀ W : World, Calls Tryd.prog 33 #[.agg #[.bool n, .string s], .agg #[.bool o, .string u]] W fun e w' => e = .returned (.int .i64 v2) ∧ Below W.heap.size W w'))
    (w : World) :
    Calls Tryd.prog 8 #[.agg #[.bool n, .string s], .agg #[.bool k, .string t], .agg #[.bool o, .string u]] w fun e w' => e = .returned (.bool true) ∧ Below w.heap.size w w' := by
  have hk1 := (((Kp.start w).new 24 [.bool n, .string s]).new 24 [.bool k, .string t]).new 24 [.bool o, .string u]
  simp at hk1
  go_enter Tryd.func8, Tryd.ntmps8
  go_wp2_with fail
  generalize ((w.alloc (.cells #[.bool n, .string s] 24)).alloc (.cells #[.bool k, .string t] 24)).alloc (.cells #[.bool o, .string u] 24) = W0 at *
  generalize w.heap.size + 1 + 1 = gc at *
  generalize w.heap.size + 1 = gb at *
  generalize hga : w.heap.size = ga at *
  clear hga
  refine (hVa.out _).mono ?_
  rintro e w1 ⟨rfl, hb⟩
  have k1 := Kp.next hk1 hb
  clear hb hk1
  obtain ⟨ca0, ca1⟩ := kp_c01' 2 k1 rfl
  obtain ⟨cb0, cb1⟩ := kp_c01' 1 k1 rfl
  go_wp2_with fail
  refine (hVb.out _).mono ?_
  rintro e w2 ⟨rfl, hb⟩
  clear ca0 ca1 cb0 cb1
  have k2 := Kp.next k1 hb
  clear hb k1
  obtain ⟨cb0, cb1⟩ := kp_c01' 1 k2 rfl
  obtain ⟨cc0, cc1⟩ := kp_c01' 0 k2 rfl
  go_wp2_with fail
  refine (hVc.out _).mono ?_
  rintro e w3 ⟨rfl, hb⟩
  clear cb0 cb1 cc0 cc1
  have k3 := Kp.next k2 hb
  clear hb k2
  obtain ⟨ca0, ca1⟩ := kp_c01' 2 k3 rfl
  obtain ⟨cb0, cb1⟩ := kp_c01' 1 k3 rfl
  obtain ⟨cc0, cc1⟩ := kp_c01' 0 k3 rfl
  go_wp2_with fail
  refine (hAB.out _).mono ?_
  rintro e w4 ⟨rfl, hb⟩
  clear ca0 ca1 cb0 cb1 cc0 cc1
  have k4 := Kp.next k3 hb
  clear hb k3
  have j4 := Kp.new k4 24 [.bool abb, .string abs]
  obtain ⟨ca0, ca1⟩ := kp_c01' 2 k4 rfl
  obtain ⟨cb0, cb1⟩ := kp_c01' 1 k4 rfl
  obtain ⟨da0, da1⟩ := kp_c01' 3 j4 rfl
  obtain ⟨db0, db1⟩ := kp_c01' 2 j4 rfl
  go_wp2_with fail
  generalize hvv : w4.alloc (.cells #[.bool abb, .string abs] 24) = V4 at *
  clear hvv
  generalize w4.heap.size = gab at *
  refine (hBA.out _).mono ?_
  rintro e w5 ⟨rfl, hb⟩
  clear ca0 ca1 cb0 cb1 da0 da1 db0 db1
  have k5 := Kp.next j4 hb
  clear hb j4
  have j5 := Kp.new k5 24 [.bool abb, .string abs]
  obtain ⟨cb0, cb1⟩ := kp_c01' 2 k5 rfl
  obtain ⟨cc0, cc1⟩ := kp_c01' 1 k5 rfl
  obtain ⟨db0, db1⟩ := kp_c01' 3 j5 rfl
  obtain ⟨dc0, dc1⟩ := kp_c01' 2 j5 rfl
  go_wp2_with fail
  generalize hvv : w5.alloc (.cells #[.bool abb, .string abs] 24) = V5 at *
  clear hvv
  generalize w5.heap.size = gba at *
  refine (hBC.out _).mono ?_
  rintro e w6 ⟨rfl, hb⟩
  clear cb0 cb1 cc0 cc1 db0 db1 dc0 dc1
  have k6 := Kp.next j5 hb
  clear hb j5
  have j6 := Kp.new k6 24 [.bool bcb, .string bcs]
  obtain ⟨cab0, cab1⟩ := kp_c01' 1 k6 rfl
  obtain ⟨cb0, cb1⟩ := kp_c01' 3 k6 rfl
  obtain ⟨dab0, dab1⟩ := kp_c01' 2 j6 rfl
  obtain ⟨db0, db1⟩ := kp_c01' 4 j6 rfl
  go_wp2_with fail
  generalize hvv : w6.alloc (.cells #[.bool bcb, .string bcs] 24) = V6 at *
  clear hvv
  generalize w6.heap.size = gbc at *
  refine (hBK.out _).mono ?_
  rintro e w7 ⟨rfl, hb⟩
  clear cab0 cab1 cb0 cb1 dab0 dab1 db0 db1
  have k7 := Kp.next j6 hb
  clear hb j6
  have j7 := Kp.new k7 24 [.bool n, .string s]
  obtain ⟨cab0, cab1⟩ := kp_c01' 2 k7 rfl
  obtain ⟨cba0, cba1⟩ := kp_c01' 1 k7 rfl
  obtain ⟨ca0, ca1⟩ := kp_c01' 5 k7 rfl
  obtain ⟨cc0, cc1⟩ := kp_c01' 3 k7 rfl
  obtain ⟨dab0, dab1⟩ := kp_c01' 3 j7 rfl
  obtain ⟨dba0, dba1⟩ := kp_c01' 2 j7 rfl
  obtain ⟨dbk0, dbk1⟩ := kp_c01' 0 j7 rfl
  obtain ⟨da0, da1⟩ := kp_c01' 6 j7 rfl
  obtain ⟨dc0, dc1⟩ := kp_c01' 4 j7 rfl
  go_wp2_with fail
  generalize hvv : w7.alloc (.cells #[.bool n, .string s] 24) = V7 at *
  clear hvv
  generalize w7.heap.size = gbk at *
  refine (hX.out _).mono ?_
  rintro e w8 ⟨rfl, hb⟩
  clear cab0 cab1 cba0 cba1 ca0 ca1 cc0 cc1 dab0 dab1 dba0 dba1 dbk0 dbk1 da0 da1 dc0 dc1
  have k8 := Kp.next j7 hb
  clear hb j7
  have j8 := Kp.new k8 24 [.bool xb, .string xs]
  obtain ⟨ca0, ca1⟩ := kp_c01' 6 k8 rfl
  obtain ⟨cbc0, cbc1⟩ := kp_c01' 1 k8 rfl
  obtain ⟨da0, da1⟩ := kp_c01' 7 j8 rfl
  obtain ⟨dbc0, dbc1⟩ := kp_c01' 2 j8 rfl
  go_wp2_with fail
  generalize hvv : w8.alloc (.cells #[.bool xb, .string xs] 24) = V8 at *
  clear hvv
  generalize w8.heap.size = gx at *
  refine (hY.out _).mono ?_
  rintro e w9 ⟨rfl, hb⟩
  clear ca0 ca1 cbc0 cbc1 da0 da1 dbc0 dbc1
  have k9 := Kp.next j8 hb
  clear hb j8
  have j9 := Kp.new k9 24 [.bool xb, .string xs]
  obtain ⟨ca0, ca1⟩ := kp_c01' 7 k9 rfl
  obtain ⟨cbc0, cbc1⟩ := kp_c01' 2 k9 rfl
  obtain ⟨da0, da1⟩ := kp_c01' 8 j9 rfl
  obtain ⟨dbc0, dbc1⟩ := kp_c01' 3 j9 rfl
  go_wp2_with fail
  generalize hvv : w9.alloc (.cells #[.bool xb, .string xs] 24) = V9 at *
  clear hvv
  generalize w9.heap.size = gy at *
  refine (hP.out _).mono ?_
  rintro e w10 ⟨rfl, hb⟩
  clear ca0 ca1 cbc0 cbc1 da0 da1 dbc0 dbc1
  have k10 := Kp.next j9 hb
  clear hb j9
  have j10 := Kp.new k10 24 [.bool pb, .string ps]
  obtain ⟨ca0, ca1⟩ := kp_c01' 8 k10 rfl
  obtain ⟨cb0, cb1⟩ := kp_c01' 7 k10 rfl
  obtain ⟨da0, da1⟩ := kp_c01' 9 j10 rfl
  obtain ⟨db0, db1⟩ := kp_c01' 8 j10 rfl
  go_wp2_with fail
  generalize hvv : w10.alloc (.cells #[.bool pb, .string ps] 24) = V10 at *
  clear hvv
  generalize w10.heap.size = gp at *
  refine (hQ.out _).mono ?_
  rintro e w11 ⟨rfl, hb⟩
  clear ca0 ca1 cb0 cb1 da0 da1 db0 db1
  have k11 := Kp.next j10 hb
  clear hb j10
  have j11 := Kp.new k11 24 [.bool qb, .string qs]
  obtain ⟨ca0, ca1⟩ := kp_c01' 9 k11 rfl
  obtain ⟨cc0, cc1⟩ := kp_c01' 7 k11 rfl
  obtain ⟨da0, da1⟩ := kp_c01' 10 j11 rfl
  obtain ⟨dc0, dc1⟩ := kp_c01' 8 j11 rfl
  go_wp2_with fail
  generalize hvv : w11.alloc (.cells #[.bool qb, .string qs] 24) = V11 at *
  clear hvv
  generalize w11.heap.size = gq at *
  refine (hR.out _).mono ?_
  rintro e w12 ⟨rfl, hb⟩
  clear ca0 ca1 cc0 cc1 da0 da1 dc0 dc1
  have k12 := Kp.next j11 hb
  clear hb j11
  have j12 := Kp.new k12 24 [.bool rb, .string rs]
  obtain ⟨cq0, cq1⟩ := kp_c01' 0 k12 rfl
  obtain ⟨dq0, dq1⟩ := kp_c01' 1 j12 rfl
  obtain ⟨dr0, dr1⟩ := kp_c01' 0 j12 rfl
  go_wp2_with fail
  generalize hvv : w12.alloc (.cells #[.bool rb, .string rs] 24) = V12 at *
  clear hvv
  generalize w12.heap.size = gr at *
  refine (hS.out _).mono ?_
  rintro e w13 ⟨rfl, hb⟩
  clear cq0 cq1 dq0 dq1 dr0 dr1
  have k13 := Kp.next j12 hb
  clear hb j12
  have j13 := Kp.new k13 24 [.bool pb, .string ps]
  obtain ⟨ca0, ca1⟩ := kp_c01' 11 k13 rfl
  obtain ⟨cb0, cb1⟩ := kp_c01' 10 k13 rfl
  obtain ⟨da0, da1⟩ := kp_c01' 12 j13 rfl
  obtain ⟨db0, db1⟩ := kp_c01' 11 j13 rfl
  go_wp2_with fail
  generalize hvv : w13.alloc (.cells #[.bool pb, .string ps] 24) = V13 at *
  clear hvv
  generalize w13.heap.size = gs at *
  refine (hT.out _).mono ?_
  rintro e w14 ⟨rfl, hb⟩
  clear ca0 ca1 cb0 cb1 da0 da1 db0 db1
  have k14 := Kp.next j13 hb
  clear hb j13
  have j14 := Kp.new k14 24 [.bool qb, .string qs]
  obtain ⟨ca0, ca1⟩ := kp_c01' 12 k14 rfl
  obtain ⟨cb0, cb1⟩ := kp_c01' 11 k14 rfl
  obtain ⟨da0, da1⟩ := kp_c01' 13 j14 rfl
  obtain ⟨db0, db1⟩ := kp_c01' 12 j14 rfl
  go_wp2_with fail
  generalize hvv : w14.alloc (.cells #[.bool qb, .string qs] 24) = V14 at *
  clear hvv
  generalize w14.heap.size = gt at *
  refine (hD.out _).mono ?_
  rintro e w15 ⟨rfl, hb⟩
  clear ca0 ca1 cb0 cb1 da0 da1 db0 db1
  have k15 := Kp.next j14 hb
  clear hb j14
  have j15 := Kp.new k15 24 [.bool db, .string ds]
  obtain ⟨ca0, ca1⟩ := kp_c01' 13 k15 rfl
  obtain ⟨cb0, cb1⟩ := kp_c01' 12 k15 rfl
  obtain ⟨da0, da1⟩ := kp_c01' 14 j15 rfl
  obtain ⟨db0, db1⟩ := kp_c01' 13 j15 rfl
  go_wp2_with fail
  generalize hvv : w15.alloc (.cells #[.bool db, .string ds] 24) = V15 at *
  clear hvv
  generalize w15.heap.size = gd at *
  refine (hC1.out _).mono ?_
  rintro e w16 ⟨rfl, hb⟩
  clear ca0 ca1 cb0 cb1 da0 da1 db0 db1
  have k16 := Kp.next j15 hb
  clear hb j15
  have hk2 : Kp w _ w16 := k16
  clear k16
  have hw0 : IntKind.i64.wrap 0 = 0 := by decide +kernel
  rcases hv.out with ⟨rfl, rfl, rfl, rfl⟩ | ⟨⟨hwv, hv0⟩, hne⟩
  · go_wp2_with fail
    have hkd := hk2.drew
    clear hk2
    go_region_held3 (fun w' => (w'.cell? ⟨gx, 0, none⟩ = some (.bool xb) ∧ w'.cell? ⟨gx, 1, none⟩ = some (.string xs)) ∧ (w'.cell? ⟨gy, 0, none⟩ = some (.bool xb) ∧ w'.cell? ⟨gy, 1, none⟩ = some (.string xs)) ∧ (w'.cell? ⟨gp, 0, none⟩ = some (.bool pb) ∧ w'.cell? ⟨gp, 1, none⟩ = some (.string ps)) ∧ (w'.cell? ⟨gs, 0, none⟩ = some (.bool pb) ∧ w'.cell? ⟨gs, 1, none⟩ = some (.string ps)) ∧ (w'.cell? ⟨gq, 0, none⟩ = some (.bool qb) ∧ w'.cell? ⟨gq, 1, none⟩ = some (.string qs)) ∧ (w'.cell? ⟨gt, 0, none⟩ = some (.bool qb) ∧ w'.cell? ⟨gt, 1, none⟩ = some (.string qs)) ∧ (w'.cell? ⟨ga, 0, none⟩ = some (.bool n) ∧ w'.cell? ⟨ga, 1, none⟩ = some (.string s)) ∧ (w'.cell? ⟨gb, 0, none⟩ = some (.bool n) ∧ w'.cell? ⟨gb, 1, none⟩ = some (.string s)) ∧ (w'.cell? ⟨gc, 0, none⟩ = some (.bool o) ∧ w'.cell? ⟨gc, 1, none⟩ = some (.string u)) ∧ (w'.cell? ⟨gd, 0, none⟩ = some (.bool db) ∧ w'.cell? ⟨gd, 1, none⟩ = some (.string ds)) ∧ (w'.cell? ⟨gab, 0, none⟩ = some (.bool abb) ∧ w'.cell? ⟨gab, 1, none⟩ = some (.string abs)) ∧ (w'.cell? ⟨gbc, 0, none⟩ = some (.bool bcb) ∧ w'.cell? ⟨gbc, 1, none⟩ = some (.string bcs)))
      (exact (fun h => ⟨kp_c01' (w := w) 7 h rfl, kp_c01' (w := w) 6 h rfl, kp_c01' (w := w) 5 h rfl, kp_c01' (w := w) 2 h rfl, kp_c01' (w := w) 4 h rfl, kp_c01' (w := w) 1 h rfl, kp_c01' (w := w) 14 h rfl, kp_c01' (w := w) 13 h rfl, kp_c01' (w := w) 12 h rfl, kp_c01' (w := w) 0 h rfl, kp_c01' (w := w) 11 h rfl, kp_c01' (w := w) 9 h rfl⟩) (show Kp w [(gd, 24, [.bool db, .string ds]), (gt, 24, [.bool qb, .string qs]), (gs, 24, [.bool pb, .string ps]), (gr, 24, [.bool rb, .string rs]), (gq, 24, [.bool qb, .string qs]), (gp, 24, [.bool pb, .string ps]), (gy, 24, [.bool xb, .string xs]), (gx, 24, [.bool xb, .string xs]), (gbk, 24, [.bool n, .string s]), (gbc, 24, [.bool bcb, .string bcs]), (gba, 24, [.bool abb, .string abs]), (gab, 24, [.bool abb, .string abs]), (gc, 24, [.bool o, .string u]), (gb, 24, [.bool n, .string s]), (ga, 24, [.bool n, .string s])] _ by assumption))
      (first | (go_at_call 13; (with_reducible refine (awakeI_any _).mono ?_); rintro e wa ⟨rfl, hba⟩; have hk3 := Kp.next (w := w) (bl := [(gd, 24, [.bool db, .string ds]), (gt, 24, [.bool qb, .string qs]), (gs, 24, [.bool pb, .string ps]), (gr, 24, [.bool rb, .string rs]), (gq, 24, [.bool qb, .string qs]), (gp, 24, [.bool pb, .string ps]), (gy, 24, [.bool xb, .string xs]), (gx, 24, [.bool xb, .string xs]), (gbk, 24, [.bool n, .string s]), (gbc, 24, [.bool bcb, .string bcs]), (gba, 24, [.bool abb, .string abs]), (gab, 24, [.bool abb, .string abs]), (gc, 24, [.bool o, .string u]), (gb, 24, [.bool n, .string s]), (ga, 24, [.bool n, .string s])]) (by assumption) hba) | (go_at_call 34; (with_reducible refine (hO.out _).mono ?_); rintro e wa ⟨rfl, hba⟩; have hk3 := Kp.next (w := w) (bl := [(gd, 24, [.bool db, .string ds]), (gt, 24, [.bool qb, .string qs]), (gs, 24, [.bool pb, .string ps]), (gr, 24, [.bool rb, .string rs]), (gq, 24, [.bool qb, .string qs]), (gp, 24, [.bool pb, .string ps]), (gy, 24, [.bool xb, .string xs]), (gx, 24, [.bool xb, .string xs]), (gbk, 24, [.bool n, .string s]), (gbc, 24, [.bool bcb, .string bcs]), (gba, 24, [.bool abb, .string abs]), (gab, 24, [.bool abb, .string abs]), (gc, 24, [.bool o, .string u]), (gb, 24, [.bool n, .string s]), (ga, 24, [.bool n, .string s])]) (by assumption) hba) | (go_at_call 33; (with_reducible refine (hC2.out _).mono ?_); rintro e wa ⟨rfl, hba⟩; have hk3 := Kp.next (w := w) (bl := [(gd, 24, [.bool db, .string ds]), (gt, 24, [.bool qb, .string qs]), (gs, 24, [.bool pb, .string ps]), (gr, 24, [.bool rb, .string rs]), (gq, 24, [.bool qb, .string qs]), (gp, 24, [.bool pb, .string ps]), (gy, 24, [.bool xb, .string xs]), (gx, 24, [.bool xb, .string xs]), (gbk, 24, [.bool n, .string s]), (gbc, 24, [.bool bcb, .string bcs]), (gba, 24, [.bool abb, .string abs]), (gab, 24, [.bool abb, .string abs]), (gc, 24, [.bool o, .string u]), (gb, 24, [.bool n, .string s]), (ga, 24, [.bool n, .string s])]) (by assumption) hba) | (go_at_call 33; (with_reducible refine (hC3.out _).mono ?_); rintro e wa ⟨rfl, hba⟩; have hk3 := Kp.next (w := w) (bl := [(gd, 24, [.bool db, .string ds]), (gt, 24, [.bool qb, .string qs]), (gs, 24, [.bool pb, .string ps]), (gr, 24, [.bool rb, .string rs]), (gq, 24, [.bool qb, .string qs]), (gp, 24, [.bool pb, .string ps]), (gy, 24, [.bool xb, .string xs]), (gx, 24, [.bool xb, .string xs]), (gbk, 24, [.bool n, .string s]), (gbc, 24, [.bool bcb, .string bcs]), (gba, 24, [.bool abb, .string abs]), (gab, 24, [.bool abb, .string abs]), (gc, 24, [.bool o, .string u]), (gb, 24, [.bool n, .string s]), (ga, 24, [.bool n, .string s])]) (by assumption) hba) | (go_at_call 33; (with_reducible refine (hC4.out _).mono ?_); rintro e wa ⟨rfl, hba⟩; have hk3 := Kp.next (w := w) (bl := [(gd, 24, [.bool db, .string ds]), (gt, 24, [.bool qb, .string qs]), (gs, 24, [.bool pb, .string ps]), (gr, 24, [.bool rb, .string rs]), (gq, 24, [.bool qb, .string qs]), (gp, 24, [.bool pb, .string ps]), (gy, 24, [.bool xb, .string xs]), (gx, 24, [.bool xb, .string xs]), (gbk, 24, [.bool n, .string s]), (gbc, 24, [.bool bcb, .string bcs]), (gba, 24, [.bool abb, .string abs]), (gab, 24, [.bool abb, .string abs]), (gc, 24, [.bool o, .string u]), (gb, 24, [.bool n, .string s]), (ga, 24, [.bool n, .string s])]) (by assumption) hba) | (go_at_call 33; (with_reducible refine (hC5.out _).mono ?_); rintro e wa ⟨rfl, hba⟩; have hk3 := Kp.next (w := w) (bl := [(gd, 24, [.bool db, .string ds]), (gt, 24, [.bool qb, .string qs]), (gs, 24, [.bool pb, .string ps]), (gr, 24, [.bool rb, .string rs]), (gq, 24, [.bool qb, .string qs]), (gp, 24, [.bool pb, .string ps]), (gy, 24, [.bool xb, .string xs]), (gx, 24, [.bool xb, .string xs]), (gbk, 24, [.bool n, .string s]), (gbc, 24, [.bool bcb, .string bcs]), (gba, 24, [.bool abb, .string abs]), (gab, 24, [.bool abb, .string abs]), (gc, 24, [.bool o, .string u]), (gb, 24, [.bool n, .string s]), (ga, 24, [.bool n, .string s])]) (by assumption) hba))
    all_goals
      go_wp2_with fail
      go_ret
      first | exact ⟨by first | rfl | (simp; done), hk3.below⟩ | exact ⟨by first | rfl | (simp; done), hk3.drew.below⟩
  all_goals
    by_cases hnk : n = k
    · subst hnk
      have hst : (s.toList == t.toList) = false := by
        rw [beq_eq_false_iff_ne]
        intro h9
        exact hne ⟨rfl, eq_of_tl (by rw [← toList_tl, ← toList_tl, h9])⟩
      clear hne
      go_wp2_with fail
      have hkd := hk2.drew
      clear hk2
      go_region_held3 (fun w' => (w'.cell? ⟨gx, 0, none⟩ = some (.bool xb) ∧ w'.cell? ⟨gx, 1, none⟩ = some (.string xs)) ∧ (w'.cell? ⟨gy, 0, none⟩ = some (.bool xb) ∧ w'.cell? ⟨gy, 1, none⟩ = some (.string xs)) ∧ (w'.cell? ⟨gp, 0, none⟩ = some (.bool pb) ∧ w'.cell? ⟨gp, 1, none⟩ = some (.string ps)) ∧ (w'.cell? ⟨gs, 0, none⟩ = some (.bool pb) ∧ w'.cell? ⟨gs, 1, none⟩ = some (.string ps)) ∧ (w'.cell? ⟨gq, 0, none⟩ = some (.bool qb) ∧ w'.cell? ⟨gq, 1, none⟩ = some (.string qs)) ∧ (w'.cell? ⟨gt, 0, none⟩ = some (.bool qb) ∧ w'.cell? ⟨gt, 1, none⟩ = some (.string qs)) ∧ (w'.cell? ⟨ga, 0, none⟩ = some (.bool n) ∧ w'.cell? ⟨ga, 1, none⟩ = some (.string s)) ∧ (w'.cell? ⟨gb, 0, none⟩ = some (.bool n) ∧ w'.cell? ⟨gb, 1, none⟩ = some (.string t)) ∧ (w'.cell? ⟨gc, 0, none⟩ = some (.bool o) ∧ w'.cell? ⟨gc, 1, none⟩ = some (.string u)) ∧ (w'.cell? ⟨gd, 0, none⟩ = some (.bool db) ∧ w'.cell? ⟨gd, 1, none⟩ = some (.string ds)) ∧ (w'.cell? ⟨gab, 0, none⟩ = some (.bool abb) ∧ w'.cell? ⟨gab, 1, none⟩ = some (.string abs)) ∧ (w'.cell? ⟨gbc, 0, none⟩ = some (.bool bcb) ∧ w'.cell? ⟨gbc, 1, none⟩ = some (.string bcs)))
        (exact (fun h => ⟨kp_c01' (w := w) 7 h rfl, kp_c01' (w := w) 6 h rfl, kp_c01' (w := w) 5 h rfl, kp_c01' (w := w) 2 h rfl, kp_c01' (w := w) 4 h rfl, kp_c01' (w := w) 1 h rfl, kp_c01' (w := w) 14 h rfl, kp_c01' (w := w) 13 h rfl, kp_c01' (w := w) 12 h rfl, kp_c01' (w := w) 0 h rfl, kp_c01' (w := w) 11 h rfl, kp_c01' (w := w) 9 h rfl⟩) (show Kp w [(gd, 24, [.bool db, .string ds]), (gt, 24, [.bool qb, .string qs]), (gs, 24, [.bool pb, .string ps]), (gr, 24, [.bool rb, .string rs]), (gq, 24, [.bool qb, .string qs]), (gp, 24, [.bool pb, .string ps]), (gy, 24, [.bool xb, .string xs]), (gx, 24, [.bool xb, .string xs]), (gbk, 24, [.bool n, .string s]), (gbc, 24, [.bool bcb, .string bcs]), (gba, 24, [.bool abb, .string abs]), (gab, 24, [.bool abb, .string abs]), (gc, 24, [.bool o, .string u]), (gb, 24, [.bool n, .string t]), (ga, 24, [.bool n, .string s])] _ by assumption))
        (first | (go_at_call 13; (with_reducible refine (awakeI_any _).mono ?_); rintro e wa ⟨rfl, hba⟩; have hk3 := Kp.next (w := w) (bl := [(gd, 24, [.bool db, .string ds]), (gt, 24, [.bool qb, .string qs]), (gs, 24, [.bool pb, .string ps]), (gr, 24, [.bool rb, .string rs]), (gq, 24, [.bool qb, .string qs]), (gp, 24, [.bool pb, .string ps]), (gy, 24, [.bool xb, .string xs]), (gx, 24, [.bool xb, .string xs]), (gbk, 24, [.bool n, .string s]), (gbc, 24, [.bool bcb, .string bcs]), (gba, 24, [.bool abb, .string abs]), (gab, 24, [.bool abb, .string abs]), (gc, 24, [.bool o, .string u]), (gb, 24, [.bool n, .string t]), (ga, 24, [.bool n, .string s])]) (by assumption) hba) | (go_at_call 34; (with_reducible refine (hO.out _).mono ?_); rintro e wa ⟨rfl, hba⟩; have hk3 := Kp.next (w := w) (bl := [(gd, 24, [.bool db, .string ds]), (gt, 24, [.bool qb, .string qs]), (gs, 24, [.bool pb, .string ps]), (gr, 24, [.bool rb, .string rs]), (gq, 24, [.bool qb, .string qs]), (gp, 24, [.bool pb, .string ps]), (gy, 24, [.bool xb, .string xs]), (gx, 24, [.bool xb, .string xs]), (gbk, 24, [.bool n, .string s]), (gbc, 24, [.bool bcb, .string bcs]), (gba, 24, [.bool abb, .string abs]), (gab, 24, [.bool abb, .string abs]), (gc, 24, [.bool o, .string u]), (gb, 24, [.bool n, .string t]), (ga, 24, [.bool n, .string s])]) (by assumption) hba) | (go_at_call 33; (with_reducible refine (hC2.out _).mono ?_); rintro e wa ⟨rfl, hba⟩; have hk3 := Kp.next (w := w) (bl := [(gd, 24, [.bool db, .string ds]), (gt, 24, [.bool qb, .string qs]), (gs, 24, [.bool pb, .string ps]), (gr, 24, [.bool rb, .string rs]), (gq, 24, [.bool qb, .string qs]), (gp, 24, [.bool pb, .string ps]), (gy, 24, [.bool xb, .string xs]), (gx, 24, [.bool xb, .string xs]), (gbk, 24, [.bool n, .string s]), (gbc, 24, [.bool bcb, .string bcs]), (gba, 24, [.bool abb, .string abs]), (gab, 24, [.bool abb, .string abs]), (gc, 24, [.bool o, .string u]), (gb, 24, [.bool n, .string t]), (ga, 24, [.bool n, .string s])]) (by assumption) hba) | (go_at_call 33; (with_reducible refine (hC3.out _).mono ?_); rintro e wa ⟨rfl, hba⟩; have hk3 := Kp.next (w := w) (bl := [(gd, 24, [.bool db, .string ds]), (gt, 24, [.bool qb, .string qs]), (gs, 24, [.bool pb, .string ps]), (gr, 24, [.bool rb, .string rs]), (gq, 24, [.bool qb, .string qs]), (gp, 24, [.bool pb, .string ps]), (gy, 24, [.bool xb, .string xs]), (gx, 24, [.bool xb, .string xs]), (gbk, 24, [.bool n, .string s]), (gbc, 24, [.bool bcb, .string bcs]), (gba, 24, [.bool abb, .string abs]), (gab, 24, [.bool abb, .string abs]), (gc, 24, [.bool o, .string u]), (gb, 24, [.bool n, .string t]), (ga, 24, [.bool n, .string s])]) (by assumption) hba) | (go_at_call 33; (with_reducible refine (hC4.out _).mono ?_); rintro e wa ⟨rfl, hba⟩; have hk3 := Kp.next (w := w) (bl := [(gd, 24, [.bool db, .string ds]), (gt, 24, [.bool qb, .string qs]), (gs, 24, [.bool pb, .string ps]), (gr, 24, [.bool rb, .string rs]), (gq, 24, [.bool qb, .string qs]), (gp, 24, [.bool pb, .string ps]), (gy, 24, [.bool xb, .string xs]), (gx, 24, [.bool xb, .string xs]), (gbk, 24, [.bool n, .string s]), (gbc, 24, [.bool bcb, .string bcs]), (gba, 24, [.bool abb, .string abs]), (gab, 24, [.bool abb, .string abs]), (gc, 24, [.bool o, .string u]), (gb, 24, [.bool n, .string t]), (ga, 24, [.bool n, .string s])]) (by assumption) hba) | (go_at_call 33; (with_reducible refine (hC5.out _).mono ?_); rintro e wa ⟨rfl, hba⟩; have hk3 := Kp.next (w := w) (bl := [(gd, 24, [.bool db, .string ds]), (gt, 24, [.bool qb, .string qs]), (gs, 24, [.bool pb, .string ps]), (gr, 24, [.bool rb, .string rs]), (gq, 24, [.bool qb, .string qs]), (gp, 24, [.bool pb, .string ps]), (gy, 24, [.bool xb, .string xs]), (gx, 24, [.bool xb, .string xs]), (gbk, 24, [.bool n, .string s]), (gbc, 24, [.bool bcb, .string bcs]), (gba, 24, [.bool abb, .string abs]), (gab, 24, [.bool abb, .string abs]), (gc, 24, [.bool o, .string u]), (gb, 24, [.bool n, .string t]), (ga, 24, [.bool n, .string s])]) (by assumption) hba))
      all_goals
        go_wp2_with fail
        go_ret
        first | exact ⟨by first | rfl | (simp; done), hk3.below⟩ | exact ⟨by first | rfl | (simp; done), hk3.drew.below⟩
    · have hnb : (n == k) = false := by simpa using hnk
      clear hne hnk
      go_wp2_with fail
      have hkd := hk2.drew
      clear hk2
      go_region_held3 (fun w' => (w'.cell? ⟨gx, 0, none⟩ = some (.bool xb) ∧ w'.cell? ⟨gx, 1, none⟩ = some (.string xs)) ∧ (w'.cell? ⟨gy, 0, none⟩ = some (.bool xb) ∧ w'.cell? ⟨gy, 1, none⟩ = some (.string xs)) ∧ (w'.cell? ⟨gp, 0, none⟩ = some (.bool pb) ∧ w'.cell? ⟨gp, 1, none⟩ = some (.string ps)) ∧ (w'.cell? ⟨gs, 0, none⟩ = some (.bool pb) ∧ w'.cell? ⟨gs, 1, none⟩ = some (.string ps)) ∧ (w'.cell? ⟨gq, 0, none⟩ = some (.bool qb) ∧ w'.cell? ⟨gq, 1, none⟩ = some (.string qs)) ∧ (w'.cell? ⟨gt, 0, none⟩ = some (.bool qb) ∧ w'.cell? ⟨gt, 1, none⟩ = some (.string qs)) ∧ (w'.cell? ⟨ga, 0, none⟩ = some (.bool n) ∧ w'.cell? ⟨ga, 1, none⟩ = some (.string s)) ∧ (w'.cell? ⟨gb, 0, none⟩ = some (.bool k) ∧ w'.cell? ⟨gb, 1, none⟩ = some (.string t)) ∧ (w'.cell? ⟨gc, 0, none⟩ = some (.bool o) ∧ w'.cell? ⟨gc, 1, none⟩ = some (.string u)) ∧ (w'.cell? ⟨gd, 0, none⟩ = some (.bool db) ∧ w'.cell? ⟨gd, 1, none⟩ = some (.string ds)) ∧ (w'.cell? ⟨gab, 0, none⟩ = some (.bool abb) ∧ w'.cell? ⟨gab, 1, none⟩ = some (.string abs)) ∧ (w'.cell? ⟨gbc, 0, none⟩ = some (.bool bcb) ∧ w'.cell? ⟨gbc, 1, none⟩ = some (.string bcs)))
        (exact (fun h => ⟨kp_c01' (w := w) 7 h rfl, kp_c01' (w := w) 6 h rfl, kp_c01' (w := w) 5 h rfl, kp_c01' (w := w) 2 h rfl, kp_c01' (w := w) 4 h rfl, kp_c01' (w := w) 1 h rfl, kp_c01' (w := w) 14 h rfl, kp_c01' (w := w) 13 h rfl, kp_c01' (w := w) 12 h rfl, kp_c01' (w := w) 0 h rfl, kp_c01' (w := w) 11 h rfl, kp_c01' (w := w) 9 h rfl⟩) (show Kp w [(gd, 24, [.bool db, .string ds]), (gt, 24, [.bool qb, .string qs]), (gs, 24, [.bool pb, .string ps]), (gr, 24, [.bool rb, .string rs]), (gq, 24, [.bool qb, .string qs]), (gp, 24, [.bool pb, .string ps]), (gy, 24, [.bool xb, .string xs]), (gx, 24, [.bool xb, .string xs]), (gbk, 24, [.bool n, .string s]), (gbc, 24, [.bool bcb, .string bcs]), (gba, 24, [.bool abb, .string abs]), (gab, 24, [.bool abb, .string abs]), (gc, 24, [.bool o, .string u]), (gb, 24, [.bool k, .string t]), (ga, 24, [.bool n, .string s])] _ by assumption))
        (first | (go_at_call 13; (with_reducible refine (awakeI_any _).mono ?_); rintro e wa ⟨rfl, hba⟩; have hk3 := Kp.next (w := w) (bl := [(gd, 24, [.bool db, .string ds]), (gt, 24, [.bool qb, .string qs]), (gs, 24, [.bool pb, .string ps]), (gr, 24, [.bool rb, .string rs]), (gq, 24, [.bool qb, .string qs]), (gp, 24, [.bool pb, .string ps]), (gy, 24, [.bool xb, .string xs]), (gx, 24, [.bool xb, .string xs]), (gbk, 24, [.bool n, .string s]), (gbc, 24, [.bool bcb, .string bcs]), (gba, 24, [.bool abb, .string abs]), (gab, 24, [.bool abb, .string abs]), (gc, 24, [.bool o, .string u]), (gb, 24, [.bool k, .string t]), (ga, 24, [.bool n, .string s])]) (by assumption) hba) | (go_at_call 34; (with_reducible refine (hO.out _).mono ?_); rintro e wa ⟨rfl, hba⟩; have hk3 := Kp.next (w := w) (bl := [(gd, 24, [.bool db, .string ds]), (gt, 24, [.bool qb, .string qs]), (gs, 24, [.bool pb, .string ps]), (gr, 24, [.bool rb, .string rs]), (gq, 24, [.bool qb, .string qs]), (gp, 24, [.bool pb, .string ps]), (gy, 24, [.bool xb, .string xs]), (gx, 24, [.bool xb, .string xs]), (gbk, 24, [.bool n, .string s]), (gbc, 24, [.bool bcb, .string bcs]), (gba, 24, [.bool abb, .string abs]), (gab, 24, [.bool abb, .string abs]), (gc, 24, [.bool o, .string u]), (gb, 24, [.bool k, .string t]), (ga, 24, [.bool n, .string s])]) (by assumption) hba) | (go_at_call 33; (with_reducible refine (hC2.out _).mono ?_); rintro e wa ⟨rfl, hba⟩; have hk3 := Kp.next (w := w) (bl := [(gd, 24, [.bool db, .string ds]), (gt, 24, [.bool qb, .string qs]), (gs, 24, [.bool pb, .string ps]), (gr, 24, [.bool rb, .string rs]), (gq, 24, [.bool qb, .string qs]), (gp, 24, [.bool pb, .string ps]), (gy, 24, [.bool xb, .string xs]), (gx, 24, [.bool xb, .string xs]), (gbk, 24, [.bool n, .string s]), (gbc, 24, [.bool bcb, .string bcs]), (gba, 24, [.bool abb, .string abs]), (gab, 24, [.bool abb, .string abs]), (gc, 24, [.bool o, .string u]), (gb, 24, [.bool k, .string t]), (ga, 24, [.bool n, .string s])]) (by assumption) hba) | (go_at_call 33; (with_reducible refine (hC3.out _).mono ?_); rintro e wa ⟨rfl, hba⟩; have hk3 := Kp.next (w := w) (bl := [(gd, 24, [.bool db, .string ds]), (gt, 24, [.bool qb, .string qs]), (gs, 24, [.bool pb, .string ps]), (gr, 24, [.bool rb, .string rs]), (gq, 24, [.bool qb, .string qs]), (gp, 24, [.bool pb, .string ps]), (gy, 24, [.bool xb, .string xs]), (gx, 24, [.bool xb, .string xs]), (gbk, 24, [.bool n, .string s]), (gbc, 24, [.bool bcb, .string bcs]), (gba, 24, [.bool abb, .string abs]), (gab, 24, [.bool abb, .string abs]), (gc, 24, [.bool o, .string u]), (gb, 24, [.bool k, .string t]), (ga, 24, [.bool n, .string s])]) (by assumption) hba) | (go_at_call 33; (with_reducible refine (hC4.out _).mono ?_); rintro e wa ⟨rfl, hba⟩; have hk3 := Kp.next (w := w) (bl := [(gd, 24, [.bool db, .string ds]), (gt, 24, [.bool qb, .string qs]), (gs, 24, [.bool pb, .string ps]), (gr, 24, [.bool rb, .string rs]), (gq, 24, [.bool qb, .string qs]), (gp, 24, [.bool pb, .string ps]), (gy, 24, [.bool xb, .string xs]), (gx, 24, [.bool xb, .string xs]), (gbk, 24, [.bool n, .string s]), (gbc, 24, [.bool bcb, .string bcs]), (gba, 24, [.bool abb, .string abs]), (gab, 24, [.bool abb, .string abs]), (gc, 24, [.bool o, .string u]), (gb, 24, [.bool k, .string t]), (ga, 24, [.bool n, .string s])]) (by assumption) hba) | (go_at_call 33; (with_reducible refine (hC5.out _).mono ?_); rintro e wa ⟨rfl, hba⟩; have hk3 := Kp.next (w := w) (bl := [(gd, 24, [.bool db, .string ds]), (gt, 24, [.bool qb, .string qs]), (gs, 24, [.bool pb, .string ps]), (gr, 24, [.bool rb, .string rs]), (gq, 24, [.bool qb, .string qs]), (gp, 24, [.bool pb, .string ps]), (gy, 24, [.bool xb, .string xs]), (gx, 24, [.bool xb, .string xs]), (gbk, 24, [.bool n, .string s]), (gbc, 24, [.bool bcb, .string bcs]), (gba, 24, [.bool abb, .string abs]), (gab, 24, [.bool abb, .string abs]), (gc, 24, [.bool o, .string u]), (gb, 24, [.bool k, .string t]), (ga, 24, [.bool n, .string s])]) (by assumption) hba))
      all_goals
        go_wp2_with fail
        go_ret
        first | exact ⟨by first | rfl | (simp; done), hk3.below⟩ | exact ⟨by first | rfl | (simp; done), hk3.drew.below⟩
end Go.Proofs.YtlagcdgfmgkooaaDoor
