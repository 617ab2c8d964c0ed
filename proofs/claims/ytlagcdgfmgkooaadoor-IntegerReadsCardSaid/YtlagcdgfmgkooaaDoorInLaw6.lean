/-
  The walk of the law IntegerReads.
-/
import Derived.Test.YtlagcdgfmgkooaaDoorIntE
namespace Go.Proofs.YtlagcdgfmgkooaaDoor
open Go.RowKit
set_option linter.unusedVariables false

set_option maxHeartbeats 4000000 in
theorem reads_gen (n k : Bool) (s t : ByteArray) (z : Int) (hl : s.size ≤ 140 ∧ t.size ≤ 140) (v : Int) (ok vb fb nb : Bool) (fs ns : ByteArray) (c : Int) (zb : Bool) (zs : ByteArray)
    (h1 : Hid (∀ W : World, Calls Tryd.prog 35 #[.agg #[.bool n, .string s]] W fun e w' => e = .returned (.tuple #[.int .i64 v, .bool ok]) ∧ Below W.heap.size W w'))
    (h2 : Hid (∀ W : World, Calls Tryd.prog 36 #[.agg #[.bool n, .string s]] W fun e w' => e = .returned (.tuple #[.int .i64 v, .bool ok]) ∧ Below W.heap.size W w'))
    (h3 : Hid (∀ W : World, Calls Tryd.prog 34 #[.int .i64 z] W fun e w' => e = .returned (.agg #[.bool zb, .string zs]) ∧ Below W.heap.size W w'))
    (h4 : Hid (∀ W : World, Calls Tryd.prog 38 #[.int .i64 z] W fun e w' => e = .returned (.agg #[.bool zb, .string zs]) ∧ Below W.heap.size W w'))
    (h5 : Hid (∀ W : World, Calls Tryd.prog 35 #[.agg #[.bool zb, .string zs]] W fun e w' => e = .returned (.tuple #[.int .i64 z, .bool true]) ∧ Below W.heap.size W w'))
    (h6 : Hid (∀ W : World, Calls Tryd.prog 32 #[.agg #[.bool n, .string s]] W fun e w' => e = .returned (.bool vb) ∧ Below W.heap.size W w'))
    (h7 : Hid (∀ W : World, Calls Tryd.prog 37 #[.agg #[.bool n, .string s]] W fun e w' => e = .returned (.bool vb) ∧ Below W.heap.size W w'))
    (h8 : Hid (∀ W : World, Calls Tryd.prog 23 #[.string s] W fun e w' => e = .returned (.agg #[.bool fb, .string fs]) ∧ Below W.heap.size W w'))
    (h9 : Hid (∀ W : World, Calls Tryd.prog 39 #[.string s] W fun e w' => e = .returned (.agg #[.bool fb, .string fs]) ∧ Below W.heap.size W w'))
    (h10 : Hid (∀ W : World, Calls Tryd.prog 40 #[.agg #[.bool n, .string s]] W fun e w' => e = .returned (.agg #[.bool nb, .string ns]) ∧ Below W.heap.size W w'))
    (h11 : Hid (∀ W : World, Calls Tryd.prog 41 #[.agg #[.bool n, .string s]] W fun e w' => e = .returned (.agg #[.bool nb, .string ns]) ∧ Below W.heap.size W w'))
    (h12 : Hid (∀ W : World, Calls Tryd.prog 33 #[.agg #[.bool n, .string s], .agg #[.bool k, .string t]] W fun e w' => e = .returned (.int .i64 c) ∧ Below W.heap.size W w'))
    (h13 : Hid (∀ W : World, Calls Tryd.prog 42 #[.agg #[.bool n, .string s], .agg #[.bool k, .string t]] W fun e w' => e = .returned (.int .i64 c) ∧ Below W.heap.size W w'))
    (w : World) :
    Calls Tryd.prog 9 #[.agg #[.bool n, .string s], .agg #[.bool k, .string t], .int .i64 z] w fun e w' => e = .returned (.bool true) ∧ Below w.heap.size w w' := by
  have hk0 := ((Kp.start w).new 24 [.bool n, .string s]).new 24 [.bool k, .string t]
  have hk1 := hk0.new 24 [.bool n, .string s, .bool k, .string t]
  clear hk0
  simp at hk1
  go_enter Tryd.func9, Tryd.ntmps9
  go_wp2_with fail
  refine (long2_no n k s t _ _ (hk1.blk _ (List.mem_cons_self ..)) hl.1 hl.2).mono ?_
  rintro e w0 ⟨rfl, rfl⟩
  generalize ((w.alloc (.cells #[.bool n, .string s] 24)).alloc (.cells #[.bool k, .string t] 24)).alloc (.cells #[.bool n, .string s, .bool k, .string t] 24) = W0 at *
  generalize w.heap.size + 1 + 1 = g2 at *
  generalize w.heap.size + 1 = g1 at *
  generalize hg0 : w.heap.size = g0 at *
  clear hg0
  obtain ⟨ca0, ca1⟩ := kp_c01' 2 hk1 rfl
  obtain ⟨cb0, cb1⟩ := kp_c01' 1 hk1 rfl
  go_wp2_with fail
  refine (h1.out _).mono ?_
  rintro e w1 ⟨rfl, hb⟩
  clear ca0 ca1 cb0 cb1
  have k1 := Kp.next hk1 hb
  clear hb hk1
  obtain ⟨ca0, ca1⟩ := kp_c01' 2 k1 rfl
  go_wp2_with fail
  refine (h2.out _).mono ?_
  rintro e w2 ⟨rfl, hb⟩
  clear ca0 ca1
  have k2 := Kp.next k1 hb
  clear hb k1
  go_wp2_with fail
  refine (h3.out _).mono ?_
  rintro e w3 ⟨rfl, hb⟩
  have k3 := Kp.next k2 hb
  clear hb k2
  go_wp2_with fail
  refine (h5.out _).mono ?_
  rintro e w4 ⟨rfl, hb⟩
  have k4 := Kp.next k3 hb
  clear hb k3
  go_wp2_with fail
  have kd := k4.drew
  clear k4
  go_region_held3 (fun w' => (w'.cell? ⟨g1, 0, none⟩ = some (.bool k) ∧ w'.cell? ⟨g1, 1, none⟩ = some (.string t)) ∧ w'.cell? ⟨g0, 0, none⟩ = some (.bool n) ∧ w'.cell? ⟨g0, 1, none⟩ = some (.string s)) (exact ⟨kp_c01' (w := w) 1 (by assumption) rfl, kp_c01' (w := w) 2 (by assumption) rfl⟩)
    (first | (go_at_call 13; refine (awakeI_any _).mono ?_; rintro e wa ⟨rfl, hba⟩; have hk1 := Kp.next (w := w) (bl := [(g2, 24, [.bool n, .string s, .bool k, .string t]), (g1, 24, [.bool k, .string t]), (g0, 24, [.bool n, .string s])]) (by assumption) hba) | (go_at_call 32; refine (h6.out _).mono ?_; rintro e wa ⟨rfl, hba⟩; have hk1 := Kp.next (w := w) (bl := [(g2, 24, [.bool n, .string s, .bool k, .string t]), (g1, 24, [.bool k, .string t]), (g0, 24, [.bool n, .string s])]) (by assumption) hba) | (go_at_call 37; refine (h7.out _).mono ?_; rintro e wa ⟨rfl, hba⟩; have hk1 := Kp.next (w := w) (bl := [(g2, 24, [.bool n, .string s, .bool k, .string t]), (g1, 24, [.bool k, .string t]), (g0, 24, [.bool n, .string s])]) (by assumption) hba) | (go_at_call 34; refine (h3.out _).mono ?_; rintro e wa ⟨rfl, hba⟩; have hk1 := Kp.next (w := w) (bl := [(g2, 24, [.bool n, .string s, .bool k, .string t]), (g1, 24, [.bool k, .string t]), (g0, 24, [.bool n, .string s])]) (by assumption) hba) | (go_at_call 38; refine (h4.out _).mono ?_; rintro e wa ⟨rfl, hba⟩; have hk1 := Kp.next (w := w) (bl := [(g2, 24, [.bool n, .string s, .bool k, .string t]), (g1, 24, [.bool k, .string t]), (g0, 24, [.bool n, .string s])]) (by assumption) hba) | (go_at_call 23; refine (h8.out _).mono ?_; rintro e wa ⟨rfl, hba⟩; have hk1 := Kp.next (w := w) (bl := [(g2, 24, [.bool n, .string s, .bool k, .string t]), (g1, 24, [.bool k, .string t]), (g0, 24, [.bool n, .string s])]) (by assumption) hba) | (go_at_call 39; refine (h9.out _).mono ?_; rintro e wa ⟨rfl, hba⟩; have hk1 := Kp.next (w := w) (bl := [(g2, 24, [.bool n, .string s, .bool k, .string t]), (g1, 24, [.bool k, .string t]), (g0, 24, [.bool n, .string s])]) (by assumption) hba) | (go_at_call 40; refine (h10.out _).mono ?_; rintro e wa ⟨rfl, hba⟩; have hk1 := Kp.next (w := w) (bl := [(g2, 24, [.bool n, .string s, .bool k, .string t]), (g1, 24, [.bool k, .string t]), (g0, 24, [.bool n, .string s])]) (by assumption) hba) | (go_at_call 41; refine (h11.out _).mono ?_; rintro e wa ⟨rfl, hba⟩; have hk1 := Kp.next (w := w) (bl := [(g2, 24, [.bool n, .string s, .bool k, .string t]), (g1, 24, [.bool k, .string t]), (g0, 24, [.bool n, .string s])]) (by assumption) hba) | (go_at_call 33; refine (h12.out _).mono ?_; rintro e wa ⟨rfl, hba⟩; have hk1 := Kp.next (w := w) (bl := [(g2, 24, [.bool n, .string s, .bool k, .string t]), (g1, 24, [.bool k, .string t]), (g0, 24, [.bool n, .string s])]) (by assumption) hba) | (go_at_call 42; refine (h13.out _).mono ?_; rintro e wa ⟨rfl, hba⟩; have hk1 := Kp.next (w := w) (bl := [(g2, 24, [.bool n, .string s, .bool k, .string t]), (g1, 24, [.bool k, .string t]), (g0, 24, [.bool n, .string s])]) (by assumption) hba))
  all_goals
    go_wp2_with fail
    go_ret
    first | exact ⟨by first | rfl | (simp; done), hk1.below⟩ | exact ⟨by first | rfl | (simp; done), hk1.drew.below⟩
theorem smallI_of {z : Int} (h1 : -9223372036854775808 ≤ z) (h2 : z ≤ 9223372036854775807) : smallI (decide (z < 0)) (Dm.str z.natAbs) = .tuple #[.int .i64 z, .bool true] := by
  have hp : z.natAbs < 256 ^ 8 := by
    have : (256 : Nat) ^ 8 = 18446744073709551616 := rfl
    omega
  have hf : Fits z := Nat.lt_trans hp (Nat.pow_lt_pow_right (by omega) (by omega))
  have hv : validI (decide (z < 0)) (Dm.str z.natAbs) = true := by
    have := (nm_of z hf).vI
    rwa [tl_bs] at this
  unfold smallI
  have hz : zOf (decide (z < 0)) (Dm.str z.natAbs) = z := by
    unfold zOf
    rw [Dm.val_str]
    by_cases h : z < 0
    · have : (decide (z < 0)) = true := by simpa using h
      (rw [this, if_pos rfl]) <;> omega
    · have : (decide (z < 0)) = false := by simpa using h
      (rw [this, if_neg Bool.false_ne_true]) <;> omega
  have hle : Dm.val (Dm.str z.natAbs) ≤ (if decide (z < 0) = true then 9223372036854775808 else 9223372036854775807) := by
    rw [Dm.val_str]
    by_cases h : z < 0
    · have : (decide (z < 0)) = true := by simpa using h
      (rw [this, if_pos rfl]) <;> omega
    · have : (decide (z < 0)) = false := by simpa using h
      (rw [this, if_neg Bool.false_ne_true]) <;> omega
  rw [if_pos ⟨hv, Dm.length_str_le.2 hp, hle⟩, hz]
theorem smallI_form (n : Bool) (l : List UInt8) : ∃ v ok, smallI n l = .tuple #[.int .i64 v, .bool ok] := by
  unfold smallI
  by_cases h : validI n l = true ∧ l.length ≤ 8 ∧ Dm.val l ≤ (if n then 9223372036854775808 else 9223372036854775807)
  · rw [if_pos h]; exact ⟨_, _, rfl⟩
  · rw [if_neg h]; exact ⟨_, _, rfl⟩
theorem froms (s : ByteArray) (hs : s.size ≤ 140) : ∃ fb fs, (∀ W : World, Calls Tryd.prog 23 #[.string s] W fun e w' => e = .returned (.agg #[.bool fb, .string fs]) ∧ Below W.heap.size W w') ∧ (∀ W : World, Calls Tryd.prog 39 #[.string s] W fun e w' => e = .returned (.agg #[.bool fb, .string fs]) ∧ Below W.heap.size W w') := by
  cases hv : validB (tl s) with
  | false => exact ⟨_, _, fun W => iFrom_bad s W (by omega) hv, fun W => rFrom_bad s W (by omega) hv⟩
  | true =>
    obtain ⟨m, hm, rfl⟩ := nat_val hv
    exact ⟨_, _, fun W => iFrom_nm m hm W, fun W => rFrom_nm m hm W⟩
theorem negs (n : Bool) (s : ByteArray) (hs : s.size ≤ 140) : ∃ fb fs, (∀ W : World, Calls Tryd.prog 40 #[.agg #[.bool n, .string s]] W fun e w' => e = .returned (.agg #[.bool fb, .string fs]) ∧ Below W.heap.size W w') ∧ (∀ W : World, Calls Tryd.prog 41 #[.agg #[.bool n, .string s]] W fun e w' => e = .returned (.agg #[.bool fb, .string fs]) ∧ Below W.heap.size W w') := by
  cases hv : validI n (tl s) with
  | false => exact ⟨_, _, fun W => iNeg_bad n s W (by omega) hv, fun W => rNeg_bad n s W (by omega) hv⟩
  | true =>
    obtain ⟨m, hm, rfl⟩ := nm_val hv
    exact ⟨_, _, fun W => iNeg_nm hm W, fun W => rNeg_nm hm W⟩
theorem cmps (n : Bool) (s : ByteArray) (k : Bool) (t : ByteArray) (hs : s.size ≤ 140) (ht : t.size ≤ 140) : ∃ c, (∀ W : World, Calls Tryd.prog 33 #[.agg #[.bool n, .string s], .agg #[.bool k, .string t]] W fun e w' => e = .returned (.int .i64 c) ∧ Below W.heap.size W w') ∧ (∀ W : World, Calls Tryd.prog 42 #[.agg #[.bool n, .string s], .agg #[.bool k, .string t]] W fun e w' => e = .returned (.int .i64 c) ∧ Below W.heap.size W w') := by
  cases hv : validI n (tl s) && validI k (tl t) with
  | false => exact ⟨_, fun W => iCmp_bad n k s t W (by omega) (by omega) hv, fun W => rCmp_bad n k s t W (by omega) (by omega) hv⟩
  | true =>
    rw [Bool.and_eq_true] at hv
    obtain ⟨m, h1, rfl⟩ := nm_val hv.1
    obtain ⟨l, h2, rfl⟩ := nm_val hv.2
    exact ⟨_, fun W => iCmp_nm h1 h2 W, fun W => rCmp_nm h1 h2 W⟩
set_option maxHeartbeats 4000000 in
theorem ireads_walk (n : Bool) (s : ByteArray) (k : Bool) (t : ByteArray) (z : Int) (hs : s.size ≤ maxLen) (ht : t.size ≤ maxLen) (hz : (Lit.int .i64 z).wf = true) (w : World) :
    Calls Tryd.prog 9 #[.agg #[.bool n, .string s], .agg #[.bool k, .string t], .int .i64 z] w fun e w' => e = .returned (.bool true) ∧ Below w.heap.size w w' := by
  have hz1 : -9223372036854775808 ≤ z ∧ z ≤ 9223372036854775807 := by
    unfold Lit.wf at hz
    rw [Bool.and_eq_true] at hz
    exact ⟨of_decide_eq_true hz.1, of_decide_eq_true hz.2⟩
  by_cases hl : s.size ≤ 140 ∧ t.size ≤ 140
  · obtain ⟨fb, fs, f1, f2⟩ := froms s hl.1
    obtain ⟨nb, ns, n1, n2⟩ := negs n s hl.1
    obtain ⟨c, c1, c2⟩ := cmps n s k t hl.1 hl.2
    obtain ⟨v, ok, hsm⟩ := smallI_form n (tl s)
    exact reads_gen n k s t z hl v ok _ _ _ _ _ c _ _ (Lib.hid fun W => hsm ▸ iSmall_any n s W (by omega)) (Lib.hid fun W => hsm ▸ rSmall_any n s W (by omega)) (Lib.hid fun W => ofG z hz1.1 hz1.2 W) (Lib.hid fun W => rofG z hz1.1 hz1.2 W)
      (Lib.hid fun W => (iSmall_any _ _ W (by rw [size_bs]; have := Dm.length_str_le (n := z.natAbs) (k := 8); have h3 : z.natAbs < 256 ^ 8 := (by have : (256 : Nat) ^ 8 = 18446744073709551616 := rfl; omega); have := this.2 h3; omega)).mono fun e w' ⟨he, hb⟩ => ⟨by rw [he, tl_bs, smallI_of hz1.1 hz1.2], hb⟩)
      (Lib.hid fun W => iValid_any n s W (by omega)) (Lib.hid fun W => rValid_any n s W (by omega)) (Lib.hid f1) (Lib.hid f2) (Lib.hid n1) (Lib.hid n2) (Lib.hid c1) (Lib.hid c2) w
  · have hk0 := ((Kp.start w).new 24 [.bool n, .string s]).new 24 [.bool k, .string t]
    have hk1 := hk0.new 24 [.bool n, .string s, .bool k, .string t]
    clear hk0
    simp at hk1
    go_enter Tryd.func9, Tryd.ntmps9
    go_wp2_with fail
    refine (long2_yes n k s t hs ht _ _ (hk1.blk _ (List.mem_cons_self ..)) hl).mono ?_
    rintro e w0 ⟨rfl, rfl⟩
    go_wp2_with fail
    refine (awakeI_any _).mono ?_
    rintro e w1 ⟨rfl, hb⟩
    have hk2 := hk1.next hb
    go_wp2_with fail
    go_ret
    exact ⟨rfl, hk2.below⟩
end Go.Proofs.YtlagcdgfmgkooaaDoor
