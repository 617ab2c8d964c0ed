/-
  The walks of the laws FoursquaresProducts and FoursquaresGreatest.
-/
import Derived.Test.YtdbhmhabgbfplaaFsLaw1
import Derived.Test.YtdbhmhabgbfplaaNat5
namespace Go.Proofs.Ytdbhmhabgbfplaa
open Go.RowKit
set_option linter.unusedVariables false

theorem length_str4 {n : Nat} (h : n < 4294967296) : (Dm.str n).length ≤ 4 := Dm.length_str_le.2 h
theorem validB_str {n : Nat} (h : n < 4294967296) : validB (Dm.str n) = true := by
  unfold validB
  rw [Dm.canon_str]
  have := length_str4 h
  simp; omega
theorem numOf_str {n : Nat} (h : n < 4294967296) : numOf (Dm.str n) = n := by
  unfold numOf
  rw [validB_str h, Dm.val_str]
  simp [length_str4 h]
theorem errOf_str {n : Nat} (h : n < 4294967296) : errOf (Dm.str n) = 0 := by
  unfold errOf
  rw [validB_str h]
  simp [length_str4 h]
theorem TwoV_str {n : Nat} (h : n < 4294967296) : ∃ a b, TwoV .i64 (Dm.str n) = .tuple #[.agg #[.string a, .string b], .bool (Dm.two n n).isSome, .int .i64 0] := by
  rw [TwoV, if_pos (errOf_str h), numOf_str h]
  exact ⟨_, _, rfl⟩
theorem fitV_str {n : Nat} (h : n < 4294967296) : fitV (Dm.str n) = .tuple #[Sv (Dm.str n), .int .i64 0] := by
  rw [fitV, if_pos (by have := length_str4 h; omega)]
theorem mulV_str {a b : Nat} (ha : a < 4294967296) (hb : b < 4294967296) (h : a * b < 4294967296) : mulV (Dm.str a) (Dm.str b) = .tuple #[Sv (Dm.str (a * b)), .int .i64 0] := by
  rw [mulV, validB_str ha, validB_str hb, Dm.val_str, Dm.val_str]
  exact fitV_str h

set_option maxRecDepth 20000 in
set_option maxHeartbeats 1000000 in
theorem products_nat (a b c : Nat) (ha : a < 256) (hb : b < 256) (hc : c < 256) (w : World) :
    Calls Try.prog 8 #[.int .u8 a, .int .u8 b, .int .u8 c] w fun e w' => e = .returned (.bool true) ∧ Below w.heap.size w w' := by
  obtain ⟨i, hi⟩ : ∃ i, a % 128 = i := ⟨_, rfl⟩
  obtain ⟨k, hk⟩ : ∃ k, b % 128 = k := ⟨_, rfl⟩
  have hi1 : i < 128 := by omega
  have hk1 : k < 128 := by omega
  have hii : i * i ≤ 127 * 127 := Nat.mul_le_mul (by omega) (by omega)
  have hkk : k * k ≤ 127 * 127 := Nat.mul_le_mul (by omega) (by omega)
  have hcc : c * c ≤ 255 * 255 := Nat.mul_le_mul (by omega) (by omega)
  obtain ⟨X, hX⟩ : ∃ X, i * i + k * k = X := ⟨_, rfl⟩
  obtain ⟨Y, hY⟩ : ∃ Y, c * c + 1 = Y := ⟨_, rfl⟩
  obtain ⟨q, hq⟩ : ∃ q, a * 256 + b = q := ⟨_, rfl⟩
  have hXY : X * Y ≤ 32258 * 65026 := Nat.mul_le_mul (by omega) (by omega)
  have h1 := Dm.two_product i k c
  rw [hX, hY] at h1
  have h2 := Dm.two_four q
  obtain ⟨p0, p1, hp⟩ := TwoV_str (n := X * Y) (by omega)
  obtain ⟨q0, q1, hqv⟩ := TwoV_str (n := q) (by omega)
  obtain ⟨r0, r1, hr⟩ := TwoV_str (n := q * 4) (by omega)
  rw [h1] at hp
  rw [← h2] at hr
  have HP := Lib.hid hp
  have HQ := Lib.hid hqv
  have HR := Lib.hid hr
  generalize (Dm.two q q).isSome = oq at *
  have hb : (oq == oq) = true := by simp
  have HM1 := Lib.hid (mulV_str (a := X) (b := Y) (by omega) (by omega) (by omega))
  have HM2 := Lib.hid (mulV_str (a := q) (b := 4) (by omega) (by omega) (by omega))
  have ei : (a : Int) % 128 = (i : Int) := by omega
  have ek : (b : Int) % 128 = (k : Int) := by omega
  have zi : (i : Int) * (i : Int) ≤ 16129 := by rw [← Int.natCast_mul]; omega
  have zi0 : 0 ≤ (i : Int) * (i : Int) := Int.mul_nonneg (by omega) (by omega)
  have zk : (k : Int) * (k : Int) ≤ 16129 := by rw [← Int.natCast_mul]; omega
  have zk0 : 0 ≤ (k : Int) * (k : Int) := Int.mul_nonneg (by omega) (by omega)
  have zc : (c : Int) * (c : Int) ≤ 65025 := by rw [← Int.natCast_mul]; omega
  have zc0 : 0 ≤ (c : Int) * (c : Int) := Int.mul_nonneg (by omega) (by omega)
  have HXX : Hid ((i : Int) * (i : Int) + (k : Int) * (k : Int) = (X : Int)) := by show _ = _; rw [← Int.natCast_mul, ← Int.natCast_mul]; omega
  have HYY : Hid ((c : Int) * (c : Int) + 1 = (Y : Int)) := by show _ = _; rw [← Int.natCast_mul]; omega
  have HQQ : Hid ((a : Int) * 256 + (b : Int) = (q : Int)) := by show _ = _; omega
  have hXl : X ≤ 32258 := by omega
  have hYl : Y ≤ 65026 := by omega
  have hql : q ≤ 65535 := by omega
  clear hi hk hX hY hq hp hqv hr h1 h2 hii hkk hcc
  have hk0 := Kp.start w
  go_enter Try.func8, Try.ntmps8
  go_wp2_with fail
  refine (of_at _ X _ HXX.out (by omega)).mono ?_
  rintro e w1 ⟨rfl, hb1⟩
  have hk1 := hk0.next hb1
  go_wp2_with fail
  refine (of_at _ Y _ HYY.out (by omega)).mono ?_
  rintro e w2 ⟨rfl, hb2⟩
  have hk2 := hk1.next hb2
  go_wp2_with fail
  refine (Mul_any _ _ _ (by rw [size_bs]; have := length_str4 (n := X) (by omega); omega) (by rw [size_bs]; have := length_str4 (n := Y) (by omega); omega)).mono ?_
  rintro e w3 ⟨rfl, hb3⟩
  rw [tl_bs, tl_bs, HM1.out]
  have hk3 := hk2.next hb3
  go_wp2_with fail
  refine (Two_any _ _ (by rw [size_bs]; have := length_str4 (n := X * Y) (by omega); omega)).mono ?_
  rintro e w4 ⟨rfl, hb4⟩
  rw [tl_bs, HP.out]
  have hk4 := (hk3.next hb4).new 24 [.string p0, .string p1]
  go_wp2_with fail
  refine (of_at _ q _ HQQ.out (by omega)).mono ?_
  rintro e w5 ⟨rfl, hb5⟩
  have hk5 := hk4.next hb5
  go_wp2_with fail
  refine (of_at _ 4 _ rfl (by omega)).mono ?_
  rintro e w6 ⟨rfl, hb6⟩
  have hk6 := hk5.next hb6
  go_wp2_with fail
  refine (Mul_any _ _ _ (by rw [size_bs]; have := length_str4 (n := q) (by omega); omega) (by rw [size_bs]; have := length_str4 (n := 4) (by omega); omega)).mono ?_
  rintro e w7 ⟨rfl, hb7⟩
  rw [tl_bs, tl_bs, HM2.out]
  have hk7 := hk6.next hb7
  go_wp2_with fail
  refine (Two_any _ _ (by rw [size_bs]; have := length_str4 (n := q) (by omega); omega)).mono ?_
  rintro e w8 ⟨rfl, hb8⟩
  rw [tl_bs, HQ.out]
  have hk8 := (hk7.next hb8).new 24 [.string q0, .string q1]
  go_wp2_with fail
  refine (Two_any _ _ (by rw [size_bs]; have := length_str4 (n := q * 4) (by omega); omega)).mono ?_
  rintro e w9 ⟨rfl, hb9⟩
  rw [tl_bs, HR.out]
  have hk9 := (hk8.next hb9).new 24 [.string r0, .string r1]
  clear hb1 hb2 hb3 hb4 hb5 hb6 hb7 hb8 hb9 hk0 hk1 hk2 hk3 hk4 hk5 hk6 hk7 hk8
  go_wp2_with (first | (go_at_call 10; refine (awake_any _).mono ?_; rintro e w3 ⟨rfl, hb3⟩))
  go_ret
  exact ⟨rfl, (hk9.next hb3).below⟩
theorem u8_nat {a : Int} (h : (Lit.int .u8 a).wf = true) : ∃ n : Nat, a = n ∧ n < 256 := by
  have hx : 0 ≤ a ∧ a ≤ 255 := by simpa [Lit.wf, IntKind.min, IntKind.max, IntKind.signed, IntKind.bits] using h
  exact ⟨a.toNat, by omega, by omega⟩
theorem products_walk (a b c : Int) (ha : (Lit.int .u8 a).wf = true) (hb : (Lit.int .u8 b).wf = true) (hc : (Lit.int .u8 c).wf = true) (w : World) :
    Calls Try.prog 8 #[.int .u8 a, .int .u8 b, .int .u8 c] w fun e w' => e = .returned (.bool true) ∧ Below w.heap.size w w' := by
  obtain ⟨a', rfl, ha'⟩ := u8_nat ha
  obtain ⟨b', rfl, hb'⟩ := u8_nat hb
  obtain ⟨c', rfl, hc'⟩ := u8_nat hc
  exact products_nat a' b' c' ha' hb' hc' w
end Go.Proofs.Ytdbhmhabgbfplaa
