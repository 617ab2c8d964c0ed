/-
  The law IntegerRing: the values that it meets, and its walk at all arguments.
-/
import Derived.Test.YtlagcdgfmgkooaaDoorInLaw10
namespace Go.Proofs.YtlagcdgfmgkooaaDoor
open Go.RowKit
set_option linter.unusedVariables false

theorem p30 : (256 : Nat) ^ 30 * (256 ^ 30 + 256 ^ 30) + (256 ^ 30 * (256 ^ 30 + 256 ^ 30)) < 256 ^ 128 := by decide +kernel
theorem p30' : 1 < (256 : Nat) ^ 30 := by decide +kernel
theorem zz_inj {n k : Bool} {m l : Nat} (h1 : Nm n m) (h2 : Nm k l) (h : zz n m = zz k l) : n = k ∧ m = l := by
  have a := h1.ne
  have b := h2.ne
  cases n <;> cases k <;> simp [zz] at h a b ⊢ <;> omega
theorem cmpZ_cases (x y : Int) : (x = y ∧ cmpZ x y = 0 ∧ cmpZ y x = 0) ∨ (x ≠ y ∧ ((cmpZ x y = 1 ∧ cmpZ y x = -1) ∨ (cmpZ x y = -1 ∧ cmpZ y x = 1))) := by
  unfold cmpZ
  rcases Int.lt_trichotomy x y with h | h | h
  · have h2 : ¬ y < x := by omega
    exact .inr ⟨by omega, .inr (by simp [h, h2])⟩
  · subst h; exact .inl ⟨rfl, by simp, by simp⟩
  · have h2 : ¬ x < y := by omega
    exact .inr ⟨by omega, .inl (by simp [h, h2])⟩
theorem cmpZ_sub (x y : Int) : cmpZ (x - y) 0 = cmpZ x y := by
  unfold cmpZ
  by_cases h : x < y
  · rw [if_pos (by omega), if_pos h]
  · rw [if_neg (by omega), if_neg h]
    by_cases h2 : y < x
    · rw [if_pos (by omega), if_pos h2]
    · rw [if_neg (by omega), if_neg h2]
theorem cmpZ_add (x y z : Int) : cmpZ (x + y) (y + z) = cmpZ x z := by
  unfold cmpZ
  by_cases h : x < z
  · rw [if_pos (by omega), if_pos h]
  · rw [if_neg (by omega), if_neg h]
    by_cases h2 : z < x
    · rw [if_pos (by omega), if_pos h2]
    · rw [if_neg (by omega), if_neg h2]
theorem mul_le {a b P Q : Nat} (x y : Int) (hx : x.natAbs = a) (hy : y.natAbs = b) (ha : a ≤ P) (hb : b ≤ Q) : (x * y).natAbs ≤ P * Q := by
  rw [Int.natAbs_mul, hx, hy]; exact Nat.mul_le_mul ha hb
set_option maxHeartbeats 1000000 in
theorem ring_good {n k o : Bool} {m l j : Nat} (h1 : Nm n m) (h2 : Nm k l) (h3 : Nm o j) (hm : m < 256 ^ 30) (hl : l < 256 ^ 30) (hj : j < 256 ^ 30) (w : World) :
    Calls Tryd.prog 8 #[.agg #[.bool n, Sv (Dm.str m)], .agg #[.bool k, Sv (Dm.str l)], .agg #[.bool o, Sv (Dm.str j)]] w fun e w' => e = .returned (.bool true) ∧ Below w.heap.size w w' := by
  have hp1 := p30
  have hp2 := p30'
  have sa : (bs (Dm.str m)).size ≤ 30 := by rw [size_bs]; exact Dm.length_str_le.2 hm
  have sb : (bs (Dm.str l)).size ≤ 30 := by rw [size_bs]; exact Dm.length_str_le.2 hl
  have sc : (bs (Dm.str j)).size ≤ 30 := by rw [size_bs]; exact Dm.length_str_le.2 hj
  have hV := iV_zz h1.ne
  have hinj := zz_inj h1 h2
  have a1 : (zz n m).natAbs = m := zz_abs n m
  have a2 : (zz k l).natAbs = l := zz_abs k l
  have a3 : (zz o j).natAbs = j := zz_abs o j
  have A := h1
  have B := h2
  have Cc := h3
  generalize (256 : Nat) ^ 30 = P at *
  have z1 : zz n m = zz n m := rfl
  have fab : Fits (zz n m + zz k l) := by unfold Fits; have : P ≤ P * (P + P) := Nat.le_mul_of_pos_right P (by omega); have : P + P ≤ P * (P + P) := Nat.le_mul_of_pos_left _ (by omega); omega
  have fbc : Fits (zz k l + zz o j) := by unfold Fits; have : P + P ≤ P * (P + P) := Nat.le_mul_of_pos_left _ (by omega); omega
  have fx : Fits (zz n m + zz k l + zz o j) := by unfold Fits; have : P + P ≤ P * (P + P) := Nat.le_mul_of_pos_left _ (by omega); omega
  have fd : Fits (zz n m - zz k l) := by unfold Fits; have : P + P ≤ P * (P + P) := Nat.le_mul_of_pos_left _ (by omega); omega
  have bq := mul_le (zz n m) (zz k l) a1 a2 (Nat.le_of_lt hm) (show l ≤ P + P by omega)
  have br := mul_le (zz n m) (zz o j) a1 a3 (Nat.le_of_lt hm) (show j ≤ P + P by omega)
  have fq : Fits (zz n m * zz k l) := by unfold Fits; omega
  have fr : Fits (zz n m * zz o j) := by unfold Fits; omega
  have ep : zz n m * (zz k l + zz o j) = zz n m * zz k l + zz n m * zz o j := Int.mul_add _ _ _
  have fp : Fits (zz n m * (zz k l + zz o j)) := by rw [ep]; unfold Fits; omega
  have fa : Fits (zz n m) := by unfold Fits; rw [a1]; exact h1.lt
  have f0 : Fits 0 := by unfold Fits; have := h1.lt; show 0 < _; omega
  have hv : Hid ((cmpZ (zz n m) (zz k l) = 0 ∧ cmpZ (zz k l) (zz n m) = 0 ∧ n = k ∧ bs (Dm.str m) = bs (Dm.str l)) ∨ ((IntKind.i64.wrap (-(cmpZ (zz k l) (zz n m))) = cmpZ (zz n m) (zz k l) ∧ (cmpZ (zz n m) (zz k l) == 0) = false) ∧ ¬ (n = k ∧ bs (Dm.str m) = bs (Dm.str l)))) := by
    refine Lib.hid ?_
    rcases cmpZ_cases (zz n m) (zz k l) with ⟨e, c1, c2⟩ | ⟨e, c⟩
    · obtain ⟨rfl, rfl⟩ := hinj e
      exact .inl ⟨c1, c2, rfl, rfl⟩
    · refine .inr ⟨?_, ?_⟩
      · rcases c with ⟨c1, c2⟩ | ⟨c1, c2⟩
        · rw [c1, c2]; exact ⟨by decide +kernel, rfl⟩
        · rw [c1, c2]; exact ⟨by decide +kernel, rfl⟩
      · rintro ⟨rfl, h9⟩
        refine e ?_
        have h10 : Dm.str m = Dm.str l := bs_inj.1 h9
        have h11 : m = l := by rw [← Dm.val_str m, h10, Dm.val_str]
        rw [h11]
  refine ring_gen n k o _ _ _ sa sb sc _ _ _ _ _ _ _ _ _ _ _ _ _ _ _ _ (cmpZ (zz n m) (zz o j)) hv
    (Lib.hid fun W => iValid_nm h1 W) (Lib.hid fun W => iValid_nm h2 W) (Lib.hid fun W => iValid_nm h3 W)
    (Lib.hid fun W => addZ h1 h2 _ rfl fab W)
    (Lib.hid fun W => addZ h2 h1 _ (Int.add_comm _ _) fab W)
    (Lib.hid fun W => addZ h2 h3 _ rfl fbc W)
    (Lib.hid fun W => (subZ (nm_of _ fab) h2 (zz n m) (by rw [zz_of]; omega) fa W).mono fun e w' ⟨he, hb⟩ => ⟨by rw [he]; exact ret_two hV rfl, hb⟩)
    (Lib.hid fun W => addZ (nm_of _ fab) h3 _ (by rw [zz_of]) fx W)
    (Lib.hid fun W => addZ h1 (nm_of _ fbc) _ (by rw [zz_of]; omega) fx W)
    (Lib.hid fun W => mulZ h1 (nm_of _ fbc) _ (by rw [zz_of]) fp W)
    (Lib.hid fun W => mulZ h1 h2 _ rfl fq W)
    (Lib.hid fun W => mulZ h1 h3 _ rfl fr W)
    (Lib.hid fun W => addZ (nm_of _ fq) (nm_of _ fr) _ (by rw [zz_of, zz_of, ep]) fp W)
    (Lib.hid fun W => mulZ h2 h1 _ (Int.mul_comm _ _) fq W)
    (Lib.hid fun W => subZ h1 h2 _ rfl fd W)
    (Lib.hid fun W => iCmp_nm h1 h2 W) (Lib.hid fun W => iCmp_nm h2 h1 W) (Lib.hid fun W => ofG 0 (by decide) (by decide) W)
    (Lib.hid fun W => (iCmp_nm (nm_of _ fd) (nm_of 0 f0) W).mono fun e w' ⟨he, hb⟩ => ⟨by rw [he, zz_of, zz_of, cmpZ_sub], hb⟩)
    (Lib.hid fun W => (iCmp_nm (nm_of _ fab) (nm_of _ fbc) W).mono fun e w' ⟨he, hb⟩ => ⟨by rw [he, zz_of, zz_of, cmpZ_add], hb⟩)
    (Lib.hid fun W => iCmp_nm h1 h3 W) w
set_option maxRecDepth 100000 in
set_option maxHeartbeats 4000000 in
theorem ring_walk (n : Bool) (s : ByteArray) (k : Bool) (t : ByteArray) (o : Bool) (u : ByteArray) (hs : s.size ≤ maxLen) (ht : t.size ≤ maxLen) (hu : u.size ≤ maxLen) (w : World) :
    Calls Tryd.prog 8 #[.agg #[.bool n, .string s], .agg #[.bool k, .string t], .agg #[.bool o, .string u]] w fun e w' => e = .returned (.bool true) ∧ Below w.heap.size w w' := by
  have hk1 := (((Kp.start w).new 24 [.bool n, .string s]).new 24 [.bool k, .string t]).new 24 [.bool o, .string u]
  simp at hk1
  cases hvs : validI n (tl s) with
  | false =>
    have HS := Lib.hid hvs
    clear hvs
    go_enter Tryd.func8, Tryd.ntmps8
    go_wp2_with fail
    generalize ((w.alloc (.cells #[.bool n, .string s] 24)).alloc (.cells #[.bool k, .string t] 24)).alloc (.cells #[.bool o, .string u] 24) = W0 at *
    generalize w.heap.size + 1 + 1 = g2 at *
    generalize w.heap.size + 1 = g1 at *
    generalize hg0 : w.heap.size = g0 at *
    clear hg0
    refine (iValid_all n s false _ hs HS.out).mono ?_
    rintro e w1 ⟨rfl, hb⟩
    have hk1 := Kp.next hk1 hb
    clear hb
    obtain ⟨c0, c1⟩ := kp_c01' 0 hk1 rfl
    obtain ⟨d0, d1⟩ := kp_c01' 1 hk1 rfl
    obtain ⟨e0, e1⟩ := kp_c01' 2 hk1 rfl
    go_wp2_with fail
    refine (awakeI_any _).mono ?_
    rintro e w9 ⟨rfl, hb9⟩
    have k9 := Kp.next hk1 hb9
    go_wp2_with fail
    go_ret
    exact ⟨rfl, k9.below⟩
  | true =>
    have HS := Lib.hid hvs
    cases hvt : validI k (tl t) with
    | false =>
      have HT := Lib.hid hvt
      clear hvs hvt
      go_enter Tryd.func8, Tryd.ntmps8
      go_wp2_with fail
      generalize ((w.alloc (.cells #[.bool n, .string s] 24)).alloc (.cells #[.bool k, .string t] 24)).alloc (.cells #[.bool o, .string u] 24) = W0 at *
      generalize w.heap.size + 1 + 1 = g2 at *
      generalize w.heap.size + 1 = g1 at *
      generalize hg0 : w.heap.size = g0 at *
      clear hg0
      refine (iValid_all n s true _ hs HS.out).mono ?_
      rintro e w1 ⟨rfl, hb⟩
      have hk1 := Kp.next hk1 hb
      clear hb
      obtain ⟨c0, c1⟩ := kp_c01' 0 hk1 rfl
      obtain ⟨d0, d1⟩ := kp_c01' 1 hk1 rfl
      obtain ⟨e0, e1⟩ := kp_c01' 2 hk1 rfl
      go_wp2_with fail
      refine (iValid_all k t false _ ht HT.out).mono ?_
      rintro e w1 ⟨rfl, hb⟩
      have hk1 := Kp.next hk1 hb
      clear hb
      obtain ⟨c0, c1⟩ := kp_c01' 0 hk1 rfl
      obtain ⟨d0, d1⟩ := kp_c01' 1 hk1 rfl
      obtain ⟨e0, e1⟩ := kp_c01' 2 hk1 rfl
      go_wp2_with fail
      refine (awakeI_any _).mono ?_
      rintro e w9 ⟨rfl, hb9⟩
      have k9 := Kp.next hk1 hb9
      go_wp2_with fail
      go_ret
      exact ⟨rfl, k9.below⟩
    | true =>
      have HT := Lib.hid hvt
      cases hvu : validI o (tl u) with
      | false =>
        have HU := Lib.hid hvu
        clear hvs hvt hvu
        go_enter Tryd.func8, Tryd.ntmps8
        go_wp2_with fail
        generalize ((w.alloc (.cells #[.bool n, .string s] 24)).alloc (.cells #[.bool k, .string t] 24)).alloc (.cells #[.bool o, .string u] 24) = W0 at *
        generalize w.heap.size + 1 + 1 = g2 at *
        generalize w.heap.size + 1 = g1 at *
        generalize hg0 : w.heap.size = g0 at *
        clear hg0
        refine (iValid_all n s true _ hs HS.out).mono ?_
        rintro e w1 ⟨rfl, hb⟩
        have hk1 := Kp.next hk1 hb
        clear hb
        obtain ⟨c0, c1⟩ := kp_c01' 0 hk1 rfl
        obtain ⟨d0, d1⟩ := kp_c01' 1 hk1 rfl
        obtain ⟨e0, e1⟩ := kp_c01' 2 hk1 rfl
        go_wp2_with fail
        refine (iValid_all k t true _ ht HT.out).mono ?_
        rintro e w1 ⟨rfl, hb⟩
        have hk1 := Kp.next hk1 hb
        clear hb
        obtain ⟨c0, c1⟩ := kp_c01' 0 hk1 rfl
        obtain ⟨d0, d1⟩ := kp_c01' 1 hk1 rfl
        obtain ⟨e0, e1⟩ := kp_c01' 2 hk1 rfl
        go_wp2_with fail
        refine (iValid_all o u false _ hu HU.out).mono ?_
        rintro e w1 ⟨rfl, hb⟩
        have hk1 := Kp.next hk1 hb
        clear hb
        obtain ⟨c0, c1⟩ := kp_c01' 0 hk1 rfl
        obtain ⟨d0, d1⟩ := kp_c01' 1 hk1 rfl
        obtain ⟨e0, e1⟩ := kp_c01' 2 hk1 rfl
        go_wp2_with fail
        refine (awakeI_any _).mono ?_
        rintro e w9 ⟨rfl, hb9⟩
        have k9 := Kp.next hk1 hb9
        go_wp2_with fail
        go_ret
        exact ⟨rfl, k9.below⟩
      | true =>
        have HU := Lib.hid hvu
        have sz1 : s.size ≤ 128 := by unfold validI at hvs; rw [Bool.and_eq_true] at hvs; exact validB_size hvs.1
        have sz2 : t.size ≤ 128 := by unfold validI at hvt; rw [Bool.and_eq_true] at hvt; exact validB_size hvt.1
        have sz3 : u.size ≤ 128 := by unfold validI at hvu; rw [Bool.and_eq_true] at hvu; exact validB_size hvu.1
        by_cases l1 : s.size ≤ 30
        · by_cases l2 : t.size ≤ 30
          · by_cases l3 : u.size ≤ 30
            · clear hk1
              obtain ⟨m, h1, rfl⟩ := nm_val hvs
              obtain ⟨l, h2, rfl⟩ := nm_val hvt
              obtain ⟨j, h3, rfl⟩ := nm_val hvu
              rw [size_bs] at l1 l2 l3
              exact ring_good h1 h2 h3 (Dm.length_str_le.1 l1) (Dm.length_str_le.1 l2) (Dm.length_str_le.1 l3) w
            · clear hvs hvt hvu
              go_enter Tryd.func8, Tryd.ntmps8
              go_wp2_with fail
              generalize ((w.alloc (.cells #[.bool n, .string s] 24)).alloc (.cells #[.bool k, .string t] 24)).alloc (.cells #[.bool o, .string u] 24) = W0 at *
              generalize w.heap.size + 1 + 1 = g2 at *
              generalize w.heap.size + 1 = g1 at *
              generalize hg0 : w.heap.size = g0 at *
              clear hg0
              refine (iValid_all n s true _ hs HS.out).mono ?_
              rintro e w1 ⟨rfl, hb⟩
              have hk1 := Kp.next hk1 hb
              clear hb
              obtain ⟨c0, c1⟩ := kp_c01' 0 hk1 rfl
              obtain ⟨d0, d1⟩ := kp_c01' 1 hk1 rfl
              obtain ⟨e0, e1⟩ := kp_c01' 2 hk1 rfl
              go_wp2_with fail
              refine (iValid_all k t true _ ht HT.out).mono ?_
              rintro e w1 ⟨rfl, hb⟩
              have hk1 := Kp.next hk1 hb
              clear hb
              obtain ⟨c0, c1⟩ := kp_c01' 0 hk1 rfl
              obtain ⟨d0, d1⟩ := kp_c01' 1 hk1 rfl
              obtain ⟨e0, e1⟩ := kp_c01' 2 hk1 rfl
              go_wp2_with fail
              refine (iValid_all o u true _ hu HU.out).mono ?_
              rintro e w1 ⟨rfl, hb⟩
              have hk1 := Kp.next hk1 hb
              clear hb
              obtain ⟨c0, c1⟩ := kp_c01' 0 hk1 rfl
              obtain ⟨d0, d1⟩ := kp_c01' 1 hk1 rfl
              obtain ⟨e0, e1⟩ := kp_c01' 2 hk1 rfl
              go_wp2_with fail
              refine (awakeI_any _).mono ?_
              rintro e w9 ⟨rfl, hb9⟩
              have k9 := Kp.next hk1 hb9
              go_wp2_with fail
              go_ret
              exact ⟨rfl, k9.below⟩
          · clear hvs hvt hvu
            go_enter Tryd.func8, Tryd.ntmps8
            go_wp2_with fail
            generalize ((w.alloc (.cells #[.bool n, .string s] 24)).alloc (.cells #[.bool k, .string t] 24)).alloc (.cells #[.bool o, .string u] 24) = W0 at *
            generalize w.heap.size + 1 + 1 = g2 at *
            generalize w.heap.size + 1 = g1 at *
            generalize hg0 : w.heap.size = g0 at *
            clear hg0
            refine (iValid_all n s true _ hs HS.out).mono ?_
            rintro e w1 ⟨rfl, hb⟩
            have hk1 := Kp.next hk1 hb
            clear hb
            obtain ⟨c0, c1⟩ := kp_c01' 0 hk1 rfl
            obtain ⟨d0, d1⟩ := kp_c01' 1 hk1 rfl
            obtain ⟨e0, e1⟩ := kp_c01' 2 hk1 rfl
            go_wp2_with fail
            refine (iValid_all k t true _ ht HT.out).mono ?_
            rintro e w1 ⟨rfl, hb⟩
            have hk1 := Kp.next hk1 hb
            clear hb
            obtain ⟨c0, c1⟩ := kp_c01' 0 hk1 rfl
            obtain ⟨d0, d1⟩ := kp_c01' 1 hk1 rfl
            obtain ⟨e0, e1⟩ := kp_c01' 2 hk1 rfl
            go_wp2_with fail
            refine (iValid_all o u true _ hu HU.out).mono ?_
            rintro e w1 ⟨rfl, hb⟩
            have hk1 := Kp.next hk1 hb
            clear hb
            obtain ⟨c0, c1⟩ := kp_c01' 0 hk1 rfl
            obtain ⟨d0, d1⟩ := kp_c01' 1 hk1 rfl
            obtain ⟨e0, e1⟩ := kp_c01' 2 hk1 rfl
            go_wp2_with fail
            refine (awakeI_any _).mono ?_
            rintro e w9 ⟨rfl, hb9⟩
            have k9 := Kp.next hk1 hb9
            go_wp2_with fail
            go_ret
            exact ⟨rfl, k9.below⟩
        · clear hvs hvt hvu
          go_enter Tryd.func8, Tryd.ntmps8
          go_wp2_with fail
          generalize ((w.alloc (.cells #[.bool n, .string s] 24)).alloc (.cells #[.bool k, .string t] 24)).alloc (.cells #[.bool o, .string u] 24) = W0 at *
          generalize w.heap.size + 1 + 1 = g2 at *
          generalize w.heap.size + 1 = g1 at *
          generalize hg0 : w.heap.size = g0 at *
          clear hg0
          refine (iValid_all n s true _ hs HS.out).mono ?_
          rintro e w1 ⟨rfl, hb⟩
          have hk1 := Kp.next hk1 hb
          clear hb
          obtain ⟨c0, c1⟩ := kp_c01' 0 hk1 rfl
          obtain ⟨d0, d1⟩ := kp_c01' 1 hk1 rfl
          obtain ⟨e0, e1⟩ := kp_c01' 2 hk1 rfl
          go_wp2_with fail
          refine (iValid_all k t true _ ht HT.out).mono ?_
          rintro e w1 ⟨rfl, hb⟩
          have hk1 := Kp.next hk1 hb
          clear hb
          obtain ⟨c0, c1⟩ := kp_c01' 0 hk1 rfl
          obtain ⟨d0, d1⟩ := kp_c01' 1 hk1 rfl
          obtain ⟨e0, e1⟩ := kp_c01' 2 hk1 rfl
          go_wp2_with fail
          refine (iValid_all o u true _ hu HU.out).mono ?_
          rintro e w1 ⟨rfl, hb⟩
          have hk1 := Kp.next hk1 hb
          clear hb
          obtain ⟨c0, c1⟩ := kp_c01' 0 hk1 rfl
          obtain ⟨d0, d1⟩ := kp_c01' 1 hk1 rfl
          obtain ⟨e0, e1⟩ := kp_c01' 2 hk1 rfl
          go_wp2_with fail
          refine (awakeI_any _).mono ?_
          rintro e w9 ⟨rfl, hb9⟩
          have k9 := Kp.next hk1 hb9
          go_wp2_with fail
          go_ret
          exact ⟨rfl, k9.below⟩
end Go.Proofs.YtlagcdgfmgkooaaDoor
