/-
  dominolaw25.sum, and the walk of the law FoursquaresSums.
-/
import Derived.Test.YtdbhmhabgbfplaaFsLaw3
import Derived.Test.YtdbhmhabgbfplaaSq2
namespace Go.Proofs.Ytdbhmhabgbfplaa
open Go.RowKit
set_option linter.unusedVariables false

theorem addV_str {a b : Nat} (ha : a < 4294967296) (hb : b < 4294967296) (h : a + b < 4294967296) : addV (Dm.str a) (Dm.str b) = .tuple #[Sv (Dm.str (a + b)), .int .i64 0] := by
  rw [addV, validB_str ha, validB_str hb, Dm.val_str, Dm.val_str]
  have := length_str4 h
  simp only [Bool.and_self, if_true]
  rw [fitV, if_pos (by omega)]
def sqs (l : List Nat) : Nat := (l.map fun x => x * x).sum
theorem sqs_take {l : List Nat} {k : Nat} (h : k < l.length) : sqs (l.take (k + 1)) = sqs (l.take k) + l[k] * l[k] := by
  unfold sqs
  rw [List.take_succ_eq_append_getElem h, List.map_append, List.sum_append]
  rfl
theorem sqs_le (l : List Nat) (k : Nat) : sqs (l.take k) ≤ sqs l := by
  conv => rhs; rw [← List.take_append_drop k l]
  unfold sqs
  rw [List.map_append, List.sum_append]
  omega
theorem mul_str (x : Nat) (w : World) (h : x * x < 4294967296) : Calls Try.prog 20 #[Sv (Dm.str x), Sv (Dm.str x)] w fun e w' => e = .returned (.tuple #[Sv (Dm.str (x * x)), .int .i64 0]) ∧ Below w.heap.size w w' := by
  have hx : x ≤ x * x := Nat.le_mul_self x
  have hs : (bs (Dm.str x)).size ≤ 1073741824 := by rw [size_bs]; have := length_str4 (n := x) (by omega); omega
  exact (Mul_any _ _ w hs hs).mono fun e w' ⟨he, hw⟩ => ⟨by rw [he, tl_bs, mulV_str (by omega) (by omega) h], hw⟩
theorem add_str (x y : Nat) (w : World) (h : x + y < 4294967296) : Calls Try.prog 39 #[Sv (Dm.str x), Sv (Dm.str y)] w fun e w' => e = .returned (.tuple #[Sv (Dm.str (x + y)), .int .i64 0]) ∧ Below w.heap.size w w' := by
  have hs : (bs (Dm.str x)).size ≤ 1073741824 := by rw [size_bs]; have := length_str4 (n := x) (by omega); omega
  have ht : (bs (Dm.str y)).size ≤ 1073741824 := by rw [size_bs]; have := length_str4 (n := y) (by omega); omega
  exact (Add_any _ _ w hs ht).mono fun e w' ⟨he, hw⟩ => ⟨by rw [he, tl_bs, tl_bs, addV_str (by omega) (by omega) h], hw⟩
def SumRel (l : List Nat) (w : World) (o i : Value) (wr : World) : Prop := ∃ k : Nat, k ≤ l.length ∧ i = .int .i64 (k : Int) ∧ o = Sv (Dm.str (sqs (l.take k))) ∧ Below w.heap.size w wr
set_option maxHeartbeats 1000000 in
theorem sum_any (l : List Nat) (g : Nat) (t : TypeId) (w : World) (hl : l.length ≤ 10) (hb : Blk w g t (l.map fun x => Sv (Dm.str x))) (hs : sqs l < 4294967296) :
    Calls Try.prog 21 #[.slice (some ⟨g, 0, none⟩) l.length l.length] w fun e w' => e = .returned (Sv (Dm.str (sqs l))) ∧ Below w.heap.size w w' := by
  go_enter Try.func21, Try.ntmps21
  go_wp2_with fail
  go_loopw [3, 4] (SumRel l w) (fun _ i _ => l.length - (intOf i).toNat)
  case atStart => exact ⟨0, by omega, rfl, by simp [sqs, Sv]; rfl, Below.refl _ _⟩
  case round =>
    obtain ⟨k, hk, rfl, rfl, hW⟩ := hrel
    by_cases hlt : k < l.length
    · have hB := hb.below hW hb.lt
      have hc : wr.cell? ⟨g, k, none⟩ = some (Sv (Dm.str l[k])) := by rw [hB.cell]; simp [hlt]
      have h1 := sqs_le l (k + 1)
      have h2 := sqs_take hlt
      have hx : l[k] * l[k] < 4294967296 := by omega
      have hy : sqs (l.take k) + l[k] * l[k] < 4294967296 := by omega
      have HT := Lib.hid h2
      clear h1 h2
      generalize l[k] = x at *
      go_wp2_with fail
      go_region_with (first | (go_at_call 20; refine (mul_str x _ hx).mono ?_; rintro e wa ⟨rfl, hba⟩))
      all_goals
        go_wp2_with fail
        refine (add_str _ _ _ hy).mono ?_
        rintro e wb ⟨rfl, hbb⟩
        have hkp : Kp w [] wr := ⟨fun _ h => (List.not_mem_nil h).elim, hW⟩
        have hkb := ((hkp.drew).next hba).next hbb
        clear hkp
        go_wp2_with fail
        go_roundw
        case rel => exact ⟨k + 1, by omega, by go_num, by rw [HT.out], hkb.below⟩
        case measure => simp [intOf] <;> omega
    · obtain rfl : k = l.length := by omega
      rw [List.take_length]
      go_wp2_with fail
      go_ret
      exact ⟨rfl, hW⟩
theorem TwoV_str2 {n : Nat} (h : n < 4294967296) : TwoV .i64 (Dm.str n) = .tuple #[.agg #[Sv (Dm.str (pairOf (Dm.two n n)).1), Sv (Dm.str (pairOf (Dm.two n n)).2)], .bool (Dm.two n n).isSome, .int .i64 0] := by
  rw [TwoV, if_pos (errOf_str h), numOf_str h]
theorem cmp_str (x y : Nat) (w : World) (hx : x < 4294967296) (hy : y < 4294967296) (c : Int) (hc : Dm.cmpN x y = c) : Calls Try.prog 19 #[Sv (Dm.str x), Sv (Dm.str y)] w fun e w' => e = .returned (.int .i64 c) ∧ w = w' := by
  have hs : (bs (Dm.str x)).size ≤ 1073741824 := by rw [size_bs]; have := length_str4 hx; omega
  have ht : (bs (Dm.str y)).size ≤ 1073741824 := by rw [size_bs]; have := length_str4 hy; omega
  exact (Cmp_any _ _ w hs ht).mono fun e w' ⟨he, hw⟩ => ⟨by rw [he, tl_bs, tl_bs, cmpV_str hx hy, hc], hw⟩
theorem cmpN_ge {x y : Nat} (h : y ≤ x) : 0 ≤ Dm.cmpN x y := by
  refine Int.not_lt.1 fun h1 => ?_
  have := Dm.cmpN_neg.1 h1
  omega
theorem sumsS {w : World} {g2 g3 g4 : Nat} {a b c d x y z u v : Nat} {W : World} (h : Kp w [(g4, 24, [Sv (Dm.str u), Sv (Dm.str v)]), (g3, 31, [Sv (Dm.str x), Sv (Dm.str y), Sv (Dm.str z)]), (g2, 36, [Sv (Dm.str a), Sv (Dm.str b), Sv (Dm.str c), Sv (Dm.str d)])] W) :
    W.cell? ⟨g2, 0, none⟩ = some (Sv (Dm.str a)) ∧ W.cell? ⟨g2, 1, none⟩ = some (Sv (Dm.str b)) ∧ W.cell? ⟨g2, 2, none⟩ = some (Sv (Dm.str c)) ∧ W.cell? ⟨g2, 3, none⟩ = some (Sv (Dm.str d)) ∧ W.cell? ⟨g3, 0, none⟩ = some (Sv (Dm.str x)) ∧ W.cell? ⟨g3, 1, none⟩ = some (Sv (Dm.str y)) ∧ W.cell? ⟨g3, 2, none⟩ = some (Sv (Dm.str z)) ∧ W.cell? ⟨g4, 0, none⟩ = some (Sv (Dm.str u)) ∧ W.cell? ⟨g4, 1, none⟩ = some (Sv (Dm.str v)) :=
  ⟨awake_cell h 2 0, awake_cell h 2 1, awake_cell h 2 2, awake_cell h 2 3, awake_cell h 1 0, awake_cell h 1 1, awake_cell h 1 2, awake_cell h 0 0, awake_cell h 0 1⟩
theorem sum_at (l : List Nat) (n g : Nat) (t : TypeId) (w : World) (hl : l.length ≤ 10) (hb : Blk w g t (l.map fun x => Sv (Dm.str x))) (hs : sqs l = n) (hn : n < 4294967296) :
    Calls Try.prog 21 #[.slice (some ⟨g, 0, none⟩) l.length l.length] w fun e w' => e = .returned (Sv (Dm.str n)) ∧ Below w.heap.size w w' := by
  subst hs
  exact sum_any l g t w hl hb hn
set_option maxRecDepth 20000 in
set_option maxHeartbeats 2000000 in
theorem sums_core (n a b c d x y z u v : Nat) (o3 o2 : Bool) (hn : n < 4294967296) (w : World) (HF : Hid (FourW (Dm.str n) = .tuple #[.agg #[Sv (Dm.str a), Sv (Dm.str b), Sv (Dm.str c), Sv (Dm.str d)], .int .i64 0]))
    (HT : Hid (ThreeW (Dm.str n) = .tuple #[.agg #[Sv (Dm.str x), Sv (Dm.str y), Sv (Dm.str z)], .bool o3, .int .i64 0])) (HD : Hid (TwoV .i64 (Dm.str n) = .tuple #[.agg #[Sv (Dm.str u), Sv (Dm.str v)], .bool o2, .int .i64 0]))
    (HQS : Hid (sqs [a, b, c, d] = n)) (HTS : Hid (o3 = true → sqs [x, y, z] = n)) (HDS : Hid (o2 = true → sqs [u, v] = n))
    (h1 : b ≤ a) (h2 : c ≤ b) (h3 : d ≤ c) (h4 : y ≤ x) (h5 : z ≤ y) (h6 : v ≤ u) (b1 : a < 4294967296) (b2 : x < 4294967296) (b3 : u < 4294967296) :
    Calls Try.prog 9 #[.int .u32 n] w fun e w' => e = .returned (.bool true) ∧ Below w.heap.size w w' := by
  have hs : (bs (Dm.str n)).size ≤ 1073741824 := by rw [size_bs]; have := length_str4 hn; omega
  have c1 := cmpN_ge h1
  have c2 := cmpN_ge h2
  have c3 := cmpN_ge h3
  have c4 := cmpN_ge h4
  have c5 := cmpN_ge h5
  have c6 := cmpN_ge h6
  have C1 := Lib.hid (fun W => cmp_str a b W b1 (by omega) _ rfl)
  have C2 := Lib.hid (fun W => cmp_str b c W (by omega) (by omega) _ rfl)
  have C3 := Lib.hid (fun W => cmp_str c d W (by omega) (by omega) _ rfl)
  have C4 := Lib.hid (fun W => cmp_str x y W (by omega) (by omega) _ rfl)
  have C5 := Lib.hid (fun W => cmp_str y z W (by omega) (by omega) _ rfl)
  have C6 := Lib.hid (fun W => cmp_str u v W (by omega) (by omega) _ rfl)
  generalize Dm.cmpN a b = m1 at *
  generalize Dm.cmpN b c = m2 at *
  generalize Dm.cmpN c d = m3 at *
  generalize Dm.cmpN x y = m4 at *
  generalize Dm.cmpN y z = m5 at *
  generalize Dm.cmpN u v = m6 at *
  go_enter Try.func9, Try.ntmps9
  go_wp2_with fail
  refine (of_at _ n _ rfl (by omega)).mono ?_
  rintro e w1 ⟨rfl, hb1⟩
  have hk1 := (Kp.start w).next hb1
  go_wp2_with fail
  refine (Four_any _ _ hs).mono ?_
  rintro e w2 ⟨rfl, hb2⟩
  rw [tl_bs, HF.out]
  have hk2 := (hk1.next hb2).new 36 [Sv (Dm.str a), Sv (Dm.str b), Sv (Dm.str c), Sv (Dm.str d)]
  go_wp2_with fail
  refine (Three_any _ _ hs).mono ?_
  rintro e w3 ⟨rfl, hb3⟩
  rw [tl_bs, HT.out]
  have hk3 := (hk2.next hb3).new 31 [Sv (Dm.str x), Sv (Dm.str y), Sv (Dm.str z)]
  go_wp2_with fail
  refine (Two_any _ _ hs).mono ?_
  rintro e w4 ⟨rfl, hb4⟩
  rw [tl_bs, HD.out]
  have hk4 := (hk3.next hb4).new 24 [Sv (Dm.str u), Sv (Dm.str v)]
  clear hk1 hk2 hk3 hb1 hb2 hb3 hb4
  go_wp2_with fail
  refine (sum_at [a, b, c, d] n _ _ _ (by simp) (hk4.blk (w2.heap.size, 36, [Sv (Dm.str a), Sv (Dm.str b), Sv (Dm.str c), Sv (Dm.str d)]) (by simp)) HQS.out hn).mono ?_
  rintro e w5 ⟨rfl, hb5⟩
  have hk5 := hk4.next hb5
  clear hk4 hb5
  cases o3 <;> cases o2
  · obtain ⟨p1, p2, p3, p4, p5, p6, p7, p8, p9⟩ := sumsS hk5
    go_wp2_with (first | (go_at_call 19; first | ((with_reducible refine (C1.out _).mono ?_); rintro e w9 ⟨rfl, rfl⟩) | ((with_reducible refine (C2.out _).mono ?_); rintro e w9 ⟨rfl, rfl⟩) | ((with_reducible refine (C3.out _).mono ?_); rintro e w9 ⟨rfl, rfl⟩) | ((with_reducible refine (C4.out _).mono ?_); rintro e w9 ⟨rfl, rfl⟩) | ((with_reducible refine (C5.out _).mono ?_); rintro e w9 ⟨rfl, rfl⟩) | ((with_reducible refine (C6.out _).mono ?_); rintro e w9 ⟨rfl, rfl⟩)) | (go_at_call 10; refine (awake_any _).mono ?_; rintro e wz ⟨rfl, hbz⟩))
    go_ret
    exact ⟨rfl, (Kp.next hk5 hbz).below⟩
  · go_wp2_with fail
    refine (sum_at [u, v] n _ _ _ (by simp) (hk5.blk (w4.heap.size, 24, [Sv (Dm.str u), Sv (Dm.str v)]) (by simp)) (HDS.out (by trivial)) hn).mono ?_
    rintro e w7 ⟨rfl, hb7⟩
    have hk7 := hk5.next hb7
    clear hb7
    obtain ⟨p1, p2, p3, p4, p5, p6, p7, p8, p9⟩ := sumsS hk7
    go_wp2_with (first | (go_at_call 19; first | ((with_reducible refine (C1.out _).mono ?_); rintro e w9 ⟨rfl, rfl⟩) | ((with_reducible refine (C2.out _).mono ?_); rintro e w9 ⟨rfl, rfl⟩) | ((with_reducible refine (C3.out _).mono ?_); rintro e w9 ⟨rfl, rfl⟩) | ((with_reducible refine (C4.out _).mono ?_); rintro e w9 ⟨rfl, rfl⟩) | ((with_reducible refine (C5.out _).mono ?_); rintro e w9 ⟨rfl, rfl⟩) | ((with_reducible refine (C6.out _).mono ?_); rintro e w9 ⟨rfl, rfl⟩)) | (go_at_call 10; refine (awake_any _).mono ?_; rintro e wz ⟨rfl, hbz⟩))
    go_ret
    exact ⟨rfl, (Kp.next hk7 hbz).below⟩
  · go_wp2_with fail
    refine (sum_at [x, y, z] n _ _ _ (by simp) (hk5.blk (w3.heap.size, 31, [Sv (Dm.str x), Sv (Dm.str y), Sv (Dm.str z)]) (by simp)) (HTS.out (by trivial)) hn).mono ?_
    rintro e w6 ⟨rfl, hb6⟩
    have hk6 := hk5.next hb6
    clear hb6
    obtain ⟨p1, p2, p3, p4, p5, p6, p7, p8, p9⟩ := sumsS hk6
    go_wp2_with (first | (go_at_call 19; first | ((with_reducible refine (C1.out _).mono ?_); rintro e w9 ⟨rfl, rfl⟩) | ((with_reducible refine (C2.out _).mono ?_); rintro e w9 ⟨rfl, rfl⟩) | ((with_reducible refine (C3.out _).mono ?_); rintro e w9 ⟨rfl, rfl⟩) | ((with_reducible refine (C4.out _).mono ?_); rintro e w9 ⟨rfl, rfl⟩) | ((with_reducible refine (C5.out _).mono ?_); rintro e w9 ⟨rfl, rfl⟩) | ((with_reducible refine (C6.out _).mono ?_); rintro e w9 ⟨rfl, rfl⟩)) | (go_at_call 10; refine (awake_any _).mono ?_; rintro e wz ⟨rfl, hbz⟩))
    go_ret
    exact ⟨rfl, (Kp.next hk6 hbz).below⟩
  · go_wp2_with fail
    refine (sum_at [x, y, z] n _ _ _ (by simp) (hk5.blk (w3.heap.size, 31, [Sv (Dm.str x), Sv (Dm.str y), Sv (Dm.str z)]) (by simp)) (HTS.out (by trivial)) hn).mono ?_
    rintro e w6 ⟨rfl, hb6⟩
    have hk6 := hk5.next hb6
    clear hb6
    go_wp2_with fail
    refine (sum_at [u, v] n _ _ _ (by simp) (hk6.blk (w4.heap.size, 24, [Sv (Dm.str u), Sv (Dm.str v)]) (by simp)) (HDS.out (by trivial)) hn).mono ?_
    rintro e w7 ⟨rfl, hb7⟩
    have hk7 := hk6.next hb7
    clear hb7
    obtain ⟨p1, p2, p3, p4, p5, p6, p7, p8, p9⟩ := sumsS hk7
    go_wp2_with (first | (go_at_call 19; first | ((with_reducible refine (C1.out _).mono ?_); rintro e w9 ⟨rfl, rfl⟩) | ((with_reducible refine (C2.out _).mono ?_); rintro e w9 ⟨rfl, rfl⟩) | ((with_reducible refine (C3.out _).mono ?_); rintro e w9 ⟨rfl, rfl⟩) | ((with_reducible refine (C4.out _).mono ?_); rintro e w9 ⟨rfl, rfl⟩) | ((with_reducible refine (C5.out _).mono ?_); rintro e w9 ⟨rfl, rfl⟩) | ((with_reducible refine (C6.out _).mono ?_); rintro e w9 ⟨rfl, rfl⟩)) | (go_at_call 10; refine (awake_any _).mono ?_; rintro e wz ⟨rfl, hbz⟩))
    go_ret
    exact ⟨rfl, (Kp.next hk7 hbz).below⟩
theorem sums_nat (n : Nat) (hn : n < 4294967296) (w : World) :
    Calls Try.prog 9 #[.int .u32 n] w fun e w' => e = .returned (.bool true) ∧ Below w.heap.size w w' := by
  obtain ⟨q, hq, hqs, hq1, hq2, hq3⟩ := Dm.four_all n
  have hqo : quadOf (Dm.four n) = q := by rw [hq]; rfl
  have HF := Lib.hid (FourW_str hn)
  rw [hqo] at HF
  have hsq : ∀ k : Nat, k ≤ k * k := fun k => Nat.le_mul_self k
  have q1 := hsq q.1
  have h3 : ∀ p, threeOf (Dm.str n) = some p → p.1 * p.1 + p.2.1 * p.2.1 + p.2.2 * p.2.2 = n ∧ p.2.2 ≤ p.2.1 ∧ p.2.1 ≤ p.1 := fun p hp => by
    rw [threeOf_str hn] at hp
    split at hp
    · cases hp
    · obtain ⟨x1, x2, x3, _⟩ := Dm.three_some hp
      exact ⟨x1, x2, x3⟩
  have t1 : (threeOf (Dm.str n)).isSome = true → sqs [(tripleOf (threeOf (Dm.str n))).1, (tripleOf (threeOf (Dm.str n))).2.1, (tripleOf (threeOf (Dm.str n))).2.2] = n := by
    cases h : threeOf (Dm.str n) with
    | none => intro e; cases e
    | some p => intro _; have := (h3 p h).1; simp only [sqs, tripleOf, Option.getD_some, List.map_cons, List.map_nil, List.sum_cons, List.sum_nil]; omega
  have t2 : (tripleOf (threeOf (Dm.str n))).2.2 ≤ (tripleOf (threeOf (Dm.str n))).2.1 ∧ (tripleOf (threeOf (Dm.str n))).2.1 ≤ (tripleOf (threeOf (Dm.str n))).1 ∧ (tripleOf (threeOf (Dm.str n))).1 ≤ n := by
    cases h : threeOf (Dm.str n) with
    | none => simp [tripleOf]
    | some p => obtain ⟨x1, x2, x3⟩ := h3 p h; have := hsq p.1; simp only [tripleOf, Option.getD_some]; omega
  have d1 : (Dm.two n n).isSome = true → sqs [(pairOf (Dm.two n n)).1, (pairOf (Dm.two n n)).2] = n := by
    cases h : Dm.two n n with
    | none => intro e; cases e
    | some p => intro _; have := (Dm.two_some h).1; simp only [sqs, pairOf, Option.getD_some, List.map_cons, List.map_nil, List.sum_cons, List.sum_nil]; omega
  have d2 : (pairOf (Dm.two n n)).2 ≤ (pairOf (Dm.two n n)).1 ∧ (pairOf (Dm.two n n)).1 ≤ n := by
    cases h : Dm.two n n with
    | none => simp [pairOf]
    | some p => obtain ⟨x1, x2, x3⟩ := Dm.two_some h; simp only [pairOf, Option.getD_some]; omega
  exact sums_core n q.1 q.2.1 q.2.2.1 q.2.2.2 _ _ _ _ _ _ _ hn w HF (Lib.hid (ThreeW_str hn)) (Lib.hid (TwoV_str2 hn)) (Lib.hid (by simp only [sqs, List.map_cons, List.map_nil, List.sum_cons, List.sum_nil]; omega)) (Lib.hid t1) (Lib.hid d1) hq3 hq2 hq1 t2.2.1 t2.1 d2.1 (by omega) (by omega) (by omega)
theorem sums_walk (a : Int) (ha : (Lit.int .u32 a).wf = true) (w : World) :
    Calls Try.prog 9 #[.int .u32 a] w fun e w' => e = .returned (.bool true) ∧ Below w.heap.size w w' := by
  have hx : 0 ≤ a ∧ a ≤ 4294967295 := by simpa [Lit.wf, IntKind.min, IntKind.max, IntKind.signed, IntKind.bits] using ha
  obtain ⟨n, rfl⟩ : ∃ n : Nat, a = n := ⟨a.toNat, by omega⟩
  exact sums_nat n (by omega) w
end Go.Proofs.Ytdbhmhabgbfplaa
