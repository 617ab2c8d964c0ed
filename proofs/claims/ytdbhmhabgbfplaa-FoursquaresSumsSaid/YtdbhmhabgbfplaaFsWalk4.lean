/-
  Walks over foursquares: small, Two, and the reference's number, of, Two.
-/
import Derived.Test.YtdbhmhabgbfplaaFsWalk3
import Derived.Test.YtdbhmhabgbfplaaNat1
import Derived.Deep.RegionHeld3
namespace Go.Proofs.Ytdbhmhabgbfplaa
open Go.RowKit
set_option linter.unusedVariables false

/-- the number below 2^32 of a string, and the error -/
def numOf (l : List UInt8) : Nat := if validB l && decide (l.length ≤ 4) then Dm.val l else 0
def errOf (l : List UInt8) : Int := if validB l = false then 3 else if l.length ≤ 4 then 0 else 5
theorem numOf_lt (l : List UInt8) : numOf l < 4294967296 := by
  unfold numOf
  split
  · rename_i h
    simp at h
    have h1 := Dm.val_lt l
    have h2 : (256 : Nat) ^ l.length ≤ 256 ^ 4 := Nat.pow_le_pow_right (by omega) h.2
    have : (256 : Nat) ^ 4 = 4294967296 := rfl
    omega
  · omega
theorem val_small_iff {l : List UInt8} (hv : validB l = true) : Dm.val l < 4294967296 ↔ l.length ≤ 4 := by
  have hc : Dm.canon l = true := by unfold validB at hv; simp at hv; exact hv.2
  have h := @Dm.length_str_le (Dm.val l) 4
  rw [Dm.str_val_canon hc] at h
  exact h.symm

set_option maxHeartbeats 400000 in
theorem fsmall_any (s : ByteArray) (w : World) (hl : s.size ≤ 1073741824) :
    Calls Try.prog 22 #[.string s] w fun e w' => e = .returned (.tuple #[.int .u64 (numOf (tl s) : Nat), .int .i64 (errOf (tl s))]) ∧ w = w' := by
  cases hv : validB (tl s) with
  | false =>
    have HV := Lib.hid hv
    clear hv
    go_enter Try.func22, Try.ntmps22
    go_wp2_with (go_at_call 34; refine (valid_at s false _ hl HV.out).mono ?_; rintro e w' ⟨rfl, rfl⟩)
    go_ret2
    exact ⟨by rw [numOf, errOf, HV.out]; rfl, rfl⟩
  | true =>
    have HV := Lib.hid hv
    have hvi := val_small_iff hv
    clear hv
    rw [length_tl] at hvi
    have HI := Lib.hid hvi
    clear hvi
    by_cases h8 : s.size ≤ 8
    · have HS : Hid (smallV (tl s) = .tuple #[.int .u64 (Dm.val (tl s) : Nat), .bool true]) := by
        show _ = _
        rw [smallV, HV.out, length_tl]; simp [h8]
      by_cases h4 : s.size ≤ 4
      · have hlt : decide ((4294967296 : Int) ≤ (Dm.val (tl s) : Int)) = false := by have := HI.out.2 h4; rw [decide_eq_false_iff_not]; omega
        go_enter Try.func22, Try.ntmps22
        go_wp2_with (first | (go_at_call 34; refine (valid_at s true _ hl HV.out).mono ?_; rintro e w' ⟨rfl, rfl⟩) | (go_at_call 18; refine (small_any s _ hl).mono ?_; rintro e w' ⟨rfl, rfl⟩; rw [HS.out]))
        go_ret2
        exact ⟨by rw [numOf, errOf, HV.out, length_tl]; simp [h4], rfl⟩
      · have hlt : (4294967296 : Int) ≤ (Dm.val (tl s) : Int) := by have := HI.out; omega
        go_enter Try.func22, Try.ntmps22
        go_wp2_with (first | (go_at_call 34; refine (valid_at s true _ hl HV.out).mono ?_; rintro e w' ⟨rfl, rfl⟩) | (go_at_call 18; refine (small_any s _ hl).mono ?_; rintro e w' ⟨rfl, rfl⟩; rw [HS.out]))
        go_ret2
        exact ⟨by rw [numOf, errOf, HV.out, length_tl]; simp [h4], rfl⟩
    · have HS : Hid (smallV (tl s) = .tuple #[.int .u64 0, .bool false]) := by
        show _ = _
        rw [smallV, HV.out, length_tl]; simp [h8]
      go_enter Try.func22, Try.ntmps22
      go_wp2_with (first | (go_at_call 34; refine (valid_at s true _ hl HV.out).mono ?_; rintro e w' ⟨rfl, rfl⟩) | (go_at_call 18; refine (small_any s _ hl).mono ?_; rintro e w' ⟨rfl, rfl⟩; rw [HS.out]))
      go_ret2
      exact ⟨by rw [numOf, errOf, HV.out, length_tl]; simp [show ¬ s.size ≤ 4 by omega], rfl⟩

set_option maxHeartbeats 400000 in
theorem number_any (s : ByteArray) (w : World) (hl : s.size ≤ 1073741824) :
    Calls Try.prog 24 #[.string s] w fun e w' => e = .returned (.tuple #[.int .i64 (numOf (tl s) : Nat), .int .i64 (errOf (tl s))]) ∧ w = w' := by
  cases hv : validB (tl s) with
  | false =>
    have HV := Lib.hid hv
    clear hv
    go_enter Try.func24, Try.ntmps24
    go_wp2_with (go_at_call 41; refine (ref_valid_at s false _ hl HV.out).mono ?_; rintro e w' ⟨rfl, rfl⟩)
    go_ret2
    exact ⟨by rw [numOf, errOf, HV.out]; rfl, rfl⟩
  | true =>
    have HV := Lib.hid hv
    have hvi := val_small_iff hv
    clear hv
    rw [length_tl] at hvi
    have HI := Lib.hid hvi
    clear hvi
    by_cases h4 : s.size ≤ 4
    · have hlt : Dm.val (tl s) < 4294967296 := HI.out.2 h4
      go_enter Try.func24, Try.ntmps24
      go_wp2_with (first | (go_at_call 41; refine (ref_valid_at s true _ hl HV.out).mono ?_; rintro e w' ⟨rfl, rfl⟩) | (go_at_call 42; refine (ref_u64_any s _ (by omega)).mono ?_; rintro e w' ⟨rfl, rfl⟩))
      go_ret2
      exact ⟨by rw [numOf, errOf, HV.out, length_tl]; simp [h4]; try rfl, rfl⟩
    · go_enter Try.func24, Try.ntmps24
      go_wp2_with (go_at_call 41; refine (ref_valid_at s true _ hl HV.out).mono ?_; rintro e w' ⟨rfl, rfl⟩)
      go_ret2
      exact ⟨by rw [numOf, errOf, HV.out, length_tl]; simp [h4], rfl⟩

set_option maxHeartbeats 400000 in
theorem rof_any (n : Nat) (w : World) (h : n < 4294967296) :
    Calls Try.prog 26 #[.int .i64 n] w fun e w' => e = .returned (Sv (Dm.str n)) ∧ Below w.heap.size w w' := by
  go_enter Try.func26, Try.ntmps26
  go_wp2_with (go_at_call 43; refine (ref_of_at _ n _ rfl (by omega)).mono ?_; rintro e w' ⟨rfl, hb⟩)
  go_ret
  exact ⟨rfl, hb⟩
theorem rof_at (a : Int) (n : Nat) (w : World) (ha : a = n) (h : n < 4294967296) :
    Calls Try.prog 26 #[.int .i64 a] w fun e w' => e = .returned (Sv (Dm.str n)) ∧ Below w.heap.size w w' := by
  subst ha
  exact rof_any n w h

/-- what Two returns -/
def TwoV (k : IntKind) (l : List UInt8) : Value :=
  if errOf l = 0 then .tuple #[.agg #[Sv (Dm.str (pairOf (Dm.two (numOf l) (numOf l))).1), Sv (Dm.str (pairOf (Dm.two (numOf l) (numOf l))).2)], .bool (Dm.two (numOf l) (numOf l)).isSome, .int k 0]
  else .tuple #[.agg #[Sv [], Sv []], .bool false, .int k (errOf l)]
theorem pair_lt {n m : Nat} (hn : n < 4294967296) : (pairOf (Dm.two n m)).1 < 4294967296 ∧ (pairOf (Dm.two n m)).2 < 4294967296 := by
  cases h : Dm.two n m with
  | none => simp [pairOf]
  | some p =>
    have h1 := Dm.two_some h
    simp only [pairOf, Option.getD_some]
    have h2 : p.1 ≤ p.1 * p.1 := Nat.le_mul_self _
    have h3 : p.2 ≤ p.2 * p.2 := Nat.le_mul_self _
    omega
set_option maxHeartbeats 1000000 in
theorem Two_any (s : ByteArray) (w : World) (hl : s.size ≤ 1073741824) :
    Calls Try.prog 11 #[.string s] w fun e w' => e = .returned (TwoV .i64 (tl s)) ∧ Below w.heap.size w w' := by
  by_cases he : errOf (tl s) = 0
  · have hz : (errOf (tl s) != 0) = false := by simp [he]
    have HE := Lib.hid he
    have hn := numOf_lt (tl s)
    have hp := pair_lt (m := numOf (tl s)) hn
    clear he
    obtain ⟨o, ho⟩ : ∃ o, Dm.two (numOf (tl s)) (numOf (tl s)) = o := ⟨_, rfl⟩
    rw [ho] at hp
    have HO := Lib.hid ho
    clear ho
    rcases hpq : pairOf o with ⟨x, y⟩
    have hv : twoV o = .tuple #[.agg #[.int .u64 x, .int .u64 y], .bool o.isSome] := by simp [twoV, hpq]
    rw [hpq] at hp
    simp only at hp
    have hx1 : x < 18446744073709551616 := by omega
    have hy1 : y < 18446744073709551616 := by omega
    have HV := Lib.hid hv
    have HQ := Lib.hid hpq
    clear hv hpq hp
    go_enter Try.func11, Try.ntmps11
    go_wp2_with (first | (go_at_call 22; refine (fsmall_any s _ hl).mono ?_; rintro e w' ⟨rfl, rfl⟩) | (go_at_call 23; refine (two_at _ _ (numOf (tl s)) (numOf (tl s)) o _ rfl rfl HO.out hn hn).mono ?_; rintro e w1 ⟨rfl, hb1⟩; rw [HV.out]))
    have hBw : Below w.heap.size w w1 := ((Below.refl _ _).alloc (Nat.le_refl _) _).trans (hb1.mono (by simp))
    have hs0 := Stg.make (w := w) ((Blk.new w 24 [.string ⟨#[]⟩, .string ⟨#[]⟩]).below hb1 (by simp)) (Nat.le_refl _) hBw 57 [.int .u64 x, .int .u64 y]
    have hs0d := hs0.drew
    clear hs0 hBw hb1
    have hne := hs0d.ne
    generalize w1.heap.size = g at *
    generalize w1.alloc (Obj.cells #[Value.int IntKind.u64 ↑x, Value.int IntKind.u64 ↑y] 57) = W at *
    go_region_held3 (fun w' => w'.cell? ⟨g, 0, none⟩ = some (.int .u64 x) ∧ w'.cell? ⟨g, 1, none⟩ = some (.int .u64 y)) (first | exact Blk.get2 (Stg.b1 (w := w) (by assumption)) | exact Blk.get2 (((Stg.b1 (w := w) (by assumption)).far hne _).far hne _))
      (first | (go_at_call 17; refine (of_any _ _ (by assumption)).mono ?_; rintro e wa ⟨rfl, hba⟩; have hs1 := Stg.next (w := w) (g := g) (by assumption) hba; have hd0 : wa.cell? ⟨w.heap.size, 0, none⟩ = some (.string ⟨#[]⟩) := hs1.b2.cell 0; have hd1 : wa.cell? ⟨w.heap.size, 1, none⟩ = some (.string ⟨#[]⟩) := hs1.b2.cell 1; have hf0 := hs1.b2.frozen 0; have hf1 := hs1.b2.frozen 1))
    go_wp2
    refine bodyPost_ret (v := .tuple #[.agg #[Sv (Dm.str x), Sv (Dm.str y)], .bool o.isSome, .int .i64 0]) (by simp [results, Try.results11, go_sem, hd0, hd1]) rfl ⟨?_, (hs1.below.setCell (Nat.le_refl _) _).setCell (Nat.le_refl _) _⟩
    rw [TwoV, if_pos HE.out, HO.out, HQ.out]
  · have hz : (errOf (tl s) != 0) = true := by simp [he]
    have HE := Lib.hid he
    clear he
    go_enter Try.func11, Try.ntmps11
    go_wp2_with (first | (go_at_call 22; refine (fsmall_any s _ hl).mono ?_; rintro e w' ⟨rfl, rfl⟩))
    refine bodyPost_ret (v := .tuple #[.agg #[Sv [], Sv []], .bool false, .int .i64 (errOf (tl s))]) (by simp [results, Try.results11, go_sem, Sv, bs]) rfl ⟨?_, (Below.refl _ _).alloc (Nat.le_refl _) _⟩
    rw [TwoV, if_neg HE.out]

set_option maxHeartbeats 1000000 in
theorem ref_Two_any (s : ByteArray) (w : World) (hl : s.size ≤ 1073741824) :
    Calls Try.prog 12 #[.string s] w fun e w' => e = .returned (TwoV .i64 (tl s)) ∧ Below w.heap.size w w' := by
  by_cases he : errOf (tl s) = 0
  · have hz : (errOf (tl s) != 0) = false := by simp [he]
    have HE := Lib.hid he
    have hn := numOf_lt (tl s)
    have hp := pair_lt (m := numOf (tl s)) hn
    clear he
    obtain ⟨o, ho⟩ : ∃ o, Dm.two (numOf (tl s)) (numOf (tl s)) = o := ⟨_, rfl⟩
    rw [ho] at hp
    have HO := Lib.hid ho
    clear ho
    rcases hpq : pairOf o with ⟨x, y⟩
    have hv : refTwoV o = .tuple #[.int .i64 x, .int .i64 y, .bool o.isSome] := by simp [refTwoV, hpq]
    rw [hpq] at hp
    simp only at hp
    have hx1 : x < 4294967296 := by omega
    have hy1 : y < 4294967296 := by omega
    have HV := Lib.hid hv
    have HQ := Lib.hid hpq
    clear hv hpq hp
    go_enter Try.func12, Try.ntmps12
    go_wp2_with (first | (go_at_call 24; refine (number_any s _ hl).mono ?_; rintro e w' ⟨rfl, rfl⟩) | (go_at_call 25; refine (ref_two_at _ _ (numOf (tl s)) (numOf (tl s)) o _ rfl rfl HO.out hn hn).mono ?_; rintro e w1 ⟨rfl, rfl⟩; rw [HV.out]))
    have hs0 := Blk.new w 24 [.string ⟨#[]⟩, .string ⟨#[]⟩]
    refine (rof_any _ _ hx1).mono ?_
    rintro e wa ⟨rfl, hba⟩
    have hs1 := hs0.below hba hs0.lt
    go_wp2_with fail
    refine (rof_any _ _ hy1).mono ?_
    rintro e wb ⟨rfl, hbb⟩
    have hs2 := hs1.below hbb hs1.lt
    have hd0 : wb.cell? ⟨w.heap.size, 0, none⟩ = some (.string ⟨#[]⟩) := hs2.cell 0
    have hd1 : wb.cell? ⟨w.heap.size, 1, none⟩ = some (.string ⟨#[]⟩) := hs2.cell 1
    have hf0 := hs2.frozen 0
    have hf1 := hs2.frozen 1
    have hza := hba.size
    simp at hza
    have hBw : Below w.heap.size w wb := (((Below.refl _ _).alloc (Nat.le_refl _) _).trans (hba.mono (by simp))).trans (hbb.mono (by omega))
    go_wp2
    refine bodyPost_ret (v := .tuple #[.agg #[Sv (Dm.str x), Sv (Dm.str y)], .bool o.isSome, .int .i64 0]) (by simp [results, Try.results12, go_sem, hd0, hd1]) rfl ⟨?_, (hBw.setCell (Nat.le_refl _) _).setCell (Nat.le_refl _) _⟩
    rw [TwoV, if_pos HE.out, HO.out, HQ.out]
  · have hz : (errOf (tl s) != 0) = true := by simp [he]
    have HE := Lib.hid he
    clear he
    go_enter Try.func12, Try.ntmps12
    go_wp2_with (first | (go_at_call 24; refine (number_any s _ hl).mono ?_; rintro e w' ⟨rfl, rfl⟩))
    refine bodyPost_ret (v := .tuple #[.agg #[Sv [], Sv []], .bool false, .int .i64 (errOf (tl s))]) (by simp [results, Try.results12, go_sem, Sv, bs]) rfl ⟨?_, (Below.refl _ _).alloc (Nat.le_refl _) _⟩
    rw [TwoV, if_neg HE.out]
end Go.Proofs.Ytdbhmhabgbfplaa
