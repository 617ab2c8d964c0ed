/-
  Walks over foursquares: two and three, and the reference's.
-/
import Derived.Test.YtdbhmhabgbfplaaFsWalk1
namespace Go.Proofs.Ytdbhmhabgbfplaa
open Go.RowKit
set_option linter.unusedVariables false

/-- what a search for a pair returns, as the code lays it out -/
def pairOf (o : Option (Nat × Nat)) : Nat × Nat := o.getD (0, 0)
def twoV (o : Option (Nat × Nat)) : Value := .tuple #[.agg #[.int .u64 (pairOf o).1, .int .u64 (pairOf o).2], .bool o.isSome]

def TwoRel (n m : Nat) (x : Value) : Prop := ∃ X : Nat, x = .int .u64 (X : Int) ∧ X * X ≤ n ∧ Dm.twoFrom n X = Dm.two n m

set_option maxHeartbeats 1000000 in
theorem two_any (n m : Nat) (w : World) (h1 : n < 4294967296) (h2 : m < 4294967296) :
    Calls Try.prog 23 #[.int .u64 n, .int .u64 m] w fun e w' => e = .returned (twoV (Dm.two n m)) ∧ Below w.heap.size w w' := by
  have hr : Dm.rt n < 65536 := Dm.rt_lt (by omega)
  have hr2 : Dm.rt n * Dm.rt n ≤ n := (Dm.rt_spec n).1
  go_enter Try.func23, Try.ntmps23
  go_wp2_with (go_at_call 31; refine (root_any _ _ h1).mono ?_; rintro e w' ⟨rfl, rfl⟩)
  all_goals
    go_loop [6] (TwoRel n m) (fun x => (intOf x).toNat)
    case atStart => first | exact ⟨m, rfl, Nat.le_trans (Dm.sq_le (by omega)) hr2, by unfold Dm.two; rw [Nat.min_eq_right (by omega)]⟩ | exact ⟨Dm.rt n, rfl, hr2, by unfold Dm.two; rw [Nat.min_eq_left (by omega)]⟩
    case round =>
      obtain ⟨X, rfl, hx, hX⟩ := hrel
      have HX := Lib.hid hX
      clear hX
      have hlt : X < 65536 := Dm.lt_of_sq_lt (b := 65536) (by omega)
      have hxx : (X : Int) * (X : Int) ≤ (n : Int) := by rw [← Int.natCast_mul]; omega
      have hxx0 : 0 ≤ (X : Int) * (X : Int) := Int.mul_nonneg (by omega) (by omega)
      have h2x : 2 * (X : Int) * (X : Int) ≤ 8589934592 := by rw [Int.mul_assoc]; omega
      have h2x0 : 0 ≤ 2 * (X : Int) * (X : Int) := by rw [Int.mul_assoc]; omega
      by_cases hst : 2 * (X : Int) * (X : Int) < (n : Int)
      · have hst' : 2 * X * X < n := by
          have : ((2 * X * X : Nat) : Int) < (n : Int) := by simpa [Int.natCast_mul] using hst
          omega
        have HD := Lib.hid (Dm.twoFrom_stop hst')
        clear hst'
        go_wp2_with fail
        refine bodyPost_ret (v := .tuple #[.agg #[.int .u64 0, .int .u64 0], .bool false]) (by simp [results, Try.results23, go_sem]) rfl ⟨?_, (Below.refl _ _).alloc (Nat.le_refl _) _⟩
        rw [← HX.out, HD.out]; rfl
      · have hst' : ¬ 2 * X * X < n := by
          intro h
          exact hst (by have : ((2 * X * X : Nat) : Int) < (n : Int) := by omega
                        simpa [Int.natCast_mul] using this)
        have HS := Lib.hid hst'
        clear hst'
        have hsub : (n : Int) - (X : Int) * (X : Int) = ((n - X * X : Nat) : Int) := by rw [← Int.natCast_mul]; omega
        have HU := Lib.hid hsub
        clear hsub
        cases hone : Dm.oneB (n - X * X) X with
        | true =>
          have HD := Lib.hid (Dm.twoFrom_found HS.out hone)
          have HO := Lib.hid hone
          clear hone
          go_wp2_with (go_at_call 40; refine (one_at _ _ (n - X * X) X _ true _ HU.out rfl rfl HO.out (by omega)).mono ?_; rintro e w' ⟨rfl, rfl⟩)
          refine bodyPost_ret (v := .tuple #[.agg #[.int .u64 X, .int .u64 (Dm.rt (n - X * X))], .bool true]) (by simp [results, Try.results23, go_sem]) rfl ⟨?_, (Below.refl _ _).alloc (Nat.le_refl _) _⟩
          rw [← HX.out, HD.out]; rfl
        | false =>
          have HO := Lib.hid hone
          clear hone
          by_cases h0 : X = 0
          · subst h0
            exfalso
            have hn0 : n = 0 := by have := HS.out; omega
            have ho := HO.out
            rw [hn0] at ho
            simp [Dm.oneB, Dm.rt] at ho
          · have hpos : 1 ≤ X := by omega
            have hne : ((X : Int) == 0) = false := by simp; omega
            clear h0
            have HD : Hid (Dm.twoFrom n X = Dm.twoFrom n (X - 1)) := by
              obtain ⟨Y, rfl⟩ : ∃ Y, X = Y + 1 := ⟨X - 1, by omega⟩
              exact Dm.twoFrom_on HS.out HO.out
            go_wp2_with (go_at_call 40; refine (one_at _ _ (n - X * X) X _ false _ HU.out rfl rfl HO.out (by omega)).mono ?_; rintro e w' ⟨rfl, rfl⟩)
            go_round
            case rel => exact ⟨X - 1, val_int (by omega), Nat.le_trans (Dm.sq_le (by omega)) hx, by rw [← HD.out]; exact HX.out⟩
            case measure => simp [intOf]; omega

theorem two_at (a b : Int) (n m : Nat) (o : Option (Nat × Nat)) (w : World) (ha : a = n) (hb : b = m) (ho : Dm.two n m = o) (h1 : n < 4294967296) (h2 : m < 4294967296) :
    Calls Try.prog 23 #[.int .u64 a, .int .u64 b] w fun e w' => e = .returned (twoV o) ∧ Below w.heap.size w w' := by
  subst ha hb ho
  exact two_any n m w h1 h2

def tripleOf (o : Option (Nat × Nat × Nat)) : Nat × Nat × Nat := o.getD (0, 0, 0)
def threeV (o : Option (Nat × Nat × Nat)) : Value := .tuple #[.agg #[.int .u64 (tripleOf o).1, .int .u64 (tripleOf o).2.1, .int .u64 (tripleOf o).2.2], .bool o.isSome]

def three0 : Obj := .cells #[.int .u64 0, .int .u64 0, .int .u64 0] 66
def ThreeRel (n m : Nat) (w : World) (x : Value) (wr : World) : Prop := ∃ X : Nat, x = .int .u64 (X : Int) ∧ X * X ≤ n ∧ Dm.threeFrom n X = Dm.three n m ∧ Below (w.heap.size + 1) (w.alloc three0) wr

set_option maxHeartbeats 1000000 in
theorem three_any (n m : Nat) (w : World) (h1 : n < 4294967296) (h2 : m < 4294967296) :
    Calls Try.prog 28 #[.int .u64 n, .int .u64 m] w fun e w' => e = .returned (threeV (Dm.three n m)) ∧ Below w.heap.size w w' := by
  have hr : Dm.rt n < 65536 := Dm.rt_lt (by omega)
  have hr2 : Dm.rt n * Dm.rt n ≤ n := (Dm.rt_spec n).1
  go_enter Try.func28, Try.ntmps28
  go_wp2_with (go_at_call 31; refine (root_any _ _ h1).mono ?_; rintro e w' ⟨rfl, rfl⟩)
  all_goals
    go_loopw [6] (ThreeRel n m w) (fun x _ => (intOf x).toNat)
    case atStart => first | exact ⟨m, rfl, Nat.le_trans (Dm.sq_le (by omega)) hr2, by unfold Dm.three; rw [Nat.min_eq_right (by omega)], Below.refl _ _⟩ | exact ⟨Dm.rt n, rfl, hr2, by unfold Dm.three; rw [Nat.min_eq_left (by omega)], Below.refl _ _⟩
    case round =>
      obtain ⟨X, rfl, hx, hX, hB⟩ := hrel
      have HX := Lib.hid hX
      clear hX
      have hlt : X < 65536 := Dm.lt_of_sq_lt (b := 65536) (by omega)
      have hxx : (X : Int) * (X : Int) ≤ (n : Int) := by rw [← Int.natCast_mul]; omega
      have hxx0 : 0 ≤ (X : Int) * (X : Int) := Int.mul_nonneg (by omega) (by omega)
      have h2x : 3 * (X : Int) * (X : Int) ≤ 12884901888 := by rw [Int.mul_assoc]; omega
      have h2x0 : 0 ≤ 3 * (X : Int) * (X : Int) := by rw [Int.mul_assoc]; omega
      have hz : w.heap.size + 1 ≤ wr.heap.size := by have := hB.size; simpa using this
      have hc0 : wr.cell? ⟨w.heap.size, 0, none⟩ = some (.int .u64 0) := by rw [hB.cell (p := ⟨_, _, _⟩) (by simp)]; simp [three0, go_sem]
      have hc1 : wr.cell? ⟨w.heap.size, 1, none⟩ = some (.int .u64 0) := by rw [hB.cell (p := ⟨_, _, _⟩) (by simp)]; simp [three0, go_sem]
      have hc2 : wr.cell? ⟨w.heap.size, 2, none⟩ = some (.int .u64 0) := by rw [hB.cell (p := ⟨_, _, _⟩) (by simp)]; simp [three0, go_sem]
      have hf0 : wr.frozen? ⟨w.heap.size, 0, none⟩ = false := by rw [hB.frozen (p := ⟨_, _, _⟩) (by simp)]; simp [three0, go_sem]
      have hf1 : wr.frozen? ⟨w.heap.size, 1, none⟩ = false := by rw [hB.frozen (p := ⟨_, _, _⟩) (by simp)]; simp [three0, go_sem]
      have hf2 : wr.frozen? ⟨w.heap.size, 2, none⟩ = false := by rw [hB.frozen (p := ⟨_, _, _⟩) (by simp)]; simp [three0, go_sem]
      have hz0 : w.heap.size < wr.heap.size := by omega
      have hBw : Below w.heap.size w wr := ((Below.refl _ _).alloc (Nat.le_refl _) three0).trans (hB.mono (by omega))
      by_cases hst : 3 * (X : Int) * (X : Int) < (n : Int)
      · have hst' : 3 * X * X < n := by
          have : ((3 * X * X : Nat) : Int) < (n : Int) := by simpa [Int.natCast_mul] using hst
          omega
        have HD := Lib.hid (Dm.threeFrom_stop hst')
        clear hst'
        go_wp2_with fail
        refine bodyPost_ret (v := .tuple #[.agg #[.int .u64 0, .int .u64 0, .int .u64 0], .bool false]) (by simp [results, Try.results28, go_sem, hc0, hc1, hc2]) rfl ⟨?_, ?_⟩
        · rw [← HX.out, HD.out]; rfl
        · exact (by repeat (first | exact hBw | (refine Below.setCell ?_ (by simp) _) | (refine Below.alloc ?_ (by simp; omega) _) | refine Below.drew ?_))
      · have hst' : ¬ 3 * X * X < n := by
          intro h
          exact hst (by have : ((3 * X * X : Nat) : Int) < (n : Int) := by omega
                        simpa [Int.natCast_mul] using this)
        have HS := Lib.hid hst'
        clear hst'
        have hsub : (n : Int) - (X : Int) * (X : Int) = ((n - X * X : Nat) : Int) := by rw [← Int.natCast_mul]; omega
        have HU := Lib.hid hsub
        clear hsub
        cases htwo : Dm.two (n - X * X) X with
        | some p =>
          have HD := Lib.hid (Dm.threeFrom_found HS.out htwo)
          have HO := Lib.hid htwo
          clear htwo
          go_wp2_with (go_at_call 23; refine (two_at _ _ (n - X * X) X (some p) _ HU.out rfl HO.out (by omega) (by omega)).mono ?_; rintro e w1 ⟨rfl, hb1⟩; simp only [twoV, pairOf, Option.getD_some, Option.isSome_some]; obtain ⟨hcc, hff⟩ := bcell hb1; have hz1 := hb1.size; have hz2 : w.heap.size < w1.heap.size := by omega)
          have hBw1 : Below w.heap.size w w1 := hBw.trans (hb1.mono (by omega))
          refine bodyPost_ret (v := .tuple #[.agg #[.int .u64 X, .int .u64 p.1, .int .u64 p.2], .bool true]) (by simp [results, Try.results28, go_sem, hc0, hc1, hc2, hcc, hz2, hz0]) rfl ⟨?_, ?_⟩
          · rw [← HX.out, HD.out]; rfl
          · exact (by repeat (first | exact hBw | exact hBw1 | (refine Below.setCell ?_ (by simp) _) | (refine Below.alloc ?_ (by simp; omega) _) | refine Below.drew ?_))
        | none =>
          have HO := Lib.hid htwo
          clear htwo
          by_cases h0 : X = 0
          · subst h0
            exfalso
            have hn0 : n = 0 := by have := HS.out; omega
            have ho := HO.out
            rw [hn0] at ho
            simp [Dm.two, Dm.twoFrom, Dm.oneB, Dm.rt] at ho
          · have hpos : 1 ≤ X := by omega
            have hne : ((X : Int) == 0) = false := by simp; omega
            clear h0
            have HD : Hid (Dm.threeFrom n X = Dm.threeFrom n (X - 1)) := by
              obtain ⟨Y, rfl⟩ : ∃ Y, X = Y + 1 := ⟨X - 1, by omega⟩
              exact Dm.threeFrom_on HS.out HO.out
            go_wp2_with (go_at_call 23; refine (two_at _ _ (n - X * X) X none _ HU.out rfl HO.out (by omega) (by omega)).mono ?_; rintro e w1 ⟨rfl, hb1⟩; simp only [twoV, pairOf, Option.getD_none, Option.isSome_none]; obtain ⟨hcc, hff⟩ := bcell hb1; have hz1 := hb1.size; have hz2 : w.heap.size < w1.heap.size := by omega)
            go_roundw
            case rel => exact ⟨X - 1, val_int (by omega), Nat.le_trans (Dm.sq_le (by omega)) hx, by rw [← HD.out]; exact HX.out, (hB.trans (hb1.mono (by omega))).alloc (by omega) _⟩
            case measure => simp [intOf]; omega
theorem three_at (a b : Int) (n m : Nat) (o : Option (Nat × Nat × Nat)) (w : World) (ha : a = n) (hb : b = m) (ho : Dm.three n m = o) (h1 : n < 4294967296) (h2 : m < 4294967296) :
    Calls Try.prog 28 #[.int .u64 a, .int .u64 b] w fun e w' => e = .returned (threeV o) ∧ Below w.heap.size w w' := by
  subst ha hb ho
  exact three_any n m w h1 h2
end Go.Proofs.Ytdbhmhabgbfplaa
