/-
  Walks over the reference's two and three of foursquares.
-/
import Derived.Test.YtdbhmhabgbfplaaFsWalk2
namespace Go.Proofs.Ytdbhmhabgbfplaa
open Go.RowKit
set_option linter.unusedVariables false

def refTwoV (o : Option (Nat × Nat)) : Value := .tuple #[.int .i64 (pairOf o).1, .int .i64 (pairOf o).2, .bool o.isSome]
def RefTwoRel (n m : Nat) (x : Value) : Prop := (∃ X : Nat, x = .int .i64 (X : Int) ∧ X * X ≤ n ∧ Dm.twoFrom n X = Dm.two n m) ∨ (x = .int .i64 (-1) ∧ Dm.two n m = none)

set_option maxHeartbeats 1000000 in
theorem ref_two_any (n m : Nat) (w : World) (h1 : n < 4294967296) (h2 : m < 4294967296) :
    Calls Try.prog 25 #[.int .i64 n, .int .i64 m] w fun e w' => e = .returned (refTwoV (Dm.two n m)) ∧ w = w' := by
  have hr : Dm.rt n < 65536 := Dm.rt_lt (by omega)
  have hr2 : Dm.rt n * Dm.rt n ≤ n := (Dm.rt_spec n).1
  go_enter Try.func25, Try.ntmps25
  go_wp2_with (go_at_call 32; refine (ref_root_any _ _ h1).mono ?_; rintro e w' ⟨rfl, rfl⟩)
  all_goals
    go_loop [7] (RefTwoRel n m) (fun x => (intOf x + 1).toNat)
    case atStart => first | exact .inl ⟨m, rfl, Nat.le_trans (Dm.sq_le (by omega)) hr2, by unfold Dm.two; rw [Nat.min_eq_right (by omega)]⟩ | exact .inl ⟨Dm.rt n, rfl, hr2, by unfold Dm.two; rw [Nat.min_eq_left (by omega)]⟩
    case round =>
      rcases hrel with ⟨X, rfl, hx, hX⟩ | ⟨rfl, hX⟩
      · have HX := Lib.hid hX
        clear hX
        have hlt : X < 65536 := Dm.lt_of_sq_lt (b := 65536) (by omega)
        have hxx : (X : Int) * (X : Int) ≤ (n : Int) := by rw [← Int.natCast_mul]; omega
        have hxx0 : 0 ≤ (X : Int) * (X : Int) := Int.mul_nonneg (by omega) (by omega)
        have h2x : 2 * (X : Int) * (X : Int) ≤ 8589934592 := by rw [Int.mul_assoc]; omega
        have h2x0 : 0 ≤ 2 * (X : Int) * (X : Int) := by rw [Int.mul_assoc]; omega
        by_cases hst : 2 * (X : Int) * (X : Int) < (n : Int)
        · have hst' : 2 * X * X < n := by
            have : ((2 * X * X : Nat) : Int) < (n : Int) := by simpa [Int.natCast_mul] using hst
            omega
          have HD := Lib.hid (Dm.twoFrom_stop hst')
          clear hst'
          go_wp2_with fail
          go_ret3
          exact ⟨by rw [← HX.out, HD.out]; rfl, rfl⟩
        · have hst' : ¬ 2 * X * X < n := by
            intro h
            exact hst (by have : ((2 * X * X : Nat) : Int) < (n : Int) := by omega
                          simpa [Int.natCast_mul] using this)
          have hge : (n : Int) ≤ 2 * (X : Int) * (X : Int) := by omega
          have HS := Lib.hid hst'
          clear hst' hst
          have hsub : (n : Int) - (X : Int) * (X : Int) = ((n - X * X : Nat) : Int) := by rw [← Int.natCast_mul]; omega
          have HU := Lib.hid hsub
          have hr0 : Dm.rt (n - X * X) < 65536 := Dm.rt_lt (by omega)
          have hrr : (Dm.rt (n - X * X) : Int) * (Dm.rt (n - X * X) : Int) ≤ 4294967296 := by
            have := (Dm.rt_spec (n - X * X)).1
            rw [← Int.natCast_mul]; omega
          have hrr0 : 0 ≤ (Dm.rt (n - X * X) : Int) * (Dm.rt (n - X * X) : Int) := Int.mul_nonneg (by omega) (by omega)
          have hb : Dm.oneB (n - X * X) X = (((Dm.rt (n - X * X) : Int) * (Dm.rt (n - X * X) : Int) == (n : Int) - (X : Int) * (X : Int)) && decide ((Dm.rt (n - X * X) : Int) ≤ (X : Int))) := by
            rw [hsub]
            unfold Dm.oneB
            rw [Bool.eq_iff_iff]
            simp
            intro _
            rw [← Int.natCast_mul]
            omega
          clear hsub
          have HB := Lib.hid hb
          clear hb
          have ht : ∀ Y : Nat, X = Y + 1 → Dm.oneB (n - X * X) X = false → Dm.twoFrom n X = Dm.twoFrom n Y := fun Y e ho => by subst e; exact Dm.twoFrom_on HS.out ho
          have HT := Lib.hid ht
          clear ht
          by_cases hq : (Dm.rt (n - X * X) : Int) * (Dm.rt (n - X * X) : Int) = (n : Int) - (X : Int) * (X : Int)
          · have hq' : ((Dm.rt (n - X * X) : Int) * (Dm.rt (n - X * X) : Int) == (n : Int) - (X : Int) * (X : Int)) = true := by simpa using hq
            have HQ := Lib.hid hq'
            clear hq
            by_cases hl : (Dm.rt (n - X * X) : Int) ≤ (X : Int)
            · have HD := Lib.hid (Dm.twoFrom_found HS.out (by rw [HB.out, hq']; simpa using hl))
              go_wp2_with (go_at_call 32; refine (ref_root_at _ (n - X * X) _ _ HU.out rfl (by omega)).mono ?_; rintro e w' ⟨rfl, rfl⟩)
              go_ret3
              exact ⟨by rw [← HX.out, HD.out]; rfl, rfl⟩
            · have ho : Dm.oneB (n - X * X) X = false := by rw [HB.out, hq']; simp; omega
              have HO := Lib.hid ho
              clear ho
              go_wp2_with (go_at_call 32; refine (ref_root_at _ (n - X * X) _ _ HU.out rfl (by omega)).mono ?_; rintro e w' ⟨rfl, rfl⟩)
              go_round
              case rel =>
                by_cases h0 : X = 0
                · exact .inr ⟨val_int (by omega), by rw [← HX.out, h0]; exact Dm.twoFrom_end (by have := HO.out; rwa [h0] at this)⟩
                · exact .inl ⟨X - 1, val_int (by omega), Nat.le_trans (Dm.sq_le (by omega)) hx, by rw [← HT.out (X - 1) (by omega) HO.out]; exact HX.out⟩
              case measure => simp [intOf] <;> omega
          · have hq' : ((Dm.rt (n - X * X) : Int) * (Dm.rt (n - X * X) : Int) == (n : Int) - (X : Int) * (X : Int)) = false := by simpa using hq
            have ho : Dm.oneB (n - X * X) X = false := by rw [HB.out, hq']; simp
            have HO := Lib.hid ho
            clear ho hq
            go_wp2_with (go_at_call 32; refine (ref_root_at _ (n - X * X) _ _ HU.out rfl (by omega)).mono ?_; rintro e w' ⟨rfl, rfl⟩)
            go_round
            case rel =>
              by_cases h0 : X = 0
              · exact .inr ⟨val_int (by omega), by rw [← HX.out, h0]; exact Dm.twoFrom_end (by have := HO.out; rwa [h0] at this)⟩
              · exact .inl ⟨X - 1, val_int (by omega), Nat.le_trans (Dm.sq_le (by omega)) hx, by rw [← HT.out (X - 1) (by omega) HO.out]; exact HX.out⟩
            case measure => simp [intOf] <;> omega
      · have HX := Lib.hid hX
        clear hX
        go_wp2_with fail
        go_ret3
        exact ⟨by rw [HX.out]; rfl, rfl⟩
theorem ref_two_at (a b : Int) (n m : Nat) (o : Option (Nat × Nat)) (w : World) (ha : a = n) (hb : b = m) (ho : Dm.two n m = o) (h1 : n < 4294967296) (h2 : m < 4294967296) :
    Calls Try.prog 25 #[.int .i64 a, .int .i64 b] w fun e w' => e = .returned (refTwoV o) ∧ w = w' := by
  subst ha hb ho
  exact ref_two_any n m w h1 h2

/-- a new slice of three numbers, and a bool -/
def Slice3 (w : World) (x y z : Nat) (ok : Bool) (e : Ending) (w' : World) : Prop :=
  ∃ g, w.heap.size ≤ g ∧ e = .returned (.tuple #[.slice (some ⟨g, 0, none⟩) 3 3, .bool ok]) ∧ Blk w' g 3 [.int .i64 x, .int .i64 y, .int .i64 z] ∧ Below w.heap.size w w'
def refThree (o : Option (Nat × Nat × Nat)) (w : World) : Ending → World → Prop := Slice3 w (tripleOf o).1 (tripleOf o).2.1 (tripleOf o).2.2 o.isSome
theorem slice3_new (w : World) (x y z : Nat) (ok : Bool) (e : Ending) (h : e = .returned (.tuple #[.slice (some ⟨w.heap.size, 0, none⟩) 3 3, .bool ok])) :
    Slice3 w x y z ok e (w.alloc (.cells #[.int .i64 x, .int .i64 y, .int .i64 z] 3)) :=
  ⟨w.heap.size, Nat.le_refl _, h, Blk.new _ _ [_, _, _], (Below.refl _ _).alloc (Nat.le_refl _) _⟩

def RefThreeRel (n m : Nat) (x : Value) : Prop := (∃ X : Nat, x = .int .i64 (X : Int) ∧ X * X ≤ n ∧ Dm.threeFrom n X = Dm.three n m) ∨ (x = .int .i64 (-1) ∧ Dm.three n m = none)
set_option maxHeartbeats 1000000 in
theorem ref_three_any (n m : Nat) (w : World) (h1 : n < 4294967296) (h2 : m < 4294967296) :
    Calls Try.prog 30 #[.int .i64 n, .int .i64 m] w (refThree (Dm.three n m) w) := by
  have hr : Dm.rt n < 65536 := Dm.rt_lt (by omega)
  have hr2 : Dm.rt n * Dm.rt n ≤ n := (Dm.rt_spec n).1
  go_enter Try.func30, Try.ntmps30
  go_wp2_with (go_at_call 32; refine (ref_root_any _ _ h1).mono ?_; rintro e w' ⟨rfl, rfl⟩)
  all_goals
    go_loop [6] (RefThreeRel n m) (fun x => (intOf x + 1).toNat)
    case atStart => first | exact .inl ⟨m, rfl, Nat.le_trans (Dm.sq_le (by omega)) hr2, by unfold Dm.three; rw [Nat.min_eq_right (by omega)]⟩ | exact .inl ⟨Dm.rt n, rfl, hr2, by unfold Dm.three; rw [Nat.min_eq_left (by omega)]⟩
    case round =>
      rcases hrel with ⟨X, rfl, hx, hX⟩ | ⟨rfl, hX⟩
      · have HX := Lib.hid hX
        clear hX
        have hlt : X < 65536 := Dm.lt_of_sq_lt (b := 65536) (by omega)
        have hxx : (X : Int) * (X : Int) ≤ (n : Int) := by rw [← Int.natCast_mul]; omega
        have hxx0 : 0 ≤ (X : Int) * (X : Int) := Int.mul_nonneg (by omega) (by omega)
        have h2x : 3 * (X : Int) * (X : Int) ≤ 12884901888 := by rw [Int.mul_assoc]; omega
        have h2x0 : 0 ≤ 3 * (X : Int) * (X : Int) := by rw [Int.mul_assoc]; omega
        by_cases hst : 3 * (X : Int) * (X : Int) < (n : Int)
        · have hst' : 3 * X * X < n := by
            have : ((3 * X * X : Nat) : Int) < (n : Int) := by simpa [Int.natCast_mul] using hst
            omega
          have HD := Lib.hid (Dm.threeFrom_stop hst')
          clear hst'
          go_wp2_with fail
          go_ret2
          rw [← HX.out, HD.out]
          exact slice3_new _ 0 0 0 false _ rfl
        · have hst' : ¬ 3 * X * X < n := by
            intro h
            exact hst (by have : ((3 * X * X : Nat) : Int) < (n : Int) := by omega
                          simpa [Int.natCast_mul] using this)
          have hge : (n : Int) ≤ 3 * (X : Int) * (X : Int) := by omega
          have HS := Lib.hid hst'
          clear hst' hst
          have hsub : (n : Int) - (X : Int) * (X : Int) = ((n - X * X : Nat) : Int) := by rw [← Int.natCast_mul]; omega
          have HU := Lib.hid hsub
          clear hsub
          have ht : ∀ Y : Nat, X = Y + 1 → Dm.two (n - X * X) X = none → Dm.threeFrom n X = Dm.threeFrom n Y := fun Y e ho => by subst e; exact Dm.threeFrom_on HS.out ho
          have HT := Lib.hid ht
          clear ht
          cases htwo : Dm.two (n - X * X) X with
          | some p =>
            have HD := Lib.hid (Dm.threeFrom_found HS.out htwo)
            have HO := Lib.hid htwo
            clear htwo
            go_wp2_with (go_at_call 25; refine (ref_two_at _ _ (n - X * X) X (some p) _ HU.out rfl HO.out (by omega) (by omega)).mono ?_; rintro e w' ⟨rfl, rfl⟩; simp only [refTwoV, pairOf, Option.getD_some, Option.isSome_some])
            go_ret2
            rw [← HX.out, HD.out]
            exact slice3_new _ X p.1 p.2 true _ rfl
          | none =>
            have HO := Lib.hid htwo
            clear htwo
            go_wp2_with (go_at_call 25; refine (ref_two_at _ _ (n - X * X) X none _ HU.out rfl HO.out (by omega) (by omega)).mono ?_; rintro e w' ⟨rfl, rfl⟩; simp only [refTwoV, pairOf, Option.getD_none, Option.isSome_none])
            go_round
            case rel =>
              by_cases h0 : X = 0
              · exact .inr ⟨val_int (by omega), by rw [← HX.out, h0]; exact Dm.threeFrom_end (by have := HO.out; rwa [h0] at this)⟩
              · exact .inl ⟨X - 1, val_int (by omega), Nat.le_trans (Dm.sq_le (by omega)) hx, by rw [← HT.out (X - 1) (by omega) HO.out]; exact HX.out⟩
            case measure => simp [intOf] <;> omega
      · have HX := Lib.hid hX
        clear hX
        go_wp2_with fail
        go_ret2
        rw [HX.out]
        exact slice3_new _ 0 0 0 false _ rfl
theorem ref_three_at (a b : Int) (n m : Nat) (o : Option (Nat × Nat × Nat)) (w : World) (ha : a = n) (hb : b = m) (ho : Dm.three n m = o) (h1 : n < 4294967296) (h2 : m < 4294967296) :
    Calls Try.prog 30 #[.int .i64 a, .int .i64 b] w (refThree o w) := by
  subst ha hb ho
  exact ref_three_any n m w h1 h2
end Go.Proofs.Ytdbhmhabgbfplaa
