/-
  Walks over foursquares: Three, and the reference's.
-/
import Derived.Test.YtdbhmhabgbfplaaFsWalk4
namespace Go.Proofs.Ytdbhmhabgbfplaa
open Go.RowKit
set_option linter.unusedVariables false

theorem triple_lt {n m : Nat} (hn : n < 4294967296) : (tripleOf (Dm.three n m)).1 < 4294967296 ∧ (tripleOf (Dm.three n m)).2.1 < 4294967296 ∧ (tripleOf (Dm.three n m)).2.2 < 4294967296 := by
  cases h : Dm.three n m with
  | none => simp [tripleOf]
  | some p =>
    have h1 := Dm.three_some h
    simp only [tripleOf, Option.getD_some]
    have h2 : p.1 ≤ p.1 * p.1 := Nat.le_mul_self _
    have h3 : p.2.1 ≤ p.2.1 * p.2.1 := Nat.le_mul_self _
    have h4 : p.2.2 ≤ p.2.2 * p.2.2 := Nat.le_mul_self _
    omega

theorem seven_at (a : Int) (n : Nat) (v : Bool) (w : World) (ha : a = n) (hv : Dm.seven n = v) (h1 : n < 4294967296) :
    Calls Try.prog 27 #[.int .u64 a] w fun e w' => e = .returned (.bool v) ∧ w = w' := by
  subst ha hv
  exact seven_any n w h1
theorem ref_seven_at (a : Int) (n : Nat) (v : Bool) (w : World) (ha : a = n) (hv : Dm.seven n = v) (h1 : n < 4294967296) :
    Calls Try.prog 29 #[.int .i64 a] w fun e w' => e = .returned (.bool v) ∧ w = w' := by
  subst ha hv
  exact ref_seven_any n w h1
/-- the triple that Three searches: none if the number has the form of the sevens -/
def threeOf (l : List UInt8) : Option (Nat × Nat × Nat) := if Dm.seven (numOf l) then none else Dm.three (numOf l) (numOf l)
/-- what Three returns -/
def ThreeW (l : List UInt8) : Value :=
  if errOf l = 0 then .tuple #[.agg #[Sv (Dm.str (tripleOf (threeOf l)).1), Sv (Dm.str (tripleOf (threeOf l)).2.1), Sv (Dm.str (tripleOf (threeOf l)).2.2)], .bool (threeOf l).isSome, .int .i64 0]
  else .tuple #[.agg #[Sv [], Sv [], Sv []], .bool false, .int .i64 (errOf l)]

set_option maxHeartbeats 1000000 in
theorem Three_any (s : ByteArray) (w : World) (hl : s.size ≤ 1073741824) :
    Calls Try.prog 13 #[.string s] w fun e w' => e = .returned (ThreeW (tl s)) ∧ Below w.heap.size w w' := by
  by_cases he : errOf (tl s) = 0
  · have hz : (errOf (tl s) != 0) = false := by simp [he]
    have HE := Lib.hid he
    have hn := numOf_lt (tl s)
    clear he
    cases h7 : Dm.seven (numOf (tl s)) with
    | false =>
      have hp := triple_lt (m := numOf (tl s)) hn
      obtain ⟨o, ho⟩ : ∃ o, Dm.three (numOf (tl s)) (numOf (tl s)) = o := ⟨_, rfl⟩
      rw [ho] at hp
      have HT : Hid (threeOf (tl s) = o) := by show _ = _; rw [threeOf, h7]; exact ho
      have HO := Lib.hid ho
      have H7 := Lib.hid h7
      clear ho h7
      rcases hpq : tripleOf o with ⟨x, y, z⟩
      have hv : threeV o = .tuple #[.agg #[.int .u64 x, .int .u64 y, .int .u64 z], .bool o.isSome] := by simp [threeV, hpq]
      rw [hpq] at hp
      simp only at hp
      have hx1 : x < 18446744073709551616 := by omega
      have hy1 : y < 18446744073709551616 := by omega
      have hz1 : z < 18446744073709551616 := by omega
      have HV := Lib.hid hv
      have HQ := Lib.hid hpq
      clear hv hpq hp
      go_enter Try.func13, Try.ntmps13
      go_wp2_with (first | (go_at_call 22; refine (fsmall_any s _ hl).mono ?_; rintro e w' ⟨rfl, rfl⟩) | (go_at_call 27; refine (seven_at _ _ false _ rfl H7.out hn).mono ?_; rintro e w' ⟨rfl, rfl⟩) | (go_at_call 28; refine (three_at _ _ (numOf (tl s)) (numOf (tl s)) o _ rfl rfl HO.out hn hn).mono ?_; rintro e w1 ⟨rfl, hb1⟩; rw [HV.out]))
      have hBw : Below w.heap.size w w1 := ((Below.refl _ _).alloc (Nat.le_refl _) _).trans (hb1.mono (by simp))
      have hs0 := Stg.make (w := w) ((Blk.new w 31 [.string ⟨#[]⟩, .string ⟨#[]⟩, .string ⟨#[]⟩]).below hb1 (by simp)) (Nat.le_refl _) hBw 66 [.int .u64 x, .int .u64 y, .int .u64 z]
      have hs0d := hs0.drew
      clear hs0 hBw hb1
      have hne := hs0d.ne
      generalize w1.heap.size = g at *
      generalize w1.alloc (Obj.cells #[Value.int IntKind.u64 ↑x, Value.int IntKind.u64 ↑y, Value.int IntKind.u64 ↑z] 66) = W at *
      go_region_held3 (fun w' => w'.cell? ⟨g, 0, none⟩ = some (.int .u64 x) ∧ w'.cell? ⟨g, 1, none⟩ = some (.int .u64 y) ∧ w'.cell? ⟨g, 2, none⟩ = some (.int .u64 z)) (first | exact Blk.get3 (Stg.b1 (w := w) (by assumption)) | exact Blk.get3 ((((Stg.b1 (w := w) (by assumption)).far hne _).far hne _).far hne _))
        (first | (go_at_call 17; refine (of_any _ _ (by assumption)).mono ?_; rintro e wa ⟨rfl, hba⟩; have hs1 := Stg.next (w := w) (g := g) (by assumption) hba; have hd0 : wa.cell? ⟨w.heap.size, 0, none⟩ = some (.string ⟨#[]⟩) := hs1.b2.cell 0; have hd1 : wa.cell? ⟨w.heap.size, 1, none⟩ = some (.string ⟨#[]⟩) := hs1.b2.cell 1; have hd2 : wa.cell? ⟨w.heap.size, 2, none⟩ = some (.string ⟨#[]⟩) := hs1.b2.cell 2; have hf0 := hs1.b2.frozen 0; have hf1 := hs1.b2.frozen 1; have hf2 := hs1.b2.frozen 2))
      go_wp2
      refine bodyPost_ret (v := .tuple #[.agg #[Sv (Dm.str x), Sv (Dm.str y), Sv (Dm.str z)], .bool o.isSome, .int .i64 0]) (by simp [results, Try.results13, go_sem, hd0, hd1, hd2]) rfl ⟨?_, ((hs1.below.setCell (Nat.le_refl _) _).setCell (Nat.le_refl _) _).setCell (Nat.le_refl _) _⟩
      rw [ThreeW, if_pos HE.out, HT.out, HQ.out]
    | true =>
      have HT : Hid (threeOf (tl s) = none) := by show _ = _; rw [threeOf, h7]; rfl
      have H7 := Lib.hid h7
      clear h7
      go_enter Try.func13, Try.ntmps13
      go_wp2_with (first | (go_at_call 22; refine (fsmall_any s _ hl).mono ?_; rintro e w' ⟨rfl, rfl⟩) | (go_at_call 27; refine (seven_at _ _ true _ rfl H7.out hn).mono ?_; rintro e w' ⟨rfl, rfl⟩))
      refine bodyPost_ret (v := .tuple #[.agg #[Sv [], Sv [], Sv []], .bool false, .int .i64 (errOf (tl s))]) (by simp [results, Try.results13, go_sem, Sv, bs]) rfl ⟨?_, (Below.refl _ _).alloc (Nat.le_refl _) _⟩
      rw [ThreeW, if_pos HE.out, HT.out, HE.out]; rfl
  · have hz : (errOf (tl s) != 0) = true := by simp [he]
    have HE := Lib.hid he
    clear he
    go_enter Try.func13, Try.ntmps13
    go_wp2_with (first | (go_at_call 22; refine (fsmall_any s _ hl).mono ?_; rintro e w' ⟨rfl, rfl⟩))
    refine bodyPost_ret (v := .tuple #[.agg #[Sv [], Sv [], Sv []], .bool false, .int .i64 (errOf (tl s))]) (by simp [results, Try.results13, go_sem, Sv, bs]) rfl ⟨?_, (Below.refl _ _).alloc (Nat.le_refl _) _⟩
    rw [ThreeW, if_neg HE.out]

set_option maxHeartbeats 1000000 in
theorem ref_Three_any (s : ByteArray) (w : World) (hl : s.size ≤ 1073741824) :
    Calls Try.prog 14 #[.string s] w fun e w' => e = .returned (ThreeW (tl s)) ∧ Below w.heap.size w w' := by
  by_cases he : errOf (tl s) = 0
  · have hz : (errOf (tl s) != 0) = false := by simp [he]
    have HE := Lib.hid he
    have hn := numOf_lt (tl s)
    clear he
    cases h7 : Dm.seven (numOf (tl s)) with
    | false =>
      have hp := triple_lt (m := numOf (tl s)) hn
      obtain ⟨o, ho⟩ : ∃ o, Dm.three (numOf (tl s)) (numOf (tl s)) = o := ⟨_, rfl⟩
      rw [ho] at hp
      have HT : Hid (threeOf (tl s) = o) := by show _ = _; rw [threeOf, h7]; exact ho
      have HO := Lib.hid ho
      have H7 := Lib.hid h7
      clear ho h7
      rcases hpq : tripleOf o with ⟨x, y, z⟩
      rw [hpq] at hp
      simp only at hp
      obtain ⟨hx1, hy1, hz1⟩ := hp
      have HQ := Lib.hid hpq
      clear hpq
      go_enter Try.func14, Try.ntmps14
      go_wp2_with (first | (go_at_call 24; refine (number_any s _ hl).mono ?_; rintro e w' ⟨rfl, rfl⟩) | (go_at_call 29; refine (ref_seven_at _ _ false _ rfl H7.out hn).mono ?_; rintro e w' ⟨rfl, rfl⟩) | (go_at_call 30; refine (ref_three_at _ _ (numOf (tl s)) (numOf (tl s)) o _ rfl rfl HO.out hn hn).mono ?_; rintro e w1 hsl; rw [refThree, HQ.out] at hsl; obtain ⟨g, hg, rfl, hbk, hb1⟩ := hsl))
      have hs0 := (Stg.mk2 (w := w) hbk ((Blk.new w 31 [.string ⟨#[]⟩, .string ⟨#[]⟩, .string ⟨#[]⟩]).below hb1 (by simp)) (by simp at hg; omega) (Nat.le_refl _) (((Below.refl _ _).alloc (Nat.le_refl _) _).trans (hb1.mono (by simp)))).drew
      clear hbk hb1 hg
      have hne := hs0.ne
      go_region_held3 (fun w' => w'.cell? ⟨g, 0, none⟩ = some (.int .i64 x) ∧ w'.cell? ⟨g, 1, none⟩ = some (.int .i64 y) ∧ w'.cell? ⟨g, 2, none⟩ = some (.int .i64 z)) (first | exact Blk.get3 (Stg.b1 (w := w) (by assumption)) | exact Blk.get3 ((((Stg.b1 (w := w) (by assumption)).far hne _).far hne _).far hne _))
        (first | (go_at_call 26; refine (rof_any _ _ (by assumption)).mono ?_; rintro e wa ⟨rfl, hba⟩; have hs1 := Stg.next (w := w) (g := g) (by assumption) hba; have hd0 : wa.cell? ⟨w.heap.size, 0, none⟩ = some (.string ⟨#[]⟩) := hs1.b2.cell 0; have hd1 : wa.cell? ⟨w.heap.size, 1, none⟩ = some (.string ⟨#[]⟩) := hs1.b2.cell 1; have hd2 : wa.cell? ⟨w.heap.size, 2, none⟩ = some (.string ⟨#[]⟩) := hs1.b2.cell 2; have hf0 := hs1.b2.frozen 0; have hf1 := hs1.b2.frozen 1; have hf2 := hs1.b2.frozen 2))
      go_wp2
      refine bodyPost_ret (v := .tuple #[.agg #[Sv (Dm.str x), Sv (Dm.str y), Sv (Dm.str z)], .bool o.isSome, .int .i64 0]) (by simp [results, Try.results14, go_sem, hd0, hd1, hd2]) rfl ⟨?_, ((hs1.below.setCell (Nat.le_refl _) _).setCell (Nat.le_refl _) _).setCell (Nat.le_refl _) _⟩
      rw [ThreeW, if_pos HE.out, HT.out, HQ.out]
    | true =>
      have HT : Hid (threeOf (tl s) = none) := by show _ = _; rw [threeOf, h7]; rfl
      have H7 := Lib.hid h7
      clear h7
      go_enter Try.func14, Try.ntmps14
      go_wp2_with (first | (go_at_call 24; refine (number_any s _ hl).mono ?_; rintro e w' ⟨rfl, rfl⟩) | (go_at_call 29; refine (ref_seven_at _ _ true _ rfl H7.out hn).mono ?_; rintro e w' ⟨rfl, rfl⟩))
      refine bodyPost_ret (v := .tuple #[.agg #[Sv [], Sv [], Sv []], .bool false, .int .i64 (errOf (tl s))]) (by simp [results, Try.results14, go_sem, Sv, bs]) rfl ⟨?_, (Below.refl _ _).alloc (Nat.le_refl _) _⟩
      rw [ThreeW, if_pos HE.out, HT.out, HE.out]; rfl
  · have hz : (errOf (tl s) != 0) = true := by simp [he]
    have HE := Lib.hid he
    clear he
    go_enter Try.func14, Try.ntmps14
    go_wp2_with (first | (go_at_call 24; refine (number_any s _ hl).mono ?_; rintro e w' ⟨rfl, rfl⟩))
    refine bodyPost_ret (v := .tuple #[.agg #[Sv [], Sv [], Sv []], .bool false, .int .i64 (errOf (tl s))]) (by simp [results, Try.results14, go_sem, Sv, bs]) rfl ⟨?_, (Below.refl _ _).alloc (Nat.le_refl _) _⟩
    rw [ThreeW, if_neg HE.out]
end Go.Proofs.Ytdbhmhabgbfplaa
