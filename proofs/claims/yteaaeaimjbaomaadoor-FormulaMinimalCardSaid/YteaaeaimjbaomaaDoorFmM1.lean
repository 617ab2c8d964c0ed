/-
  dominoref20: before, Holds.
-/
import Derived.Test.YteaaeaimjbaomaaDoorFmE1
import Derived.Test.YteaaeaimjbaomaaDoorFmN
namespace Go.Proofs.YteaaeaimjbaomaaDoor
open Go.RowKit
set_option linter.unusedVariables false

def lexI : List Int → List Int → Bool
  | [], y => decide (0 < y.length)
  | _ :: _, [] => false
  | a :: x, b :: y => if a = b then lexI x y else decide (a < b)
theorem lexI_end {x y : List Int} (h : x.length = 0 ∨ y.length = 0) : lexI x y = decide (x.length < y.length) := by
  cases x with
  | nil => rfl
  | cons a x =>
    cases y with
    | nil => simp [lexI]
    | cons b y => simp at h
theorem lexI_step {x y : List Int} {i : Nat} {a b : Int} (hx : x[i]? = some a) (hy : y[i]? = some b) : lexI (x.drop i) (y.drop i) = if a = b then lexI (x.drop (i + 1)) (y.drop (i + 1)) else decide (a < b) := by
  obtain ⟨hi, rfl⟩ := List.getElem?_eq_some_iff.1 hx
  obtain ⟨hj, rfl⟩ := List.getElem?_eq_some_iff.1 hy
  rw [List.drop_eq_getElem_cons hi, List.drop_eq_getElem_cons hj, lexI]
set_option maxRecDepth 20000 in
set_option maxHeartbeats 4000000 in
theorem rbefore_any (A B : Option Addr) (c d : Nat) (x y : List Int) (W : World) (hx : Ints W W.heap.size A x) (hy : Ints W W.heap.size B y) (hxl : x.length ≤ 1000000) (hyl : y.length ≤ 1000000) :
    Calls Tryd.prog 49 #[.slice A x.length c, .slice B y.length d] W fun e w' => e = .returned (.bool (lexI x y)) ∧ Below W.heap.size W w' := by
  have HV0 : Hid (lexI x y = lexI (x.drop 0) (y.drop 0)) := Lib.hid rfl
  generalize lexI x y = v at *
  go_enter Tryd.func49, Tryd.ntmps49
  go_upto_region 2 with fail
  go_loopg [5] x.length (fun m s5 wx => ∃ i : Nat, i ≤ x.length ∧ i ≤ y.length ∧ m = x.length - i ∧ s5 = .int .i64 (i : Int) ∧ Below W.heap.size W wx ∧ Hid (v = lexI (x.drop i) (y.drop i)))
  case atStart => exact ⟨0, Nat.zero_le _, Nat.zero_le _, rfl, rfl, Below.refl _ _, HV0⟩
  case round =>
    obtain ⟨i, hi, hiy0, rfl, rfl, hb, HI⟩ := hrel
    by_cases hil : i < x.length
    · have hii : (i : Int) < (x.length : Int) := by omega
      have hi0 : (0 : Int) ≤ (i : Int) := by omega
      by_cases hyl2 : i < y.length
      · have hiy : (i : Int) < (y.length : Int) := by omega
        obtain ⟨a, ha⟩ : ∃ a, x[i]? = some a := ⟨_, List.getElem?_eq_getElem hil⟩
        obtain ⟨b, hb9⟩ : ∃ b, y[i]? = some b := ⟨_, List.getElem?_eq_getElem hyl2⟩
        have HS := Lib.hid (HI.out.trans (lexI_step ha hb9))
        obtain ⟨ad, rfl, ca⟩ := hx.read hb ha
        obtain ⟨bd, rfl, cb⟩ := hy.read hb hb9
        by_cases hab : a = b
        · subst hab
          have HI2 : Hid (v = lexI (x.drop (i + 1)) (y.drop (i + 1))) := Lib.hid (HS.out.trans (if_pos rfl))
          have htt : (a != a) = false := by simp
          clear HI HS ha hb9 HV0
          go_upto_region 4 with fail
          go_quiet (fail)
          go_wp2_with fail
          go_roundg (x.length - (i + 1))
          case measure => omega
          case rel => exact ⟨i + 1, hil, hyl2, rfl, by first | rfl | simp, below_drewN hb nq, HI2⟩
        · have hff : (a != b) = true := by rw [bne_iff_ne]; exact hab
          have HI2 : Hid (v = decide (a < b)) := Lib.hid (HS.out.trans (if_neg hab))
          clear HI HS ha hb9 HV0 hab
          go_upto_region 4 with fail
          go_quiet (fail)
          have hb2 := below_drewN hb nq
          go_upto_region 5 with fail
          first | go_region_held3 (fun w' => w'.cell? (ad.add i) = some (.int .i64 a) ∧ w'.cell? (bd.add i) = some (.int .i64 b)) (exact ⟨ca, cb⟩) (fail) | fail
          go_wp2_with fail
          go_ret
          rw [HI2.out]
          exact ⟨rfl, by first | exact hb2.drew | exact hb2⟩
      · have hiy : ¬ (i : Int) < (y.length : Int) := by omega
        have hV : Hid (v = decide (x.length < y.length)) := by
          refine Lib.hid (HI.out.trans ((lexI_end (.inr (by simp; omega))).trans ?_))
          simp only [List.length_drop]
          congr 1
          apply propext
          omega
        clear HI HV0
        go_wp2_with fail
        go_ret
        rw [hV.out]
        exact ⟨by first | rfl | (congr 4; simp), hb⟩
    · have hii : ¬ (i : Int) < (x.length : Int) := by omega
      have hV : Hid (v = decide (x.length < y.length)) := by
        refine Lib.hid (HI.out.trans ((lexI_end (.inl (by simp; omega))).trans ?_))
        simp only [List.length_drop]
        congr 1
        apply propext
        omega
      clear HI HV0
      go_wp2_with fail
      go_ret
      rw [hV.out]
      exact ⟨by first | rfl | (congr 4; simp), hb⟩
set_option maxRecDepth 20000 in
set_option maxHeartbeats 4000000 in
theorem rholds_any (A LA : Option Addr) (c lc : Nat) (F : List Gt) (L : List Bool) (hF : F.length ≤ 512) (hK : ∀ g ∈ F, g.kids.length ≤ 1000000) (h0 : checkP F L.length = 0) (w : World) (hG : Gates w w.heap.size A F) (hL : Bools w w.heap.size LA L) (hLl : L.length ≤ 1000000) :
    Calls Tryd.prog 48 #[.agg #[.slice A F.length c], .slice LA L.length lc] w fun e w' => e = .returned (.bool (holdsP F L)) ∧ Below w.heap.size w w' := by
  have hk := (Below.refl w.heap.size w).alloc (Nat.le_refl _) (.cells #[.slice A F.length c] 24)
  have c0 : (w.alloc (.cells #[.slice A F.length c] 24)).cell? ⟨w.heap.size, 0, none⟩ = some (.slice A F.length c) := (show Blk (w.alloc (.cells #[.slice A F.length c] 24)) w.heap.size 24 [.slice A F.length c] from Blk.new w _ _).cell 0
  have hs : w.heap.size ≤ (w.alloc (.cells #[.slice A F.length c] 24)).heap.size := by simp
  have hL2 : Bools (w.alloc (.cells #[.slice A F.length c] 24)) (w.alloc (.cells #[.slice A F.length c] 24)).heap.size LA L := ⟨fun h => by
    obtain ⟨ad, h1, h2, h3⟩ := (hL.keep hk (Nat.le_refl _)).some_ h
    exact ⟨ad, h1, Nat.lt_of_lt_of_le h2 hs, h3⟩⟩
  have HC := Lib.hid (rTruth_ok A LA c lc F L hF hK (check_valid h0).1 _ (hG.keep' hk) hL2 hLl h0)
  by_cases hz : F = []
  · have HV : Hid (holdsP F L = true) := by refine Lib.hid ?_; rw [holdsP, decide_eq_true hz]; rfl
    have hzz : ((F.length : Int) == 0) = true := by rw [hz]; rfl
    clear hz
    go_enter Tryd.func48, Tryd.ntmps48
    go_wp2_with fail
    refine HC.out.mono ?_
    rintro e w1 ⟨⟨g, rfl, hg, -⟩, hb1⟩
    have hb2 := hk.trans (hb1.mono hs)
    clear HC hg
    go_wp2_with fail
    go_ret
    rw [HV.out]
    exact ⟨rfl, hb2⟩
  · have hpos : 0 < F.length := by
      rcases Nat.eq_zero_or_pos F.length with h | h
      · exact absurd (List.eq_nil_of_length_eq_zero h) hz
      · exact h
    have hlp := truthP_length F L
    obtain ⟨t0, ht0⟩ : ∃ t0, (truthP F L)[0]? = some t0 := ⟨_, List.getElem?_eq_getElem (by omega)⟩
    have HV : Hid (holdsP F L = t0) := by
      refine Lib.hid ?_
      rw [holdsP, decide_eq_false hz, Bool.false_or]
      unfold gb
      rw [List.getD_eq_getElem?_getD, ht0]; rfl
    have hzz : ((F.length : Int) == 0) = false := by rw [beq_eq_false_iff_ne]; omega
    clear hz
    go_enter Tryd.func48, Tryd.ntmps48
    go_wp2_with fail
    refine HC.out.mono ?_
    rintro e w1 ⟨⟨g, rfl, hg, -⟩, hb1⟩
    have hb2 := hk.trans (hb1.mono hs)
    have ct : w1.cell? ⟨g, 0, none⟩ = some (.bool t0) := by rw [hg.cell 0, blv, List.getElem?_map, ht0]; rfl
    clear HC hg ht0
    go_wp2_with fail
    go_ret
    rw [HV.out]
    exact ⟨rfl, hb2⟩
end Go.Proofs.YteaaeaimjbaomaaDoor
