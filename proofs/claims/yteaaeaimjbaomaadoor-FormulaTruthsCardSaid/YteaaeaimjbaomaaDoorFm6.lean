/-
  dominoref20: Leaves, Check.
-/
import Derived.Test.YteaaeaimjbaomaaDoorFm5
namespace Go.Proofs.YteaaeaimjbaomaaDoor
open Go.RowKit
set_option linter.unusedVariables false

def okL (F : List Gt) : Bool := decide (F.length ≤ 512) && (leavesP F).2
def RLeaves (F : List Gt) (e : Ending) : Prop := ∃ y : Int, e = .returned (.tuple #[.int .i64 y, .bool (okL F)]) ∧ (okL F = true → y = (leavesP F).1)
set_option maxHeartbeats 2000000 in
theorem rleaves_any (A : Option Addr) (c : Nat) (F : List Gt) (hF : F.length ≤ 1000000) (hK : ∀ g ∈ F, g.kids.length ≤ 1000000) (w : World) (hG : Gates w w.heap.size A F) :
    Calls Tryd.prog 35 #[.agg #[.slice A F.length c]] w fun e w' => RLeaves F e ∧ Below w.heap.size w w' := by
  have hk := (Kp.start w).new 24 [.slice A F.length c]
  by_cases hz : F = []
  · have HV : Hid (okL F = true ∧ (leavesP F).1 = 0) := by
      refine Lib.hid ?_
      rw [okL, leavesP, if_pos hz, hz]
      exact ⟨rfl, rfl⟩
    have h0 : ((F.length : Int) == 0) = true := by rw [hz]; rfl
    clear hz hG hK
    go_enter Tryd.func35, Tryd.ntmps35
    go_wp2_with fail
    go_ret2
    exact ⟨⟨0, by rw [HV.out.1]; rfl, fun _ => HV.out.2.symm⟩, hk.below⟩
  · have h0 : ((F.length : Int) == 0) = false := by
      rw [beq_eq_false_iff_ne]
      intro h9
      exact hz (List.eq_nil_of_length_eq_zero (by omega))
    by_cases h512 : 512 < F.length
    · have HV : Hid (okL F = false) := by
        show _ = _
        rw [okL, decide_eq_false (by omega)]; rfl
      clear hz hG hK
      go_enter Tryd.func35, Tryd.ntmps35
      go_wp2_with fail
      go_ret2
      exact ⟨⟨0, by rw [HV.out]; rfl, fun h9 => by rw [HV.out] at h9; cases h9⟩, hk.below⟩
    · have HV : Hid (okL F = ((visitP F (F.length + 1) 0 (0, 0)).1 && decide ((visitP F (F.length + 1) 0 (0, 0)).2.1 = F.length) && decide ((visitP F (F.length + 1) 0 (0, 0)).2.2 ≤ 256)) ∧ (leavesP F).1 = (visitP F (F.length + 1) 0 (0, 0)).2.2) := by
        refine Lib.hid ?_
        rw [okL, decide_eq_true (by omega), leavesP, if_neg hz]
        exact ⟨rfl, rfl⟩
      have HC := Lib.hid (shape_any A c F hF hK (F.length + 1) 0 0 (w.alloc (.cells #[.slice A F.length c] 24)) (hG.keep' hk.below) (Int.le_refl _) (Int.le_refl _) (Int.le_refl _) (by omega) (by omega))
      generalize visitP F (F.length + 1) 0 (0, 0) = r at *
      obtain ⟨b, nx, ct⟩ := r
      clear hz hG hK
      go_enter Tryd.func35, Tryd.ntmps35
      go_wp2_with fail
      refine HC.out.mono ?_
      rintro e w1 ⟨⟨x, y, rfl, hxy⟩, hb⟩
      have hk1 := hk.next hb
      have c0 := (hk1.blk _ (List.mem_cons_self ..)).cell 0
      simp only at c0 hxy
      clear HC hk hb
      cases b with
      | false =>
        go_wp2_with fail
        go_ret2
        exact ⟨⟨y, by rw [HV.out.1]; rfl, fun h9 => by rw [HV.out.1] at h9; cases h9⟩, hk1.below⟩
      | true =>
        obtain ⟨rfl, rfl⟩ := hxy rfl
        by_cases q1 : x = F.length
        · have t1 : (x == (F.length : Int)) = true := by simpa using q1
          by_cases q2 : y ≤ 256
          · have t2 : decide (y ≤ 256) = true := by simpa using q2
            go_wp2_with fail
            go_ret2
            exact ⟨⟨y, by rw [HV.out.1]; simp [q1, q2], fun _ => HV.out.2.symm⟩, hk1.below⟩
          · have t2 : decide (y ≤ 256) = false := by simpa using q2
            go_wp2_with fail
            go_ret2
            exact ⟨⟨y, by rw [HV.out.1]; simp [q1, q2], fun _ => HV.out.2.symm⟩, hk1.below⟩
        · have t1 : (x == (F.length : Int)) = false := by simpa using q1
          go_wp2_with fail
          go_ret2
          exact ⟨⟨y, by rw [HV.out.1]; simp [q1], fun _ => HV.out.2.symm⟩, hk1.below⟩
set_option maxHeartbeats 2000000 in
theorem rcheck_any (A : Option Addr) (c : Nat) (F : List Gt) (n : Int) (hF : F.length ≤ 1000000) (hK : ∀ g ∈ F, g.kids.length ≤ 1000000) (w : World) (hG : Gates w w.heap.size A F) :
    Calls Tryd.prog 15 #[.agg #[.slice A F.length c], .int .i64 n] w fun e w' => e = .returned (.int .i64 (checkP F n)) ∧ Below w.heap.size w w' := by
  have hbw : Below w.heap.size w (w.alloc (.cells #[.slice A F.length c] 24)) := (Below.refl _ _).alloc (Nat.le_refl _) _
  by_cases h1 : 512 < F.length ∨ n < 0 ∨ 256 < n
  · have HV : Hid (checkP F n = 6) := by show _ = _; rw [checkP, if_pos h1]
    by_cases q1 : 512 < F.length
    · clear h1 hK
      go_enter Tryd.func15, Tryd.ntmps15
      go_wp2_with fail
      go_ret
      rw [HV.out]
      exact ⟨rfl, hbw⟩
    · by_cases q2 : n < 0
      · clear h1 hK
        go_enter Tryd.func15, Tryd.ntmps15
        go_wp2_with fail
        go_ret
        rw [HV.out]
        exact ⟨rfl, hbw⟩
      · have q3 : 256 < n := by
          rcases h1 with h | h | h
          · exact absurd h q1
          · exact absurd h q2
          · exact h
        clear h1 hK
        go_enter Tryd.func15, Tryd.ntmps15
        go_wp2_with fail
        go_ret
        rw [HV.out]
        exact ⟨rfl, hbw⟩
  · have q1 : ¬ 512 < F.length := fun h => h1 (.inl h)
    have q2 : ¬ n < 0 := fun h => h1 (.inr (.inl h))
    have q3 : ¬ 256 < n := fun h => h1 (.inr (.inr h))
    have HU : Hid (checkP F n = if (leavesP F).2 = false then 3 else if (leavesP F).1 ≠ n then 6 else 0) := by show _ = _; rw [checkP, if_neg h1]
    have HC := Lib.hid (rleaves_any A c F hF hK (w.alloc (.cells #[.slice A F.length c] 24)) (hG.keep' hbw))
    have HO : Hid (okL F = (leavesP F).2) := by
      show _ = _
      rw [okL, decide_eq_true (by omega), Bool.true_and]
    unfold RLeaves at HC
    rw [HO.out] at HC
    generalize leavesP F = r at *
    obtain ⟨ct, ok⟩ := r
    clear h1 hK hG
    cases ok with
    | false =>
      go_enter Tryd.func15, Tryd.ntmps15
      go_wp2_with fail
      refine HC.out.mono ?_
      rintro e w1 ⟨⟨y, rfl, hy⟩, hb⟩
      clear hy
      go_wp2_with fail
      go_ret
      exact ⟨by rw [HU.out]; first | rfl | (simp; done), hbw.trans (hb.mono hbw.size)⟩
    | true =>
      by_cases q4 : ct = n
      · have t1 : (ct != n) = false := by simpa using q4
        go_enter Tryd.func15, Tryd.ntmps15
        go_wp2_with fail
        refine HC.out.mono ?_
        rintro e w1 ⟨⟨y, rfl, hy⟩, hb⟩
        obtain rfl := hy (by simp)
        go_wp2_with fail
        go_ret
        exact ⟨by rw [HU.out]; first | rfl | (simp [q4]; done), hbw.trans (hb.mono hbw.size)⟩
      · have t1 : (ct != n) = true := by simpa using q4
        go_enter Tryd.func15, Tryd.ntmps15
        go_wp2_with fail
        refine HC.out.mono ?_
        rintro e w1 ⟨⟨y, rfl, hy⟩, hb⟩
        obtain rfl := hy (by simp)
        go_wp2_with fail
        go_ret
        exact ⟨by rw [HU.out]; first | rfl | (simp [q4]; done), hbw.trans (hb.mono hbw.size)⟩
end Go.Proofs.YteaaeaimjbaomaaDoor
