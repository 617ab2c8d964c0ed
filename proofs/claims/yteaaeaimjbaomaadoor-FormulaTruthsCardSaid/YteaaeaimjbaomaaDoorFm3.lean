/-
  formula.leaves, formula.Check.
-/
import Derived.Test.YteaaeaimjbaomaaDoorFm2
import Derived.Deep.QuietTactic
import Derived.BigQuiet
namespace Go.Proofs.YteaaeaimjbaomaaDoor
open Go.RowKit
set_option linter.unusedVariables false

def leavesP (F : List Gt) : Int × Bool :=
  if F = [] then (0, true) else ((visitP F (F.length + 1) 0 (0, 0)).2.2, (visitP F (F.length + 1) 0 (0, 0)).1 && decide ((visitP F (F.length + 1) 0 (0, 0)).2.1 = F.length) && decide ((visitP F (F.length + 1) 0 (0, 0)).2.2 ≤ 256))
theorem run_store_func (P : Program) (w : World) (a : Addr) (m : Mode) (f : Fn) (x y : Array Value) (v : Value) (hc : w.cell? a = some v) (hf : w.frozen? a = false) : (store a (.func f x y) m).run P w = .ok () (w.setCell a (.func f x y)) := by
  rw [run_store P w a _ m rfl, hc, hf]; rfl
set_option maxHeartbeats 2000000 in
theorem leaves_any (A : Option Addr) (c : Nat) (F : List Gt) (hF : F.length ≤ 1000000) (hK : ∀ g ∈ F, g.kids.length ≤ 1000000) (w : World) (hG : Gates w w.heap.size A F) :
    Calls Tryd.prog 34 #[.agg #[.slice A F.length c]] w fun e w' => e = .returned (.tuple #[.int .i64 (leavesP F).1, .bool (leavesP F).2]) ∧ Below w.heap.size w w' := by
  by_cases hz : F = []
  · have HV : Hid (leavesP F = (0, true)) := by show _ = _; rw [leavesP, if_pos hz]
    have h0 : ((F.length : Int) == 0) = true := by rw [hz]; rfl
    clear hz hG hK
    go_enter Tryd.func34, Tryd.ntmps34
    go_wp2_with fail
    go_ret2
    rw [HV.out]
    exact ⟨rfl, (Below.refl _ _).alloc (Nat.le_refl _) _⟩
  · have HV : Hid (leavesP F = ((visitP F (F.length + 1) 0 (0, 0)).2.2, (visitP F (F.length + 1) 0 (0, 0)).1 && decide ((visitP F (F.length + 1) 0 (0, 0)).2.1 = F.length) && decide ((visitP F (F.length + 1) 0 (0, 0)).2.2 ≤ 256))) := by
      show _ = _
      rw [leavesP, if_neg hz]
    have h0 : ((F.length : Int) == 0) = false := by
      rw [beq_eq_false_iff_ne]
      intro h9
      exact hz (List.eq_nil_of_length_eq_zero (by omega))
    have HC := Lib.hid (visit_any w w.heap.size (w.heap.size + 1) (w.heap.size + 1 + 1) (w.heap.size + 1 + 1 + 1) A c F hF hK hG (F.length + 1))
    have hbd := visitP_bd F (F.length + 1) 0 (0, 0) (Int.le_refl _) (Int.le_refl _) (by show 0 ≤ _; omega)
    clear hz hG hK
    have hk : Kp w [(w.heap.size + 1 + 1 + 1, 94, [.nilFunc]), (w.heap.size + 1 + 1, 3, [.int .i64 0]), (w.heap.size + 1, 3, [.int .i64 0]), (w.heap.size, 24, [.slice A F.length c])] ((((w.alloc (.cells #[.slice A F.length c] 24)).alloc (.cells #[.int .i64 0] 3)).alloc (.cells #[.int .i64 0] 3)).alloc (.cells #[.nilFunc] 94)) := by
      have := ((((Kp.start w).new 24 [.slice A F.length c]).new 3 [.int .i64 0]).new 3 [.int .i64 0]).new 94 [.nilFunc]
      simpa using this
    go_enter Tryd.func34, Tryd.ntmps34
    go_upto_region 5 with fail
    have hD : w.heap.size ≤ w.heap.size ∧ w.heap.size < w.heap.size + 1 ∧ w.heap.size + 1 < w.heap.size + 1 + 1 ∧ w.heap.size + 1 + 1 < w.heap.size + 1 + 1 + 1 := by omega
    generalize (((w.alloc (.cells #[.slice A F.length c] 24)).alloc (.cells #[.int .i64 0] 3)).alloc (.cells #[.int .i64 0] 3)).alloc (.cells #[.nilFunc] 94) = W4 at *
    generalize w.heap.size + 1 + 1 + 1 = gv at *
    generalize w.heap.size + 1 + 1 = gc at *
    generalize w.heap.size + 1 = gn at *
    have bV := hk.blk _ (List.mem_cons_self ..)
    have bC := hk.blk _ (List.mem_cons_of_mem _ (List.mem_cons_self ..))
    have bN := hk.blk _ (List.mem_cons_of_mem _ (List.mem_cons_of_mem _ (List.mem_cons_self ..)))
    have bF := hk.blk _ (List.mem_cons_of_mem _ (List.mem_cons_of_mem _ (List.mem_cons_of_mem _ (List.mem_cons_self ..))))
    have hbw := hk.below
    clear hk
    simp only at bV bC bN bF
    have hst := fun x y => run_store_func Tryd.prog W4 ⟨gv, 0, none⟩ .plain (Fn.func 50) x y _ (bV.cell 0) (bV.frozen 0)
    go_upto_region 6 with fail
    clear hst
    have hS : VS w w.heap.size gn gc gv A F.length c 0 0 (W4.setCell ⟨gv, 0, none⟩ (.func (Fn.func 50) #[] #[pt gn, pt w.heap.size, pt gc, pt gv])) :=
      ⟨bF.far (by simp; omega) _, bN.far (by simp; omega) _, bC.far (by simp; omega) _, bV.set_ 0 _, hD, hbw.setCell (by simp; omega) _⟩
    clear bV bC bN bF hbw
    generalize W4.setCell ⟨gv, 0, none⟩ (.func (Fn.func 50) #[] #[pt gn, pt w.heap.size, pt gc, pt gv]) = W5 at *
    obtain ⟨c1, c2, c3, c4⟩ := hS.cells
    go_wp2_with fail
    refine (HC.out 0 0 0 W5 hS (Int.le_refl _) (Int.le_refl _) (Int.le_refl _) (by omega) (by omega)).mono ?_
    rintro e w6 ⟨rfl, hS6⟩
    clear c1 c2 c3 c4 hS HC
    generalize visitP F (F.length + 1) 0 (0, 0) = r at *
    obtain ⟨b, nx, ct⟩ := r
    obtain ⟨b1, b2, b3, b4⟩ := hbd
    simp only at hS6 b1 b2 b3 b4
    obtain ⟨c1, c2, c3, c4⟩ := hS6.cells
    go_upto_region 7 with fail
    cases b with
    | false =>
      go_quiet (fail)
      go_wp2_with fail
      go_ret2
      rw [HV.out]
      exact ⟨rfl, by first | exact hS6.below | exact hS6.drew.below | exact ⟨hS6.below.os, hS6.below.tape, hS6.below.output, hS6.below.size, hS6.below.block⟩⟩
    | true =>
      by_cases q1 : nx = F.length
      · have t1 : (nx == (F.length : Int)) = true := by simpa using q1
        by_cases q2 : ct ≤ 256
        · have t2 : decide (ct ≤ 256) = true := by simpa using q2
          go_quiet (fail)
          go_wp2_with fail
          go_ret2
          rw [HV.out]
          exact ⟨by simp [q1, q2], by first | exact hS6.below | exact hS6.drew.below | exact ⟨hS6.below.os, hS6.below.tape, hS6.below.output, hS6.below.size, hS6.below.block⟩⟩
        · have t2 : decide (ct ≤ 256) = false := by simpa using q2
          go_quiet (fail)
          go_wp2_with fail
          go_ret2
          rw [HV.out]
          exact ⟨by simp [q1, q2], by first | exact hS6.below | exact hS6.drew.below | exact ⟨hS6.below.os, hS6.below.tape, hS6.below.output, hS6.below.size, hS6.below.block⟩⟩
      · have t1 : (nx == (F.length : Int)) = false := by simpa using q1
        go_quiet (fail)
        go_wp2_with fail
        go_ret2
        rw [HV.out]
        exact ⟨by simp [q1], by first | exact hS6.below | exact hS6.drew.below | exact ⟨hS6.below.os, hS6.below.tape, hS6.below.output, hS6.below.size, hS6.below.block⟩⟩
end Go.Proofs.YteaaeaimjbaomaaDoor
