/-
  formula.Check.
-/
import Derived.Test.YteaaeaimjbaomaaDoorFm3
namespace Go.Proofs.YteaaeaimjbaomaaDoor
open Go.RowKit
set_option linter.unusedVariables false

theorem Ints.up {W W' : World} {B B' : Nat} {A : Option Addr} {l : List Int} (h : Ints W B A l) (hb : Below B W W') (hB : B ≤ B') : Ints W' B' A l := ⟨fun hl => by
  obtain ⟨ad, h1, h2, h3⟩ := h.some_ hl
  exact ⟨ad, h1, by omega, h3.keep hb h2⟩⟩
theorem GateAt.up {W W' : World} {B B' : Nat} {ad : Addr} {g : Gt} (h : GateAt W B ad g) (hb : Below B W W') (hB : B ≤ B') (ha : ad.block < B) : GateAt W' B' ad g := by
  obtain ⟨A, c, h1, h2⟩ := (h.keep hb (Nat.le_refl _) ha).kids
  exact ⟨(h.keep hb (Nat.le_refl _) ha).need, ⟨A, c, h1, h2.up (Below.refl _ _) hB⟩, (h.keep hb (Nat.le_refl _) ha).leaf⟩
/-- a formula that lay in memory lies in it after a call -/
theorem Gates.keep' {W W' : World} {A : Option Addr} {F : List Gt} (h : Gates W W.heap.size A F) (hb : Below W.heap.size W W') : Gates W' W'.heap.size A F := ⟨fun hl => by
  obtain ⟨ad, h1, h2, h3⟩ := h.some_ hl
  have := hb.size
  exact ⟨ad, h1, by omega, fun i g hg => (h3 i g hg).up hb hb.size (by rw [add_block]; exact h2)⟩⟩
def checkP (F : List Gt) (n : Int) : Int := if 512 < F.length ∨ n < 0 ∨ 256 < n then 6 else if (leavesP F).2 = false then 3 else if (leavesP F).1 ≠ n then 6 else 0
set_option maxHeartbeats 2000000 in
theorem check_any (A : Option Addr) (c : Nat) (F : List Gt) (n : Int) (hF : F.length ≤ 1000000) (hK : ∀ g ∈ F, g.kids.length ≤ 1000000) (w : World) (hG : Gates w w.heap.size A F) :
    Calls Tryd.prog 14 #[.agg #[.slice A F.length c], .int .i64 n] w fun e w' => e = .returned (.int .i64 (checkP F n)) ∧ Below w.heap.size w w' := by
  have hbw : Below w.heap.size w (w.alloc (.cells #[.slice A F.length c] 24)) := (Below.refl _ _).alloc (Nat.le_refl _) _
  by_cases h1 : 512 < F.length ∨ n < 0 ∨ 256 < n
  · have HV : Hid (checkP F n = 6) := by show _ = _; rw [checkP, if_pos h1]
    by_cases q1 : 512 < F.length
    · clear h1 hK
      go_enter Tryd.func14, Tryd.ntmps14
      go_wp2_with fail
      go_ret
      rw [HV.out]
      exact ⟨rfl, hbw⟩
    · by_cases q2 : n < 0
      · clear h1 hK
        go_enter Tryd.func14, Tryd.ntmps14
        go_wp2_with fail
        go_ret
        rw [HV.out]
        exact ⟨rfl, hbw⟩
      · have q3 : 256 < n := by
          rcases h1 with h | h | h
          · exact absurd h q1
          · exact absurd h q2
          · exact h
        clear h1 hK
        go_enter Tryd.func14, Tryd.ntmps14
        go_wp2_with fail
        go_ret
        rw [HV.out]
        exact ⟨rfl, hbw⟩
  · have q1 : ¬ 512 < F.length := fun h => h1 (.inl h)
    have q2 : ¬ n < 0 := fun h => h1 (.inr (.inl h))
    have q3 : ¬ 256 < n := fun h => h1 (.inr (.inr h))
    have HU : Hid (checkP F n = if (leavesP F).2 = false then 3 else if (leavesP F).1 ≠ n then 6 else 0) := by show _ = _; rw [checkP, if_neg h1]
    have HC := Lib.hid (leaves_any A c F hF hK (w.alloc (.cells #[.slice A F.length c] 24)) (hG.keep' hbw))
    generalize leavesP F = r at *
    obtain ⟨ct, ok⟩ := r
    clear h1 hK hG
    cases ok with
    | false =>
      go_enter Tryd.func14, Tryd.ntmps14
      go_wp2_with fail
      refine HC.out.mono ?_
      rintro e w1 ⟨rfl, hb⟩
      go_wp2_with fail
      go_ret
      exact ⟨by rw [HU.out]; first | rfl | (simp; done), hbw.trans (hb.mono hbw.size)⟩
    | true =>
      by_cases q4 : ct = n
      · have t1 : (ct != n) = false := by simpa using q4
        go_enter Tryd.func14, Tryd.ntmps14
        go_wp2_with fail
        refine HC.out.mono ?_
        rintro e w1 ⟨rfl, hb⟩
        go_wp2_with fail
        go_ret
        exact ⟨by rw [HU.out]; first | rfl | (simp [q4]; done), hbw.trans (hb.mono hbw.size)⟩
      · have t1 : (ct != n) = true := by simpa using q4
        go_enter Tryd.func14, Tryd.ntmps14
        go_wp2_with fail
        refine HC.out.mono ?_
        rintro e w1 ⟨rfl, hb⟩
        go_wp2_with fail
        go_ret
        exact ⟨by rw [HU.out]; first | rfl | (simp [q4]; done), hbw.trans (hb.mono hbw.size)⟩
end Go.Proofs.YteaaeaimjbaomaaDoor
