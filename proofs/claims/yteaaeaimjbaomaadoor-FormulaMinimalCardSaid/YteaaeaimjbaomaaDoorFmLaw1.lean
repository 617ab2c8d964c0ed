/-
  dominolaw20.FormulaChecks.
-/
import Derived.Test.YteaaeaimjbaomaaDoorFmAw
import Derived.Test.YteaaeaimjbaomaaDoorFmF1
import Derived.Test.YteaaeaimjbaomaaDoorFmB
import Derived.Deep.RegionHeld3
namespace Go.Proofs.YteaaeaimjbaomaaDoor
open Go.RowKit
set_option linter.unusedVariables false

/-- a formula that came in, in its box -/
structure Lw (w : World) (g : Nat) (A : Option Addr) (c : Nat) (F : List Gt) (W : World) : Prop where
  cell : W.cell? ⟨g, 0, none⟩ = some (.slice A F.length c)
  lt : g < W.heap.size
  gates : Gates W W.heap.size A F
  below : Below w.heap.size w W
theorem Lw.next {w : World} {g : Nat} {A : Option Addr} {c : Nat} {F : List Gt} {W W' : World} (h : Lw w g A c F W) (hb : Below W.heap.size W W') : Lw w g A c F W' :=
  ⟨(hb.cell (p := ⟨g, 0, none⟩) h.lt).trans h.cell, by have := h.lt; have := hb.size; omega, h.gates.keep' hb, h.below.trans (hb.mono h.below.size)⟩
theorem Lw.drew {w : World} {g : Nat} {A : Option Addr} {c : Nat} {F : List Gt} {W : World} (h : Lw w g A c F W) : Lw w g A c F W.drew := h.next (Below.refl _ _).drew
theorem Lw.box (w : World) (A : Option Addr) (c : Nat) (F : List Gt) (hG : Gates w w.heap.size A F) : Lw w w.heap.size A c F (w.alloc (.cells #[.slice A F.length c] 24)) :=
  ⟨(show Blk (w.alloc (.cells #[.slice A F.length c] 24)) w.heap.size 24 [.slice A F.length c] from Blk.new w _ _).cell 0, by simp, hG.keep' ((Below.refl _ _).alloc (Nat.le_refl _) _), (Below.refl _ _).alloc (Nat.le_refl _) _⟩
section
variable {w : World} {g : Nat} {A : Option Addr} {c : Nat} {F : List Gt} {W : World}
theorem Lw.few (h : Lw w g A c F W) : Calls Tryd.prog 12 #[.agg #[.slice A F.length c]] W fun e w' => e = .returned (.bool (fewP F)) ∧ Lw w g A c F w' :=
  (few_any A c F W h.gates).mono fun _ _ ⟨a, b⟩ => ⟨a, h.next b⟩
theorem Lw.awake (h : Lw w g A c F W) : Calls Tryd.prog 13 #[] W fun e w' => e = .returned (.bool true) ∧ Lw w g A c F w' :=
  (awake_any W).mono fun _ _ ⟨a, b⟩ => ⟨a, h.next b⟩
theorem Lw.check (h : Lw w g A c F W) (hf : fewP F = true) (n : Int) : Calls Tryd.prog 14 #[.agg #[.slice A F.length c], .int .i64 n] W fun e w' => e = .returned (.int .i64 (checkP F n)) ∧ Lw w g A c F w' :=
  (check_any A c F n (by have := (fewP_iff.1 hf).1; omega) (fun g hg => by have := (fewP_iff.1 hf).2 g hg; omega) W h.gates).mono fun _ _ ⟨a, b⟩ => ⟨a, h.next b⟩
theorem Lw.rcheck (h : Lw w g A c F W) (hf : fewP F = true) (n : Int) : Calls Tryd.prog 15 #[.agg #[.slice A F.length c], .int .i64 n] W fun e w' => e = .returned (.int .i64 (checkP F n)) ∧ Lw w g A c F w' :=
  (rcheck_any A c F n (by have := (fewP_iff.1 hf).1; omega) (fun g hg => by have := (fewP_iff.1 hf).2 g hg; omega) W h.gates).mono fun _ _ ⟨a, b⟩ => ⟨a, h.next b⟩
end
set_option maxRecDepth 20000 in
set_option maxHeartbeats 8000000 in
theorem fmchecks_walk (A : Option Addr) (c : Nat) (F : List Gt) (n : Int) (w : World) (hG : Gates w w.heap.size A F) :
    Calls Tryd.prog 3 #[.agg #[.slice A F.length c], .int .i64 n] w fun e w' => e = .returned (.bool true) ∧ Below w.heap.size w w' := by
  have hL0 := Lw.box w A c F hG
  go_enter Tryd.func3, Tryd.ntmps3
  go_upto_region 1 with fail
  generalize w.alloc (.cells #[.slice A F.length c] 24) = W at *
  obtain ⟨g, hg⟩ : ∃ g, w.heap.size = g := ⟨_, rfl⟩
  have hL : Lw w g A c F W := hg ▸ hL0
  clear hL0
  have c0 := hL.cell
  simp only [hg]
  go_wp2_with fail
  refine hL.few.mono ?_
  rintro e w1 ⟨rfl, hL1⟩
  clear hL c0
  cases hf : fewP F with
  | false =>
    clear hf
    go_wp2_with fail
    refine hL1.awake.mono ?_
    rintro e w2 ⟨rfl, hL2⟩
    go_wp2_with fail
    go_ret
    exact ⟨rfl, hL2.below⟩
  | true =>
    have HF := Lib.hid hf
    clear hf
    go_upto_region 3 with fail
    have hLd := hL1.drew
    clear hL1
    first | go_region_held3 (fun w' => w'.cell? ⟨g, 0, none⟩ = some (.slice A F.length c)) (exact Lw.cell (by assumption)) (first
      | (go_at_call 14; refine (Lw.check (by assumption) HF.out n).mono ?_; rintro e w' ⟨rfl, hl⟩)
      | (go_at_call 15; refine (Lw.rcheck (by assumption) HF.out n).mono ?_; rintro e w' ⟨rfl, hl⟩)
      | (go_at_call 13; refine (Lw.awake (by assumption)).mono ?_; rintro e w' ⟨rfl, hl⟩)) | fail
    all_goals
      go_wp2_with fail
      go_ret
      exact ⟨rfl, Lw.below (by assumption)⟩
end Go.Proofs.YteaaeaimjbaomaaDoor
