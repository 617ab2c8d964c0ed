/-
  formula.Minimal: the closures minimal, possible.
-/
import Derived.Test.YteaaeaimjbaomaaDoorFmN1
import Derived.Test.YteaaeaimjbaomaaDoorFmN2
import Derived.Test.YteaaeaimjbaomaaDoorRgo
import Derived.Test.YteaaeaimjbaomaaDoorFmR9
namespace Go.Proofs.YteaaeaimjbaomaaDoor
open Go.RowKit
set_option linter.unusedVariables false

/-- the formula and the number of its leaves, as the closures find them -/
structure En where
  gf : Nat
  gn : Nat
  A : Option Addr
  cc : Nat
  F : List Gt
  n : Nat
  x : It
  Q : List GV
abbrev fits (E : En) : List It := [iblk E.gf 24 [.slice E.A E.F.length E.cc], iblk E.gn 3 [.int .i64 (E.n : Int)], ibox (E.x :: irow 40 3 (.slice E.A E.F.length E.cc) E.F.length (gcells E.Q) :: kidIts E.Q)]
structure FEnv (E : En) : Prop where
  F512 : E.F.length ≤ 512
  kids : ∀ g ∈ E.F, g.kids.length ≤ 1000000
  n256 : E.n ≤ 256
  ok : checkP E.F E.n = 0
  gq : gts E.Q = E.F
  ql : E.Q.length = E.F.length
theorem FEnv.valid {E : En} (h : FEnv E) {c : List Bool} (hc : c.length = E.n) : Valid E.F c := (check_valid (by rw [hc]; exact h.ok)).1
theorem FEnv.gates {E : En} (h : FEnv E) {W : World} (hp : (ibox (E.x :: irow 40 3 (.slice E.A E.F.length E.cc) E.F.length (gcells E.Q) :: kidIts E.Q)).P W) : Gates W W.heap.size E.A E.F := by
  have h1 := Hp.self (show Sep W (E.x :: irow 40 3 (.slice E.A E.F.length E.cc) E.F.length (gcells E.Q) :: kidIts E.Q) from hp)
  have h2 := gates_of (r := []) (P := E.Q) (n := E.F.length) (by rw [List.append_nil, h.ql]; exact h1)
  rw [h.gq] at h2
  exact h2
/-- the pieces that the closures of formula.Minimal share -/
abbrev cits (E : En) (gh gcv gch : Nat) (c : List Bool) : List It := iblk gch 4 (blv c) :: iblk gcv 31 [.slice (some ⟨gch, 0, none⟩) c.length c.length] :: iblk gh 99 [.func (Fn.func 54) #[] #[.pointer (some ⟨E.gf, 0, none⟩)]] :: fits E
/-- the call of holds at the chosen leaves -/
theorem holds_call {E : En} {gch : Nat} {c : List Bool} {o : List Nat} {w W : World} {a b : It} {r : List It} (hE : FEnv E) (hc : c.length = E.n) (h : Hp o w (iblk gch 4 (blv c) :: a :: b :: (fits E ++ r)) W) (lc : Nat) :
    Calls Tryd.prog 54 #[.slice (some ⟨gch, 0, none⟩) c.length lc, .pointer (some ⟨E.gf, 0, none⟩)] W fun e w' => e = .returned (.bool (holdsP E.F c)) ∧ Below W.heap.size W w' :=
  holds_any E.gf E.A _ E.cc lc E.F c hE.F512 hE.kids (hE.valid hc) W ((h.blk 3 rfl).cell 0) (hE.gates (h.sep.ok _ (List.mem_of_getElem? (i := 5) rfl))) (h.blk 0 rfl).bools (by have := hE.n256; omega)
set_option maxHeartbeats 4000000 in
theorem minimal_any {E : En} {gh gcv gch : Nat} (hE : FEnv E) (c : List Bool) (hc : c.length = E.n) (W : World) (h : Sep W (cits E gh gcv gch c)) :
    Calls Tryd.prog 55 #[.pointer (some ⟨gcv, 0, none⟩), .pointer (some ⟨gh, 0, none⟩)] W fun e w' => e = .returned (.bool (minM (holdsP E.F) c)) ∧ Hp (ow (cits E gh gcv gch c)) W (cits E gh gcv gch c) w' := by
  have hS := Hp.self h
  have hn := hE.n256
  have hcn : c.length ≤ 256 := by omega
  have HL := Lib.hid hc
  clear hc
  generalize ow (cits E gh gcv gch c) = o at *
  have c1 := (hS.blk 1 rfl).cell 0
  simp only [List.getElem?_cons_zero] at c1
  go_enter Tryd.func55, Tryd.ntmps55
  go_upto_region 2 with fail
  clear c1
  go_loopg [8] c.length (fun m s8 wx => ∃ i : Nat, i ≤ c.length ∧ m = c.length - i ∧ s8 = .int .i64 (i : Int) ∧ Hp o W (cits E gh gcv gch c) wx ∧ Hid (∀ j, j < i → gb c j = true → holdsP E.F (c.set j false) = false))
  case atStart => exact ⟨0, Nat.zero_le _, rfl, rfl, hS, Lib.hid (fun j hj => absurd hj (Nat.not_lt_zero _))⟩
  case round =>
    obtain ⟨i, hi, rfl, rfl, hS2, HI⟩ := hrel
    clear hS
    by_cases hil : i < c.length
    · obtain ⟨x, hx⟩ : ∃ x, c[i]? = some x := ⟨_, List.getElem?_eq_getElem hil⟩
      have hgx : gb c i = x := by unfold gb; rw [List.getD_eq_getElem?_getD, hx]; rfl
      have cx : wr.cell? ⟨gch, i, none⟩ = some (.bool x) := by rw [(hS2.blk 0 rfl).cell i, blv, List.getElem?_map, hx]; rfl
      have c1 := (hS2.blk 1 rfl).cell 0
      have c2 := (hS2.blk 2 rfl).cell 0
      have f0 := (hS2.blk 0 rfl).frozen i
      simp only [List.getElem?_cons_zero] at c1 c2
      have hii : (i : Int) < (c.length : Int) := by omega
      cases x with
      | false =>
        have HI2 : Hid (∀ j, j < i + 1 → gb c j = true → holdsP E.F (c.set j false) = false) := by
          refine Lib.hid fun j hj hg => ?_
          by_cases hji : j = i
          · rw [hji, hgx] at hg; cases hg
          · exact HI.out j (by omega) hg
        clear hx hgx HI
        go_wp2_with fail
        go_roundg (c.length - (i + 1))
        case measure => omega
        case rel => exact ⟨i + 1, hil, rfl, by first | rfl | simp, hS2, HI2⟩
      | true =>
        go_upto_region 6 with fail
        have hS3 : Hp o W (iblk gch 4 (blv (c.set i false)) :: iblk gcv 31 [.slice (some ⟨gch, 0, none⟩) c.length c.length] :: iblk gh 99 [.func (Fn.func 54) #[] #[.pointer (some ⟨E.gf, 0, none⟩)]] :: (fits E ++ [])) (wr.setCell ⟨gch, i, none⟩ (.bool false)) := by
          have h9 := hS2.set 0 rfl i (.bool false)
          rw [show (blv c).set i (.bool false) = blv (c.set i false) from by simp [blv, List.map_set]] at h9
          exact h9
        clear hS2 cx c1 c2 f0
        generalize wr.setCell ⟨gch, i, none⟩ (.bool false) = w3 at *
        have c1 := (hS3.blk 1 rfl).cell 0
        have c2 := (hS3.blk 2 rfl).cell 0
        simp only [List.getElem?_cons_zero] at c1 c2
        have HC := Lib.hid (holds_call hE (c := c.set i false) (by rw [List.length_set]; exact HL.out) hS3 c.length)
        rw [List.length_set] at HC
        go_wp2_with fail
        refine HC.out.mono ?_
        rintro e w4 ⟨rfl, hb4⟩
        have hS4 := hS3.next hb4
        clear HC hS3 c1 c2 hb4
        have c1 := (hS4.blk 1 rfl).cell 0
        have cx : w4.cell? ⟨gch, i, none⟩ = some (.bool false) := by
          rw [(hS4.blk 0 rfl).cell i, blv, List.getElem?_map, List.getElem?_set_self hil]; rfl
        have f0 := (hS4.blk 0 rfl).frozen i
        simp only [List.getElem?_cons_zero] at c1
        have hS5 : Hp o W (cits E gh gcv gch c) (w4.setCell ⟨gch, i, none⟩ (.bool true)) := by
          have h9 := hS4.set 0 rfl i (.bool true)
          rw [show (blv (c.set i false)).set i (.bool true) = blv c from by
            rw [show (blv (c.set i false)).set i (.bool true) = blv ((c.set i false).set i true) from by simp [blv, List.map_set], List.set_set]
            congr 1
            apply List.ext_getElem?
            intro j
            rw [List.getElem?_set]
            split
            · rename_i hij
              subst hij
              rw [hx]
            · rfl] at h9
          exact h9
        have HS5 := Lib.hid hS5
        cases hh : holdsP E.F (c.set i false) with
        | true =>
          have HV : Hid (minM (holdsP E.F) c = false) := by
            refine Lib.hid ?_
            rw [Bool.eq_false_iff]
            intro h9
            have := (minM_iff (holdsP E.F) c).1 h9 i hgx
            rw [hh] at this; cases this
          clear hx hgx HI hh hS4 hS5
          go_wp2_with fail
          go_ret
          rw [HV.out]
          exact ⟨rfl, HS5.out⟩
        | false =>
          have HI2 : Hid (∀ j, j < i + 1 → gb c j = true → holdsP E.F (c.set j false) = false) := by
            refine Lib.hid fun j hj hg => ?_
            by_cases hji : j = i
            · rw [hji]; exact hh
            · exact HI.out j (by omega) hg
          clear hx hgx HI hh hS4 hS5
          go_wp2_with fail
          go_roundg (c.length - (i + 1))
          case measure => omega
          case rel => exact ⟨i + 1, hil, rfl, by first | rfl | simp, HS5.out, HI2⟩
    · have HV : Hid (minM (holdsP E.F) c = true) := by
        refine Lib.hid ((minM_iff (holdsP E.F) c).2 fun j hj => ?_)
        exact HI.out j (by have := gb_lt hj; omega) hj
      have hii : ¬ (i : Int) < (c.length : Int) := by omega
      clear HI
      go_wp2_with fail
      go_ret
      rw [HV.out]
      exact ⟨rfl, hS2⟩
end Go.Proofs.YteaaeaimjbaomaaDoor
