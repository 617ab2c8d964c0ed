/-
  Lists of lists in memory; slices.EqualFunc over them, with the law's closure.
-/
import Derived.Test.YteaaeaimjbaomaaDoorFmM3
import Derived.Test.YteaaeaimjbaomaaDoorFmO
namespace Go.Proofs.YteaaeaimjbaomaaDoor
open Go.RowKit
set_option linter.unusedVariables false

structure Lists (W : World) (A : Option Addr) (L : List LV) : Prop where
  at_ : ∀ i x, L[i]? = some x → ∃ ad, A = some ad ∧ W.cell? (ad.add i) = some x.2 ∧ ∃ IA c, x.2 = .slice IA x.1.length c ∧ Ints W W.heap.size IA x.1
theorem Lists.up {W W' : World} {A : Option Addr} {L : List LV} (h : Lists W A L) (hb : Below W.heap.size W W') : Lists W' A L := ⟨fun i x hx => by
  obtain ⟨ad, h1, h2, IA, c, h3, h4⟩ := h.at_ i x hx
  exact ⟨ad, h1, (hb.cell (p := ad.add i) (cell_lt h2)).trans h2, IA, c, h3, h4.up' hb⟩⟩
theorem Lists.take {W : World} {A : Option Addr} {L : List LV} (h : Lists W A L) (n : Nat) : Lists W A (L.take n) := ⟨fun i x hx => by
  refine h.at_ i x ?_
  rw [List.getElem?_take] at hx
  split at hx
  · exact hx
  · cases hx⟩
theorem Hp.lists {o : List Nat} {w W : World} {v : Value} {L : List LV} (h : Hp o w (lits v L) W) : ∃ A c, v = .slice A L.length c ∧ Lists W A L ∧ L.length ≤ c := by
  obtain ⟨A, c, rfl⟩ := row_forms (h.row 0 rfl)
  refine ⟨A, c, rfl, ⟨fun i x hx => ?_⟩, ?_⟩
  rotate_left
  · rcases Nat.eq_zero_or_pos L.length with h0 | h0
    · omega
    · obtain ⟨g, c', hv, hc⟩ := row_form (h.row 0 rfl) h0
      have hcc : c = c' := by injection hv
      omega
  have hl := (List.getElem?_eq_some_iff.1 hx).1
  obtain ⟨g, c', hv, -⟩ := row_form (h.row 0 rfl) (by omega)
  have hA : A = some ⟨g, 0, none⟩ := by injection hv
  subst hA
  have hc : c = c' := by injection hv
  subst hc
  refine ⟨_, rfl, ?_, ?_⟩
  · have e : (⟨g, 0, none⟩ : Addr).add i = ⟨g, i, none⟩ := by unfold Addr.add; split <;> simp_all
    rw [e]
    exact row_cell (h.row 0 rfl) (by rw [List.getElem?_map, hx]; rfl)
  · have h1 : W.ownsRow 0 3 1 x.2 x.1.length (ivals x.1) := h.sep.ok (lvIt x) (List.mem_cons_of_mem _ (List.mem_map.2 ⟨x, List.mem_of_getElem? hx, rfl⟩))
    obtain ⟨IA, c', e⟩ := row_forms h1
    refine ⟨IA, c', e, ?_⟩
    rw [e] at h1
    exact row_ints h1
set_option maxHeartbeats 2000000 in
theorem eqcl_any (A B : Option Addr) (c d : Nat) (x y : List Int) (W : World) (hx : Ints W W.heap.size A x) (hy : Ints W W.heap.size B y) (hxl : x.length ≤ 1000000) (hyl : y.length ≤ 1000000) :
    Calls Tryd.prog 30 #[.slice A x.length c, .slice B y.length d] W fun e w' => e = .returned (.bool (decide (x = y))) ∧ Below W.heap.size W w' := by
  have HC := Lib.hid (equal_ints A B c d x y W hx hy hxl hyl)
  generalize decide (x = y) = r at *
  go_enter Tryd.func30, Tryd.ntmps30
  go_wp2_with fail
  refine HC.out.mono ?_
  rintro e w1 ⟨rfl, hb1⟩
  clear HC
  go_wp2_with fail
  go_ret
  exact ⟨rfl, hb1⟩
set_option maxRecDepth 20000 in
set_option maxHeartbeats 4000000 in
theorem eqfunc_any (A B : Option Addr) (c d : Nat) (X Y : List LV) (W : World) (hX : Lists W A X) (hY : Lists W B Y) (hXl : X.length ≤ 1000000) (hl : X.length = Y.length) (he : X.map Prod.fst = Y.map Prod.fst) (hb : ∀ x ∈ X, x.1.length ≤ 1000000) :
    Calls Tryd.prog 29 #[.slice A X.length c, .slice B Y.length d, .func (.func 30) #[] #[]] W fun e w' => e = .returned (.bool true) ∧ Below W.heap.size W w' := by
  have hne : ((X.length : Int) != (Y.length : Int)) = false := by rw [hl]; simp
  have HE := Lib.hid he
  have HL := Lib.hid hl
  clear he hl
  go_enter Tryd.func29, Tryd.ntmps29
  go_upto_region 4 with fail
  go_loopg [17] X.length (fun m s17 wx => ∃ i : Nat, i ≤ X.length ∧ m = X.length - i ∧ s17 = .int .i64 (i : Int) ∧ Below W.heap.size W wx)
  case atStart => exact ⟨0, Nat.zero_le _, rfl, rfl, Below.refl _ _⟩
  case round =>
    obtain ⟨i, hi, rfl, rfl, hbx⟩ := hrel
    by_cases hil : i < X.length
    · have hii : (i : Int) < (X.length : Int) := by omega
      have hi0 : (0 : Int) ≤ (i : Int) := by omega
      have hiy : (i : Int) < (Y.length : Int) := by have := HL.out; omega
      obtain ⟨⟨x, vx⟩, hx⟩ : ∃ x, X[i]? = some x := ⟨_, List.getElem?_eq_getElem hil⟩
      obtain ⟨⟨y, vy⟩, hy⟩ : ∃ y, Y[i]? = some y := ⟨_, List.getElem?_eq_getElem (by have := HL.out; omega)⟩
      have hxy : x = y := by
        have h1 : (X.map Prod.fst)[i]? = some x := by rw [List.getElem?_map, hx]; rfl
        have h2 : (Y.map Prod.fst)[i]? = some y := by rw [List.getElem?_map, hy]; rfl
        rw [HE.out, h2] at h1
        injection h1 with h1; exact h1.symm
      subst hxy
      obtain ⟨ad, rfl, ca, IA, ic, hvx, hxI⟩ := (hX.up hbx).at_ i _ hx
      obtain ⟨bd, rfl, cb, JA, jc, hvy, hyI⟩ := (hY.up hbx).at_ i _ hy
      simp only at hvx hvy ca cb hxI hyI
      subst hvx
      subst hvy
      have hxl := hb _ (List.mem_of_getElem? hx)
      simp only at hxl
      have HC := eqcl_any IA JA ic jc x x wr hxI hyI hxl hxl
      rw [decide_eq_true rfl] at HC
      have HC := Lib.hid HC
      clear hx hy hxI hyI
      go_wp2_with fail
      refine HC.out.mono ?_
      rintro e w5 ⟨rfl, hb5⟩
      have hb6 := hbx.trans (hb5.mono hbx.size)
      clear HC
      go_wp2_with fail
      go_roundg (X.length - (i + 1))
      case measure => omega
      case rel => exact ⟨i + 1, hil, rfl, by first | rfl | simp, hb6⟩
    · have hii : ¬ (i : Int) < (X.length : Int) := by omega
      go_wp2_with fail
      go_ret
      exact ⟨rfl, hbx⟩
end Go.Proofs.YteaaeaimjbaomaaDoor
