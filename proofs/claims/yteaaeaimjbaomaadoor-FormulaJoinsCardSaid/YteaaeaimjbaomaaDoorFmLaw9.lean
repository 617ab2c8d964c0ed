/-
  dominolaw20.FormulaJoins.
-/
import Derived.Test.YteaaeaimjbaomaaDoorFmJ4
import Derived.Test.YteaaeaimjbaomaaDoorFmAw
import Derived.Test.YteaaeaimjbaomaaDoorFmF1
import Derived.Test.YteaaeaimjbaomaaDoorFmF2
namespace Go.Proofs.YteaaeaimjbaomaaDoor
open Go.RowKit
set_option linter.unusedVariables false

theorem joinP_bd {L : List (List Gt)} {need : Int} (hL : FewJ L) : (joinP need L).1.length ≤ 1000000 ∧ ∀ g ∈ (joinP need L).1, g.kids.length ≤ 1000000 := by
  have hmov : ∀ (b : Int) (F : List Gt) (k : Nat), (∀ g ∈ F, g.kids.length ≤ 40) → ∀ g ∈ movG b k F, g.kids.length ≤ 40 := by
    intro b F
    induction F with
    | nil => intro k _ g hg; cases hg
    | cons h F ih =>
      intro k hF g hg
      rw [movG] at hg
      rcases List.mem_cons.1 hg with rfl | h9
      · rw [List.length_map]; exact hF h (List.mem_cons_self ..)
      · exact ih _ (fun g hg => hF g (List.mem_cons_of_mem _ hg)) g h9
  have hkid : ∀ (L : List (List Gt)) (s : JS), (∀ F ∈ L, ∀ g ∈ F, g.kids.length ≤ 40) → (∀ g ∈ s.1, g.kids.length ≤ 40) → ∀ g ∈ (L.foldl jstep s).1, g.kids.length ≤ 40 := by
    intro L
    induction L with
    | nil => intro s _ hs; exact hs
    | cons F L ih =>
      intro s hL hs
      rw [List.foldl_cons]
      refine ih _ (fun G hG => hL G (List.mem_cons_of_mem _ hG)) fun g hg => ?_
      simp only [jstep] at hg
      rcases List.mem_append.1 hg with h | h
      · exact hs g h
      · exact hmov _ _ _ (hL F (List.mem_cons_self ..)) g h
  obtain ⟨b1, b2, b3⟩ := joinF_bd L hL.gates
  have hl := hL.len
  unfold joinP
  split
  · exact ⟨by simp, fun g hg => by cases hg⟩
  · split
    · exact ⟨by simp, fun g hg => by cases hg⟩
    · split
      · exact ⟨by simp, fun g hg => by cases hg⟩
      · split
        · exact ⟨by simp, fun g hg => by cases hg⟩
        · refine ⟨by simp only [List.length_cons]; omega, fun g hg => ?_⟩
          rcases List.mem_cons.1 hg with rfl | h
          · simp only []; omega
          · have := hkid L ([], [], 0) hL.kids (fun g hg => by cases hg) g h
            omega
theorem gates_lit (W : World) : Gates (W.alloc (.cells #[.int .i64 0, .slice none 0 0, .int .i64 0] 40)) (W.alloc (.cells #[.int .i64 0, .slice none 0 0, .int .i64 0] 40)).heap.size (some ⟨W.heap.size, 0, none⟩) [⟨0, [], 0⟩] := by
  have hb := show Blk (W.alloc (.cells #[.int .i64 0, .slice none 0 0, .int .i64 0] 40)) W.heap.size 40 [.int .i64 0, .slice none 0 0, .int .i64 0] from Blk.new W _ _
  obtain ⟨c0, c1, c2⟩ := hb.get3
  refine ⟨fun _ => ⟨_, rfl, hb.lt, fun i g hg => ?_⟩⟩
  cases i with
  | succ i => simp at hg
  | zero =>
    simp only [List.getElem?_cons_zero, Option.some.injEq] at hg
    subst hg
    have ha : (⟨W.heap.size, 0, none⟩ : Addr).add (0 * 3) = ⟨W.heap.size, 0, none⟩ := rfl
    rw [ha]
    exact ⟨c0, ⟨none, 0, c1, ⟨fun h9 => absurd rfl h9⟩⟩, c2⟩
set_option maxRecDepth 20000 in
set_option maxHeartbeats 8000000 in
theorem fmjoins_walk (need : Int) (A : Option Addr) (c : Nat) (L : List (List Gt)) (w : World) (hF : Forms w A L) :
    Calls Tryd.prog 11 #[.int .i64 need, .slice A L.length c] w fun e w' => e = .returned (.bool true) ∧ Below w.heap.size w w' := by
  go_enter Tryd.func11, Tryd.ntmps11
  by_cases h12 : 12 < L.length
  · have hi : (12 : Int) < (L.length : Int) := by omega
    go_wp2_with fail
    refine (awake_any w).mono ?_
    rintro e w2 ⟨rfl, hb⟩
    go_wp2_with fail
    go_ret
    exact ⟨rfl, hb⟩
  · have hi : ¬ (12 : Int) < (L.length : Int) := by omega
    go_upto_region 4 with fail
    go_loopg [17] L.length (fun m s17 wx => ∃ i : Nat, i ≤ L.length ∧ m = L.length - i ∧ s17 = .int .i64 (i : Int) ∧ Below w.heap.size w wx ∧ Hid (∀ j F, j < i → L[j]? = some F → fewP F = true))
    case atStart => exact ⟨0, Nat.zero_le _, rfl, rfl, Below.refl _ _, Lib.hid (fun j F hj => absurd hj (Nat.not_lt_zero _))⟩
    case round =>
      obtain ⟨i, hi, rfl, rfl, hbx, HI⟩ := hrel
      by_cases hil : i < L.length
      · have hii : (i : Int) < (L.length : Int) := by omega
        have hi0 : (0 : Int) ≤ (i : Int) := by omega
        obtain ⟨F, hFi⟩ : ∃ F, L[i]? = some F := ⟨_, List.getElem?_eq_getElem hil⟩
        obtain ⟨ad, GA, gc, rfl, ca, hG⟩ := (hF.up hbx).at_ hFi
        have HFi := Lib.hid hFi
        clear hFi
        go_upto_region 6 with fail
        have hb2 := hbx.alloc hbx.size (.cells #[.slice GA F.length gc] 24)
        have hG2 := hG.keep' ((Below.refl wr.heap.size wr).alloc (Nat.le_refl _) (.cells #[.slice GA F.length gc] 24))
        have c6 : (wr.alloc (.cells #[.slice GA F.length gc] 24)).cell? ⟨wr.heap.size, 0, none⟩ = some (.slice GA F.length gc) := (show Blk _ wr.heap.size 24 [.slice GA F.length gc] from Blk.new wr _ _).cell 0
        generalize wr.alloc (.cells #[.slice GA F.length gc] 24) = w2 at *
        generalize wr.heap.size = g6 at *
        have HC := Lib.hid (few_any GA gc F w2 hG2)
        clear ca hG hG2
        go_wp2_with fail
        refine HC.out.mono ?_
        rintro e w3 ⟨rfl, hb3⟩
        have hb4 := hb2.trans (hb3.mono hb2.size)
        clear HC c6
        cases hf : fewP F with
        | false =>
          clear hf
          go_wp2_with fail
          refine (awake_any w3).mono ?_
          rintro e w5 ⟨rfl, hb5⟩
          go_wp2_with fail
          go_ret
          exact ⟨rfl, hb4.trans (hb5.mono hb4.size)⟩
        | true =>
          have HI2 : Hid (∀ j F, j < i + 1 → L[j]? = some F → fewP F = true) := Lib.hid (fun j G hj hG => by
            by_cases hji : j = i
            · subst hji
              rw [HFi.out] at hG
              injection hG with hG
              rw [← hG]; exact hf
            · exact HI.out j G (by omega) hG)
          clear hf HI
          go_wp2_with fail
          go_roundg (L.length - (i + 1))
          case measure => omega
          case rel => exact ⟨i + 1, hil, rfl, by first | rfl | simp, hb4, HI2⟩
      · have hii : ¬ (i : Int) < (L.length : Int) := by omega
        have hall : ∀ F ∈ L, fewP F = true := fun F hm => by
          obtain ⟨j, hj⟩ := List.mem_iff_getElem?.1 hm
          exact HI.out j F (by have := (List.getElem?_eq_some_iff.1 hj).1; omega) hj
        have hFJ : FewJ L := ⟨by omega, fun F hm => (fewP_iff.1 (hall F hm)).1, fun F hm => (fewP_iff.1 (hall F hm)).2⟩
        have HJ := Lib.hid hFJ
        have HBd := Lib.hid (joinP_bd (need := need) hFJ)
        have HC1 := Lib.hid (Join_any A c L need hFJ wr (hF.up hbx))
        have hFx := hF.up hbx
        clear HI hall hFJ hF
        generalize hR : joinP need L = R at *
        obtain ⟨R, er⟩ := R
        simp only at HBd
        go_upto_region 9 with fail
        go_wp2_with fail
        refine HC1.out.mono ?_
        rintro e w2 ⟨⟨GA, gc, rfl, hG⟩, hb2⟩
        simp only at hG ⊢
        have hb3 := hbx.trans (hb2.mono hbx.size)
        have hF2 := hFx.up hb2
        clear HC1 hb2
        go_upto_region 10 with fail
        have hb4 := hb3.alloc hb3.size (.cells #[.slice GA R.length gc] 24)
        have hG4 := hG.keep' ((Below.refl w2.heap.size w2).alloc (Nat.le_refl _) (.cells #[.slice GA R.length gc] 24))
        have hF4 := hF2.up ((Below.refl w2.heap.size w2).alloc (Nat.le_refl _) (.cells #[.slice GA R.length gc] 24))
        have c7 : (w2.alloc (.cells #[.slice GA R.length gc] 24)).cell? ⟨w2.heap.size, 0, none⟩ = some (.slice GA R.length gc) := (show Blk _ w2.heap.size 24 [.slice GA R.length gc] from Blk.new w2 _ _).cell 0
        generalize w2.alloc (.cells #[.slice GA R.length gc] 24) = w4 at *
        generalize w2.heap.size = g7 at *
        have HC2 := Lib.hid (rJoin_any A c L need HJ.out w4 hF4)
        rw [hR] at HC2
        have HR := Lib.hid hR
        clear hG hF2 hb3 hR hF4 hFx
        go_wp2_with fail
        refine HC2.out.mono ?_
        rintro e w5 ⟨⟨HA, hc, rfl, hH⟩, hb5⟩
        simp only at hH ⊢
        have hb6 := hb4.trans (hb5.mono hb4.size)
        have hG6 := hG4.keep' hb5
        have c7 := (hb5.cell (cell_lt c7)).trans c7
        clear HC2 hb5 hG4
        go_upto_region 11 with fail
        have al := (Below.refl w5.heap.size w5).alloc (Nat.le_refl _) (.cells #[.slice HA R.length hc] 24)
        have hb7 := hb6.trans (al.mono hb6.size)
        have hG7 := hG6.keep' al
        have hH7 := hH.keep' al
        have c7 := (al.cell (cell_lt c7)).trans c7
        have c9 : (w5.alloc (.cells #[.slice HA R.length hc] 24)).cell? ⟨w5.heap.size, 0, none⟩ = some (.slice HA R.length hc) := (show Blk _ w5.heap.size 24 [.slice HA R.length hc] from Blk.new w5 _ _).cell 0
        clear al hG6 hH hb6
        generalize w5.alloc (.cells #[.slice HA R.length hc] 24) = w7 at *
        generalize w5.heap.size = g9 at *
        have HS := same_any GA HA gc hc R R HBd.out.1 HBd.out.2 HBd.out.1 HBd.out.2 w7 hG7 hH7
        rw [decide_eq_true rfl] at HS
        have HS := Lib.hid HS
        have hee : (er == er) = true := by simp
        clear hG7 hH7
        go_wp2_with fail
        refine HS.out.mono ?_
        rintro e w8 ⟨rfl, hb8⟩
        have hb9 := hb7.trans (hb8.mono hb7.size)
        clear HS hb8 c7 c9
        go_wp2_with fail
        refine (leaf_any w8).mono ?_
        rintro e w9 ⟨⟨EA, ec, rfl, hE⟩, hbe⟩
        have hb10 := hb9.trans (hbe.mono hb9.size)
        have al := (Below.refl w9.heap.size w9).alloc (Nat.le_refl _) (.cells #[.int .i64 0, .slice none 0 0, .int .i64 0] 40)
        have HS2 := same_any EA (some ⟨w9.heap.size, 0, none⟩) ec 1 [⟨0, [], 0⟩] [⟨0, [], 0⟩] (by decide) (by intro g hg; rw [List.mem_singleton.1 hg]; decide) (by decide) (by intro g hg; rw [List.mem_singleton.1 hg]; decide) _ (hE.keep' al) (gates_lit w9)
        rw [decide_eq_true rfl] at HS2
        have HS2 := Lib.hid HS2
        have hb11 := hb10.trans (al.mono hb10.size)
        clear hE hbe al hb9 hb10
        go_wp2_with fail
        refine HS2.out.mono ?_
        rintro e w11 ⟨rfl, hb12⟩
        have hb13 := hb11.trans (hb12.mono hb11.size)
        clear HS2 hb12 hb11
        go_wp2_with fail
        refine (awake_any w11).mono ?_
        rintro e w12 ⟨rfl, hb14⟩
        go_wp2_with fail
        go_ret
        exact ⟨rfl, hb13.trans (hb14.mono hb13.size)⟩
end Go.Proofs.YteaaeaimjbaomaaDoor
