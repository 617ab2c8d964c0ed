/-
  dominolaw20.FormulaMonotone.
-/
import Derived.Test.YteaaeaimjbaomaaDoorFmLaw2
import Derived.Test.YteaaeaimjbaomaaDoorFmN
import Derived.OwnWalk
namespace Go.Proofs.YteaaeaimjbaomaaDoor
open Go.RowKit
set_option linter.unusedVariables false

/-- a or b, up to a place -/
def orB (a b : List Bool) (i : Nat) : List Bool := (List.range i).map fun j => gb a j || gb b j
theorem orB_succ (a b : List Bool) (i : Nat) : orB a b (i + 1) = orB a b i ++ [gb a i || gb b i] := by
  unfold orB
  rw [List.range_succ, List.map_append]; rfl
theorem orB_length (a b : List Bool) (i : Nat) : (orB a b i).length = i := by simp [orB]
theorem orB_le (a b : List Bool) : leB a (orB a b a.length) := by
  intro i hi
  have hl := gb_lt hi
  have e : (orB a b a.length)[i]? = some (gb a i || gb b i) := by
    unfold orB
    rw [List.getElem?_map, List.getElem?_range hl]; rfl
  unfold gb
  rw [List.getD_eq_getElem?_getD, e, hi]; rfl
set_option maxRecDepth 20000 in
set_option maxHeartbeats 8000000 in
theorem fmmonotone_walk (A LA LB : Option Addr) (c lc bc : Nat) (F : List Gt) (L M : List Bool) (w : World) (hG : Gates w w.heap.size A F) (hL : Bools w w.heap.size LA L) (hM : Bools w w.heap.size LB M) :
    Calls Tryd.prog 6 #[.agg #[.slice A F.length c], .slice LA L.length lc, .slice LB M.length bc] w fun e w' => e = .returned (.bool true) ∧ Below w.heap.size w w' := by
  have hL0 := Lw.box w A c F hG
  have hB0 := hL.up ((Below.refl _ _).alloc (Nat.le_refl _) (.cells #[.slice A F.length c] 24))
  have hM0 := hM.up ((Below.refl _ _).alloc (Nat.le_refl _) (.cells #[.slice A F.length c] 24))
  go_enter Tryd.func6, Tryd.ntmps6
  go_upto_region 1 with fail
  generalize w.alloc (.cells #[.slice A F.length c] 24) = W at *
  obtain ⟨g, hg⟩ : ∃ g, w.heap.size = g := ⟨_, rfl⟩
  have hL : Lw w g A c F W := hg ▸ hL0
  clear hL0
  have c0 := hL.cell
  simp only [hg]
  go_wp2_with fail
  refine (few_any A c F W hL.gates).mono ?_
  rintro e w1 ⟨rfl, hb1⟩
  have hL1 := hL.next hb1
  have hB1 := hB0.up hb1
  have hM1 := hM0.up hb1
  clear hL c0 hB0 hM0 hb1
  have haw : (fewP F = false ∨ 60 < L.length ∨ L.length ≠ M.length) ∨ (fewP F = true ∧ L.length ≤ 60 ∧ L.length = M.length) := by
    cases fewP F <;> simp <;> omega
  rcases haw with hbad | ⟨hf, hl, hlm⟩
  · cases hf : fewP F with
    | false =>
      clear hbad
      go_wp2_with fail
      refine hL1.awake.mono ?_
      rintro e w2 ⟨rfl, hL2⟩
      go_wp2_with fail
      go_ret
      exact ⟨rfl, hL2.below⟩
    | true =>
      by_cases hl : 60 < L.length
      · have hli : (60 : Int) < (L.length : Int) := by omega
        clear hbad
        go_wp2_with fail
        refine hL1.awake.mono ?_
        rintro e w2 ⟨rfl, hL2⟩
        go_wp2_with fail
        go_ret
        exact ⟨rfl, hL2.below⟩
      · have hli : ¬ (60 : Int) < (L.length : Int) := by omega
        have hne : ((L.length : Int) != (M.length : Int)) = true := by
          rw [bne_iff_ne]
          rcases hbad with h9 | h9 | h9
          · rw [hf] at h9; cases h9
          · exact absurd h9 hl
          · omega
        clear hbad
        go_wp2_with fail
        refine hL1.awake.mono ?_
        rintro e w2 ⟨rfl, hL2⟩
        go_wp2_with fail
        go_ret
        exact ⟨rfl, hL2.below⟩
  · have HF := Lib.hid hf
    have hli : ¬ (60 : Int) < (L.length : Int) := by omega
    have hll : L.length ≤ 1000000 := by omega
    have hne : ((L.length : Int) != (M.length : Int)) = false := by rw [hlm]; simp
    have HLM := Lib.hid hlm
    rw [hf]
    clear hf hlm
    go_upto_region 5 with fail
    obtain ⟨i0, hi0, hz0, hz1, hz2⟩ := info_parts bool_info
    have hk0 : Hp [] w1 [irow 4 1 (.slice none 0 0) 0 (blv (orB L M 0))] w1 := (Hp.start w1).nilrow 4 1
    go_loopg [7, 32] L.length (fun m s7 s32 wx => ∃ i : Nat, i ≤ L.length ∧ m = L.length - i ∧ s32 = .int .i64 (i : Int) ∧ Hp [] w1 [irow 4 1 s7 i (blv (orB L M i))] wx)
    case atStart => exact ⟨0, Nat.zero_le _, rfl, rfl, hk0⟩
    case round =>
      obtain ⟨i, hi, rfl, rfl, hS⟩ := hrel
      clear hk0
      by_cases hil : i < L.length
      · have hii : (i : Int) < (L.length : Int) := by omega
        have hi0' : (0 : Int) ≤ (i : Int) := by omega
        have hiy : (i : Int) < (M.length : Int) := by have := HLM.out; omega
        obtain ⟨a, ha⟩ : ∃ a, L[i]? = some a := ⟨_, List.getElem?_eq_getElem hil⟩
        obtain ⟨b, hb9⟩ : ∃ b, M[i]? = some b := ⟨_, List.getElem?_eq_getElem (by have := HLM.out; omega)⟩
        obtain ⟨ad, rfl, ca⟩ := hB1.read hS.below0 ha
        obtain ⟨bd, rfl, cb⟩ := hM1.read hS.below0 hb9
        have hab : (gb L i || gb M i) = (a || b) := by
          unfold gb
          rw [List.getD_eq_getElem?_getD, List.getD_eq_getElem?_getD, ha, hb9]; rfl
        have HAB := Lib.hid hab
        clear hab ha hb9
        cases a with
        | true =>
          go_wp2_with (at_builtin; refine wpList_append_own2 rfl _ _ 31 rfl 0 4 i0 _ 1 1 Tryd.underlying31 hi0 hz0 hz1 hz2 rfl (by decide) _ i (blv (orB L M i)) rfl ((hS.alloc _).row 0 rfl) ⟨wr.heap.size, 0, none⟩ 1 1 [.bool true] rfl rfl (new1' _ _ _) (by intro u hu; simp at hu; rw [hu]; rfl) (by decide) (by unfold maxLen; omega) (by omega) (Nat.zero_le _) ?_; intro v' w2 hown hgrow hat)
          have hS2 := (hS.alloc (.cells #[.bool true] 4)).grown 0 rfl hown hgrow hat
          go_roundg (L.length - (i + 1))
          case measure => omega
          case rel =>
            refine ⟨i + 1, hil, rfl, by first | rfl | simp, ?_⟩
            rw [orB_succ, HAB.out, show blv (orB L M i ++ [true || b]) = blv (orB L M i) ++ [.bool true] from by simp [blv]]
            exact hS2
        | false =>
          go_wp2_with (at_builtin; refine wpList_append_own2 rfl _ _ 31 rfl 0 4 i0 _ 1 1 Tryd.underlying31 hi0 hz0 hz1 hz2 rfl (by decide) _ i (blv (orB L M i)) rfl ((hS.alloc _).row 0 rfl) ⟨wr.heap.size, 0, none⟩ 1 1 [.bool b] rfl rfl (new1' _ _ _) (by intro u hu; simp at hu; rw [hu]; rfl) (by decide) (by unfold maxLen; omega) (by omega) (Nat.zero_le _) ?_; intro v' w2 hown hgrow hat)
          have hS2 := (hS.alloc (.cells #[.bool b] 4)).grown 0 rfl hown hgrow hat
          go_roundg (L.length - (i + 1))
          case measure => omega
          case rel =>
            refine ⟨i + 1, hil, rfl, by first | rfl | simp, ?_⟩
            rw [orB_succ, HAB.out, show blv (orB L M i ++ [false || b]) = blv (orB L M i) ++ [.bool b] from by simp [blv]]
            exact hS2
      · have hie : i = L.length := by omega
        have hii : ¬ (i : Int) < (L.length : Int) := by omega
        subst hie
        obtain ⟨NA, nc, rfl, hN⟩ := row_bools (hS.row 0 rfl)
        have hNl := orB_length L M L.length
        have hle := orB_le L M
        have hLx := hL1.next hS.below0
        have hBx := hB1.up hS.below0
        clear hS hi
        generalize orB L M L.length = N at *
        have HNl := Lib.hid hNl
        have hck : checkP F N.length = checkP F L.length := by rw [hNl]
        have hT1 := truthL_le F L
        have hT2 := truthL_le F N
        have hFl := (fewP_iff.1 HF.out).1
        have hTT : (truthL F L).length = (truthL F N).length ∧ leB (truthL F L) (truthL F N) ∧ (checkP F L.length ≠ 0 → (truthL F L).length = 0) := by
          unfold truthL
          rw [hck]
          split
          · rename_i h0
            exact ⟨by rw [truthP_length, truthP_length], truthP_mono hle, fun h => absurd h0 h⟩
          · exact ⟨rfl, leB.refl _, fun _ => rfl⟩
        have HTT := Lib.hid hTT
        have HCk := Lib.hid hck
        clear hTT hck hNl hle
        have c1 := hLx.cell
        have HT1 := Lib.hid (hLx.truth HF.out hBx hll lc)
        go_wp2_with fail
        refine HT1.out.mono ?_
        rintro e w2 ⟨⟨TA, tc, rfl, hT⟩, hL2, hb2⟩
        have hN2 := hN.up hb2
        clear HT1 hLx hBx hN hb2 c1
        have c1 := hL2.cell
        have HT2 := hL2.truth HF.out hN2 (by have := HNl.out; omega) nc
        rw [HCk.out, HNl.out] at HT2
        have HT2 := Lib.hid HT2
        go_wp2_with fail
        refine HT2.out.mono ?_
        rintro e w3 ⟨⟨SA, sc, rfl, hS⟩, hL3, hb3⟩
        have hT3 := hT.up hb3
        clear HT2 hL2 hN2 hb3 c1 hT
        generalize truthL F L = T at *
        generalize truthL F N = S at *
        by_cases h0 : checkP F L.length = 0
        · have hc0 : (checkP F (L.length : Int) != 0) = false := by rw [h0]; rfl
          have hlen : ((T.length : Int) != (S.length : Int)) = false := by rw [HTT.out.1]; simp
          clear h0
          go_upto_region 14 with fail
          go_loopg [89] T.length (fun m s89 wx => ∃ i : Nat, i ≤ T.length ∧ m = T.length - i ∧ s89 = .int .i64 (i : Int) ∧ Below w3.heap.size w3 wx)
          case atStart => exact ⟨0, Nat.zero_le _, rfl, rfl, Below.refl _ _⟩
          case round =>
            obtain ⟨i, hi, rfl, rfl, hbx⟩ := hrel
            by_cases hit : i < T.length
            · have hii : (i : Int) < (T.length : Int) := by omega
              have hi0' : (0 : Int) ≤ (i : Int) := by omega
              have hiy : (i : Int) < (S.length : Int) := by have := HTT.out.1; omega
              obtain ⟨a, ha⟩ : ∃ a, T[i]? = some a := ⟨_, List.getElem?_eq_getElem hit⟩
              obtain ⟨b, hb9⟩ : ∃ b, S[i]? = some b := ⟨_, List.getElem?_eq_getElem (by have := HTT.out.1; omega)⟩
              obtain ⟨ad, rfl, ca⟩ := hT3.read hbx ha
              obtain ⟨bd, rfl, cb⟩ := hS.read hbx hb9
              have hab : a = true → b = true := fun h => by
                have := HTT.out.2.1 i (by unfold gb; rw [List.getD_eq_getElem?_getD, ha, h]; rfl)
                unfold gb at this
                rw [List.getD_eq_getElem?_getD, hb9] at this
                exact this
              clear ha hb9
              cases a with
              | true =>
                obtain rfl := hab rfl
                go_wp2_with fail
                go_roundg (T.length - (i + 1))
                case measure => omega
                case rel => exact ⟨i + 1, hit, rfl, by first | rfl | simp, hbx⟩
              | false =>
                clear hab
                go_wp2_with fail
                go_roundg (T.length - (i + 1))
                case measure => omega
                case rel => exact ⟨i + 1, hit, rfl, by first | rfl | simp, hbx⟩
            · have hii : ¬ (i : Int) < (T.length : Int) := by omega
              have hL4 := hL3.next hbx
              clear hL3
              go_wp2_with fail
              refine hL4.awake.mono ?_
              rintro e w5 ⟨rfl, hL5⟩
              go_wp2_with fail
              go_ret
              exact ⟨rfl, hL5.below⟩
        · have hc0 : (checkP F (L.length : Int) != 0) = true := by rw [bne_iff_ne]; exact h0
          have hlen : ((T.length : Int) == (S.length : Int)) = true := by rw [HTT.out.1]; simp
          clear h0
          go_wp2_with fail
          refine hL3.awake.mono ?_
          rintro e w5 ⟨rfl, hL5⟩
          go_wp2_with fail
          go_ret
          exact ⟨rfl, hL5.below⟩
end Go.Proofs.YteaaeaimjbaomaaDoor
