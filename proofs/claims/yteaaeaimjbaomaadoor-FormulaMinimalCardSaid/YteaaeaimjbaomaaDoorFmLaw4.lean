/-
  dominolaw20.FormulaSets.
-/
import Derived.Test.YteaaeaimjbaomaaDoorFmLaw2
import Derived.Test.YteaaeaimjbaomaaDoorFmS3
namespace Go.Proofs.YteaaeaimjbaomaaDoor
open Go.RowKit
set_option linter.unusedVariables false

theorem any_succ {α : Type} (l : List α) (p : α → Bool) {i : Nat} {x : α} (h : l[i]? = some x) : (l.take (i + 1)).any p = ((l.take i).any p || p x) := by
  rw [List.take_add_one, h, List.any_append]; simp
theorem all_succ {α : Type} (l : List α) (p : α → Bool) {i : Nat} {x : α} (h : l[i]? = some x) : (l.take (i + 1)).all p = ((l.take i).all p && p x) := by
  rw [List.take_add_one, h, List.all_append]; simp
theorem lits_at {o : List Nat} {w W : World} {v : Value} {Ls : List LV} {r : List It} (h : Hp o w (lits v Ls ++ r) W) {i : Nat} {x : LV} (hx : Ls[i]? = some x) :
    (∃ g c, v = .slice (some ⟨g, 0, none⟩) Ls.length c ∧ W.cell? ⟨g, i, none⟩ = some x.2) ∧ ∃ A c, x.2 = .slice A x.1.length c ∧ Ints W W.heap.size A x.1 := by
  have hl := (List.getElem?_eq_some_iff.1 hx).1
  obtain ⟨g, c, rfl, -⟩ := row_form (h.row 0 rfl) (by omega)
  refine ⟨⟨g, c, rfl, row_cell (h.row 0 rfl) (by rw [List.getElem?_map, hx]; rfl)⟩, ?_⟩
  have h1 : W.ownsRow 0 3 1 x.2 x.1.length (ivals x.1) := by
    refine h.sep.ok (lvIt x) ?_
    exact List.mem_append_left _ (List.mem_cons_of_mem _ (List.mem_map.2 ⟨x, List.mem_of_getElem? hx, rfl⟩))
  obtain ⟨A, c', e⟩ := row_forms h1
  refine ⟨A, c', e, ?_⟩
  rw [e] at h1
  exact row_ints h1
theorem Lw.collect {w : World} {g : Nat} {A : Option Addr} {c : Nat} {F : List Gt} {W : World} (h : Lw w g A c F W) (hf : fewP F = true) (n : Int) (most : Nat) (hm : most ≤ 1000000) : Calls Tryd.prog 21 #[.agg #[.slice A F.length c], .int .i64 n, .int .i64 (most : Int)] W fun e w' => ∃ v L, e = .returned (.tuple #[v, .bool (decide ((minsP F n).length ≤ most))]) ∧ L.map Prod.fst = (minsP F n).take most ∧ Hp [] W (lits v L) w' :=
  collect_any A c F n most (by have := (fewP_iff.1 hf).1; omega) (fun g hg => by have := (fewP_iff.1 hf).2 g hg; omega) hm W h.gates
set_option maxRecDepth 20000 in
set_option maxHeartbeats 8000000 in
theorem fmsets_walk (A LA : Option Addr) (c lc : Nat) (F : List Gt) (L : List Bool) (w : World) (hG : Gates w w.heap.size A F) (hL : Bools w w.heap.size LA L) :
    Calls Tryd.prog 7 #[.agg #[.slice A F.length c], .slice LA L.length lc] w fun e w' => e = .returned (.bool true) ∧ Below w.heap.size w w' := by
  have hL0 := Lw.box w A c F hG
  have hB0 := hL.up ((Below.refl _ _).alloc (Nat.le_refl _) (.cells #[.slice A F.length c] 24))
  go_enter Tryd.func7, Tryd.ntmps7
  go_upto_region 1 with fail
  generalize w.alloc (.cells #[.slice A F.length c] 24) = W at *
  obtain ⟨g, hg⟩ : ∃ g, w.heap.size = g := ⟨_, rfl⟩
  have hL : Lw w g A c F W := hg ▸ hL0
  clear hL0
  have c0 := hL.cell
  simp only [hg]
  go_wp2_with fail
  refine (few_any A c F W hL.gates).mono ?_
  rintro e w1 ⟨rfl, hb1⟩
  have hL1 := hL.next hb1
  have hB1 := hB0.up hb1
  clear hL c0 hB0 hb1
  cases hf : fewP F with
  | false =>
    clear hf
    go_wp2_with fail
    refine hL1.awake.mono ?_
    rintro e w2 ⟨rfl, hL2⟩
    go_wp2_with fail
    go_ret
    exact ⟨rfl, hL2.below⟩
  | true =>
    have HF := Lib.hid hf
    clear hf
    by_cases hl : 9 < L.length
    · have hli : (9 : Int) < (L.length : Int) := by omega
      go_wp2_with fail
      refine hL1.awake.mono ?_
      rintro e w2 ⟨rfl, hL2⟩
      go_wp2_with fail
      go_ret
      exact ⟨rfl, hL2.below⟩
    · have hli : ¬ (9 : Int) < (L.length : Int) := by omega
      have hll : L.length ≤ 1000000 := by omega
      have hl9 : L.length ≤ 9 := by omega
      have c1 := hL1.cell
      have HT1 := Lib.hid (hL1.truth HF.out hB1 hll lc)
      go_wp2_with fail
      refine HT1.out.mono ?_
      rintro e w2 ⟨⟨TA, tc, rfl, hT⟩, hL2, hb2⟩
      have hB2 := hB1.up hb2
      clear HT1 hL1 hB1 hb2 c1
      have c1 := hL2.cell
      by_cases h0 : checkP F L.length = 0
      · have hc0 : (checkP F (L.length : Int) != 0) = false := by rw [h0]; rfl
        have HM := Lib.hid (mins_length F L.length hl9)
        have HIN := Lib.hid (fun s (hs : s ∈ minsP F L.length) => mins_in h0 hs)
        have HSP := Lib.hid (sets_plain h0)
        have hTL : truthL F L = truthP F L := by unfold truthL; rw [if_pos h0]
        have HCo := Lib.hid (hL2.collect HF.out (L.length : Int) 600 (by omega))
        rw [hTL] at hT
        rw [hTL]
        have HTl := Lib.hid (truthP_length F L)
        clear hTL h0
        go_wp2_with fail
        refine HCo.out.mono ?_
        rintro e w3 ⟨v, Ls, rfl, hLs, hC⟩
        rw [decide_eq_true HM.out]
        rw [List.take_of_length_le HM.out] at hLs
        have hL3 := hL2.next hC.below0
        have hB3 := hB2.up hC.below0
        have hT3 := hT.up hC.below0
        have HLl : Hid (Ls.length ≤ 600) := Lib.hid (by have h7 := congrArg List.length hLs; rw [List.length_map] at h7; have := HM.out; omega)
        have HLs := Lib.hid hLs
        clear HCo hL2 hB2 hT c1 hLs
        obtain ⟨VA, vc, rfl⟩ := row_forms (hC.row 0 rfl)
        go_upto_region 11 with fail
        have hC' : Hp [] w2 (lits (.slice VA Ls.length vc) Ls ++ []) w3 := by rw [List.append_nil]; exact hC
        go_loopg [9, 44] Ls.length (fun m s9 s44 wx => w3 = wx ∧ ∃ i : Nat, i ≤ Ls.length ∧ m = Ls.length - i ∧ s44 = .int .i64 (i : Int) ∧ ∃ b : Bool, s9 = .bool b ∧ Hid (b = ((Ls.map Prod.fst).take i).any (fun s => inM s L)))
        case atStart => exact ⟨rfl, 0, Nat.zero_le _, rfl, rfl, false, rfl, Lib.hid rfl⟩
        case round =>
          obtain ⟨rfl, i, hi, rfl, rfl, b, rfl, HB⟩ := hrel
          by_cases hil : i < Ls.length
          · have hii : (i : Int) < (Ls.length : Int) := by omega
            have hi0 : (0 : Int) ≤ (i : Int) := by omega
            obtain ⟨⟨s, vs⟩, hx⟩ : ∃ x, Ls[i]? = some x := ⟨_, List.getElem?_eq_getElem hil⟩
            obtain ⟨⟨gl, gc, hgv, cx⟩, KA, kc, hvs, hKI⟩ := lits_at hC' hx
            injection hgv with hA9 _ hA8
            subst hA9
            subst hA8
            simp only at hvs cx hKI
            subst hvs
            have hxm : (Ls.map Prod.fst)[i]? = some s := by rw [List.getElem?_map, hx]; rfl
            have hsm : s ∈ minsP F L.length := by rw [← HLs.out]; exact List.mem_of_getElem? hxm
            obtain ⟨hs1, hs2⟩ := HIN.out s hsm
            have HX := Lib.hid (any_succ (Ls.map Prod.fst) (fun s => inM s L) hxm)
            have HS2 := Lib.hid hs2
            clear hx hxm hsm hs2
            go_upto_region 15 with fail
            go_loopg [12, 50] s.length (fun m s12 s50 wx => w3 = wx ∧ ∃ j : Nat, j ≤ s.length ∧ m = s.length - j ∧ s50 = .int .i64 (j : Int) ∧ ∃ d : Bool, s12 = .bool d ∧ Hid (d = (s.take j).all (fun k => gb L k.toNat)))
            case atStart => exact ⟨rfl, 0, Nat.zero_le _, rfl, rfl, true, rfl, Lib.hid rfl⟩
            case round =>
              obtain ⟨rfl, j, hj, rfl, rfl, d, rfl, HD⟩ := hrel
              by_cases hjl : j < s.length
              · have hjj : (j : Int) < (s.length : Int) := by omega
                have hj0 : (0 : Int) ≤ (j : Int) := by omega
                obtain ⟨k, hk⟩ : ∃ k, s[j]? = some k := ⟨_, List.getElem?_eq_getElem hjl⟩
                obtain ⟨kd, rfl, ck⟩ := hKI.read (Below.refl _ _) hk
                obtain ⟨hk1, hk2⟩ := HS2.out k (List.mem_of_getElem? hk)
                obtain ⟨kn, rfl⟩ : ∃ kn : Nat, k = kn := ⟨k.toNat, by omega⟩
                have HX2 := Lib.hid (all_succ s (fun k => gb L k.toNat) hk)
                obtain ⟨y, hy⟩ : ∃ y, L[kn]? = some y := ⟨_, List.getElem?_eq_getElem (by omega)⟩
                obtain ⟨ld, rfl, cy⟩ := hB3.read (Below.refl _ _) hy
                have hgy : gb L kn = y := by unfold gb; rw [List.getD_eq_getElem?_getD, hy]; rfl
                have HGY := Lib.hid hgy
                have hnk : ¬ ((kn : Int) < 0) := by omega
                have hnk2 : ¬ ((L.length : Int) ≤ (kn : Int)) := by omega
                clear hk hy hgy
                cases d with
                | true =>
                  go_wp2_with fail
                  go_roundg (s.length - (j + 1))
                  case measure => omega
                  case rel =>
                    refine ⟨rfl, j + 1, hjl, rfl, by first | rfl | simp, y, rfl, Lib.hid ?_⟩
                    rw [HX2.out, ← HD.out, Int.toNat_natCast, HGY.out]; simp
                | false =>
                  go_wp2_with fail
                  go_roundg (s.length - (j + 1))
                  case measure => omega
                  case rel =>
                    refine ⟨rfl, j + 1, hjl, rfl, by first | rfl | simp, false, rfl, Lib.hid ?_⟩
                    rw [HX2.out, ← HD.out]; simp
              · have hjj : ¬ (j : Int) < (s.length : Int) := by omega
                have HDd : Hid (d = inM s L) := by
                  refine Lib.hid ?_
                  rw [HD.out, List.take_of_length_le (by omega)]; rfl
                clear HD
                cases b with
                | true =>
                  go_wp2_with fail
                  go_roundg (Ls.length - (i + 1))
                  case measure => omega
                  case rel =>
                    refine ⟨rfl, i + 1, hil, rfl, (by have h7 := HLl.out; have h8 := IntWalk.wrap64_in ((i : Int) + 1) ⟨by omega, by omega⟩; rw [h8]; rfl), true, rfl, Lib.hid ?_⟩
                    rw [HX.out, ← HB.out]; simp
                | false =>
                  go_wp2_with fail
                  go_roundg (Ls.length - (i + 1))
                  case measure => omega
                  case rel =>
                    refine ⟨rfl, i + 1, hil, rfl, (by have h7 := HLl.out; have h8 := IntWalk.wrap64_in ((i : Int) + 1) ⟨by omega, by omega⟩; rw [h8]; rfl), d, rfl, Lib.hid ?_⟩
                    rw [HX.out, ← HB.out, HDd.out]; simp
          · have hii : ¬ (i : Int) < (Ls.length : Int) := by omega
            have hb : b = holdsP F L := by
              rw [HB.out, List.take_of_length_le (by rw [List.length_map]; omega), HLs.out, HSP.out]
            clear HB
            by_cases hz : F = []
            · have hz0 : (((truthP F L).length : Int) == 0) = true := by rw [HTl.out, hz]; rfl
              have hbt : b = true := by rw [hb, holdsP, decide_eq_true hz]; rfl
              subst hbt
              clear hb hz
              go_wp2_with fail
              refine hL3.awake.mono ?_
              rintro e w5 ⟨rfl, hL5⟩
              go_wp2_with fail
              go_ret
              exact ⟨rfl, hL5.below⟩
            · have hpos : 0 < F.length := List.length_pos_iff.2 hz
              have hz0 : (((truthP F L).length : Int) == 0) = false := by rw [beq_eq_false_iff_ne, HTl.out]; omega
              have hz1 : (0 : Int) < ((truthP F L).length : Int) := by rw [HTl.out]; omega
              obtain ⟨t0, ht0⟩ : ∃ t0, (truthP F L)[0]? = some t0 := ⟨_, List.getElem?_eq_getElem (by have := HTl.out; omega)⟩
              obtain ⟨td, rfl, ct⟩ := hT3.read (Below.refl _ _) ht0
              have hadd : td.add 0 = td := by simp [Addr.add]
              rw [hadd] at ct
              clear hadd
              have hbt : b = t0 := by
                rw [hb, holdsP, decide_eq_false hz, Bool.false_or]
                unfold gb
                rw [List.getD_eq_getElem?_getD, ht0]; rfl
              subst hbt
              have hbb : (b == b) = true := by simp
              clear hb hz ht0
              go_wp2_with fail
              refine hL3.awake.mono ?_
              rintro e w5 ⟨rfl, hL5⟩
              go_wp2_with fail
              go_ret
              exact ⟨rfl, hL5.below⟩
      · have hc0 : (checkP F (L.length : Int) != 0) = true := by rw [bne_iff_ne]; exact h0
        clear h0
        go_wp2_with fail
        refine hL2.awake.mono ?_
        rintro e w5 ⟨rfl, hL5⟩
        go_wp2_with fail
        go_ret
        exact ⟨rfl, hL5.below⟩
end Go.Proofs.YteaaeaimjbaomaaDoor
