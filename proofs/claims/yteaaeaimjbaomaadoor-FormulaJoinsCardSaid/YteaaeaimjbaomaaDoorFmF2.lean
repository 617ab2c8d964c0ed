/-
  dominoref20.Same.
-/
import Derived.Test.YteaaeaimjbaomaaDoorFmF1
namespace Go.Proofs.YteaaeaimjbaomaaDoor
open Go.RowKit
set_option linter.unusedVariables false

abbrev gcs (g : Gt) (A : Option Addr) (c : Nat) : List Value := [.int .i64 g.need, .slice A g.kids.length c, .int .i64 g.leaf]
set_option maxRecDepth 20000 in
set_option maxHeartbeats 4000000 in
theorem same_any (A B : Option Addr) (c d : Nat) (F G : List Gt) (hF : F.length ≤ 1000000) (hK : ∀ g ∈ F, g.kids.length ≤ 1000000) (hF2 : G.length ≤ 1000000) (hK2 : ∀ g ∈ G, g.kids.length ≤ 1000000) (w : World) (hG : Gates w w.heap.size A F) (hH : Gates w w.heap.size B G) :
    Calls Tryd.prog 25 #[.agg #[.slice A F.length c], .agg #[.slice B G.length d]] w fun e w' => e = .returned (.bool (decide (F = G))) ∧ Below w.heap.size w w' := by
  have hk : Hp [] w [iblk (w.heap.size + 1) 24 [.slice B G.length d], iblk w.heap.size 24 [.slice A F.length c]] ((w.alloc (.cells #[.slice A F.length c] 24)).alloc (.cells #[.slice B G.length d] 24)) := by
    have := ((Hp.start w).new 24 [.slice A F.length c]).new 24 [.slice B G.length d]
    have hsz : ∀ (w : World) (o : Obj), (w.alloc o).heap.size = w.heap.size + 1 := fun w o => by simp
    rw [hsz] at this
    exact this
  go_enter Tryd.func25, Tryd.ntmps25
  go_upto_region 1 with fail
  generalize (w.alloc (.cells #[.slice A F.length c] 24)).alloc (.cells #[.slice B G.length d] 24) = W at *
  generalize w.heap.size + 1 = gy at *
  generalize hgx : w.heap.size = gx at hk
  have HX := Lib.hid hgx
  clear hgx
  have b0 := (hk.blk 1 rfl).cell 0
  have b1 := (hk.blk 0 rfl).cell 0
  simp only [List.getElem?_cons_zero] at b0 b1
  by_cases hl : F.length = G.length
  · have t1 : ((F.length : Int) != (G.length : Int)) = false := by simp [hl]
    have HL := Lib.hid hl
    clear hl
    go_upto_region 4 with fail
    clear b0 b1
    go_loopg [5] F.length (fun m s5 wx => ∃ i : Nat, i ≤ F.length ∧ m = F.length - i ∧ s5 = .int .i64 (i : Int) ∧ Hp [] w [iblk gy 24 [.slice B G.length d], iblk gx 24 [.slice A F.length c]] wx ∧ Hid (∀ j, j < i → F[j]? = G[j]?))
    case atStart => exact ⟨0, Nat.zero_le _, rfl, rfl, hk, Lib.hid (fun j hj => absurd hj (Nat.not_lt_zero _))⟩
    case round =>
      obtain ⟨i, hi, rfl, rfl, hS, HI⟩ := hrel
      clear hk
      have b0 := (hS.blk 1 rfl).cell 0
      have b1 := (hS.blk 0 rfl).cell 0
      simp only [List.getElem?_cons_zero] at b0 b1
      by_cases hil : i < F.length
      · obtain ⟨x, hx⟩ : ∃ x, F[i]? = some x := ⟨_, List.getElem?_eq_getElem hil⟩
        obtain ⟨y, hy⟩ : ∃ y, G[i]? = some y := ⟨_, List.getElem?_eq_getElem (by have := HL.out; omega)⟩
        obtain ⟨ad, hA, KA, kc, xn, xk, xl, xi⟩ := hG.read hS.below0 hx
        obtain ⟨bd, hB, KB, kd, yn, yk, yl, yi⟩ := hH.read hS.below0 hy
        subst hA
        subst hB
        have hkx := hK x (List.mem_of_getElem? hx)
        have hky := hK2 y (List.mem_of_getElem? hy)
        have hiG : (i : Int) < (G.length : Int) := by have := HL.out; omega
        have hiF : (i : Int) < (F.length : Int) := by omega
        have hi0 : (0 : Int) ≤ (i : Int) := by omega
        have HXY : Hid ((x = y → ∀ j, j < i + 1 → F[j]? = G[j]?) ∧ (x ≠ y → F ≠ G)) := by
          refine Lib.hid ⟨fun h j hj => ?_, fun h h9 => ?_⟩
          · by_cases hji : j = i
            · rw [hji, hx, hy, h]
            · exact HI.out j (by omega)
          · rw [h9, hy] at hx; exact h (Option.some.inj hx).symm
        go_upto_region 6 with fail
        go_cut [6, 7] (fun s6 s7 wx => ∃ g6 g7, s6 = .pointer (some ⟨g6, 0, none⟩) ∧ s7 = .pointer (some ⟨g7, 0, none⟩) ∧ Hp [] w [iblk g7 40 (gcs y KB kd), iblk g6 40 (gcs x KA kc), iblk gy 24 [.slice (some bd) G.length d], iblk gx 24 [.slice (some ad) F.length c]] wx)
        case first =>
          have hSd := hS.drew
          have b0 : wr.drew.cell? ⟨gx, 0, none⟩ = some (.slice (some ad) F.length c) := b0
          have b1 : wr.drew.cell? ⟨gy, 0, none⟩ = some (.slice (some bd) G.length d) := b1
          have hal : ∀ (p : Addr) v, wr.cell? p = some v → (∀ o, (wr.alloc o).cell? p = some v) ∧ ∀ o o', ((wr.alloc o).alloc o').cell? p = some v := fun p v hp => by
            have hlt := World.block_lt_of_cell? _ _ hp
            have h1 : ∀ o, (wr.alloc o).cell? p = some v := fun o => by rw [Below.cell (B := wr.heap.size) ((Below.refl _ _).alloc (Nat.le_refl _) o) hlt]; exact hp
            exact ⟨h1, fun o o' => by rw [Below.cell (B := (wr.alloc o).heap.size) ((Below.refl _ _).alloc (Nat.le_refl _) o') (by simp; omega)]; exact h1 o⟩
          obtain ⟨a1, a2⟩ := hal _ _ b0
          obtain ⟨a3, a4⟩ := hal _ _ b1
          obtain ⟨a5, a6⟩ := hal _ _ xn
          obtain ⟨a7, a8⟩ := hal _ _ xk
          obtain ⟨a9, a10⟩ := hal _ _ xl
          obtain ⟨e1, e2⟩ := hal _ _ yn
          obtain ⟨e3, e4⟩ := hal _ _ yk
          obtain ⟨e5, e6⟩ := hal _ _ yl
          have hsz : ∀ (w : World) (o : Obj), (w.alloc o).heap.size = w.heap.size + 1 := fun w o => by simp
          have h1 := ((hS.new 40 (gcs x KA kc)).new 40 (gcs y KB kd)).drew
          have h2 := (((hS.new 40 (gcs y KB kd)).new 40 (gcs x KA kc)).drew).perm (List.Perm.swap _ _ _)
          rw [hsz] at h1 h2
          have H1 := Lib.hid h1
          have H2 := Lib.hid h2
          clear hal h1 h2 hsz
          go_region
          all_goals
            go_wp2_with fail
            go_meet
            first | exact ⟨_, _, rfl, rfl, H1.out⟩ | exact ⟨_, _, rfl, rfl, H2.out⟩
        case rest =>
          obtain ⟨g6, g7, rfl, rfl, hS2⟩ := hcut
          clear hS xn xk xl yn yk yl b0 b1
          obtain ⟨p0, p1, p2⟩ := (hS2.blk 1 rfl).get3
          obtain ⟨q0, q1, q2⟩ := (hS2.blk 0 rfl).get3
          by_cases hn : x.need = y.need
          · have u1 : (x.need != y.need) = false := by simpa using hn
            by_cases hlf : x.leaf = y.leaf
            · have u2 : (x.leaf != y.leaf) = false := by simpa using hlf
              by_cases hkl : x.kids.length = y.kids.length
              · have u3 : ((x.kids.length : Int) != (y.kids.length : Int)) = false := by simp [hkl]
                have HN := Lib.hid hn
                have HLF := Lib.hid hlf
                have HKL := Lib.hid hkl
                clear hn hlf hkl
                go_wp2_with fail
                clear p0 p1 p2 q0 q1 q2
                go_loopg [8] x.kids.length (fun m s8 wx => ∃ j : Nat, j ≤ x.kids.length ∧ m = x.kids.length - j ∧ s8 = .int .i64 (j : Int) ∧ Hp [] w [iblk g7 40 (gcs y KB kd), iblk g6 40 (gcs x KA kc), iblk gy 24 [.slice (some bd) G.length d], iblk gx 24 [.slice (some ad) F.length c]] wx ∧ Hid (∀ m, m < j → x.kids[m]? = y.kids[m]?))
                case atStart => exact ⟨0, Nat.zero_le _, rfl, rfl, hS2, Lib.hid (fun j hj => absurd hj (Nat.not_lt_zero _))⟩
                case round =>
                  obtain ⟨j, hj, rfl, rfl, hS3, HJ⟩ := hrel
                  clear hS2
                  obtain ⟨p0, p1, p2⟩ := (hS3.blk 1 rfl).get3
                  obtain ⟨q0, q1, q2⟩ := (hS3.blk 0 rfl).get3
                  by_cases hjl : j < x.kids.length
                  · obtain ⟨u, hu⟩ : ∃ u, x.kids[j]? = some u := ⟨_, List.getElem?_eq_getElem hjl⟩
                    obtain ⟨v, hv⟩ : ∃ v, y.kids[j]? = some v := ⟨_, List.getElem?_eq_getElem (by have := HKL.out; omega)⟩
                    obtain ⟨ka, hKA, cu⟩ := xi.read hS3.below0 hu
                    obtain ⟨kb, hKB, cv⟩ := yi.read hS3.below0 hv
                    subst hKA
                    subst hKB
                    have hj0 : (0 : Int) ≤ (j : Int) := by omega
                    have hjx : (j : Int) < (x.kids.length : Int) := by omega
                    have hjy : (j : Int) < (y.kids.length : Int) := by have := HKL.out; omega
                    by_cases huv : u = v
                    · have u4 : (u != v) = false := by simpa using huv
                      have HJ2 : Hid (∀ m, m < j + 1 → x.kids[m]? = y.kids[m]?) := by
                        refine Lib.hid fun m hm => ?_
                        by_cases hmj : m = j
                        · rw [hmj, hu, hv, huv]
                        · exact HJ.out m (by omega)
                      clear huv hu hv HJ
                      go_wp2_with fail
                      go_quiet (fail)
                      have hS4 := hS3.drewN nq
                      clear p0 p1 p2 q0 q1 q2 hS3 cu cv
                      go_wp2_with fail
                      go_roundg (x.kids.length - (j + 1))
                      case measure => omega
                      case rel => exact ⟨j + 1, hjl, rfl, by first | rfl | simp, hS4, HJ2⟩
                    · have u4 : (u != v) = true := by simpa using huv
                      have HE : Hid (F ≠ G) := Lib.hid (HXY.out.2 (fun h9 => huv (by rw [h9, hv] at hu; exact (Option.some.inj hu).symm)))
                      clear huv hu hv HJ
                      go_wp2_with fail
                      go_quiet (fail)
                      have hS4 := hS3.drewN nq
                      clear p0 p1 p2 q0 q1 q2 hS3 cu cv
                      go_wp2_with fail
                      go_ret
                      rw [decide_eq_false HE.out]
                      exact ⟨rfl, hS4.below0⟩
                  · have HE : Hid (x = y) := by
                      refine Lib.hid ?_
                      have hk9 : x.kids = y.kids := List.ext_getElem? fun m => by
                        by_cases hm : m < j
                        · exact HJ.out m hm
                        · rw [List.getElem?_eq_none (by omega), List.getElem?_eq_none (by have := HKL.out; omega)]
                      have h1 := HN.out
                      have h2 := HLF.out
                      cases x
                      cases y
                      simp only at h1 h2 hk9
                      rw [h1, h2, hk9]
                    have HN2 : Hid (∀ j, j < i + 1 → F[j]? = G[j]?) := Lib.hid (HXY.out.1 HE.out)
                    have hjx : ¬ (j : Int) < (x.kids.length : Int) := by omega
                    clear HE HN HLF HJ
                    go_wp2_with fail
                    go_roundg (F.length - (i + 1))
                    case measure => omega
                    case rel =>
                      have h5 := hS3.tail.tail
                      exact ⟨i + 1, hil, rfl, by first | rfl | simp, h5, HN2⟩
              · have u3 : ((x.kids.length : Int) != (y.kids.length : Int)) = true := by rw [bne_iff_ne]; omega
                have HE : Hid (F ≠ G) := Lib.hid (HXY.out.2 (fun h9 => hkl (by rw [h9])))
                clear hkl
                go_wp2_with fail
                go_ret
                rw [decide_eq_false HE.out]
                exact ⟨rfl, hS2.below0⟩
            · have u2 : (x.leaf != y.leaf) = true := by simpa using hlf
              have HE : Hid (F ≠ G) := Lib.hid (HXY.out.2 (fun h9 => hlf (by rw [h9])))
              clear hlf
              go_wp2_with fail
              go_ret
              rw [decide_eq_false HE.out]
              exact ⟨rfl, hS2.below0⟩
          · have u1 : (x.need != y.need) = true := by simpa using hn
            have HE : Hid (F ≠ G) := Lib.hid (HXY.out.2 (fun h9 => hn (by rw [h9])))
            clear hn
            go_wp2_with fail
            go_ret
            rw [decide_eq_false HE.out]
            exact ⟨rfl, hS2.below0⟩
      · have HE : Hid (F = G) := by
          refine Lib.hid (List.ext_getElem? fun j => ?_)
          by_cases hj : j < i
          · exact HI.out j hj
          · rw [List.getElem?_eq_none (by omega), List.getElem?_eq_none (by have := HL.out; omega)]
        have hiF : ¬ (i : Int) < (F.length : Int) := by omega
        go_wp2_with fail
        go_ret
        rw [decide_eq_true HE.out]
        exact ⟨rfl, hS.below0⟩
  · have t1 : ((F.length : Int) != (G.length : Int)) = true := by rw [bne_iff_ne]; omega
    have HE : Hid (F ≠ G) := Lib.hid (fun h9 => hl (by rw [h9]))
    go_wp2_with fail
    go_ret
    rw [decide_eq_false HE.out]
    exact ⟨rfl, hk.below0⟩
end Go.Proofs.YteaaeaimjbaomaaDoor
