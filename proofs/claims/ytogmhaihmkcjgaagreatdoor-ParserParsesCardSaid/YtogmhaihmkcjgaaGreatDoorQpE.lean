/-
  dominoref41.Equal of two policies that are equal. Printed by mkpge.py.
-/
import Derived.Test.YtogmhaihmkcjgaaGreatDoorQpQ
namespace Go.Proofs.YtogmhaihmkcjgaaGreatDoor
open Go.RowKit Go.Shelf
set_option linter.unusedVariables false

set_option maxRecDepth 20000 in
set_option maxHeartbeats 16000000 in
theorem requal_same (d : Po) (La Lb : Lp) (hB : PBd d) (w : World) (hP0 : PolM w d La) (hQ0 : PolM w d Lb) : Calls Tryz.prog 25 #[polV d La, polV d Lb] w fun e w' => e = .returned (.bool true) ∧ Below w.heap.size w w' := by
  have hnl := hB.nl
  have hul := hB.ul
  have hrl := hB.rl
  obtain ⟨ga, hga⟩ : ∃ g, w.heap.size = g := ⟨_, rfl⟩
  obtain ⟨gb, hgb⟩ : ∃ g, ga + 1 = g := ⟨_, rfl⟩
  have hk0 := ((Hp.start w).new 29 (polcs d La)).new 29 (polcs d Lb)
  simp only [sizeA] at hk0
  have hb0 := hk0.below0
  have hP := hP0.up hb0
  have hQ := hQ0.up hb0
  clear hP0 hQ0
  go_enter Tryz.func25, Tryz.ntmps25
  go_upto_region 1 with fail
  simp only [hga, hgb] at hk0 ⊢
  generalize (w.alloc _).alloc _ = w1 at *
  have m0 := hk0.blk 1 rfl
  have m1 := hk0.blk 0 rfl
  replace hb0 := hk0.below0
  clear hk0
  obtain ⟨c0, c1, c2, c3, c4, c5, c6, c7⟩ := m0.get8
  obtain ⟨d0, d1, d2, d3, d4, d5, d6, d7⟩ := m1.get8
  have z0 : (d.name.toList == d.name.toList) = true := by simp
  have z5 : (d.scope.toList == d.scope.toList) = true := by simp
  have z7 : (d.escrow.toList == d.escrow.toList) = true := by simp
  go_upto_region 4 with fail
  clear c0 c1 c2 c3 c4 c5 c6 c7 d0 d1 d2 d3 d4 d5 d6 d7 z0 z5 z7
  go_loopg [5] d.uses.length (fun m s5 wx => ∃ i : Nat, i ≤ d.uses.length ∧ m = d.uses.length - i ∧ s5 = .int .i64 (i : Int) ∧ Below w1.heap.size w1 wx)
  case atStart => exact ⟨0, Nat.zero_le _, rfl, rfl, Below.refl _ _⟩
  case round =>
    obtain ⟨i, hi, rfl, rfl, hbx⟩ := hrel
    have mr0 := m0.up hbx
    have mr1 := m1.up hbx
    have c1 := mr0.cell 1
    have d1 := mr1.cell 1
    simp only [List.getElem?_cons_zero, List.getElem?_cons_succ] at c1 d1
    by_cases hil : i < d.uses.length
    · have hii : (i : Int) < (d.uses.length : Int) := by omega
      have hi0 : (0 : Int) ≤ (i : Int) := by omega
      obtain ⟨⟨a1, a2⟩, ha⟩ : ∃ a, d.uses[i]? = some a := ⟨_, List.getElem?_eq_getElem hil⟩
      obtain ⟨ad, hA1, ca, cb⟩ := (hP.us.up hbx).at_ i _ ha
      obtain ⟨bd, hA2, da, db⟩ := (hQ.us.up hbx).at_ i _ ha
      rw [hA1] at c1
      rw [hA2] at d1
      simp only at ca cb da db
      have z1 : (a1.toList == a1.toList) = true := by simp
      have z2 : (a2.toList == a2.toList) = true := by simp
      clear ha hA1 hA2
      go_upto_region 6 with fail
      go_quiet (fail)
      go_wp2_with fail
      go_roundg (d.uses.length - (i + 1))
      case measure => omega
      case rel => exact ⟨i + 1, hil, rfl, by first | rfl | simp, by first | exact below_drewN' hbx _ | exact hbx | exact hbx.drew⟩
    · have hii : ¬ (i : Int) < (d.uses.length : Int) := by omega
      clear hi hil
      go_upto_region 9 with fail
      clear c1 d1 mr0 mr1
      go_loopg [6] d.reveal.length (fun m s6 wx => ∃ i : Nat, i ≤ d.reveal.length ∧ m = d.reveal.length - i ∧ s6 = .int .i64 (i : Int) ∧ Below w1.heap.size w1 wx)
      case atStart => exact ⟨0, Nat.zero_le _, rfl, rfl, by assumption⟩
      case round =>
        obtain ⟨i, hi, rfl, rfl, hbx⟩ := hrel
        have mr0 := m0.up hbx
        have mr1 := m1.up hbx
        have c2 := mr0.cell 2
        have d2 := mr1.cell 2
        simp only [List.getElem?_cons_zero, List.getElem?_cons_succ] at c2 d2
        by_cases hil : i < d.reveal.length
        · have hii : (i : Int) < (d.reveal.length : Int) := by omega
          have hi0 : (0 : Int) ≤ (i : Int) := by omega
          obtain ⟨⟨a1, a2⟩, ha⟩ : ∃ a, d.reveal[i]? = some a := ⟨_, List.getElem?_eq_getElem hil⟩
          obtain ⟨ad, hA1, ca, cb⟩ := (hP.rv.up hbx).at_ i _ ha
          obtain ⟨bd, hA2, da, db⟩ := (hQ.rv.up hbx).at_ i _ ha
          rw [hA1] at c2
          rw [hA2] at d2
          simp only at ca cb da db
          have z1 : (a1.toList == a1.toList) = true := by simp
          have z2 : (a2.toList == a2.toList) = true := by simp
          clear ha hA1 hA2
          go_upto_region 11 with fail
          go_quiet (fail)
          go_wp2_with fail
          go_roundg (d.reveal.length - (i + 1))
          case measure => omega
          case rel => exact ⟨i + 1, hil, rfl, by first | rfl | simp, by first | exact below_drewN' hbx _ | exact hbx | exact hbx.drew⟩
        · have hii : ¬ (i : Int) < (d.reveal.length : Int) := by omega
          clear hi hil
          go_upto_region 14 with fail
          clear c2 d2 mr0 mr1
          go_loopg [7] d.nodes.length (fun m s7 wx => ∃ i : Nat, i ≤ d.nodes.length ∧ m = d.nodes.length - i ∧ s7 = .int .i64 (i : Int) ∧ Below w1.heap.size w1 wx)
          case atStart => exact ⟨0, Nat.zero_le _, rfl, rfl, by assumption⟩
          case round =>
            obtain ⟨i, hi, rfl, rfl, hbx⟩ := hrel
            have mr0 := m0.up hbx
            have mr1 := m1.up hbx
            have c3 := mr0.cell 3
            have d3 := mr1.cell 3
            simp only [List.getElem?_cons_zero, List.getElem?_cons_succ] at c3 d3
            by_cases hil : i < d.nodes.length
            · have hii : (i : Int) < (d.nodes.length : Int) := by omega
              have hi0 : (0 : Int) ≤ (i : Int) := by omega
              obtain ⟨x, hx⟩ : ∃ x, d.nodes[i]? = some x := ⟨_, List.getElem?_eq_getElem hil⟩
              obtain ⟨ad, KX, kx, hna, nx⟩ := (hP.ns.up hbx).at_ i x hx
              obtain ⟨bd, KY, ky, hnb, ny⟩ := (hQ.ns.up hbx).at_ i x hx
              rw [hna] at c3
              rw [hnb] at d3
              obtain ⟨x0, x1, x2, x3, x4, x5, hxI⟩ := nx
              obtain ⟨y0, y1, y2, y3, y4, y5, hyI⟩ := ny
              have hkl := (hB.ns x (List.mem_of_getElem? hx)).kids
              clear hx hna hnb
              go_upto_region 16 with fail
              go_cut [8, 9] from 114 to 123 (fun s8 s9 wx => ∃ g8 g9, s8 = pptr g8 ∧ s9 = pptr g9 ∧ Blk wx g8 76 [.int .i64 x.kind, .int .i64 x.num, .string x.name, .string x.attr, .slice KX x.kids.length kx, .int .i64 x.at_] ∧ Blk wx g9 76 [.int .i64 x.kind, .int .i64 x.num, .string x.name, .string x.attr, .slice KY x.kids.length ky, .int .i64 x.at_] ∧ Below wr.heap.size wr wx)
              case first => as_aux_lemma =>
                  refine wp_region_held_drew (S := (fun w' => Below wr.heap.size wr w')) (by kernel_rfl) ?_ (fun hHeld => ?_)
                  · exact (Below.refl _ _).drew
                  refine wpAnyH_take (i := 0) (v := ?_) rfl (by kernel_rfl) (by kernel_rfl) (by kernel_rfl) (fun _ _ _ h => h) (Or.inl ⟨by rfl, ?_⟩) (by assumption) ?_
                  rotate_left
                  · (intro w hSw; (try dsimp only at hSw); (have s0 := scell_up c3 hSw; have s1 := scell_up d3 hSw; have s2 := scell_up x0 hSw; have s3 := scell_up x1 hSw; have s4 := scell_up x2 hSw; have s5 := scell_up x3 hSw; have s6 := scell_up x4 hSw; have s7 := scell_up x5 hSw; have s8 := scell_up y0 hSw; have s9 := scell_up y1 hSw; have s10 := scell_up y2 hSw; have s11 := scell_up y3 hSw; have s12 := scell_up y4 hSw; have s13 := scell_up y5 hSw); go_simp; (try with_reducible rfl))
                  try simp only [Act.put, List.getElem_toArray, List.getElem_cons_zero, List.setIfInBounds_toArray, List.set_cons_zero, List.set_cons_succ]
                  refine wpAnyH_take (i := 1) (v := ?_) rfl (by kernel_rfl) (by kernel_rfl) (by kernel_rfl) (fun _ _ _ h => h) (Or.inl ⟨by rfl, ?_⟩) (by assumption) ?_
                  rotate_left
                  · (intro w hSw; (try dsimp only at hSw); (have s0 := scell_up c3 hSw; have s1 := scell_up d3 hSw; have s2 := scell_up x0 hSw; have s3 := scell_up x1 hSw; have s4 := scell_up x2 hSw; have s5 := scell_up x3 hSw; have s6 := scell_up x4 hSw; have s7 := scell_up x5 hSw; have s8 := scell_up y0 hSw; have s9 := scell_up y1 hSw; have s10 := scell_up y2 hSw; have s11 := scell_up y3 hSw; have s12 := scell_up y4 hSw; have s13 := scell_up y5 hSw); go_simp; (try with_reducible rfl))
                  try simp only [Act.put, List.getElem_toArray, List.getElem_cons_zero, List.getElem_cons_succ, List.setIfInBounds_toArray, List.set_cons_zero, List.set_cons_succ]
                  refine wpAnyH_take (i := 2) (v := ?_) rfl (by kernel_rfl) (by kernel_rfl) (by kernel_rfl) (fun _ _ _ h => h) (Or.inl ⟨by rfl, ?_⟩) (by assumption) ?_
                  rotate_left
                  · (intro w hSw; (try dsimp only at hSw); (have s0 := scell_up c3 hSw; have s1 := scell_up d3 hSw; have s2 := scell_up x0 hSw; have s3 := scell_up x1 hSw; have s4 := scell_up x2 hSw; have s5 := scell_up x3 hSw; have s6 := scell_up x4 hSw; have s7 := scell_up x5 hSw; have s8 := scell_up y0 hSw; have s9 := scell_up y1 hSw; have s10 := scell_up y2 hSw; have s11 := scell_up y3 hSw; have s12 := scell_up y4 hSw; have s13 := scell_up y5 hSw); go_simp; (try with_reducible rfl))
                  try simp only [Act.put, List.getElem_toArray, List.getElem_cons_zero, List.getElem_cons_succ, List.setIfInBounds_toArray, List.set_cons_zero, List.set_cons_succ]
                  refine wpAnyH_take (i := 3) (v := ?_) rfl (by kernel_rfl) (by kernel_rfl) (by kernel_rfl) (fun _ _ _ h => h) (Or.inl ⟨by rfl, ?_⟩) (by assumption) ?_
                  rotate_left
                  · (intro w hSw; (try dsimp only at hSw); (have s0 := scell_up c3 hSw; have s1 := scell_up d3 hSw; have s2 := scell_up x0 hSw; have s3 := scell_up x1 hSw; have s4 := scell_up x2 hSw; have s5 := scell_up x3 hSw; have s6 := scell_up x4 hSw; have s7 := scell_up x5 hSw; have s8 := scell_up y0 hSw; have s9 := scell_up y1 hSw; have s10 := scell_up y2 hSw; have s11 := scell_up y3 hSw; have s12 := scell_up y4 hSw; have s13 := scell_up y5 hSw); go_simp; (try with_reducible rfl))
                  try simp only [Act.put, List.getElem_toArray, List.getElem_cons_zero, List.getElem_cons_succ, List.setIfInBounds_toArray, List.set_cons_zero, List.set_cons_succ]
                  refine wpAnyH_take (i := 4) (v := ?_) rfl (by kernel_rfl) (by kernel_rfl) (by kernel_rfl) (fun _ _ _ h => h) (Or.inl ⟨by rfl, ?_⟩) (by assumption) ?_
                  rotate_left
                  · (intro w hSw; (try dsimp only at hSw); (have s0 := scell_up c3 hSw; have s1 := scell_up d3 hSw; have s2 := scell_up x0 hSw; have s3 := scell_up x1 hSw; have s4 := scell_up x2 hSw; have s5 := scell_up x3 hSw; have s6 := scell_up x4 hSw; have s7 := scell_up x5 hSw; have s8 := scell_up y0 hSw; have s9 := scell_up y1 hSw; have s10 := scell_up y2 hSw; have s11 := scell_up y3 hSw; have s12 := scell_up y4 hSw; have s13 := scell_up y5 hSw); go_simp; (try with_reducible rfl))
                  try simp only [Act.put, List.getElem_toArray, List.getElem_cons_zero, List.getElem_cons_succ, List.setIfInBounds_toArray, List.set_cons_zero, List.set_cons_succ]
                  refine wpAnyH_take (i := 5) (v := ?_) rfl (by kernel_rfl) (by kernel_rfl) (by kernel_rfl) (fun _ _ _ h => h) (Or.inl ⟨by rfl, ?_⟩) (by assumption) ?_
                  rotate_left
                  · (intro w hSw; (try dsimp only at hSw); (have s0 := scell_up c3 hSw; have s1 := scell_up d3 hSw; have s2 := scell_up x0 hSw; have s3 := scell_up x1 hSw; have s4 := scell_up x2 hSw; have s5 := scell_up x3 hSw; have s6 := scell_up x4 hSw; have s7 := scell_up x5 hSw; have s8 := scell_up y0 hSw; have s9 := scell_up y1 hSw; have s10 := scell_up y2 hSw; have s11 := scell_up y3 hSw; have s12 := scell_up y4 hSw; have s13 := scell_up y5 hSw); go_simp; (try with_reducible rfl))
                  try simp only [Act.put, List.getElem_toArray, List.getElem_cons_zero, List.getElem_cons_succ, List.setIfInBounds_toArray, List.set_cons_zero, List.set_cons_succ]
                  refine wpAnyH_take (i := 6) (v := ?_) rfl (by kernel_rfl) (by kernel_rfl) (by kernel_rfl) (fun _ _ _ h => h) (Or.inl ⟨by rfl, ?_⟩) (by assumption) ?_
                  rotate_left
                  · (intro w hSw; (try dsimp only at hSw); (have s0 := scell_up c3 hSw; have s1 := scell_up d3 hSw; have s2 := scell_up x0 hSw; have s3 := scell_up x1 hSw; have s4 := scell_up x2 hSw; have s5 := scell_up x3 hSw; have s6 := scell_up x4 hSw; have s7 := scell_up x5 hSw; have s8 := scell_up y0 hSw; have s9 := scell_up y1 hSw; have s10 := scell_up y2 hSw; have s11 := scell_up y3 hSw; have s12 := scell_up y4 hSw; have s13 := scell_up y5 hSw); go_simp; (try with_reducible rfl))
                  try simp only [Act.put, List.getElem_toArray, List.getElem_cons_zero, List.getElem_cons_succ, List.setIfInBounds_toArray, List.set_cons_zero, List.set_cons_succ]
                  refine wpAnyH_take (i := 7) (v := ?_) rfl (by kernel_rfl) (by kernel_rfl) (by kernel_rfl) (fun _ _ _ h => h) (Or.inl ⟨by rfl, ?_⟩) (by assumption) ?_
                  rotate_left
                  · (intro w hSw; (try dsimp only at hSw); (have s0 := scell_up c3 hSw; have s1 := scell_up d3 hSw; have s2 := scell_up x0 hSw; have s3 := scell_up x1 hSw; have s4 := scell_up x2 hSw; have s5 := scell_up x3 hSw; have s6 := scell_up x4 hSw; have s7 := scell_up x5 hSw; have s8 := scell_up y0 hSw; have s9 := scell_up y1 hSw; have s10 := scell_up y2 hSw; have s11 := scell_up y3 hSw; have s12 := scell_up y4 hSw; have s13 := scell_up y5 hSw); go_simp; (try with_reducible rfl))
                  try simp only [Act.put, List.getElem_toArray, List.getElem_cons_zero, List.getElem_cons_succ, List.setIfInBounds_toArray, List.set_cons_zero, List.set_cons_succ]
                  refine wpAnyH_take (i := 8) (v := ?_) rfl (by kernel_rfl) (by kernel_rfl) (by kernel_rfl) (fun _ _ _ h => h) (Or.inl ⟨by rfl, ?_⟩) (by assumption) ?_
                  rotate_left
                  · (intro w hSw; (try dsimp only at hSw); (have s0 := scell_up c3 hSw; have s1 := scell_up d3 hSw; have s2 := scell_up x0 hSw; have s3 := scell_up x1 hSw; have s4 := scell_up x2 hSw; have s5 := scell_up x3 hSw; have s6 := scell_up x4 hSw; have s7 := scell_up x5 hSw; have s8 := scell_up y0 hSw; have s9 := scell_up y1 hSw; have s10 := scell_up y2 hSw; have s11 := scell_up y3 hSw; have s12 := scell_up y4 hSw; have s13 := scell_up y5 hSw); go_simp; (try with_reducible rfl))
                  try simp only [Act.put, List.getElem_toArray, List.getElem_cons_zero, List.getElem_cons_succ, List.setIfInBounds_toArray, List.set_cons_zero, List.set_cons_succ]
                  refine wpAnyH_take (i := 9) (v := ?_) rfl (by kernel_rfl) (by kernel_rfl) (by kernel_rfl) (fun _ _ _ h => h) (Or.inl ⟨by rfl, ?_⟩) (by assumption) ?_
                  rotate_left
                  · (intro w hSw; (try dsimp only at hSw); (have s0 := scell_up c3 hSw; have s1 := scell_up d3 hSw; have s2 := scell_up x0 hSw; have s3 := scell_up x1 hSw; have s4 := scell_up x2 hSw; have s5 := scell_up x3 hSw; have s6 := scell_up x4 hSw; have s7 := scell_up x5 hSw; have s8 := scell_up y0 hSw; have s9 := scell_up y1 hSw; have s10 := scell_up y2 hSw; have s11 := scell_up y3 hSw; have s12 := scell_up y4 hSw; have s13 := scell_up y5 hSw); go_simp; (try with_reducible rfl))
                  try simp only [Act.put, List.getElem_toArray, List.getElem_cons_zero, List.getElem_cons_succ, List.setIfInBounds_toArray, List.set_cons_zero, List.set_cons_succ]
                  refine wpAnyH_ready (rs := [10, 11]) (by kernel_rfl) (by simp) ?_
                  refine AllReadyH.cons rfl (fun K hK => ?_) ?_
                  · go_simp
                    have hA1 : Blk (wr.alloc (.cells #[.int .i64 0, .int .i64 0, .string ⟨#[]⟩, .string ⟨#[]⟩, .slice none 0 0, .int .i64 0] 76)).drew wr.heap.size 76 [.int .i64 0, .int .i64 0, .string ⟨#[]⟩, .string ⟨#[]⟩, .slice none 0 0, .int .i64 0] := Blk.new _ _ _
                    have hb1 : Below wr.heap.size wr (wr.alloc (.cells #[.int .i64 0, .int .i64 0, .string ⟨#[]⟩, .string ⟨#[]⟩, .slice none 0 0, .int .i64 0] 76)).drew := ((Below.refl _ _).drew).alloc (Nat.le_refl _) (.cells #[.int .i64 0, .int .i64 0, .string ⟨#[]⟩, .string ⟨#[]⟩, .slice none 0 0, .int .i64 0] 76)
                    refine hK.out _ _ ?_ (fun hHeld => ?_)
                    · exact hb1
                    clear hK K
                    refine wpAnyH_ready (rs := [11]) (by kernel_rfl) (by simp) ?_
                    refine AllReadyH.cons rfl (fun K hK => ?_) ?_
                    · go_simp
                      have e9 : (wr.alloc (.cells #[.int .i64 0, .int .i64 0, .string ⟨#[]⟩, .string ⟨#[]⟩, .slice none 0 0, .int .i64 0] 76)).drew.heap.size = wr.heap.size + 1 := by show (wr.heap.push _).size = _; simp
                      have hB2 : Blk ((wr.alloc (.cells #[.int .i64 0, .int .i64 0, .string ⟨#[]⟩, .string ⟨#[]⟩, .slice none 0 0, .int .i64 0] 76)).alloc (.cells #[.int .i64 0, .int .i64 0, .string ⟨#[]⟩, .string ⟨#[]⟩, .slice none 0 0, .int .i64 0] 76)).drew (wr.heap.size + 1) 76 [.int .i64 0, .int .i64 0, .string ⟨#[]⟩, .string ⟨#[]⟩, .slice none 0 0, .int .i64 0] := by
                        have h9 := Blk.new (wr.alloc (.cells #[.int .i64 0, .int .i64 0, .string ⟨#[]⟩, .string ⟨#[]⟩, .slice none 0 0, .int .i64 0] 76)).drew 76 [.int .i64 0, .int .i64 0, .string ⟨#[]⟩, .string ⟨#[]⟩, .slice none 0 0, .int .i64 0]
                        rw [e9] at h9
                        exact h9
                      have hA2 : Blk ((wr.alloc (.cells #[.int .i64 0, .int .i64 0, .string ⟨#[]⟩, .string ⟨#[]⟩, .slice none 0 0, .int .i64 0] 76)).alloc (.cells #[.int .i64 0, .int .i64 0, .string ⟨#[]⟩, .string ⟨#[]⟩, .slice none 0 0, .int .i64 0] 76)).drew wr.heap.size 76 [.int .i64 0, .int .i64 0, .string ⟨#[]⟩, .string ⟨#[]⟩, .slice none 0 0, .int .i64 0] := hA1.alloc _
                      have hb2 : Below wr.heap.size wr ((wr.alloc (.cells #[.int .i64 0, .int .i64 0, .string ⟨#[]⟩, .string ⟨#[]⟩, .slice none 0 0, .int .i64 0] 76)).alloc (.cells #[.int .i64 0, .int .i64 0, .string ⟨#[]⟩, .string ⟨#[]⟩, .slice none 0 0, .int .i64 0] 76)).drew := hb1.alloc (by omega) (.cells #[.int .i64 0, .int .i64 0, .string ⟨#[]⟩, .string ⟨#[]⟩, .slice none 0 0, .int .i64 0] 76)
                      clear hA1
                      refine hK.out _ _ ?_ (fun hHeld => ?_)
                      · exact hb2
                      clear hK K
                      refine wpAnyH_ready (rs := [12]) (by kernel_rfl) (by simp) ?_
                      refine AllReadyH.cons rfl (fun K hK => ?_) ?_
                      · try rw [if_pos (by rfl)]
                        refine wp_store_row 76 (.tmp 8) (.tmp 118) (by rfl) wr.heap.size ([.int .i64 x.kind, .int .i64 x.num, .string x.name, .string x.attr, .slice KX x.kids.length kx, .int .i64 x.at_] : List Value).toArray (by rfl) (by rfl) 76 ([.int .i64 0, .int .i64 0, .string ⟨#[]⟩, .string ⟨#[]⟩, .slice none 0 0, .int .i64 0] : List Value).toArray hA2 (by kernel_rfl) (by kernel_rfl) (by kernel_rfl) ?_
                        have hX1 := blk_row hA2 [.int .i64 x.kind, .int .i64 x.num, .string x.name, .string x.attr, .slice KX x.kids.length kx, .int .i64 x.at_]
                        have hY1 := blk_far hB2 (b := wr.heap.size) (by omega) ([.int .i64 x.kind, .int .i64 x.num, .string x.name, .string x.attr, .slice KX x.kids.length kx, .int .i64 x.at_] : List Value).toArray
                        have hb3 := hb2.trans (below_row' wr.heap.size (by omega) ([.int .i64 x.kind, .int .i64 x.num, .string x.name, .string x.attr, .slice KX x.kids.length kx, .int .i64 x.at_] : List Value).toArray)
                        clear hA2 hB2 hb2
                        refine hK.out _ _ ?_ (fun hHeld => ?_)
                        · exact hb3
                        clear hK K
                        refine wpAnyH_ready (rs := [13]) (by kernel_rfl) (by simp) ?_
                        refine AllReadyH.cons rfl (fun K hK => ?_) ?_
                        · try rw [if_pos (by rfl)]
                          refine wp_store_row 76 (.tmp 9) (.tmp 123) (by rfl) (wr.heap.size + 1) ([.int .i64 x.kind, .int .i64 x.num, .string x.name, .string x.attr, .slice KY x.kids.length ky, .int .i64 x.at_] : List Value).toArray (by rfl) (by rfl) 76 ([.int .i64 0, .int .i64 0, .string ⟨#[]⟩, .string ⟨#[]⟩, .slice none 0 0, .int .i64 0] : List Value).toArray hY1 (by kernel_rfl) (by kernel_rfl) (by kernel_rfl) ?_
                          have hY2 := blk_row hY1 [.int .i64 x.kind, .int .i64 x.num, .string x.name, .string x.attr, .slice KY x.kids.length ky, .int .i64 x.at_]
                          have hX2 := blk_far hX1 (b := (wr.heap.size + 1)) (by omega) ([.int .i64 x.kind, .int .i64 x.num, .string x.name, .string x.attr, .slice KY x.kids.length ky, .int .i64 x.at_] : List Value).toArray
                          have hb4 := hb3.trans (below_row' (wr.heap.size + 1) (by omega) ([.int .i64 x.kind, .int .i64 x.num, .string x.name, .string x.attr, .slice KY x.kids.length ky, .int .i64 x.at_] : List Value).toArray)
                          clear hY1 hX1 hb3
                          refine hK.out _ _ ?_ (fun hHeld => ?_)
                          · exact hb4
                          clear hK K
                          refine wpAnyH_done (by kernel_rfl) ?_ _
                          try simp only [Act.put, List.getElem_toArray, List.getElem_cons_zero, List.getElem_cons_succ]
                          go_wp2_with fail
                          go_meet
                          exact ⟨wr.heap.size, (wr.heap.size + 1), rfl, rfl, hX2, hY2, hb4⟩
                        exact AllReadyH.nil
                      exact AllReadyH.nil
                    exact AllReadyH.nil
                  refine AllReadyH.cons rfl (fun K hK => ?_) ?_
                  · go_simp
                    have hA1 : Blk (wr.alloc (.cells #[.int .i64 0, .int .i64 0, .string ⟨#[]⟩, .string ⟨#[]⟩, .slice none 0 0, .int .i64 0] 76)).drew wr.heap.size 76 [.int .i64 0, .int .i64 0, .string ⟨#[]⟩, .string ⟨#[]⟩, .slice none 0 0, .int .i64 0] := Blk.new _ _ _
                    have hb1 : Below wr.heap.size wr (wr.alloc (.cells #[.int .i64 0, .int .i64 0, .string ⟨#[]⟩, .string ⟨#[]⟩, .slice none 0 0, .int .i64 0] 76)).drew := ((Below.refl _ _).drew).alloc (Nat.le_refl _) (.cells #[.int .i64 0, .int .i64 0, .string ⟨#[]⟩, .string ⟨#[]⟩, .slice none 0 0, .int .i64 0] 76)
                    refine hK.out _ _ ?_ (fun hHeld => ?_)
                    · exact hb1
                    clear hK K
                    refine wpAnyH_ready (rs := [10]) (by kernel_rfl) (by simp) ?_
                    refine AllReadyH.cons rfl (fun K hK => ?_) ?_
                    · go_simp
                      have e9 : (wr.alloc (.cells #[.int .i64 0, .int .i64 0, .string ⟨#[]⟩, .string ⟨#[]⟩, .slice none 0 0, .int .i64 0] 76)).drew.heap.size = wr.heap.size + 1 := by show (wr.heap.push _).size = _; simp
                      have hB2 : Blk ((wr.alloc (.cells #[.int .i64 0, .int .i64 0, .string ⟨#[]⟩, .string ⟨#[]⟩, .slice none 0 0, .int .i64 0] 76)).alloc (.cells #[.int .i64 0, .int .i64 0, .string ⟨#[]⟩, .string ⟨#[]⟩, .slice none 0 0, .int .i64 0] 76)).drew (wr.heap.size + 1) 76 [.int .i64 0, .int .i64 0, .string ⟨#[]⟩, .string ⟨#[]⟩, .slice none 0 0, .int .i64 0] := by
                        have h9 := Blk.new (wr.alloc (.cells #[.int .i64 0, .int .i64 0, .string ⟨#[]⟩, .string ⟨#[]⟩, .slice none 0 0, .int .i64 0] 76)).drew 76 [.int .i64 0, .int .i64 0, .string ⟨#[]⟩, .string ⟨#[]⟩, .slice none 0 0, .int .i64 0]
                        rw [e9] at h9
                        exact h9
                      have hA2 : Blk ((wr.alloc (.cells #[.int .i64 0, .int .i64 0, .string ⟨#[]⟩, .string ⟨#[]⟩, .slice none 0 0, .int .i64 0] 76)).alloc (.cells #[.int .i64 0, .int .i64 0, .string ⟨#[]⟩, .string ⟨#[]⟩, .slice none 0 0, .int .i64 0] 76)).drew wr.heap.size 76 [.int .i64 0, .int .i64 0, .string ⟨#[]⟩, .string ⟨#[]⟩, .slice none 0 0, .int .i64 0] := hA1.alloc _
                      have hb2 : Below wr.heap.size wr ((wr.alloc (.cells #[.int .i64 0, .int .i64 0, .string ⟨#[]⟩, .string ⟨#[]⟩, .slice none 0 0, .int .i64 0] 76)).alloc (.cells #[.int .i64 0, .int .i64 0, .string ⟨#[]⟩, .string ⟨#[]⟩, .slice none 0 0, .int .i64 0] 76)).drew := hb1.alloc (by omega) (.cells #[.int .i64 0, .int .i64 0, .string ⟨#[]⟩, .string ⟨#[]⟩, .slice none 0 0, .int .i64 0] 76)
                      clear hA1
                      refine hK.out _ _ ?_ (fun hHeld => ?_)
                      · exact hb2
                      clear hK K
                      refine wpAnyH_ready (rs := [12]) (by kernel_rfl) (by simp) ?_
                      refine AllReadyH.cons rfl (fun K hK => ?_) ?_
                      · try rw [if_pos (by rfl)]
                        refine wp_store_row 76 (.tmp 8) (.tmp 118) (by rfl) (wr.heap.size + 1) ([.int .i64 x.kind, .int .i64 x.num, .string x.name, .string x.attr, .slice KX x.kids.length kx, .int .i64 x.at_] : List Value).toArray (by rfl) (by rfl) 76 ([.int .i64 0, .int .i64 0, .string ⟨#[]⟩, .string ⟨#[]⟩, .slice none 0 0, .int .i64 0] : List Value).toArray hB2 (by kernel_rfl) (by kernel_rfl) (by kernel_rfl) ?_
                        have hX1 := blk_row hB2 [.int .i64 x.kind, .int .i64 x.num, .string x.name, .string x.attr, .slice KX x.kids.length kx, .int .i64 x.at_]
                        have hY1 := blk_far hA2 (b := (wr.heap.size + 1)) (by omega) ([.int .i64 x.kind, .int .i64 x.num, .string x.name, .string x.attr, .slice KX x.kids.length kx, .int .i64 x.at_] : List Value).toArray
                        have hb3 := hb2.trans (below_row' (wr.heap.size + 1) (by omega) ([.int .i64 x.kind, .int .i64 x.num, .string x.name, .string x.attr, .slice KX x.kids.length kx, .int .i64 x.at_] : List Value).toArray)
                        clear hB2 hA2 hb2
                        refine hK.out _ _ ?_ (fun hHeld => ?_)
                        · exact hb3
                        clear hK K
                        refine wpAnyH_ready (rs := [13]) (by kernel_rfl) (by simp) ?_
                        refine AllReadyH.cons rfl (fun K hK => ?_) ?_
                        · try rw [if_pos (by rfl)]
                          refine wp_store_row 76 (.tmp 9) (.tmp 123) (by rfl) wr.heap.size ([.int .i64 x.kind, .int .i64 x.num, .string x.name, .string x.attr, .slice KY x.kids.length ky, .int .i64 x.at_] : List Value).toArray (by rfl) (by rfl) 76 ([.int .i64 0, .int .i64 0, .string ⟨#[]⟩, .string ⟨#[]⟩, .slice none 0 0, .int .i64 0] : List Value).toArray hY1 (by kernel_rfl) (by kernel_rfl) (by kernel_rfl) ?_
                          have hY2 := blk_row hY1 [.int .i64 x.kind, .int .i64 x.num, .string x.name, .string x.attr, .slice KY x.kids.length ky, .int .i64 x.at_]
                          have hX2 := blk_far hX1 (b := wr.heap.size) (by omega) ([.int .i64 x.kind, .int .i64 x.num, .string x.name, .string x.attr, .slice KY x.kids.length ky, .int .i64 x.at_] : List Value).toArray
                          have hb4 := hb3.trans (below_row' wr.heap.size (by omega) ([.int .i64 x.kind, .int .i64 x.num, .string x.name, .string x.attr, .slice KY x.kids.length ky, .int .i64 x.at_] : List Value).toArray)
                          clear hY1 hX1 hb3
                          refine hK.out _ _ ?_ (fun hHeld => ?_)
                          · exact hb4
                          clear hK K
                          refine wpAnyH_done (by kernel_rfl) ?_ _
                          try simp only [Act.put, List.getElem_toArray, List.getElem_cons_zero, List.getElem_cons_succ]
                          go_wp2_with fail
                          go_meet
                          exact ⟨(wr.heap.size + 1), wr.heap.size, rfl, rfl, hX2, hY2, hb4⟩
                        exact AllReadyH.nil
                      exact AllReadyH.nil
                    exact AllReadyH.nil
                  exact AllReadyH.nil
              case rest => as_aux_lemma =>
                obtain ⟨g8, g9, rfl, rfl, hX, hY, hb9⟩ := hcut
                have hxI := hxI.up hb9
                have hyI := hyI.up hb9
                clear c3 d3 x0 x1 x2 x3 x4 x5 y0 y1 y2 y3 y4 y5 mr0 mr1
                obtain ⟨x0, x1, x2, x3, x4, x5⟩ := hX.get6
                obtain ⟨y0, y1, y2, y3, y4, y5⟩ := hY.get6
                have z2 : (x.name.toList == x.name.toList) = true := by simp
                have z3 : (x.attr.toList == x.attr.toList) = true := by simp
                go_upto_region 20 with fail
                clear z2 z3 x0 x1 x2 x3 x5 y0 y1 y2 y3 y5 x4 y4
                have hb10 := hbx.trans (hb9.mono hbx.size)
                go_loopg [10] x.kids.length (fun m s10 wx => ∃ j : Nat, j ≤ x.kids.length ∧ m = x.kids.length - j ∧ s10 = .int .i64 (j : Int) ∧ Below wc.heap.size wc wx)
                case atStart => exact ⟨0, Nat.zero_le _, rfl, rfl, Below.refl _ _⟩
                case round =>
                  obtain ⟨j, hj, rfl, rfl, hby⟩ := hrel
                  have x4 := (hX.up hby).cell 4
                  have y4 := (hY.up hby).cell 4
                  simp only [List.getElem?_cons_zero, List.getElem?_cons_succ] at x4 y4
                  by_cases hjl : j < x.kids.length
                  · have hjj : (j : Int) < (x.kids.length : Int) := by omega
                    have hj0 : (0 : Int) ≤ (j : Int) := by omega
                    obtain ⟨v, hv⟩ : ∃ v, x.kids[j]? = some v := ⟨_, List.getElem?_eq_getElem hjl⟩
                    obtain ⟨ax, hK1, ca⟩ := (hxI.up hby).at_ j _ hv
                    obtain ⟨ay, hK2, da⟩ := (hyI.up hby).at_ j _ hv
                    rw [hK1] at x4
                    rw [hK2] at y4
                    clear hv hK1 hK2
                    go_upto_region 22 with fail
                    go_quiet (fail)
                    go_wp2_with fail
                    go_roundg (x.kids.length - (j + 1))
                    case measure => omega
                    case rel => exact ⟨j + 1, hjl, rfl, by first | rfl | simp, by first | exact below_drewN' hby _ | exact hby | exact hby.drew⟩
                  · have hjj : ¬ (j : Int) < (x.kids.length : Int) := by omega
                    have hb11 := hb10.trans (hby.mono hb10.size)
                    clear hj hjl
                    go_wp2_with fail
                    go_roundg (d.nodes.length - (i + 1))
                    case measure => omega
                    case rel => exact ⟨i + 1, hil, rfl, by first | rfl | simp, hb11⟩
            · have hii : ¬ (i : Int) < (d.nodes.length : Int) := by omega
              clear hi hil
              go_wp2_with fail
              go_ret
              have hbz := hb0.trans (hbx.mono hb0.size)
              exact ⟨rfl, by first | exact hbz | (rw [← hga]; exact hbz)⟩
end Go.Proofs.YtogmhaihmkcjgaaGreatDoor
