/-
  dominoref41.sameNode and Same of policies that are the same. Printed by mkpsa.py.
-/
import Derived.Test.YtogmhaihmkcjgaaGreatDoorPgY
import Derived.Test.YtogmhaihmkcjgaaGreatDoorPcJ
import Derived.Deep.RegionHeld3
namespace Go.Proofs.YtogmhaihmkcjgaaGreatDoor
open Go.RowKit Go.Shelf
set_option linter.unusedVariables false

theorem each_at {v : Int → Int → Bool} : ∀ {l m : List Int}, eachP v l m = true → l.length = m.length ∧ ∀ (j : Nat) p q, l[j]? = some p → m[j]? = some q → v p q = true
  | [], [], h => ⟨rfl, fun j p q hp => by simp at hp⟩
  | [], _ :: _, h => by cases h
  | _ :: _, [], h => by cases h
  | a :: l, b :: m, h => by
    rw [eachP, Bool.and_eq_true] at h
    obtain ⟨h1, h2⟩ := each_at h.2
    refine ⟨by simp [h1], fun j p q hp hq => ?_⟩
    cases j with
    | zero => simp at hp hq; subst hp; subst hq; exact h.1
    | succ j => exact h2 j p q (by simpa using hp) (by simpa using hq)
theorem eqN_of {x y : Nk} (h : eqN x y = true) : y = ⟨x.kind, x.num, x.name, x.attr, y.kids, y.at_⟩ := by
  unfold eqN at h
  simp only [Bool.and_eq_true, decide_eq_true_eq] at h
  obtain ⟨⟨⟨h1, h2⟩, h3⟩, h4⟩ := h
  cases y
  simp only at h1 h2 h3 h4
  subst h1; subst h2; subst h3; subst h4
  rfl
set_option maxRecDepth 20000 in
set_option maxHeartbeats 16000000 in
theorem rsn_true (a b : Po) (La Lb : Lp) (hA : PBd a) (hB : PBd b) : ∀ (f : Nat) (i k : Int) (w : World), sameN a.nodes b.nodes f i k = true → WfP a.nodes f i → WfP b.nodes f k → PolM w a La → PolM w b Lb →
    Calls Tryz.prog 81 #[polV a La, polV b Lb, .int .i64 i, .int .i64 k] w fun e w' => e = .returned (.bool true) ∧ Below w.heap.size w w' := by
  intro f
  induction f with
  | zero => intro i k W h1 h2; exact h2.elim
  | succ f ih =>
    intro i0 k0 w hs h1 h2 hP0 hQ0
    obtain ⟨i, x, rfl, hil, hx, hkx⟩ := h1.at_
    obtain ⟨k, y, rfl, hkl, hy, hky⟩ := h2.at_
    clear h1 h2
    rw [sameN, Int.toNat_natCast, Int.toNat_natCast, hx, hy] at hs
    simp only [Bool.and_eq_true] at hs
    obtain ⟨hs1, hs2⟩ := hs
    obtain ⟨hlen, heach⟩ := each_at hs2
    have hye := eqN_of hs1
    have hi0 : (0 : Int) ≤ (i : Int) := by omega
    have hk0 : (0 : Int) ≤ (k : Int) := by omega
    have hii : (i : Int) < (a.nodes.length : Int) := by omega
    have hki : (k : Int) < (b.nodes.length : Int) := by omega
    have hxb := (hA.ns x (List.mem_of_getElem? hx)).kids
    obtain ⟨ga, hga⟩ : ∃ g, w.heap.size = g := ⟨_, rfl⟩
    obtain ⟨gb, hgb⟩ : ∃ g, ga + 1 = g := ⟨_, rfl⟩
    have hk0 := ((Hp.start w).new 29 (polcs a La)).new 29 (polcs b Lb)
    simp only [sizeA] at hk0
    have hb0 := hk0.below0
    have hP := hP0.up hb0
    have hQ := hQ0.up hb0
    clear hP0 hQ0
    have hk00 : (0 : Int) ≤ (k : Int) := by omega
    have HIH : Hid (∀ V, PolM V a La → PolM V b Lb → ∀ (j : Nat) (p q : Int), x.kids[j]? = some p → y.kids[j]? = some q → Calls Tryz.prog 81 #[polV a La, polV b Lb, .int .i64 p, .int .i64 q] V fun e w' => e = .returned (.bool true) ∧ Below V.heap.size V w') := Lib.hid fun V h1 h2 j p q hp hq =>
      ih p q V (heach j p q hp hq) (hkx p (List.mem_of_getElem? hp)) (hky q (List.mem_of_getElem? hq)) h1 h2
    clear ih hs1 hs2 heach hkx hky
    go_enter Tryz.func81, Tryz.ntmps81
    go_upto_region 1 with fail
    simp only [hga, hgb] at hk0 ⊢
    generalize (w.alloc _).alloc _ = w1 at *
    have m0 := hk0.blk 1 rfl
    have m1 := hk0.blk 0 rfl
    replace hb0 := hk0.below0
    clear hk0
    have c3 : w1.cell? ⟨ga, 3, none⟩ = some (.slice La.na a.nodes.length La.nc) := m0.cell 3
    have d3 : w1.cell? ⟨gb, 3, none⟩ = some (.slice Lb.na b.nodes.length Lb.nc) := m1.cell 3
    obtain ⟨ad, KX, kx, hna, nx⟩ := hP.ns.at_ i x hx
    obtain ⟨bd, KY, ky, hnb, ny⟩ := hQ.ns.at_ k y hy
    rw [hna] at c3
    rw [hnb] at d3
    obtain ⟨x0, x1, x2, x3, x4, x5, hxI, -⟩ := nx
    obtain ⟨y0, y1, y2, y3, y4, y5, hyI, -⟩ := ny
    have HL := Lib.hid hlen
    rw [← hlen] at y4
    obtain ⟨yk, ynm, yn, yt, yks, ya⟩ := y
    injection hye with e1 e2 e3 e4 e5 e6
    subst e1; subst e2; subst e3; subst e4
    clear e5 e6
    simp only at y0 y1 y2 y3 y4 y5 hyI HL HIH
    clear hx hy hna hnb hlen hil hkl
    go_cut [9, 10] from 12 to 21 (fun s9 s10 wx => ∃ g9 g10, s9 = pptr g9 ∧ s10 = pptr g10 ∧ Blk wx g9 76 [.int .i64 x.kind, .int .i64 x.num, .string x.name, .string x.attr, .slice KX x.kids.length kx, .int .i64 x.at_] ∧ Blk wx g10 76 [.int .i64 x.kind, .int .i64 x.num, .string x.name, .string x.attr, .slice KY x.kids.length ky, .int .i64 ya] ∧ Below w1.heap.size w1 wx)
    case first => as_aux_lemma =>
      refine wp_region_held_drew (S := (fun w' => Below w1.heap.size w1 w')) (by kernel_rfl) ?_ (fun hHeld => ?_)
      · exact (Below.refl _ _).drew
      refine wpAnyH_take (i := 0) (v := ?_) rfl (by kernel_rfl) (by kernel_rfl) (by kernel_rfl) (fun _ _ _ h => h) (Or.inl ⟨by rfl, ?_⟩) (by assumption) ?_
      rotate_left
      · (intro w hSw; (try dsimp only at hSw); (have s0 := scell_up c3 hSw; have s1 := scell_up d3 hSw; have s2 := scell_up x0 hSw; have s3 := scell_up x1 hSw; have s4 := scell_up x2 hSw; have s5 := scell_up x3 hSw; have s6 := scell_up x4 hSw; have s7 := scell_up x5 hSw; have s8 := scell_up y0 hSw; have s9 := scell_up y1 hSw; have s10 := scell_up y2 hSw; have s11 := scell_up y3 hSw; have s12 := scell_up y4 hSw; have s13 := scell_up y5 hSw); go_simp; (try with_reducible rfl))
      try simp only [Act.put, List.getElem_toArray, List.getElem_cons_zero, List.setIfInBounds_toArray, List.set_cons_zero, List.set_cons_succ]
      refine wpAnyH_take (i := 1) (v := ?_) rfl (by kernel_rfl) (by kernel_rfl) (by kernel_rfl) (fun _ _ _ h => h) (Or.inl ⟨by rfl, ?_⟩) (by assumption) ?_
      rotate_left
      · (intro w hSw; (try dsimp only at hSw); (have s0 := scell_up c3 hSw; have s1 := scell_up d3 hSw; have s2 := scell_up x0 hSw; have s3 := scell_up x1 hSw; have s4 := scell_up x2 hSw; have s5 := scell_up x3 hSw; have s6 := scell_up x4 hSw; have s7 := scell_up x5 hSw; have s8 := scell_up y0 hSw; have s9 := scell_up y1 hSw; have s10 := scell_up y2 hSw; have s11 := scell_up y3 hSw; have s12 := scell_up y4 hSw; have s13 := scell_up y5 hSw); go_simp; (try with_reducible rfl))
      try simp only [Act.put, List.getElem_toArray, List.getElem_cons_zero, List.getElem_cons_succ, List.setIfInBounds_toArray, List.set_cons_zero, List.set_cons_succ]
      refine wpAnyH_take (i := 2) (v := ?_) rfl (by kernel_rfl) (by kernel_rfl) (by kernel_rfl) (fun _ _ _ h => h) (Or.inl ⟨by rfl, ?_⟩) (by assumption) ?_
      rotate_left
      · (intro w hSw; (try dsimp only at hSw); (have s0 := scell_up c3 hSw; have s1 := scell_up d3 hSw; have s2 := scell_up x0 hSw; have s3 := scell_up x1 hSw; have s4 := scell_up x2 hSw; have s5 := scell_up x3 hSw; have s6 := scell_up x4 hSw; have s7 := scell_up x5 hSw; have s8 := scell_up y0 hSw; have s9 := scell_up y1 hSw; have s10 := scell_up y2 hSw; have s11 := scell_up y3 hSw; have s12 := scell_up y4 hSw; have s13 := scell_up y5 hSw); go_simp; (try with_reducible rfl))
      try simp only [Act.put, List.getElem_toArray, List.getElem_cons_zero, List.getElem_cons_succ, List.setIfInBounds_toArray, List.set_cons_zero, List.set_cons_succ]
      refine wpAnyH_take (i := 3) (v := ?_) rfl (by kernel_rfl) (by kernel_rfl) (by kernel_rfl) (fun _ _ _ h => h) (Or.inl ⟨by rfl, ?_⟩) (by assumption) ?_
      rotate_left
      · (intro w hSw; (try dsimp only at hSw); (have s0 := scell_up c3 hSw; have s1 := scell_up d3 hSw; have s2 := scell_up x0 hSw; have s3 := scell_up x1 hSw; have s4 := scell_up x2 hSw; have s5 := scell_up x3 hSw; have s6 := scell_up x4 hSw; have s7 := scell_up x5 hSw; have s8 := scell_up y0 hSw; have s9 := scell_up y1 hSw; have s10 := scell_up y2 hSw; have s11 := scell_up y3 hSw; have s12 := scell_up y4 hSw; have s13 := scell_up y5 hSw); go_simp; (try with_reducible rfl))
      try simp only [Act.put, List.getElem_toArray, List.getElem_cons_zero, List.getElem_cons_succ, List.setIfInBounds_toArray, List.set_cons_zero, List.set_cons_succ]
      refine wpAnyH_take (i := 4) (v := ?_) rfl (by kernel_rfl) (by kernel_rfl) (by kernel_rfl) (fun _ _ _ h => h) (Or.inl ⟨by rfl, ?_⟩) (by assumption) ?_
      rotate_left
      · (intro w hSw; (try dsimp only at hSw); (have s0 := scell_up c3 hSw; have s1 := scell_up d3 hSw; have s2 := scell_up x0 hSw; have s3 := scell_up x1 hSw; have s4 := scell_up x2 hSw; have s5 := scell_up x3 hSw; have s6 := scell_up x4 hSw; have s7 := scell_up x5 hSw; have s8 := scell_up y0 hSw; have s9 := scell_up y1 hSw; have s10 := scell_up y2 hSw; have s11 := scell_up y3 hSw; have s12 := scell_up y4 hSw; have s13 := scell_up y5 hSw); go_simp; (try with_reducible rfl))
      try simp only [Act.put, List.getElem_toArray, List.getElem_cons_zero, List.getElem_cons_succ, List.setIfInBounds_toArray, List.set_cons_zero, List.set_cons_succ]
      refine wpAnyH_take (i := 5) (v := ?_) rfl (by kernel_rfl) (by kernel_rfl) (by kernel_rfl) (fun _ _ _ h => h) (Or.inl ⟨by rfl, ?_⟩) (by assumption) ?_
      rotate_left
      · (intro w hSw; (try dsimp only at hSw); (have s0 := scell_up c3 hSw; have s1 := scell_up d3 hSw; have s2 := scell_up x0 hSw; have s3 := scell_up x1 hSw; have s4 := scell_up x2 hSw; have s5 := scell_up x3 hSw; have s6 := scell_up x4 hSw; have s7 := scell_up x5 hSw; have s8 := scell_up y0 hSw; have s9 := scell_up y1 hSw; have s10 := scell_up y2 hSw; have s11 := scell_up y3 hSw; have s12 := scell_up y4 hSw; have s13 := scell_up y5 hSw); go_simp; (try with_reducible rfl))
      try simp only [Act.put, List.getElem_toArray, List.getElem_cons_zero, List.getElem_cons_succ, List.setIfInBounds_toArray, List.set_cons_zero, List.set_cons_succ]
      refine wpAnyH_take (i := 6) (v := ?_) rfl (by kernel_rfl) (by kernel_rfl) (by kernel_rfl) (fun _ _ _ h => h) (Or.inl ⟨by rfl, ?_⟩) (by assumption) ?_
      rotate_left
      · (intro w hSw; (try dsimp only at hSw); (have s0 := scell_up c3 hSw; have s1 := scell_up d3 hSw; have s2 := scell_up x0 hSw; have s3 := scell_up x1 hSw; have s4 := scell_up x2 hSw; have s5 := scell_up x3 hSw; have s6 := scell_up x4 hSw; have s7 := scell_up x5 hSw; have s8 := scell_up y0 hSw; have s9 := scell_up y1 hSw; have s10 := scell_up y2 hSw; have s11 := scell_up y3 hSw; have s12 := scell_up y4 hSw; have s13 := scell_up y5 hSw); go_simp; (try with_reducible rfl))
      try simp only [Act.put, List.getElem_toArray, List.getElem_cons_zero, List.getElem_cons_succ, List.setIfInBounds_toArray, List.set_cons_zero, List.set_cons_succ]
      refine wpAnyH_take (i := 7) (v := ?_) rfl (by kernel_rfl) (by kernel_rfl) (by kernel_rfl) (fun _ _ _ h => h) (Or.inl ⟨by rfl, ?_⟩) (by assumption) ?_
      rotate_left
      · (intro w hSw; (try dsimp only at hSw); (have s0 := scell_up c3 hSw; have s1 := scell_up d3 hSw; have s2 := scell_up x0 hSw; have s3 := scell_up x1 hSw; have s4 := scell_up x2 hSw; have s5 := scell_up x3 hSw; have s6 := scell_up x4 hSw; have s7 := scell_up x5 hSw; have s8 := scell_up y0 hSw; have s9 := scell_up y1 hSw; have s10 := scell_up y2 hSw; have s11 := scell_up y3 hSw; have s12 := scell_up y4 hSw; have s13 := scell_up y5 hSw); go_simp; (try with_reducible rfl))
      try simp only [Act.put, List.getElem_toArray, List.getElem_cons_zero, List.getElem_cons_succ, List.setIfInBounds_toArray, List.set_cons_zero, List.set_cons_succ]
      refine wpAnyH_take (i := 8) (v := ?_) rfl (by kernel_rfl) (by kernel_rfl) (by kernel_rfl) (fun _ _ _ h => h) (Or.inl ⟨by rfl, ?_⟩) (by assumption) ?_
      rotate_left
      · (intro w hSw; (try dsimp only at hSw); (have s0 := scell_up c3 hSw; have s1 := scell_up d3 hSw; have s2 := scell_up x0 hSw; have s3 := scell_up x1 hSw; have s4 := scell_up x2 hSw; have s5 := scell_up x3 hSw; have s6 := scell_up x4 hSw; have s7 := scell_up x5 hSw; have s8 := scell_up y0 hSw; have s9 := scell_up y1 hSw; have s10 := scell_up y2 hSw; have s11 := scell_up y3 hSw; have s12 := scell_up y4 hSw; have s13 := scell_up y5 hSw); go_simp; (try with_reducible rfl))
      try simp only [Act.put, List.getElem_toArray, List.getElem_cons_zero, List.getElem_cons_succ, List.setIfInBounds_toArray, List.set_cons_zero, List.set_cons_succ]
      refine wpAnyH_take (i := 9) (v := ?_) rfl (by kernel_rfl) (by kernel_rfl) (by kernel_rfl) (fun _ _ _ h => h) (Or.inl ⟨by rfl, ?_⟩) (by assumption) ?_
      rotate_left
      · (intro w hSw; (try dsimp only at hSw); (have s0 := scell_up c3 hSw; have s1 := scell_up d3 hSw; have s2 := scell_up x0 hSw; have s3 := scell_up x1 hSw; have s4 := scell_up x2 hSw; have s5 := scell_up x3 hSw; have s6 := scell_up x4 hSw; have s7 := scell_up x5 hSw; have s8 := scell_up y0 hSw; have s9 := scell_up y1 hSw; have s10 := scell_up y2 hSw; have s11 := scell_up y3 hSw; have s12 := scell_up y4 hSw; have s13 := scell_up y5 hSw); go_simp; (try with_reducible rfl))
      try simp only [Act.put, List.getElem_toArray, List.getElem_cons_zero, List.getElem_cons_succ, List.setIfInBounds_toArray, List.set_cons_zero, List.set_cons_succ]
      refine wpAnyH_ready (rs := [10, 11]) (by kernel_rfl) (by simp) ?_
      refine AllReadyH.cons rfl (fun K hK => ?_) ?_
      · go_simp
        have hA1 : Blk (w1.alloc (.cells #[.int .i64 0, .int .i64 0, .string ⟨#[]⟩, .string ⟨#[]⟩, .slice none 0 0, .int .i64 0] 76)).drew w1.heap.size 76 [.int .i64 0, .int .i64 0, .string ⟨#[]⟩, .string ⟨#[]⟩, .slice none 0 0, .int .i64 0] := Blk.new _ _ _
        have hb1 : Below w1.heap.size w1 (w1.alloc (.cells #[.int .i64 0, .int .i64 0, .string ⟨#[]⟩, .string ⟨#[]⟩, .slice none 0 0, .int .i64 0] 76)).drew := ((Below.refl _ _).drew).alloc (Nat.le_refl _) (.cells #[.int .i64 0, .int .i64 0, .string ⟨#[]⟩, .string ⟨#[]⟩, .slice none 0 0, .int .i64 0] 76)
        refine hK.out _ _ ?_ (fun hHeld => ?_)
        · exact hb1
        clear hK K
        refine wpAnyH_ready (rs := [11]) (by kernel_rfl) (by simp) ?_
        refine AllReadyH.cons rfl (fun K hK => ?_) ?_
        · go_simp
          have e9 : (w1.alloc (.cells #[.int .i64 0, .int .i64 0, .string ⟨#[]⟩, .string ⟨#[]⟩, .slice none 0 0, .int .i64 0] 76)).drew.heap.size = w1.heap.size + 1 := by show (w1.heap.push _).size = _; simp
          have hB2 : Blk ((w1.alloc (.cells #[.int .i64 0, .int .i64 0, .string ⟨#[]⟩, .string ⟨#[]⟩, .slice none 0 0, .int .i64 0] 76)).alloc (.cells #[.int .i64 0, .int .i64 0, .string ⟨#[]⟩, .string ⟨#[]⟩, .slice none 0 0, .int .i64 0] 76)).drew (w1.heap.size + 1) 76 [.int .i64 0, .int .i64 0, .string ⟨#[]⟩, .string ⟨#[]⟩, .slice none 0 0, .int .i64 0] := by
            have h9 := Blk.new (w1.alloc (.cells #[.int .i64 0, .int .i64 0, .string ⟨#[]⟩, .string ⟨#[]⟩, .slice none 0 0, .int .i64 0] 76)).drew 76 [.int .i64 0, .int .i64 0, .string ⟨#[]⟩, .string ⟨#[]⟩, .slice none 0 0, .int .i64 0]
            rw [e9] at h9
            exact h9
          have hA2 : Blk ((w1.alloc (.cells #[.int .i64 0, .int .i64 0, .string ⟨#[]⟩, .string ⟨#[]⟩, .slice none 0 0, .int .i64 0] 76)).alloc (.cells #[.int .i64 0, .int .i64 0, .string ⟨#[]⟩, .string ⟨#[]⟩, .slice none 0 0, .int .i64 0] 76)).drew w1.heap.size 76 [.int .i64 0, .int .i64 0, .string ⟨#[]⟩, .string ⟨#[]⟩, .slice none 0 0, .int .i64 0] := hA1.alloc _
          have hb2 : Below w1.heap.size w1 ((w1.alloc (.cells #[.int .i64 0, .int .i64 0, .string ⟨#[]⟩, .string ⟨#[]⟩, .slice none 0 0, .int .i64 0] 76)).alloc (.cells #[.int .i64 0, .int .i64 0, .string ⟨#[]⟩, .string ⟨#[]⟩, .slice none 0 0, .int .i64 0] 76)).drew := hb1.alloc (by omega) (.cells #[.int .i64 0, .int .i64 0, .string ⟨#[]⟩, .string ⟨#[]⟩, .slice none 0 0, .int .i64 0] 76)
          clear hA1
          refine hK.out _ _ ?_ (fun hHeld => ?_)
          · exact hb2
          clear hK K
          refine wpAnyH_ready (rs := [12]) (by kernel_rfl) (by simp) ?_
          refine AllReadyH.cons rfl (fun K hK => ?_) ?_
          · try rw [if_pos (by rfl)]
            refine wp_store_row 76 (.tmp 9) (.tmp 16) (by rfl) w1.heap.size ([.int .i64 x.kind, .int .i64 x.num, .string x.name, .string x.attr, .slice KX x.kids.length kx, .int .i64 x.at_] : List Value).toArray (by rfl) (by rfl) 76 ([.int .i64 0, .int .i64 0, .string ⟨#[]⟩, .string ⟨#[]⟩, .slice none 0 0, .int .i64 0] : List Value).toArray hA2 (by kernel_rfl) (by kernel_rfl) (by kernel_rfl) ?_
            have hX1 := blk_row hA2 [.int .i64 x.kind, .int .i64 x.num, .string x.name, .string x.attr, .slice KX x.kids.length kx, .int .i64 x.at_]
            have hY1 := blk_far hB2 (b := w1.heap.size) (by omega) ([.int .i64 x.kind, .int .i64 x.num, .string x.name, .string x.attr, .slice KX x.kids.length kx, .int .i64 x.at_] : List Value).toArray
            have hb3 := hb2.trans (below_row' w1.heap.size (by omega) ([.int .i64 x.kind, .int .i64 x.num, .string x.name, .string x.attr, .slice KX x.kids.length kx, .int .i64 x.at_] : List Value).toArray)
            clear hA2 hB2 hb2
            refine hK.out _ _ ?_ (fun hHeld => ?_)
            · exact hb3
            clear hK K
            refine wpAnyH_ready (rs := [13]) (by kernel_rfl) (by simp) ?_
            refine AllReadyH.cons rfl (fun K hK => ?_) ?_
            · try rw [if_pos (by rfl)]
              refine wp_store_row 76 (.tmp 10) (.tmp 21) (by rfl) (w1.heap.size + 1) ([.int .i64 x.kind, .int .i64 x.num, .string x.name, .string x.attr, .slice KY x.kids.length ky, .int .i64 ya] : List Value).toArray (by rfl) (by rfl) 76 ([.int .i64 0, .int .i64 0, .string ⟨#[]⟩, .string ⟨#[]⟩, .slice none 0 0, .int .i64 0] : List Value).toArray hY1 (by kernel_rfl) (by kernel_rfl) (by kernel_rfl) ?_
              have hY2 := blk_row hY1 [.int .i64 x.kind, .int .i64 x.num, .string x.name, .string x.attr, .slice KY x.kids.length ky, .int .i64 ya]
              have hX2 := blk_far hX1 (b := (w1.heap.size + 1)) (by omega) ([.int .i64 x.kind, .int .i64 x.num, .string x.name, .string x.attr, .slice KY x.kids.length ky, .int .i64 ya] : List Value).toArray
              have hb4 := hb3.trans (below_row' (w1.heap.size + 1) (by omega) ([.int .i64 x.kind, .int .i64 x.num, .string x.name, .string x.attr, .slice KY x.kids.length ky, .int .i64 ya] : List Value).toArray)
              clear hY1 hX1 hb3
              refine hK.out _ _ ?_ (fun hHeld => ?_)
              · exact hb4
              clear hK K
              refine wpAnyH_done (by kernel_rfl) ?_ _
              try simp only [Act.put, List.getElem_toArray, List.getElem_cons_zero, List.getElem_cons_succ]
              go_wp2_with fail
              go_meet
              exact ⟨w1.heap.size, (w1.heap.size + 1), rfl, rfl, hX2, hY2, hb4⟩
            exact AllReadyH.nil
          exact AllReadyH.nil
        exact AllReadyH.nil
      refine AllReadyH.cons rfl (fun K hK => ?_) ?_
      · go_simp
        have hA1 : Blk (w1.alloc (.cells #[.int .i64 0, .int .i64 0, .string ⟨#[]⟩, .string ⟨#[]⟩, .slice none 0 0, .int .i64 0] 76)).drew w1.heap.size 76 [.int .i64 0, .int .i64 0, .string ⟨#[]⟩, .string ⟨#[]⟩, .slice none 0 0, .int .i64 0] := Blk.new _ _ _
        have hb1 : Below w1.heap.size w1 (w1.alloc (.cells #[.int .i64 0, .int .i64 0, .string ⟨#[]⟩, .string ⟨#[]⟩, .slice none 0 0, .int .i64 0] 76)).drew := ((Below.refl _ _).drew).alloc (Nat.le_refl _) (.cells #[.int .i64 0, .int .i64 0, .string ⟨#[]⟩, .string ⟨#[]⟩, .slice none 0 0, .int .i64 0] 76)
        refine hK.out _ _ ?_ (fun hHeld => ?_)
        · exact hb1
        clear hK K
        refine wpAnyH_ready (rs := [10]) (by kernel_rfl) (by simp) ?_
        refine AllReadyH.cons rfl (fun K hK => ?_) ?_
        · go_simp
          have e9 : (w1.alloc (.cells #[.int .i64 0, .int .i64 0, .string ⟨#[]⟩, .string ⟨#[]⟩, .slice none 0 0, .int .i64 0] 76)).drew.heap.size = w1.heap.size + 1 := by show (w1.heap.push _).size = _; simp
          have hB2 : Blk ((w1.alloc (.cells #[.int .i64 0, .int .i64 0, .string ⟨#[]⟩, .string ⟨#[]⟩, .slice none 0 0, .int .i64 0] 76)).alloc (.cells #[.int .i64 0, .int .i64 0, .string ⟨#[]⟩, .string ⟨#[]⟩, .slice none 0 0, .int .i64 0] 76)).drew (w1.heap.size + 1) 76 [.int .i64 0, .int .i64 0, .string ⟨#[]⟩, .string ⟨#[]⟩, .slice none 0 0, .int .i64 0] := by
            have h9 := Blk.new (w1.alloc (.cells #[.int .i64 0, .int .i64 0, .string ⟨#[]⟩, .string ⟨#[]⟩, .slice none 0 0, .int .i64 0] 76)).drew 76 [.int .i64 0, .int .i64 0, .string ⟨#[]⟩, .string ⟨#[]⟩, .slice none 0 0, .int .i64 0]
            rw [e9] at h9
            exact h9
          have hA2 : Blk ((w1.alloc (.cells #[.int .i64 0, .int .i64 0, .string ⟨#[]⟩, .string ⟨#[]⟩, .slice none 0 0, .int .i64 0] 76)).alloc (.cells #[.int .i64 0, .int .i64 0, .string ⟨#[]⟩, .string ⟨#[]⟩, .slice none 0 0, .int .i64 0] 76)).drew w1.heap.size 76 [.int .i64 0, .int .i64 0, .string ⟨#[]⟩, .string ⟨#[]⟩, .slice none 0 0, .int .i64 0] := hA1.alloc _
          have hb2 : Below w1.heap.size w1 ((w1.alloc (.cells #[.int .i64 0, .int .i64 0, .string ⟨#[]⟩, .string ⟨#[]⟩, .slice none 0 0, .int .i64 0] 76)).alloc (.cells #[.int .i64 0, .int .i64 0, .string ⟨#[]⟩, .string ⟨#[]⟩, .slice none 0 0, .int .i64 0] 76)).drew := hb1.alloc (by omega) (.cells #[.int .i64 0, .int .i64 0, .string ⟨#[]⟩, .string ⟨#[]⟩, .slice none 0 0, .int .i64 0] 76)
          clear hA1
          refine hK.out _ _ ?_ (fun hHeld => ?_)
          · exact hb2
          clear hK K
          refine wpAnyH_ready (rs := [12]) (by kernel_rfl) (by simp) ?_
          refine AllReadyH.cons rfl (fun K hK => ?_) ?_
          · try rw [if_pos (by rfl)]
            refine wp_store_row 76 (.tmp 9) (.tmp 16) (by rfl) (w1.heap.size + 1) ([.int .i64 x.kind, .int .i64 x.num, .string x.name, .string x.attr, .slice KX x.kids.length kx, .int .i64 x.at_] : List Value).toArray (by rfl) (by rfl) 76 ([.int .i64 0, .int .i64 0, .string ⟨#[]⟩, .string ⟨#[]⟩, .slice none 0 0, .int .i64 0] : List Value).toArray hB2 (by kernel_rfl) (by kernel_rfl) (by kernel_rfl) ?_
            have hX1 := blk_row hB2 [.int .i64 x.kind, .int .i64 x.num, .string x.name, .string x.attr, .slice KX x.kids.length kx, .int .i64 x.at_]
            have hY1 := blk_far hA2 (b := (w1.heap.size + 1)) (by omega) ([.int .i64 x.kind, .int .i64 x.num, .string x.name, .string x.attr, .slice KX x.kids.length kx, .int .i64 x.at_] : List Value).toArray
            have hb3 := hb2.trans (below_row' (w1.heap.size + 1) (by omega) ([.int .i64 x.kind, .int .i64 x.num, .string x.name, .string x.attr, .slice KX x.kids.length kx, .int .i64 x.at_] : List Value).toArray)
            clear hB2 hA2 hb2
            refine hK.out _ _ ?_ (fun hHeld => ?_)
            · exact hb3
            clear hK K
            refine wpAnyH_ready (rs := [13]) (by kernel_rfl) (by simp) ?_
            refine AllReadyH.cons rfl (fun K hK => ?_) ?_
            · try rw [if_pos (by rfl)]
              refine wp_store_row 76 (.tmp 10) (.tmp 21) (by rfl) w1.heap.size ([.int .i64 x.kind, .int .i64 x.num, .string x.name, .string x.attr, .slice KY x.kids.length ky, .int .i64 ya] : List Value).toArray (by rfl) (by rfl) 76 ([.int .i64 0, .int .i64 0, .string ⟨#[]⟩, .string ⟨#[]⟩, .slice none 0 0, .int .i64 0] : List Value).toArray hY1 (by kernel_rfl) (by kernel_rfl) (by kernel_rfl) ?_
              have hY2 := blk_row hY1 [.int .i64 x.kind, .int .i64 x.num, .string x.name, .string x.attr, .slice KY x.kids.length ky, .int .i64 ya]
              have hX2 := blk_far hX1 (b := w1.heap.size) (by omega) ([.int .i64 x.kind, .int .i64 x.num, .string x.name, .string x.attr, .slice KY x.kids.length ky, .int .i64 ya] : List Value).toArray
              have hb4 := hb3.trans (below_row' w1.heap.size (by omega) ([.int .i64 x.kind, .int .i64 x.num, .string x.name, .string x.attr, .slice KY x.kids.length ky, .int .i64 ya] : List Value).toArray)
              clear hY1 hX1 hb3
              refine hK.out _ _ ?_ (fun hHeld => ?_)
              · exact hb4
              clear hK K
              refine wpAnyH_done (by kernel_rfl) ?_ _
              try simp only [Act.put, List.getElem_toArray, List.getElem_cons_zero, List.getElem_cons_succ]
              go_wp2_with fail
              go_meet
              exact ⟨(w1.heap.size + 1), w1.heap.size, rfl, rfl, hX2, hY2, hb4⟩
            exact AllReadyH.nil
          exact AllReadyH.nil
        exact AllReadyH.nil
      exact AllReadyH.nil
    case rest => as_aux_lemma =>
      obtain ⟨g9, g10, rfl, rfl, hX, hY, hb9⟩ := hcut
      have hxI := hxI.up hb9
      have hyI := hyI.up hb9
      have hP := hP.up hb9
      have hQ := hQ.up hb9
      have m0 := m0.up hb9
      have m1 := m1.up hb9
      have hb10 := hb0.trans (hb9.mono hb0.size)
      clear c3 d3 x0 x1 x2 x3 x4 x5 y0 y1 y2 y3 y4 y5 hb9 hb0
      obtain ⟨x0, x1, x2, x3, x4, x5⟩ := hX.get6
      obtain ⟨y0, y1, y2, y3, y4, y5⟩ := hY.get6
      have z2 : (x.name.toList == x.name.toList) = true := by simp
      have z3 : (x.attr.toList == x.attr.toList) = true := by simp
      go_upto_region 5 with fail
      clear z2 z3 x0 x1 x2 x3 x5 y0 y1 y2 y3 y5 x4 y4
      go_loopg [11] x.kids.length (fun m s11 wx => ∃ j : Nat, j ≤ x.kids.length ∧ m = x.kids.length - j ∧ s11 = .int .i64 (j : Int) ∧ Below wc.heap.size wc wx)
      case atStart => exact ⟨0, Nat.zero_le _, rfl, rfl, Below.refl _ _⟩
      case round =>
        obtain ⟨j, hj, rfl, rfl, hby⟩ := hrel
        have x4 := (hX.up hby).cell 4
        have y4 := (hY.up hby).cell 4
        simp only [List.getElem?_cons_zero, List.getElem?_cons_succ] at x4 y4
        by_cases hjl : j < x.kids.length
        · have hjj : (j : Int) < (x.kids.length : Int) := by omega
          have hj0 : (0 : Int) ≤ (j : Int) := by omega
          obtain ⟨p, hp⟩ : ∃ v, x.kids[j]? = some v := ⟨_, List.getElem?_eq_getElem hjl⟩
          obtain ⟨q, hq⟩ : ∃ v, yks[j]? = some v := ⟨_, List.getElem?_eq_getElem (by have := HL.out; omega)⟩
          obtain ⟨ax, hK1, -⟩ := hxI.at_ j _ hp
          obtain ⟨ay, hK2, -⟩ := hyI.at_ j _ hq
          subst hK1
          subst hK2
          have HC : Hid (∀ V, Below wc.heap.size wc V → (V.cell? ⟨ga, 0, none⟩ = some (.string a.name) ∧ V.cell? ⟨ga, 1, none⟩ = some (.slice La.ua a.uses.length La.uc) ∧ V.cell? ⟨ga, 2, none⟩ = some (.slice La.ra a.reveal.length La.rc) ∧ V.cell? ⟨ga, 3, none⟩ = some (.slice La.na a.nodes.length La.nc) ∧ V.cell? ⟨ga, 4, none⟩ = some (.int .i64 a.root) ∧ V.cell? ⟨ga, 5, none⟩ = some (.string a.scope) ∧ V.cell? ⟨ga, 6, none⟩ = some (.int .i64 a.limit) ∧ V.cell? ⟨ga, 7, none⟩ = some (.string a.escrow)) ∧ (V.cell? ⟨gb, 0, none⟩ = some (.string b.name) ∧ V.cell? ⟨gb, 1, none⟩ = some (.slice Lb.ua b.uses.length Lb.uc) ∧ V.cell? ⟨gb, 2, none⟩ = some (.slice Lb.ra b.reveal.length Lb.rc) ∧ V.cell? ⟨gb, 3, none⟩ = some (.slice Lb.na b.nodes.length Lb.nc) ∧ V.cell? ⟨gb, 4, none⟩ = some (.int .i64 b.root) ∧ V.cell? ⟨gb, 5, none⟩ = some (.string b.scope) ∧ V.cell? ⟨gb, 6, none⟩ = some (.int .i64 b.limit) ∧ V.cell? ⟨gb, 7, none⟩ = some (.string b.escrow)) ∧ V.cell? ⟨g9, 4, none⟩ = some (.slice (some ax) x.kids.length kx) ∧ V.cell? ⟨g10, 4, none⟩ = some (.slice (some ay) x.kids.length ky) ∧ V.cell? (ax.add j) = some (.int .i64 p) ∧ V.cell? (ay.add j) = some (.int .i64 q)) := Lib.hid fun V h => by
            obtain ⟨_, e1, e2⟩ := (hxI.up h).at_ j _ hp
            cases e1
            obtain ⟨_, e1, e3⟩ := (hyI.up h).at_ j _ hq
            cases e1
            exact ⟨(m0.up h).get8, (m1.up h).get8, (hX.up h).cell 4, (hY.up h).cell 4, e2, e3⟩
          have HX := Lib.hid (fun V (h : Below wc.heap.size wc V) => HIH.out V (hP.up h) (hQ.up h) j p q hp hq)
          have hyd := hby.drew
          have hcc := HC.out _ hyd
          clear hp hq HIH
          go_upto_region 7 with fail
          have HA := Lib.hid (HX.out _ hyd)
          go_region_held3 (fun w' => (w'.cell? ⟨ga, 0, none⟩ = some (.string a.name) ∧ w'.cell? ⟨ga, 1, none⟩ = some (.slice La.ua a.uses.length La.uc) ∧ w'.cell? ⟨ga, 2, none⟩ = some (.slice La.ra a.reveal.length La.rc) ∧ w'.cell? ⟨ga, 3, none⟩ = some (.slice La.na a.nodes.length La.nc) ∧ w'.cell? ⟨ga, 4, none⟩ = some (.int .i64 a.root) ∧ w'.cell? ⟨ga, 5, none⟩ = some (.string a.scope) ∧ w'.cell? ⟨ga, 6, none⟩ = some (.int .i64 a.limit) ∧ w'.cell? ⟨ga, 7, none⟩ = some (.string a.escrow)) ∧ (w'.cell? ⟨gb, 0, none⟩ = some (.string b.name) ∧ w'.cell? ⟨gb, 1, none⟩ = some (.slice Lb.ua b.uses.length Lb.uc) ∧ w'.cell? ⟨gb, 2, none⟩ = some (.slice Lb.ra b.reveal.length Lb.rc) ∧ w'.cell? ⟨gb, 3, none⟩ = some (.slice Lb.na b.nodes.length Lb.nc) ∧ w'.cell? ⟨gb, 4, none⟩ = some (.int .i64 b.root) ∧ w'.cell? ⟨gb, 5, none⟩ = some (.string b.scope) ∧ w'.cell? ⟨gb, 6, none⟩ = some (.int .i64 b.limit) ∧ w'.cell? ⟨gb, 7, none⟩ = some (.string b.escrow)) ∧ w'.cell? ⟨g9, 4, none⟩ = some (.slice (some ax) x.kids.length kx) ∧ w'.cell? ⟨g10, 4, none⟩ = some (.slice (some ay) x.kids.length ky) ∧ w'.cell? (ax.add j) = some (.int .i64 p) ∧ w'.cell? (ay.add j) = some (.int .i64 q)) (first | exact hcc | exact HC.out _ hM2)
            (first | (go_at_call 81; refine HA.out.mono ?_; rintro e w8 ⟨rfl, hb8⟩; have hM2 := hyd.trans (hb8.mono hyd.size)))
          go_wp2_with fail
          go_roundg (x.kids.length - (j + 1))
          case measure => omega
          case rel => exact ⟨j + 1, hjl, rfl, by first | rfl | simp, hM2⟩
        · have hjj : ¬ (j : Int) < (x.kids.length : Int) := by omega
          have hb11 := hb10.trans (hby.mono hb10.size)
          clear hj hjl
          go_wp2_with fail
          go_ret
          exact ⟨rfl, by first | exact hb11 | (rw [← hga]; exact hb11)⟩
set_option maxRecDepth 20000 in
set_option maxHeartbeats 16000000 in
theorem rsame_true (a b : Po) (La Lb : Lp) (hA : PBd a) (hB : PBd b) (hs : sameP a b = true) (w : World) (hP0 : PolM w a La) (hQ0 : PolM w b Lb) : Calls Tryz.prog 31 #[polV a La, polV b Lb] w fun e w' => e = .returned (.bool true) ∧ Below w.heap.size w w' := by
  have hnl := hA.nl
  have hul := hA.ul
  have hrl := hA.rl
  unfold sameP at hs
  simp only [Bool.and_eq_true, decide_eq_true_eq] at hs
  obtain ⟨⟨⟨⟨⟨⟨⟨⟨ha, hb⟩, h1⟩, h2⟩, h3⟩, h4⟩, h5⟩, h6⟩, h7⟩ := hs
  have HCa := Lib.hid (fun W (h : PolM W a La) => rcheck_any a La hA W h)
  have HCb := Lib.hid (fun W (h : PolM W b Lb) => rcheck_any b Lb hB W h)
  have HN := Lib.hid (fun V h h' => rsn_true a b La Lb hA hB 32 a.root b.root V h7 (tree_wf (check_tree ha)) (tree_wf (check_tree hb)) h h')
  rw [ha] at HCa
  rw [hb] at HCb
  obtain ⟨bn, bu, br, bns, broot, bsc, bl, be⟩ := b
  simp only at h1 h2 h3 h4 h5 h6
  subst h1; subst h2; subst h3; subst h4; subst h5; subst h6
  clear h7 ha hb hA hB
  obtain ⟨ga, hga⟩ : ∃ g, w.heap.size = g := ⟨_, rfl⟩
  obtain ⟨gb, hgb⟩ : ∃ g, ga + 1 = g := ⟨_, rfl⟩
  have hk0 := ((Hp.start w).new 29 (polcs a La)).new 29 (polcs ⟨a.name, a.uses, a.reveal, bns, broot, a.scope, a.limit, a.escrow⟩ Lb)
  simp only [sizeA] at hk0
  have hb0 := hk0.below0
  have hP := hP0.up hb0
  have hQ := hQ0.up hb0
  clear hP0 hQ0
  go_enter Tryz.func31, Tryz.ntmps31
  go_upto_region 1 with fail
  simp only [hga, hgb] at hk0 ⊢
  generalize (w.alloc _).alloc _ = w1 at *
  have m0 := hk0.blk 1 rfl
  have m1 := hk0.blk 0 rfl
  replace hb0 := hk0.below0
  clear hk0
  obtain ⟨c0, c1, c2, c3, c4, c5, c6, c7⟩ := m0.get8
  obtain ⟨d0, d1, d2, d3, d4, d5, d6, d7⟩ := m1.get8
  try simp only at d0 d1 d2 d3 d4 d5 d6 d7
  have z0 : (a.name.toList == a.name.toList) = true := by simp
  have z5 : (a.scope.toList == a.scope.toList) = true := by simp
  have z7 : (a.escrow.toList == a.escrow.toList) = true := by simp
  have HA := Lib.hid (HCa.out w1 hP)
  go_wp2_with fail
  refine HA.out.mono ?_
  rintro e w2 ⟨rfl, hb2⟩
  have m20 := m0.up hb2
  have m21 := m1.up hb2
  clear HA HCa c0 c1 c2 c3 c4 c5 c6 c7 d0 d1 d2 d3 d4 d5 d6 d7
  obtain ⟨c0, c1, c2, c3, c4, c5, c6, c7⟩ := m20.get8
  obtain ⟨d0, d1, d2, d3, d4, d5, d6, d7⟩ := m21.get8
  try simp only at d0 d1 d2 d3 d4 d5 d6 d7
  have HA := Lib.hid (HCb.out w2 (hQ.up hb2))
  go_wp2_with fail
  refine HA.out.mono ?_
  rintro e w3 ⟨rfl, hb3⟩
  have hb13 := hb2.trans (hb3.mono hb2.size)
  have m30 := m0.up hb13
  have m31 := m1.up hb13
  clear HA HCb c0 c1 c2 c3 c4 c5 c6 c7 d0 d1 d2 d3 d4 d5 d6 d7 m20 m21 hb2 hb3
  obtain ⟨c0, c1, c2, c3, c4, c5, c6, c7⟩ := m30.get8
  obtain ⟨d0, d1, d2, d3, d4, d5, d6, d7⟩ := m31.get8
  try simp only at d0 d1 d2 d3 d4 d5 d6 d7
  go_upto_region 4 with fail
  clear c0 c1 c2 c3 c4 c5 c6 c7 d0 d1 d2 d3 d4 d5 d6 d7 z0 z5 z7 m30 m31
  go_loopg [5] a.uses.length (fun m s5 wx => ∃ i : Nat, i ≤ a.uses.length ∧ m = a.uses.length - i ∧ s5 = .int .i64 (i : Int) ∧ Below w1.heap.size w1 wx)
  case atStart => exact ⟨0, Nat.zero_le _, rfl, rfl, by assumption⟩
  case round =>
    obtain ⟨i, hi, rfl, rfl, hbx⟩ := hrel
    have mr0 := m0.up hbx
    have mr1 := m1.up hbx
    have c1 := mr0.cell 1
    have d1 := mr1.cell 1
    simp only [List.getElem?_cons_zero, List.getElem?_cons_succ] at c1 d1
    by_cases hil : i < a.uses.length
    · have hii : (i : Int) < (a.uses.length : Int) := by omega
      have hi0 : (0 : Int) ≤ (i : Int) := by omega
      obtain ⟨⟨a1, a2⟩, ha⟩ : ∃ x, a.uses[i]? = some x := ⟨_, List.getElem?_eq_getElem hil⟩
      obtain ⟨ad, hA1, ca, cb⟩ := (hP.us.up hbx).at_ i _ ha
      obtain ⟨bd, hA2, da, db⟩ := (hQ.us.up hbx).at_ i _ (by first | exact ha | (simp only; exact ha))
      rw [hA1] at c1
      rw [hA2] at d1
      simp only at ca cb da db
      have z1 : (a1.toList == a1.toList) = true := by simp
      have z2 : (a2.toList == a2.toList) = true := by simp
      clear ha hA1 hA2
      go_upto_region 6 with fail
      go_quiet (fail)
      go_wp2_with fail
      go_roundg (a.uses.length - (i + 1))
      case measure => omega
      case rel => exact ⟨i + 1, hil, rfl, by first | rfl | simp, by first | exact below_drewN' hbx _ | exact hbx | exact hbx.drew⟩
    · have hii : ¬ (i : Int) < (a.uses.length : Int) := by omega
      clear hi hil
      go_upto_region 9 with fail
      clear c1 d1 mr0 mr1
      go_loopg [6] a.reveal.length (fun m s6 wx => ∃ i : Nat, i ≤ a.reveal.length ∧ m = a.reveal.length - i ∧ s6 = .int .i64 (i : Int) ∧ Below w1.heap.size w1 wx)
      case atStart => exact ⟨0, Nat.zero_le _, rfl, rfl, by assumption⟩
      case round =>
        obtain ⟨i, hi, rfl, rfl, hbx⟩ := hrel
        have mr0 := m0.up hbx
        have mr1 := m1.up hbx
        have c2 := mr0.cell 2
        have d2 := mr1.cell 2
        simp only [List.getElem?_cons_zero, List.getElem?_cons_succ] at c2 d2
        by_cases hil : i < a.reveal.length
        · have hii : (i : Int) < (a.reveal.length : Int) := by omega
          have hi0 : (0 : Int) ≤ (i : Int) := by omega
          obtain ⟨⟨a1, a2⟩, ha⟩ : ∃ x, a.reveal[i]? = some x := ⟨_, List.getElem?_eq_getElem hil⟩
          obtain ⟨ad, hA1, ca, cb⟩ := (hP.rv.up hbx).at_ i _ ha
          obtain ⟨bd, hA2, da, db⟩ := (hQ.rv.up hbx).at_ i _ (by first | exact ha | (simp only; exact ha))
          rw [hA1] at c2
          rw [hA2] at d2
          simp only at ca cb da db
          have z1 : (a1.toList == a1.toList) = true := by simp
          have z2 : (a2.toList == a2.toList) = true := by simp
          clear ha hA1 hA2
          go_upto_region 11 with fail
          go_quiet (fail)
          go_wp2_with fail
          go_roundg (a.reveal.length - (i + 1))
          case measure => omega
          case rel => exact ⟨i + 1, hil, rfl, by first | rfl | simp, by first | exact below_drewN' hbx _ | exact hbx | exact hbx.drew⟩
        · have hii : ¬ (i : Int) < (a.reveal.length : Int) := by omega
          clear hi hil
          go_upto_region 13 with fail
          clear c2 d2 mr0 mr1
          have m30 := m0.up hbx
          have m31 := m1.up hbx
          obtain ⟨c0, c1, c2, c3, c4, c5, c6, c7⟩ := m30.get8
          obtain ⟨d0, d1, d2, d3, d4, d5, d6, d7⟩ := m31.get8
          try simp only at d0 d1 d2 d3 d4 d5 d6 d7
          have HA := Lib.hid (HN.out wr (hP.up hbx) (hQ.up hbx))
          go_wp2_with fail
          refine HA.out.mono ?_
          rintro e w9 ⟨rfl, hb9⟩
          go_wp2_with fail
          go_ret
          have hbz := hb0.trans ((hbx.trans (hb9.mono hbx.size)).mono hb0.size)
          exact ⟨rfl, by first | exact hbz | (rw [← hga]; exact hbz)⟩
end Go.Proofs.YtogmhaihmkcjgaaGreatDoor
