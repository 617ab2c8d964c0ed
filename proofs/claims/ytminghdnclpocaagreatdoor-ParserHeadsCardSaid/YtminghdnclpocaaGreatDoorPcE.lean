/-
  policy.tree: the visit of a policy's nodes. Printed by mkpce.py.
-/
import Derived.Test.YtminghdnclpocaaGreatDoorPcD
import Derived.Test.YtminghdnclpocaaGreatDoorPcM
namespace Go.Proofs.YtminghdnclpocaaGreatDoor
open Go.RowKit Go.Shelf Go.Maps
set_option linter.unusedVariables false

abbrev pptr (g : Nat) : Value := .pointer (some ⟨g, 0, none⟩)
theorem int_wf {n : Int} (h0 : 0 ≤ n) (h1 : n ≤ 1000000) : (Lit.int .i64 n).wf = true := by
  have e1 : IntKind.i64.min = -9223372036854775808 := by decide
  have e2 : IntKind.i64.max = 9223372036854775807 := by decide
  simp [Lit.wf, e1, e2]
  omega
abbrev visF (gp gs gv : Nat) : Value := .func (.func 85) #[] #[pptr gp, pptr gs, pptr gv]
/-- the visit's pieces: the set, its box, the policy's, the closure's -/
abbrev vits (d : Po) (L : Lp) (gm gs gp gv : Nat) (S : List Int) : List It := [iset intK gm S, iblk gs 121 [.map (some gm)], iblk gp 27 (polcs d L), iblk gv 123 [visF gp gs gv]]
theorem enters_visit : ∀ args w, (callFunc 85 args).run Tryz.prog w = .ok (.enter 85 args) w := enters_of Tryz.func85 (by kernel_rfl) rfl
set_option maxRecDepth 20000 in
set_option maxHeartbeats 16000000 in
theorem visit_any (d : Po) (L : Lp) (hB : PBd d) (gm gs gp gv : Nat) (w0 : World) (hP : PolM w0 d L) : ∀ (f : Nat) (dp : Int), f ≤ 32 → dp = 33 - (f : Int) → ∀ (a : Int) (c : Bool) (S : List Int) (r : List It) (W : World), Met d.nodes S → Hp [] w0 (vits d L gm gs gp gv S ++ r) W →
    Calls Tryz.prog 85 #[.int .i64 a, .int .i64 dp, .bool c, pptr gp, pptr gs, pptr gv] W fun e w' => e = .returned (.int .i64 (visitP d.nodes f a c S).1) ∧ Hp [] w0 (vits d L gm gs gp gv (visitP d.nodes f a c S).2 ++ r) w' := by
  have hen := enters_visit
  intro f
  induction f with
  | zero =>
    intro dp hf hdp a c S r W hM hk
    have hnl := hB.nl
    have c3 : W.cell? ⟨gp, 3, none⟩ = some (.slice L.na d.nodes.length L.nc) := (hk.blk 2 rfl).cell 3
    have s0 : W.cell? ⟨gs, 0, none⟩ = some (.map (some gm)) := (hk.blk 1 rfl).cell 0
    have HDP := Lib.hid hdp
    by_cases h1 : a < 0
    · have HV : Hid (visitP d.nodes (0) a c S = (3, S)) := Lib.hid (visitP_out (.inl h1))
      clear hdp
      go_enter Tryz.func85, Tryz.ntmps85
      go_wp2_with fail
      go_ret
      rw [HV.out]
      exact ⟨rfl, hk⟩
    · obtain ⟨i, rfl⟩ : ∃ i : Nat, a = (i : Int) := ⟨a.toNat, by omega⟩
      have hi0 : (0 : Int) ≤ (i : Int) := by omega
      by_cases h2 : (d.nodes.length : Int) ≤ (i : Int)
      · have HV : Hid (visitP d.nodes (0) (i : Int) c S = (3, S)) := Lib.hid (visitP_out (.inr (.inl h2)))
        clear hdp
        go_enter Tryz.func85, Tryz.ntmps85
        go_wp2_with fail
        go_ret
        rw [HV.out]
        exact ⟨rfl, hk⟩
      · have hwf := int_wf hi0 (by omega)
        have hil : i < d.nodes.length := by omega
        have hii : (i : Int) < (d.nodes.length : Int) := by omega
        have hlk := iset_look intK (hk.sep.ok _ (List.mem_cons_self ..)) (i : Int) hwf
        have hlk : (Instr.lookup 121 (.map (some gm)) (.int .i64 (i : Int)) false).run Tryz.prog W = .ok (.bool (memD (i : Int) S)) W := hlk
        cases hm : memD (i : Int) S with
        | true =>
          rw [hm] at hlk
          have HV : Hid (visitP d.nodes (0) (i : Int) c S = (3, S)) := Lib.hid (visitP_out (.inr (.inr (memD_iff.1 hm))))
          clear hdp
          go_enter Tryz.func85, Tryz.ntmps85
          go_wp2_with fail
          go_ret
          rw [HV.out]
          exact ⟨rfl, hk⟩
        | false =>
          rw [hm] at hlk
          have hnot : ¬ ((i : Int) < 0 ∨ (d.nodes.length : Int) ≤ (i : Int) ∨ (i : Int) ∈ S) := by
            rintro (h | h | h)
            · exact h1 h
            · exact h2 h
            · rw [memD_iff.2 h] at hm; cases hm
          have HV : Hid (visitP d.nodes 0 (i : Int) c S = (7, S)) := Lib.hid (visitP_deep hnot)
          have hdp1 : (32 : Int) < dp := by omega
          clear hdp hnot
          go_enter Tryz.func85, Tryz.ntmps85
          go_wp2_with fail
          go_ret
          rw [HV.out]
          exact ⟨rfl, hk⟩
  | succ f ih =>
    intro dp hf hdp a c S r W hM hk
    have hnl := hB.nl
    have c3 : W.cell? ⟨gp, 3, none⟩ = some (.slice L.na d.nodes.length L.nc) := (hk.blk 2 rfl).cell 3
    have s0 : W.cell? ⟨gs, 0, none⟩ = some (.map (some gm)) := (hk.blk 1 rfl).cell 0
    have HDP := Lib.hid hdp
    by_cases h1 : a < 0
    · have HV : Hid (visitP d.nodes (f + 1) a c S = (3, S)) := Lib.hid (visitP_out (.inl h1))
      clear hdp
      go_enter Tryz.func85, Tryz.ntmps85
      go_wp2_with fail
      go_ret
      rw [HV.out]
      exact ⟨rfl, hk⟩
    · obtain ⟨i, rfl⟩ : ∃ i : Nat, a = (i : Int) := ⟨a.toNat, by omega⟩
      have hi0 : (0 : Int) ≤ (i : Int) := by omega
      by_cases h2 : (d.nodes.length : Int) ≤ (i : Int)
      · have HV : Hid (visitP d.nodes (f + 1) (i : Int) c S = (3, S)) := Lib.hid (visitP_out (.inr (.inl h2)))
        clear hdp
        go_enter Tryz.func85, Tryz.ntmps85
        go_wp2_with fail
        go_ret
        rw [HV.out]
        exact ⟨rfl, hk⟩
      · have hwf := int_wf hi0 (by omega)
        have hil : i < d.nodes.length := by omega
        have hii : (i : Int) < (d.nodes.length : Int) := by omega
        have hlk := iset_look intK (hk.sep.ok _ (List.mem_cons_self ..)) (i : Int) hwf
        have hlk : (Instr.lookup 121 (.map (some gm)) (.int .i64 (i : Int)) false).run Tryz.prog W = .ok (.bool (memD (i : Int) S)) W := hlk
        cases hm : memD (i : Int) S with
        | true =>
          rw [hm] at hlk
          have HV : Hid (visitP d.nodes (f + 1) (i : Int) c S = (3, S)) := Lib.hid (visitP_out (.inr (.inr (memD_iff.1 hm))))
          clear hdp
          go_enter Tryz.func85, Tryz.ntmps85
          go_wp2_with fail
          go_ret
          rw [HV.out]
          exact ⟨rfl, hk⟩
        | false =>
          rw [hm] at hlk
          have hnot : ¬ ((i : Int) < 0 ∨ (d.nodes.length : Int) ≤ (i : Int) ∨ (i : Int) ∈ S) := by
            rintro (h | h | h)
            · exact h1 h
            · exact h2 h
            · rw [memD_iff.2 h] at hm; cases hm
          obtain ⟨n, hn⟩ : ∃ n, d.nodes[i]? = some n := ⟨_, List.getElem?_eq_getElem hil⟩
          have HV := Lib.hid (visitP_in (f := f) (c := c) hnot (by rw [Int.toNat_natCast]; exact hn))
          have hdp1 : ¬ (32 : Int) < dp := by omega
          have hdp2 : 0 ≤ dp := by omega
          have hS2 := hM.snoc hnot
          have hSl := hM.len
          have hown := iset_own intK (hk.sep.ok _ (List.mem_cons_self ..))
          have hnb := hB.ns n (List.mem_of_getElem? hn)
          have hkl := hnb.kids
          obtain ⟨ad, KA, kc, hna, hN0⟩ := hP.ns.at_ i n hn
          have hnk : n.kind = n.kind := rfl
          rw [hna] at c3
          clear hnot hm hdp
          go_enter Tryz.func85, Tryz.ntmps85
          go_upto_region 6 with (first | (at_mapUpdate; refine wpList_mapUpdate_own _ rfl _ _ _ 121 rfl 3 4 intK.law Tryz.underlying121 (plainElem (H := Unit) Tryz.prog 4) gm S.length (intK.setD S) rfl hown (by unfold maxLen; omega) _ _ (intK.kl (i : Int)) rfl rfl (intK.key (i : Int) hwf) _ [] (plainElem_bool Tryz.underlying4 true) ?_; intro w1 hown1 hgrow1))
          have hk1 : Hp [] w0 (vits d L gm gs gp gv (S ++ [(i : Int)]) ++ r) w1 := hk.setPut intK 0 rfl hwf hown1 hgrow1
          clear hown hown1 hgrow1 hlk hk c3 s0
          have c3 : w1.cell? ⟨gp, 3, none⟩ = some (.slice L.na d.nodes.length L.nc) := (hk1.blk 2 rfl).cell 3
          rw [hna] at c3
          have hN1 := hN0.up hk1.below0
          have d0 := hN1.kind
          have d1 := hN1.num
          have d2 := hN1.name
          have d3 := hN1.attr
          have d4 := hN1.kids
          have d5 := hN1.at_
          obtain ⟨g, hg⟩ : ∃ x, w1.heap.size = x := ⟨_, rfl⟩
          have hk2 := (hk1.new 46 (nkcs n KA kc)).perm (List.perm_middle (l₁ := vits d L gm gs gp gv (S ++ [(i : Int)]))).symm
          rw [hg] at hk2
          go_upto_region 7 with fail
          try simp only [hg]
          have hk2 : Hp [] w0 _ (w1.alloc (.cells #[.int .i64 n.kind, .int .i64 n.num, .string n.name, .string n.attr, .slice KA n.kids.length kc, .int .i64 n.at_] 46)) := hk2
          clear hk1 hN1 d0 d1 d2 d3 d4 d5 c3
          generalize w1.alloc (.cells #[.int .i64 n.kind, .int .i64 n.num, .string n.name, .string n.attr, .slice KA n.kids.length kc, .int .i64 n.at_] 46) = w2 at *
          clear hg
          obtain ⟨d0, d1, d2, d3, d4, d5⟩ := (hk2.blk 4 rfl).get6
          have HF := Lib.hid (form_any n KA kc hnb c w2)
          generalize hfe : formP n c = fe at *
          go_wp2_with fail
          refine HF.out.mono ?_
          rintro e w3 ⟨rfl, hb3⟩
          have hk3 := hk2.next hb3
          clear HF hk2 hb3 d0 d1 d2 d3 d4 d5
          cases hne : (fe != 0) with
          | true =>
            have HV2 : Hid (visitP d.nodes (f + 1) (i : Int) c S = (fe, S ++ [(i : Int)])) := Lib.hid (by rw [HV.out, if_pos (by simpa using hne)])
            go_wp2_with fail
            go_ret
            rw [HV2.out]
            exact ⟨rfl, (hk3.perm (List.perm_middle (l₁ := vits d L gm gs gp gv (S ++ [(i : Int)])))).tail⟩
          | false =>
            have HV2 : Hid (visitP d.nodes (f + 1) (i : Int) c S = loopP (fun k S => visitP d.nodes f k (decide (n.kind ≤ 5)) S) n.kids (S ++ [(i : Int)])) := Lib.hid (by rw [HV.out, if_neg (by simpa using hne)])
            clear HV hfe
            obtain ⟨d0, d1, d2, d3, d4, d5⟩ := (hk3.blk 4 rfl).get6
            go_upto_region 11 with fail
            clear hne hk2
            clear d0 d1 d2 d3 d4 d5
            have HM := Lib.hid hS2
            have HN := Lib.hid hN0
            clear hS2 hN0
            go_loopg [49] n.kids.length (fun m s49 wx => ∃ (j : Nat) (T : List Int), j ≤ n.kids.length ∧ m = n.kids.length - j ∧ s49 = .int .i64 (j : Int) ∧ Hp [] w0 (vits d L gm gs gp gv T ++ (iblk g 46 (nkcs n KA kc) :: r)) wx ∧ Hid (Met d.nodes T ∧ loopP (fun k S => visitP d.nodes f k (decide (n.kind ≤ 5)) S) n.kids (S ++ [(i : Int)]) = loopP (fun k S => visitP d.nodes f k (decide (n.kind ≤ 5)) S) (n.kids.drop j) T))
            case atStart => exact ⟨0, S ++ [(i : Int)], Nat.zero_le _, rfl, rfl, hk3, Lib.hid ⟨HM.out, rfl⟩⟩
            case round =>
              obtain ⟨j, T, hj, rfl, rfl, hMx, HE⟩ := hrel
              clear hk3
              by_cases hjl : j < n.kids.length
              · have hjj : (j : Int) < (n.kids.length : Int) := by omega
                have hj0 : (0 : Int) ≤ (j : Int) := by omega
                obtain ⟨k, hk⟩ : ∃ k, n.kids[j]? = some k := ⟨_, List.getElem?_eq_getElem hjl⟩
                obtain ⟨ka, hKA, hkc⟩ := (HN.out.ints.up hMx.below0).at_ j k hk
                subst hKA
                have v0 : wr.cell? ⟨gv, 0, none⟩ = some (visF gp gs gv) := (hMx.blk 3 rfl).cell 0
                obtain ⟨d0, d1, d2, d3, d4, d5⟩ := (hMx.blk 4 rfl).get6
                have HD := Lib.hid (And.intro (drop_at hk) (HE.out))
                clear hk HE
                have HC := Lib.hid (ih (dp + 1) (by omega) (by have := HDP.out; omega) k (decide (n.kind ≤ 5)) T (iblk g 46 (nkcs n (some ka) kc) :: r) wr HD.out.2.1 hMx)
                have hT2 := visitP_met d.nodes f k (decide (n.kind ≤ 5)) T HD.out.2.1
                have HL : Hid (loopP (fun k S => visitP d.nodes f k (decide (n.kind ≤ 5)) S) (n.kids.drop j) T = if (visitP d.nodes f k (decide (n.kind ≤ 5)) T).1 ≠ 0 then visitP d.nodes f k (decide (n.kind ≤ 5)) T else loopP (fun k S => visitP d.nodes f k (decide (n.kind ≤ 5)) S) (n.kids.drop (j + 1)) (visitP d.nodes f k (decide (n.kind ≤ 5)) T).2) := Lib.hid (by rw [HD.out.1, loopP])
                have HE2 := Lib.hid (HD.out.2.2)
                clear HD
                generalize visitP d.nodes f k (decide (n.kind ≤ 5)) T = vr at *
                obtain ⟨ve, T2⟩ := vr
                simp only at HC hT2 HL
                go_wp2_with fail
                refine HC.out.mono ?_
                rintro e w4 ⟨rfl, hM2⟩
                clear hMx HC d0 d1 d2 d3 d4 d5 v0
                cases hv : (ve != 0) with
                | true =>
                  have HV3 : Hid (visitP d.nodes (f + 1) (i : Int) c S = (ve, T2)) := Lib.hid (by rw [HV2.out, HE2.out, HL.out, if_pos (by simpa using hv)])
                  go_wp2_with fail
                  go_ret
                  rw [HV3.out]
                  exact ⟨rfl, (hM2.perm (List.perm_middle (l₁ := vits d L gm gs gp gv T2))).tail⟩
                | false =>
                  have HV3 : Hid (Met d.nodes T2 ∧ loopP (fun k S => visitP d.nodes f k (decide (n.kind ≤ 5)) S) n.kids (S ++ [(i : Int)]) = loopP (fun k S => visitP d.nodes f k (decide (n.kind ≤ 5)) S) (n.kids.drop (j + 1)) T2) := Lib.hid ⟨hT2, by rw [HE2.out, HL.out, if_neg (by simpa using hv)]⟩
                  go_wp2_with fail
                  go_roundg (n.kids.length - (j + 1))
                  case measure => omega
                  case rel => exact ⟨j + 1, T2, hjl, rfl, by first | rfl | simp, hM2, HV3⟩
              · have hjj : ¬ (j : Int) < (n.kids.length : Int) := by omega
                have HV3 : Hid (visitP d.nodes (f + 1) (i : Int) c S = (0, T)) := Lib.hid (by rw [HV2.out, HE.out.2, List.drop_of_length_le (by omega)]; rfl)
                go_wp2_with fail
                go_ret
                rw [HV3.out]
                exact ⟨rfl, (hMx.perm (List.perm_middle (l₁ := vits d L gm gs gp gv T))).tail⟩
end Go.Proofs.YtminghdnclpocaaGreatDoor
