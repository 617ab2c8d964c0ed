/-
  policy.reached: its closure, itself. Printed by mkpgf.py.
-/
import Derived.Test.YtminghdnclpocaaGreatDoorPcI
import Derived.Test.YtminghdnclpocaaGreatDoorPqT
namespace Go.Proofs.YtminghdnclpocaaGreatDoor
open Go.RowKit Go.Shelf Go.Maps
set_option linter.unusedVariables false

abbrev reF (gp gs go gv : Nat) : Value := .func (.func 82) #[] #[pptr gp, pptr gs, pptr go, pptr gv]
/-- the visit's pieces: the set and its box, the list's box and the list, the policy's, the closure's -/
abbrev rits (d : Po) (L : Lp) (gm gs go gp gv : Nat) (S : List Int) (vo : Value) : List It := [iset intK gm S, iblk gs 121 [.map (some gm)], iblk go 44 [vo], iorder vo S, iblk gp 27 (polcs d L), iblk gv 122 [reF gp gs go gv]]
theorem enters_reach : ∀ args w, (callFunc 82 args).run Tryz.prog w = .ok (.enter 82 args) w := enters_of Tryz.func82 (by kernel_rfl) rfl
def RO (d : Po) (L : Lp) (gm gs go gp gv : Nat) (w0 : World) (r : List It) (x : Bool × List Int) (e : Ending) (w' : World) : Prop := e = .returned (.bool x.1) ∧ ∃ OA oc, Hp [] w0 (rits d L gm gs go gp gv x.2 (.slice OA x.2.length oc) ++ r) w'
theorem RO.mk {d : Po} {L : Lp} {gm gs go gp gv : Nat} {w0 : World} {r : List It} {x : Bool × List Int} {w' : World} {E : Bool} {S : List Int} {OA : Option Addr} {oc : Nat} (h : x = (E, S)) (hH : Hp [] w0 (rits d L gm gs go gp gv S (.slice OA S.length oc) ++ r) w') : RO d L gm gs go gp gv w0 r x (.returned (.bool E)) w' := by
  subst h
  exact ⟨rfl, OA, oc, hH⟩
set_option maxRecDepth 20000 in
set_option maxHeartbeats 32000000 in
theorem reach_any (d : Po) (L : Lp) (hB : PBd d) (gm gs go gp gv : Nat) (w0 : World) (hP : PolM w0 d L) : ∀ (f : Nat) (a : Int) (S : List Int) (OA : Option Addr) (oc : Nat) (r : List It) (W : World), Rch d.nodes S → 513 ≤ f + S.length → Hp [] w0 (rits d L gm gs go gp gv S (.slice OA S.length oc) ++ r) W →
    Calls Tryz.prog 82 #[.int .i64 a, pptr gp, pptr gs, pptr go, pptr gv] W (RO d L gm gs go gp gv w0 r (reachP d.nodes f a S)) := by
  have hen := enters_reach
  obtain ⟨j0, hj0, hy0, hy1, hy2⟩ := info3 rint_info
  intro f
  induction f with
  | zero =>
    intro a S OA oc r W hM hf
    have := hM.len
    omega
  | succ f ih =>
    intro a S OA oc r W hM hf hk
    have hnl := hB.nl
    have c3 : W.cell? ⟨gp, 3, none⟩ = some (.slice L.na d.nodes.length L.nc) := (hk.blk 4 rfl).cell 3
    have s0 : W.cell? ⟨gs, 0, none⟩ = some (.map (some gm)) := (hk.blk 1 rfl).cell 0
    have o0 : W.cell? ⟨go, 0, none⟩ = some (.slice OA S.length oc) := (hk.blk 2 rfl).cell 0
    have HF := Lib.hid hf
    clear hf
    by_cases h1 : a < 0
    · have HV : Hid (reachP d.nodes (f + 1) a S = (false, S)) := Lib.hid (reachP_out (.inl h1))
      go_enter Tryz.func82, Tryz.ntmps82
      go_wp2_with fail
      go_ret
      exact RO.mk HV.out hk
    · obtain ⟨i, rfl⟩ : ∃ i : Nat, a = (i : Int) := ⟨a.toNat, by omega⟩
      have hi0 : (0 : Int) ≤ (i : Int) := by omega
      by_cases h2 : (d.nodes.length : Int) ≤ (i : Int)
      · have HV : Hid (reachP d.nodes (f + 1) (i : Int) S = (false, S)) := Lib.hid (reachP_out (.inr (.inl h2)))
        go_enter Tryz.func82, Tryz.ntmps82
        go_wp2_with fail
        go_ret
        exact RO.mk HV.out hk
      · have hwf := int_wf hi0 (by omega)
        have hil : i < d.nodes.length := by omega
        have hii : (i : Int) < (d.nodes.length : Int) := by omega
        have hlk := iset_look intK (hk.sep.ok _ (List.mem_cons_self ..)) (i : Int) hwf
        have hlk : (Instr.lookup 121 (.map (some gm)) (.int .i64 (i : Int)) false).run Tryz.prog W = .ok (.bool (memD (i : Int) S)) W := hlk
        cases hm : memD (i : Int) S with
        | true =>
          rw [hm] at hlk
          have HV : Hid (reachP d.nodes (f + 1) (i : Int) S = (false, S)) := Lib.hid (reachP_out (.inr (.inr (.inl (memD_iff.1 hm)))))
          go_enter Tryz.func82, Tryz.ntmps82
          go_wp2_with fail
          go_ret
          exact RO.mk HV.out hk
        | false =>
          rw [hm] at hlk
          by_cases h5 : S.length = 512
          · have h6 : ((S.length : Int) == 512) = true := by rw [h5]; rfl
            have HV : Hid (reachP d.nodes (f + 1) (i : Int) S = (false, S)) := Lib.hid (reachP_out (.inr (.inr (.inr h5))))
            go_enter Tryz.func82, Tryz.ntmps82
            go_wp2_with fail
            go_ret
            exact RO.mk HV.out hk
          · have h6 : ((S.length : Int) == 512) = false := by rw [beq_eq_false_iff_ne]; omega
            have hnot : ¬ ((i : Int) < 0 ∨ (d.nodes.length : Int) ≤ (i : Int) ∨ (i : Int) ∈ S ∨ S.length = 512) := by
              rintro (h | h | h | h)
              · exact h1 h
              · exact h2 h
              · rw [memD_iff.2 h] at hm; cases hm
              · exact h5 h
            obtain ⟨n, hn⟩ : ∃ n, d.nodes[i]? = some n := ⟨_, List.getElem?_eq_getElem hil⟩
            have HV := Lib.hid (reachP_in (f := f) hnot (by rw [Int.toNat_natCast]; exact hn))
            have hS2 := hM.snoc hnot
            have hSl := hM.len
            have hown := iset_own intK (hk.sep.ok _ (List.mem_cons_self ..))
            have hnb := hB.ns n (List.mem_of_getElem? hn)
            have hkl := hnb.kids
            obtain ⟨ad, KA, kc, hna, hN0⟩ := hP.ns.at_ i n hn
            have HNA := Lib.hid hna
            clear hnot hm hn h5 hna
            generalize reachP d.nodes (f + 1) (i : Int) S = X at *
            go_enter Tryz.func82, Tryz.ntmps82
            go_upto_region 4 with (first | (at_mapUpdate; refine wpList_mapUpdate_own _ rfl _ _ _ 121 rfl 3 4 intK.law Tryz.underlying121 (plainElem (H := Unit) Tryz.prog 4) gm S.length (intK.setD S) rfl hown (by unfold maxLen; omega) _ _ (intK.kl (i : Int)) rfl rfl (intK.key (i : Int) hwf) _ [] (plainElem_bool Tryz.underlying4 true) ?_; intro w1 hown1 hgrow1))
            have hk1 : Hp [] w0 ([iset intK gm (S ++ [(i : Int)]), iblk gs 121 [.map (some gm)], iblk go 44 [.slice OA S.length oc], iorder (.slice OA S.length oc) S, iblk gp 27 (polcs d L), iblk gv 122 [reF gp gs go gv]] ++ r) w1 := hk.setPut intK 0 rfl hwf hown1 hgrow1
            clear hown hown1 hgrow1 hlk hk c3 s0 o0
            have o0 : w1.cell? ⟨go, 0, none⟩ = some (.slice OA S.length oc) := (hk1.blk 2 rfl).cell 0
            go_upto_region 5 with (first | (at_builtin; refine wpList_append_own2 rfl _ _ 44 rfl 0 3 j0 _ 1 8 Tryz.underlying44 hj0 hy0 hy1 hy2 rfl (by decide) _ S.length (ivals S) rfl ((hk1.alloc (.cells #[.int .i64 (i : Int)] 3)).row 3 rfl) ⟨w1.heap.size, 0, none⟩ 1 1 [.int .i64 (i : Int)] rfl rfl (new1q _ _ _) (by intro u hu; simp at hu; rw [hu]; rfl) (by decide) (by unfold maxLen; omega) (by omega) (Nat.zero_le _) ?_; intro v' w2 hown hgrow hat; obtain ⟨A2, ca2, rfl⟩ := row_forms hown; have hk2 := (hk1.alloc (.cells #[.int .i64 (i : Int)] 3)).grown 3 rfl hown hgrow hat; have o2 := (hk2.blk 2 rfl).cell 0; have f2 := (hk2.blk 2 rfl).frozen 0; clear hown hgrow hat))
            have hk3 : Hp [] w0 (rits d L gm gs go gp gv (S ++ [(i : Int)]) (.slice A2 (S ++ [(i : Int)]).length ca2) ++ r) (w2.setCell ⟨go, 0, none⟩ (.slice A2 (S.length + 1) ca2)) := by
              have h9 := hk2.set 2 rfl 0 (.slice A2 (S.length + 1) ca2)
              have e2 : (S ++ [(i : Int)]).length = S.length + 1 := by simp
              have e3 : ivals S ++ [.int .i64 (i : Int)] = ivals (S ++ [(i : Int)]) := by simp [ivals]
              unfold rits iorder
              rw [e2, ← e3]
              exact h9
            clear hk1 hk2 o0 o2 f2
            generalize w2.setCell ⟨go, 0, none⟩ (.slice A2 (S.length + 1) ca2) = w3 at *
            have c3 : w3.cell? ⟨gp, 3, none⟩ = some (.slice L.na d.nodes.length L.nc) := (hk3.blk 4 rfl).cell 3
            rw [HNA.out] at c3
            have d4 := (hN0.up hk3.below0).kids
            go_upto_region 6 with fail
            clear d4 c3 HNA
            have HM := Lib.hid hS2
            have HN := Lib.hid hN0.ints
            have HF2 : Hid (513 ≤ f + (S ++ [(i : Int)]).length) := Lib.hid (by have := HF.out; rw [List.length_append, List.length_singleton]; omega)
            clear hS2 hN0 HF hM
            go_loopg [41] n.kids.length (fun m s41 wx => ∃ (j : Nat) (T : List Int) (OB : Option Addr) (ob : Nat), j ≤ n.kids.length ∧ m = n.kids.length - j ∧ s41 = .int .i64 (j : Int) ∧ Hp [] w0 (rits d L gm gs go gp gv T (.slice OB T.length ob) ++ r) wx ∧ Hid (Rch d.nodes T ∧ 513 ≤ f + T.length ∧ X = loopB (fun k S => reachP d.nodes f k S) (n.kids.drop j) T))
            case atStart => exact ⟨0, S ++ [(i : Int)], A2, ca2, Nat.zero_le _, rfl, rfl, hk3, Lib.hid ⟨HM.out, HF2.out, HV.out⟩⟩
            case round =>
              obtain ⟨j, T, OB, ob, hj, rfl, rfl, hMx, HE⟩ := hrel
              clear hk3
              by_cases hjl : j < n.kids.length
              · have hjj : (j : Int) < (n.kids.length : Int) := by omega
                have hj0' : (0 : Int) ≤ (j : Int) := by omega
                obtain ⟨k, hk⟩ : ∃ k, n.kids[j]? = some k := ⟨_, List.getElem?_eq_getElem hjl⟩
                obtain ⟨ka, hKA, hkc⟩ := (HN.out.up hMx.below0).at_ j k hk
                subst hKA
                have v0 : wr.cell? ⟨gv, 0, none⟩ = some (reF gp gs go gv) := (hMx.blk 5 rfl).cell 0
                have HD := Lib.hid (And.intro (drop_at hk) (HE.out))
                clear hk HE
                have HC := Lib.hid (ih k T OB ob r wr HD.out.2.1 HD.out.2.2.1 hMx)
                have hT2 := reachP_rch d.nodes f k T HD.out.2.1
                have HL : Hid (X = if (reachP d.nodes f k T).1 = false then reachP d.nodes f k T else loopB (fun k S => reachP d.nodes f k S) (n.kids.drop (j + 1)) (reachP d.nodes f k T).2) := Lib.hid (by rw [HD.out.2.2.2, HD.out.1, loopB])
                have HT3 : Hid (513 ≤ f + (reachP d.nodes f k T).2.length) := Lib.hid (by have := HD.out.2.2.1; have := hT2.2; omega)
                have hT4 := hT2.1
                clear HD hT2
                generalize reachP d.nodes f k T = vr at *
                obtain ⟨ve, T2⟩ := vr
                simp only at HL hT4 HT3
                go_wp2_with fail
                refine HC.out.mono ?_
                rintro e w4 ⟨rfl, OA2, oc2, hM2⟩
                clear hMx HC v0 hkc
                cases ve with
                | false =>
                  have HV3 : Hid (X = (false, T2)) := Lib.hid (by rw [HL.out, if_pos rfl])
                  go_wp2_with fail
                  go_ret
                  exact RO.mk HV3.out hM2
                | true =>
                  have HV3 : Hid (Rch d.nodes T2 ∧ 513 ≤ f + T2.length ∧ X = loopB (fun k S => reachP d.nodes f k S) (n.kids.drop (j + 1)) T2) := Lib.hid ⟨hT4, HT3.out, by rw [HL.out, if_neg (by simp)]⟩
                  go_wp2_with fail
                  go_roundg (n.kids.length - (j + 1))
                  case measure => omega
                  case rel => exact ⟨j + 1, T2, OA2, oc2, hjl, rfl, by first | rfl | simp, hM2, HV3⟩
              · have hjj : ¬ (j : Int) < (n.kids.length : Int) := by omega
                have HV3 : Hid (X = (true, T)) := Lib.hid (by rw [HE.out.2.2, List.drop_of_length_le (by omega)]; rfl)
                go_wp2_with fail
                go_ret
                exact RO.mk HV3.out hMx
end Go.Proofs.YtminghdnclpocaaGreatDoor
