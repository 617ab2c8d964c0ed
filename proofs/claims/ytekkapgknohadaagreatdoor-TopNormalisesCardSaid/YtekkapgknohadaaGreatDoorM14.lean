/- policy.tree: the visit of a policy's nodes. Printed by mkpce.py. -/
import Derived.Test.YtekkapgknohadaaGreatDoorM11
import Derived.Test.YtekkapgknohadaaGreatDoorM3
set_option linter.unusedVariables false
set_option maxRecDepth 20000
set_option maxHeartbeats 16000000
namespace Go.Proofs.YtekkapgknohadaaGreatDoor
open Go.RowKit Go.Shelf Go.Maps
open Lib (hid)
abbrev pptr (g : Nat) : Value := .pointer (some ⟨g, 0, none⟩)
theorem int_wf {n : Int} (h0 : 0 ≤ n) (h1 : n ≤ 1000000) : (Lit.int .i64 n).wf = true := by
 have e1 : IntKind.i64.min = -9223372036854775808 := by decide
 have e2 : IntKind.i64.max = 9223372036854775807 := by decide
 simp [Lit.wf, e1, e2]
 omega
abbrev visF (gp gs gv : Nat) : Value := .func (.func 150) #[] #[pptr gp, pptr gs, pptr gv]
abbrev vits (d : Po) (L : Lp) (gm gs gp gv : Nat) (S : List Int) : List It := [iset intK gm S, iblk gs 219 [.map (some gm)], iblk gp 29 (polcs d L), iblk gv 220 [visF gp gs gv]]
theorem enters_visit : ∀ args w, (callFunc 150 args).run Tryz.prog w = .ok (.enter 150 args) w := enters_of Tryz.func150 (by kernel_rfl) rfl
theorem visit_any (d : Po) (L : Lp) (hB : PBd d) (gm gs gp gv : Nat) (w0 : World) (hP : PolM w0 d L) : ∀ (f : Nat) (dp : Int), f ≤ 32 → dp = 33 - (f : Int) → ∀ (a : Int) (c : Bool) (S : List Int) (r : List It) (W : World), Met d.nodes S → Hp [] w0 (vits d L gm gs gp gv S ++ r) W →
 Calls Tryz.prog 150 #[.int .i64 a, .int .i64 dp, .bool c, pptr gp, pptr gs, pptr gv] W fun e w' => e = .returned (.int .i64 (visitP d.nodes f a c S).1) ∧ Hp [] w0 (vits d L gm gs gp gv (visitP d.nodes f a c S).2 ++ r) w' := by
 have hen := enters_visit
 intro f
 induction f with
 | zero =>
  intro dp hf hdp a c S r W hM hk
  have hnl := hB.nl
  have c3 : W.cell? ⟨gp, 3, none⟩ = some (.slice L.na d.nodes.length L.nc) := (hk.blk 2 rfl).cell 3
  have s0 : W.cell? ⟨gs, 0, none⟩ = some (.map (some gm)) := (hk.blk 1 rfl).cell 0
  have HDP := hid hdp
  by_cases h1 : a < 0
  ·have HV : Hid (visitP d.nodes (0) a c S = (3, S)) := hid (zau (.inl h1))
   clear hdp
   go_enter Tryz.func150, Tryz.ntmps150
   go_wp2_with fail
   go_ret
   rw [HV.out]
   exact ⟨rfl, hk⟩
  ·obtain ⟨i, rfl⟩ : ∃ i : Nat, a = (i : Int) := ⟨a.toNat, by omega⟩
   have hi0 : (0 : Int) ≤ (i : Int) := by omega
   by_cases h2 : (d.nodes.length : Int) ≤ (i : Int)
   ·have HV : Hid (visitP d.nodes (0) (i : Int) c S = (3, S)) := hid (zau (.inr (.inl h2)))
    clear hdp
    go_enter Tryz.func150, Tryz.ntmps150
    go_wp2_with fail
    go_ret
    rw [HV.out]
    exact ⟨rfl, hk⟩
   ·have hwf := int_wf hi0 (by omega)
    have hil : i < d.nodes.length := by omega
    have hii : (i : Int) < (d.nodes.length : Int) := by omega
    have hlk := zcw intK (hk.sep.ok _ (List.mem_cons_self ..)) (i : Int) hwf
    have hlk : (Instr.lookup 219 (.map (some gm)) (.int .i64 (i : Int)) false).run Tryz.prog W = .ok (.bool (memD (i : Int) S)) W := hlk
    cases hm : memD (i : Int) S with
    | true =>
     rw [hm] at hlk
     have HV : Hid (visitP d.nodes (0) (i : Int) c S = (3, S)) := hid (zau (.inr (.inr (memD_iff.1 hm))))
     clear hdp
     go_enter Tryz.func150, Tryz.ntmps150
     go_wp2_with fail
     go_ret
     rw [HV.out]
     exact ⟨rfl, hk⟩
    | false =>
     rw [hm] at hlk
     have hnot : ¬ ((i : Int) < 0 ∨ (d.nodes.length : Int) ≤ (i : Int) ∨ (i : Int) ∈ S) := by
      rintro (h | h | h)
      ·exact h1 h
      ·exact h2 h
      ·rw [memD_iff.2 h] at hm; cases hm
     have HV : Hid (visitP d.nodes 0 (i : Int) c S = (7, S)) := hid (zb6 hnot)
     have hdp1 : (32 : Int) < dp := by omega
     clear hdp hnot
     go_enter Tryz.func150, Tryz.ntmps150
     go_wp2_with fail
     go_ret
     rw [HV.out]
     exact ⟨rfl, hk⟩
 | succ f ih =>
  intro dp hf hdp a c S r W hM hk
  have hnl := hB.nl
  have c3 : W.cell? ⟨gp, 3, none⟩ = some (.slice L.na d.nodes.length L.nc) := (hk.blk 2 rfl).cell 3
  have s0 : W.cell? ⟨gs, 0, none⟩ = some (.map (some gm)) := (hk.blk 1 rfl).cell 0
  have HDP := hid hdp
  by_cases h1 : a < 0
  ·have HV : Hid (visitP d.nodes (f + 1) a c S = (3, S)) := hid (zau (.inl h1))
   clear hdp
   go_enter Tryz.func150, Tryz.ntmps150
   go_wp2_with fail
   go_ret
   rw [HV.out]
   exact ⟨rfl, hk⟩
  ·obtain ⟨i, rfl⟩ : ∃ i : Nat, a = (i : Int) := ⟨a.toNat, by omega⟩
   have hi0 : (0 : Int) ≤ (i : Int) := by omega
   by_cases h2 : (d.nodes.length : Int) ≤ (i : Int)
   ·have HV : Hid (visitP d.nodes (f + 1) (i : Int) c S = (3, S)) := hid (zau (.inr (.inl h2)))
    clear hdp
    go_enter Tryz.func150, Tryz.ntmps150
    go_wp2_with fail
    go_ret
    rw [HV.out]
    exact ⟨rfl, hk⟩
   ·have hwf := int_wf hi0 (by omega)
    have hil : i < d.nodes.length := by omega
    have hii : (i : Int) < (d.nodes.length : Int) := by omega
    have hlk := zcw intK (hk.sep.ok _ (List.mem_cons_self ..)) (i : Int) hwf
    have hlk : (Instr.lookup 219 (.map (some gm)) (.int .i64 (i : Int)) false).run Tryz.prog W = .ok (.bool (memD (i : Int) S)) W := hlk
    cases hm : memD (i : Int) S with
    | true =>
     rw [hm] at hlk
     have HV : Hid (visitP d.nodes (f + 1) (i : Int) c S = (3, S)) := hid (zau (.inr (.inr (memD_iff.1 hm))))
     clear hdp
     go_enter Tryz.func150, Tryz.ntmps150
     go_wp2_with fail
     go_ret
     rw [HV.out]
     exact ⟨rfl, hk⟩
    | false =>
     rw [hm] at hlk
     have hnot : ¬ ((i : Int) < 0 ∨ (d.nodes.length : Int) ≤ (i : Int) ∨ (i : Int) ∈ S) := by
      rintro (h | h | h)
      ·exact h1 h
      ·exact h2 h
      ·rw [memD_iff.2 h] at hm; cases hm
     obtain ⟨n, hn⟩ : ∃ n, d.nodes[i]? = some n := ⟨_, List.getElem?_eq_getElem hil⟩
     have HV := hid (zct (f := f) (c := c) hnot (by rw [Int.toNat_natCast]; exact hn))
     have hdp1 : ¬ (32 : Int) < dp := by omega
     have hdp2 : 0 ≤ dp := by omega
     have hS2 := hM.snoc hnot
     have hSl := hM.len
     have hown := iset_own intK (hk.sep.ok _ (List.mem_cons_self ..))
     have hnb := hB.ns n (List.mem_of_getElem? hn)
     have hkl := hnb.kids
     obtain ⟨ad, KA, kc, hna, hN0⟩ := hP.ns.at_ i n hn
     have hnk : n.kind = n.kind := rfl
     rw [hna] at c3
     clear hnot hm hdp
     go_enter Tryz.func150, Tryz.ntmps150
     go_upto_region 6 with (first | (at_mapUpdate; refine wpList_mapUpdate_own _ rfl _ _ _ 219 rfl 3 4 intK.law Tryz.underlying219 (plainElem (H := Unit) Tryz.prog 4) gm S.length (intK.setD S) rfl hown (by unfold maxLen; omega) _ _ (intK.kl (i : Int)) rfl rfl (intK.key (i : Int) hwf) _ [] (plainElem_bool Tryz.underlying4 true) ?_; intro w1 hown1 hgrow1))
     have hk1 : Hp [] w0 (vits d L gm gs gp gv (S ++ [(i : Int)]) ++ r) w1 := hk.setPut intK 0 rfl hwf hown1 hgrow1
     clear hown hown1 hgrow1 hlk hk c3 s0
     have c3 : w1.cell? ⟨gp, 3, none⟩ = some (.slice L.na d.nodes.length L.nc) := (hk1.blk 2 rfl).cell 3
     rw [hna] at c3
     have hN1 := hN0.up hk1.below0
     have d0 := hN1.kind
     have d1 := hN1.num
     have d2 := hN1.name
     have d3 := hN1.attr
     have d4 := hN1.kids
     have d5 := hN1.at_
     obtain ⟨g, hg⟩ : ∃ x, w1.heap.size = x := ⟨_, rfl⟩
     have hk2 := (hk1.new 68 (nkcs n KA kc)).perm (List.perm_middle (l₁ := vits d L gm gs gp gv (S ++ [(i : Int)]))).symm
     rw [hg] at hk2
     go_upto_region 7 with fail
     try simp only [hg]
     have hk2 : Hp [] w0 _ (w1.alloc (.cells #[.int .i64 n.kind, .int .i64 n.num, .string n.name, .string n.attr, .slice KA n.kids.length kc, .int .i64 n.at_] 68)) := hk2
     clear hk1 hN1 d0 d1 d2 d3 d4 d5 c3
     generalize w1.alloc (.cells #[.int .i64 n.kind, .int .i64 n.num, .string n.name, .string n.attr, .slice KA n.kids.length kc, .int .i64 n.at_] 68) = w2 at *
     clear hg
     obtain ⟨d0, d1, d2, d3, d4, d5⟩ := (hk2.blk 4 rfl).get6
     have HF := hid (form_any n KA kc hnb c w2)
     generalize hfe : formP n c = fe at *
     go_wp2_with fail
     refine HF.out.mono ?_
     rintro e w3 ⟨rfl, hb3⟩
     have hk3 := hk2.next hb3
     clear HF hk2 hb3 d0 d1 d2 d3 d4 d5
     cases hne : (fe != 0) with
     | true =>
      have HV2 : Hid (visitP d.nodes (f + 1) (i : Int) c S = (fe, S ++ [(i : Int)])) := hid (by rw [HV.out, if_pos (by simpa using hne)])
      go_wp2_with fail
      go_ret
      rw [HV2.out]
      exact ⟨rfl, (hk3.perm (List.perm_middle (l₁ := vits d L gm gs gp gv (S ++ [(i : Int)])))).tail⟩
     | false =>
      have HV2 : Hid (visitP d.nodes (f + 1) (i : Int) c S = loopP (fun k S => visitP d.nodes f k (decide (n.kind ≤ 5)) S) n.kids (S ++ [(i : Int)])) := hid (by rw [HV.out, if_neg (by simpa using hne)])
      clear HV hfe
      obtain ⟨d0, d1, d2, d3, d4, d5⟩ := (hk3.blk 4 rfl).get6
      go_upto_region 11 with fail
      clear hne hk2
      clear d0 d1 d2 d3 d4 d5
      have HM := hid hS2
      have HN := hid hN0
      clear hS2 hN0
      go_loopg [49] n.kids.length (fun m s49 wx => ∃ (j : Nat) (T : List Int), j ≤ n.kids.length ∧ m = n.kids.length - j ∧ s49 = .int .i64 (j : Int) ∧ Hp [] w0 (vits d L gm gs gp gv T ++ (iblk g 68 (nkcs n KA kc) :: r)) wx ∧ Hid (Met d.nodes T ∧ loopP (fun k S => visitP d.nodes f k (decide (n.kind ≤ 5)) S) n.kids (S ++ [(i : Int)]) = loopP (fun k S => visitP d.nodes f k (decide (n.kind ≤ 5)) S) (n.kids.drop j) T))
      case atStart => exact ⟨0, S ++ [(i : Int)], Nat.zero_le _, rfl, rfl, hk3, hid ⟨HM.out, rfl⟩⟩
      case round =>
       obtain ⟨j, T, hj, rfl, rfl, hMx, HE⟩ := hrel
       clear hk3
       by_cases hjl : j < n.kids.length
       ·have hjj : (j : Int) < (n.kids.length : Int) := by omega
        have hj0 : (0 : Int) ≤ (j : Int) := by omega
        obtain ⟨k, hk⟩ : ∃ k, n.kids[j]? = some k := ⟨_, List.getElem?_eq_getElem hjl⟩
        obtain ⟨ka, hKA, hkc⟩ := (HN.out.ints.up hMx.below0).at_ j k hk
        subst hKA
        have v0 : wr.cell? ⟨gv, 0, none⟩ = some (visF gp gs gv) := (hMx.blk 3 rfl).cell 0
        obtain ⟨d0, d1, d2, d3, d4, d5⟩ := (hMx.blk 4 rfl).get6
        have HD := hid (And.intro (zc7 hk) (HE.out))
        clear hk HE
        have HC := hid (ih (dp + 1) (by omega) (by have := HDP.out; omega) k (decide (n.kind ≤ 5)) T (iblk g 68 (nkcs n (some ka) kc) :: r) wr HD.out.2.1 hMx)
        have hT2 := visitP_met d.nodes f k (decide (n.kind ≤ 5)) T HD.out.2.1
        have HL : Hid (loopP (fun k S => visitP d.nodes f k (decide (n.kind ≤ 5)) S) (n.kids.drop j) T = if (visitP d.nodes f k (decide (n.kind ≤ 5)) T).1 ≠ 0 then visitP d.nodes f k (decide (n.kind ≤ 5)) T else loopP (fun k S => visitP d.nodes f k (decide (n.kind ≤ 5)) S) (n.kids.drop (j + 1)) (visitP d.nodes f k (decide (n.kind ≤ 5)) T).2) := hid (by rw [HD.out.1, loopP])
        have HE2 := hid (HD.out.2.2)
        clear HD
        generalize visitP d.nodes f k (decide (n.kind ≤ 5)) T = vr at *
        obtain ⟨ve, T2⟩ := vr
        simp only at HC hT2 HL
        go_wp2_with fail
        refine HC.out.mono ?_
        rintro e w4 ⟨rfl, hM2⟩
        clear hMx HC d0 d1 d2 d3 d4 d5 v0
        cases hv : (ve != 0) with
        | true =>
         have HV3 : Hid (visitP d.nodes (f + 1) (i : Int) c S = (ve, T2)) := hid (by rw [HV2.out, HE2.out, HL.out, if_pos (by simpa using hv)])
         go_wp2_with fail
         go_ret
         rw [HV3.out]
         exact ⟨rfl, (hM2.perm (List.perm_middle (l₁ := vits d L gm gs gp gv T2))).tail⟩
        | false =>
         have HV3 : Hid (Met d.nodes T2 ∧ loopP (fun k S => visitP d.nodes f k (decide (n.kind ≤ 5)) S) n.kids (S ++ [(i : Int)]) = loopP (fun k S => visitP d.nodes f k (decide (n.kind ≤ 5)) S) (n.kids.drop (j + 1)) T2) := hid ⟨hT2, by rw [HE2.out, HL.out, if_neg (by simpa using hv)]⟩
         go_wp2_with fail
         go_roundg (n.kids.length - (j + 1))
         case measure => omega
         case rel => exact ⟨j + 1, T2, hjl, rfl, by first | rfl | simp, hM2, HV3⟩
       ·have hjj : ¬ (j : Int) < (n.kids.length : Int) := by omega
        have HV3 : Hid (visitP d.nodes (f + 1) (i : Int) c S = (0, T)) := hid (by rw [HV2.out, HE.out.2, List.drop_of_length_le (by omega)]; rfl)
        go_wp2_with fail
        go_ret
        rw [HV3.out]
        exact ⟨rfl, (hMx.perm (List.perm_middle (l₁ := vits d L gm gs gp gv T))).tail⟩
open Go.RowKit Go.Shelf Go.Maps
open Lib (hid)
theorem store_func (P : Program) (w : World) (a : Addr) (m : Mode) (f : Fn) (x y : Array Value) (v : Value) (hc : w.cell? a = some v) (hf : w.frozen? a = false) : (store a (.func f x y) m).run P w = .ok () (w.setCell a (.func f x y)) := by
 rw [run_store P w a _ m rfl, hc, hf]; rfl
theorem sizeA (w : World) (o : Obj) : (w.alloc o).heap.size = w.heap.size + 1 := by simp
theorem hp_len {w W : World} {r : List It} {S : List Int} {gm : Nat} (h : Hp [] w (iset intK gm S :: r) W) (hn : S.Nodup) (ty : TypeId) : (Builtin.len_ #[219] ty #[.map (some gm)]).run Tryz.prog W = .ok (.int .i64 (S.length : Int)) W := iset_len intK (h.sep.ok _ (List.mem_cons_self ..)) hn ty
theorem tree_any (d : Po) (L : Lp) (hB : PBd d) (w : World) (hP : PolM w d L) : Calls Tryz.prog 82 #[polV d L] w fun e w' => e = .returned (.int .i64 (treeP d)) ∧ Below w.heap.size w w' := by
 have hmm := @run_makeMap Tryz.prog
 have hmf : ∀ (fn : Fn) (first cap : Array Value) (w : World), (Instr.makeFunc fn first cap).run Tryz.prog w = .ok (.func fn first cap) w := fun _ _ _ _ => rfl
 have hen := enters_visit
 have HS := hid (store_func Tryz.prog)
 have hk0 := (((((Hp.start w).new 29 (polcs d L)).setNew intK).new 219 [.map (some (w.heap.size + 1))]).new 220 [.nilFunc])
 simp only [sizeA] at hk0
 have hTV : Hid (treeP d = if (visitP d.nodes 32 d.root true []).1 ≠ 0 then (visitP d.nodes 32 d.root true []).1 else if (visitP d.nodes 32 d.root true []).2.length ≠ d.nodes.length then 3 else 0) := hid rfl
 go_enter Tryz.func82, Tryz.ntmps82
 go_upto_region 3 with fail
 have hk0 : Hp [] w _ ((((w.alloc (.cells #[.string d.name, .slice L.ua d.uses.length L.uc, .slice L.ra d.reveal.length L.rc, .slice L.na d.nodes.length L.nc, .int .i64 d.root, .string d.scope, .int .i64 d.limit, .string d.escrow] 29)).alloc (.map #[] 0)).alloc (.cells #[.map (some (w.heap.size + 1))] 219)).alloc (.cells #[.nilFunc] 220)) := hk0
 generalize (((w.alloc (.cells #[.string d.name, .slice L.ua d.uses.length L.uc, .slice L.ra d.reveal.length L.rc, .slice L.na d.nodes.length L.nc, .int .i64 d.root, .string d.scope, .int .i64 d.limit, .string d.escrow] 29)).alloc (.map #[] 0)).alloc (.cells #[.map (some (w.heap.size + 1))] 219)).alloc (.cells #[.nilFunc] 220) = W1 at *
 obtain ⟨gp, hgp⟩ : ∃ g, w.heap.size = g := ⟨_, rfl⟩
 obtain ⟨gm, hgm⟩ : ∃ g, gp + 1 = g := ⟨_, rfl⟩
 obtain ⟨gs, hgs⟩ : ∃ g, gm + 1 = g := ⟨_, rfl⟩
 obtain ⟨gv, hgv⟩ : ∃ g, gs + 1 = g := ⟨_, rfl⟩
 rw [hgp, hgm, hgs, hgv] at hk0
 simp only [hgp, hgm, hgs, hgv]
 have hst := fun x y => HS.out W1 ⟨gv, 0, none⟩ .plain (Fn.func 150) x y _ ((hk0.blk 0 rfl).cell 0) ((hk0.blk 0 rfl).frozen 0)
 have hk1 := (hk0.set 0 rfl 0 (visF gp gs gv))
 have hk1 : Hp [] w (vits d L gm gs gp gv []) (W1.setCell ⟨gv, 0, none⟩ (visF gp gs gv)) := hk1.perm (by
  refine (List.perm_append_comm (l₁ := [_, _]) (l₂ := [_, _])).trans ?_
  refine List.Perm.cons _ ?_
  refine (List.perm_append_comm (l₁ := [_, _]) (l₂ := [_])).trans ?_
  exact .refl _)
 go_upto_region 4 with fail
 clear hst hk0
 generalize W1.setCell ⟨gv, 0, none⟩ (visF gp gs gv) = W2 at *
 have p4 : W2.cell? ⟨gp, 4, none⟩ = some (.int .i64 d.root) := (hk1.blk 2 rfl).cell 4
 have v0 : W2.cell? ⟨gv, 0, none⟩ = some (visF gp gs gv) := (hk1.blk 3 rfl).cell 0
 have hM0 : Met d.nodes [] := ⟨List.nodup_nil, fun x hx => absurd hx List.not_mem_nil⟩
 have HC := hid (visit_any d L hB gm gs gp gv w hP 32 1 (Nat.le_refl _) (by omega) d.root true [] [] W2 hM0 (by rw [List.append_nil]; exact hk1))
 have hT2 := visitP_met d.nodes 32 d.root true [] hM0
 generalize visitP d.nodes 32 d.root true [] = vr at *
 obtain ⟨ve, T⟩ := vr
 simp only at HC hT2 hTV
 clear hM0
 go_wp2_with fail
 refine HC.out.mono ?_
 rintro e w3 ⟨rfl, hk3⟩
 clear HC hk1 p4 v0
 rw [List.append_nil] at hk3
 have s0 : w3.cell? ⟨gs, 0, none⟩ = some (.map (some gm)) := (hk3.blk 1 rfl).cell 0
 have p3 : w3.cell? ⟨gp, 3, none⟩ = some (.slice L.na d.nodes.length L.nc) := (hk3.blk 2 rfl).cell 3
 have hln := hp_len hk3 hT2.nd
 have hTl := hT2.len
 have hnl := hB.nl
 subst hgp
 cases hv : (ve != 0) with
 | true =>
  have HR : Hid (treeP d = ve) := hid (by rw [hTV.out, if_pos (by simpa using hv)])
  go_wp2_with fail
  go_ret
  rw [HR.out]
  exact ⟨rfl, hk3.below0⟩
 | false =>
  cases hl : ((T.length : Int) != (d.nodes.length : Int)) with
  | true =>
   have HR : Hid (treeP d = 3) := hid (by rw [hTV.out, if_neg (by simpa using hv), if_pos (by intro h; rw [h] at hl; simp at hl)])
   go_wp2_with fail
   go_ret
   rw [HR.out]
   exact ⟨rfl, hk3.below0⟩
  | false =>
   have HR : Hid (treeP d = 0) := hid (by rw [hTV.out, if_neg (by simpa using hv), if_neg (by intro h; simp at hl; omega)])
   go_wp2_with fail
   go_ret
   rw [HR.out]
   exact ⟨rfl, hk3.below0⟩
open Go.RowKit Go.Shelf Go.Maps
open Lib (hid)
theorem pairsP_take {l : List Bp} {i : Nat} {x : Bp} (h : l[i]? = some x) : zbz (l.take (i + 1)) = (zbz (l.take i) && (nameP x.1 && nameP x.2)) := by
 rw [zbb h]; simp [zbz]
theorem pairsP_full {l : List Bp} {i : Nat} (h : ¬ i < l.length) : zbz (l.take i) = zbz l := by rw [List.take_of_length_le (by omega)]
theorem Prs.cells {W : World} {A : Option Addr} {l : List Bp} (h : Prs W A l) {i : Nat} {x : Bp} (hx : l[i]? = some x) : ∃ ad, A = some ad ∧ W.cell? (ad.add (i * 2)) = some (.string x.1) ∧ W.cell? ⟨(ad.add (i * 2)).block, (ad.add (i * 2)).off + 1, none⟩ = some (.string x.2) := h.at_ i x hx
theorem names_any (d : Po) (L : Lp) (hB : PBd d) (w : World) (hP : PolM w d L) : Calls Tryz.prog 81 #[polV d L] w fun e w' => e = .returned (.bool (namesP d)) ∧ Below w.heap.size w w' := by
 obtain ⟨ua, uc, ra, rc, na, nc⟩ := L
 have hus : Prs w ua d.uses := hP.us
 have hrv : Prs w ra d.reveal := hP.rv
 have hk := (Hp.start w).new 29 (polcs d ⟨ua, uc, ra, rc, na, nc⟩)
 have HN := hid (zbu d.name hB.name)
 have HE1 := hid (zbu d.escrow hB.escrow)
 have HS1 := hid (pword_any d.scope hB.scope)
 have HNM : Hid (namesP d = (nameP d.name && (decide (d.escrow.size = 0) || nameP d.escrow) && (decide (d.scope.size = 0) || wordP d.scope) && zbz d.uses && zbz d.reveal)) := hid rfl
 have hul := hB.ul
 have hrl := hB.rl
 obtain ⟨g, hg⟩ : ∃ x, w.heap.size = x := ⟨_, rfl⟩
 rw [hg] at hk
 go_enter Tryz.func81, Tryz.ntmps81
 go_upto_region 1 with fail
 try simp only [hg]
 have hk : Hp [] w [iblk g 29 (polcs d ⟨ua, uc, ra, rc, na, nc⟩)] (w.alloc (.cells #[.string d.name, .slice ua d.uses.length uc, .slice ra d.reveal.length rc, .slice na d.nodes.length nc, .int .i64 d.root, .string d.scope, .int .i64 d.limit, .string d.escrow] 29)) := hk
 generalize w.alloc (.cells #[.string d.name, .slice ua d.uses.length uc, .slice ra d.reveal.length rc, .slice na d.nodes.length nc, .int .i64 d.root, .string d.scope, .int .i64 d.limit, .string d.escrow] 29) = W at *
 go_cut [3] (fun s3 wx => s3 = .bool (nameP d.name && (decide (d.escrow.size = 0) || nameP d.escrow) && (decide (d.scope.size = 0) || wordP d.scope)) ∧ Hp [] w [iblk g 29 (polcs d ⟨ua, uc, ra, rc, na, nc⟩)] wx)
 case first =>
  generalize nameP d.name = q1 at *
  generalize nameP d.escrow = q2 at *
  generalize wordP d.scope = q3 at *
  have p0 : W.cell? ⟨g, 0, none⟩ = some (.string d.name) := (hk.blk 0 rfl).cell 0
  go_wp2_with fail
  refine (HN.out W).mono ?_
  rintro e w1 ⟨rfl, hb1⟩
  have hk1 := hk.next hb1
  clear hk hb1 p0
  have p7 : w1.cell? ⟨g, 7, none⟩ = some (.string d.escrow) := (hk1.blk 0 rfl).cell 7
  have p5 : w1.cell? ⟨g, 5, none⟩ = some (.string d.scope) := (hk1.blk 0 rfl).cell 5
  cases q1 with
  | false =>
   go_wp2_with fail
   go_meet
   exact ⟨rfl, hk1⟩
  | true =>
   have HSC : ∀ (V : World), Hp [] w [iblk g 29 (polcs d ⟨ua, uc, ra, rc, na, nc⟩)] V → V.cell? ⟨g, 5, none⟩ = some (.string d.scope) := fun V h => (h.blk 0 rfl).cell 5
   have HSC := hid HSC
   cases he : decide (d.escrow.size = 0) with
   | true =>
    obtain ⟨e1, e2⟩ := zc0 he
    cases hs : decide (d.scope.size = 0) with
    | true =>
     obtain ⟨e3, e4⟩ := zc0 hs
     go_wp2_with fail
     go_meet
     exact ⟨by (try rw [he]); (try rw [hs]); (first | rfl | (cases q3 <;> rfl)), hk1⟩
    | false =>
     obtain ⟨e3, e4⟩ := sz_full hs
     go_wp2_with fail
     refine (HS1.out w1).mono ?_
     rintro e w3 ⟨rfl, hb3⟩
     go_wp2_with fail
     go_meet
     exact ⟨by (try rw [he]); (try rw [hs]); (first | rfl | (cases q3 <;> rfl)), hk1.next hb3⟩
   | false =>
    obtain ⟨e1, e2⟩ := sz_full he
    go_wp2_with fail
    refine (HE1.out w1).mono ?_
    rintro e w2 ⟨rfl, hb2⟩
    have hk2 := hk1.next hb2
    clear hk1 hb2 p7 p5
    have p5 := HSC.out _ hk2
    cases q2 with
    | false =>
     go_wp2_with fail
     go_meet
     exact ⟨by (try rw [he]); (try rw [hs]); (first | rfl | (cases q3 <;> rfl)), hk2⟩
    | true =>
     cases hs : decide (d.scope.size = 0) with
     | true =>
      obtain ⟨e3, e4⟩ := zc0 hs
      go_wp2_with fail
      go_meet
      exact ⟨by (try rw [he]); (try rw [hs]); (first | rfl | (cases q3 <;> rfl)), hk2⟩
     | false =>
      obtain ⟨e3, e4⟩ := sz_full hs
      go_wp2_with fail
      refine (HS1.out w2).mono ?_
      rintro e w3 ⟨rfl, hb3⟩
      go_wp2_with fail
      go_meet
      exact ⟨by (try rw [he]); (try rw [hs]); (first | rfl | (cases q3 <;> rfl)), hk2.next hb3⟩
 case rest =>
  obtain ⟨rfl, hk1⟩ := hcut
  clear hk HN HE1 HS1
  generalize (nameP d.name && (decide (d.escrow.size = 0) || nameP d.escrow) && (decide (d.scope.size = 0) || wordP d.scope)) = q0 at *
  have p1 : wc.cell? ⟨g, 1, none⟩ = some (.slice ua d.uses.length uc) := (hk1.blk 0 rfl).cell 1
  go_upto_region 3 with fail
  clear p1
  go_loopg [3, 34] d.uses.length (fun m s3 sk wx => ∃ (i : Nat) (q : Bool), i ≤ d.uses.length ∧ m = d.uses.length - i ∧ s3 = .bool q ∧ sk = .int .i64 (i : Int) ∧ Hp [] w [iblk g 29 (polcs d ⟨ua, uc, ra, rc, na, nc⟩)] wx ∧ Hid (q = (q0 && zbz (d.uses.take i))))
  case atStart => exact ⟨0, q0, Nat.zero_le _, rfl, rfl, rfl, hk1, hid (by simp [zbz])⟩
  case round =>
   obtain ⟨i, q, hi, rfl, rfl, rfl, hM, HE⟩ := hrel
   clear hk1
   by_cases hil : i < d.uses.length
   ·have hii : (i : Int) < (d.uses.length : Int) := by omega
    have hi0 : (0 : Int) ≤ (i : Int) := by omega
    obtain ⟨x, hx⟩ : ∃ x, d.uses[i]? = some x := ⟨_, List.getElem?_eq_getElem hil⟩
    obtain ⟨ad, hA, hx1, hx2⟩ := (hus.up hM.below0).cells hx
    subst hA
    have hxb := hB.us x (List.mem_of_getElem? hx)
    have HT := hid (pairsP_take hx)
    have HN1 := hid (zbu x.1 hxb.1)
    have HN2 := hid (zbu x.2 hxb.2)
    have hM1 := hM.new 50 [.string x.1, .string x.2]
    obtain ⟨gx, hgx⟩ : ∃ y, wr.heap.size = y := ⟨_, rfl⟩
    rw [hgx] at hM1
    clear hx hM
    generalize nameP x.1 = q1 at *
    generalize nameP x.2 = q2 at *
    go_upto_region 5 with fail
    try simp only [hgx]
    have hM1 : Hp [] w [iblk gx 50 [.string x.1, .string x.2], _] (wr.alloc (.cells #[.string x.1, .string x.2] 50)) := hM1
    clear hx1 hx2
    generalize wr.alloc (.cells #[.string x.1, .string x.2] 50) = wa at *
    clear hgx
    obtain ⟨c0, c1⟩ := (hM1.blk 0 rfl).get2
    cases q with
    | false =>
     go_wp2_with fail
     go_roundg (d.uses.length - (i + 1))
     case measure => omega
     case rel => exact ⟨i + 1, false, hil, rfl, rfl, by first | rfl | simp, hM1.tail, hid (by rw [HT.out, ← Bool.and_assoc, ← HE.out]; rfl)⟩
    | true =>
     go_wp2_with fail
     refine (HN1.out wa).mono ?_
     rintro e w5 ⟨rfl, hb5⟩
     have hM2 := hM1.next hb5
     clear hM1 hb5 c0 c1
     obtain ⟨c0, c1⟩ := (hM2.blk 0 rfl).get2
     cases q1 with
     | false =>
      go_wp2_with fail
      go_roundg (d.uses.length - (i + 1))
      case measure => omega
      case rel => exact ⟨i + 1, false, hil, rfl, rfl, by first | rfl | simp, hM2.tail, hid (by rw [HT.out, ← Bool.and_assoc, ← HE.out]; rfl)⟩
     | true =>
      go_wp2_with fail
      refine (HN2.out w5).mono ?_
      rintro e w6 ⟨rfl, hb6⟩
      have hM3 := hM2.next hb6
      clear hM2 hb6 c0 c1
      go_wp2_with fail
      go_roundg (d.uses.length - (i + 1))
      case measure => omega
      case rel => exact ⟨i + 1, q2, hil, rfl, rfl, by first | rfl | simp, hM3.tail, hid (by rw [HT.out, ← Bool.and_assoc, ← HE.out]; simp)⟩
   ·have hii : ¬ (i : Int) < (d.uses.length : Int) := by omega
    have HF := hid (HE.out.trans (by rw [pairsP_full hil]) : q = (q0 && zbz d.uses))
    clear HE
    have hk2 := hM
    have HQ2 := hid HF.out
    clear HF hM
    generalize hq2 : (q0 && zbz d.uses) = qq at *
    clear hq2
    have hq9 := HQ2.out
    subst hq9
    generalize q = qb at *
    have p2 : wr.cell? ⟨g, 2, none⟩ = some (.slice ra d.reveal.length rc) := (hk2.blk 0 rfl).cell 2
    go_upto_region 8 with fail
    clear p2
    go_loopg [3, 53] d.reveal.length (fun m s3 sk wx => ∃ (i : Nat) (q : Bool), i ≤ d.reveal.length ∧ m = d.reveal.length - i ∧ s3 = .bool q ∧ sk = .int .i64 (i : Int) ∧ Hp [] w [iblk g 29 (polcs d ⟨ua, uc, ra, rc, na, nc⟩)] wx ∧ Hid (q = (qb && zbz (d.reveal.take i))))
    case atStart => exact ⟨0, qb, Nat.zero_le _, rfl, rfl, rfl, hk2, hid (by simp [zbz])⟩
    case round =>
     obtain ⟨i, q, hi, rfl, rfl, rfl, hM, HE⟩ := hrel
     clear hk2
     by_cases hil : i < d.reveal.length
     ·have hii : (i : Int) < (d.reveal.length : Int) := by omega
      have hi0 : (0 : Int) ≤ (i : Int) := by omega
      obtain ⟨x, hx⟩ : ∃ x, d.reveal[i]? = some x := ⟨_, List.getElem?_eq_getElem hil⟩
      obtain ⟨ad, hA, hx1, hx2⟩ := (hrv.up hM.below0).cells hx
      subst hA
      have hxb := hB.rv x (List.mem_of_getElem? hx)
      have HT := hid (pairsP_take hx)
      have HN1 := hid (zbu x.1 hxb.1)
      have HN2 := hid (zbu x.2 hxb.2)
      have hM1 := hM.new 89 [.string x.1, .string x.2]
      obtain ⟨gx, hgx⟩ : ∃ y, wr.heap.size = y := ⟨_, rfl⟩
      rw [hgx] at hM1
      clear hx hM
      generalize nameP x.1 = q1 at *
      generalize nameP x.2 = q2 at *
      go_upto_region 10 with fail
      try simp only [hgx]
      have hM1 : Hp [] w [iblk gx 89 [.string x.1, .string x.2], _] (wr.alloc (.cells #[.string x.1, .string x.2] 89)) := hM1
      clear hx1 hx2
      generalize wr.alloc (.cells #[.string x.1, .string x.2] 89) = wa at *
      clear hgx
      obtain ⟨c0, c1⟩ := (hM1.blk 0 rfl).get2
      cases q with
      | false =>
       go_wp2_with fail
       go_roundg (d.reveal.length - (i + 1))
       case measure => omega
       case rel => exact ⟨i + 1, false, hil, rfl, rfl, by first | rfl | simp, hM1.tail, hid (by rw [HT.out, ← Bool.and_assoc, ← HE.out]; rfl)⟩
      | true =>
       go_wp2_with fail
       refine (HN1.out wa).mono ?_
       rintro e w5 ⟨rfl, hb5⟩
       have hM2 := hM1.next hb5
       clear hM1 hb5 c0 c1
       obtain ⟨c0, c1⟩ := (hM2.blk 0 rfl).get2
       cases q1 with
       | false =>
        go_wp2_with fail
        go_roundg (d.reveal.length - (i + 1))
        case measure => omega
        case rel => exact ⟨i + 1, false, hil, rfl, rfl, by first | rfl | simp, hM2.tail, hid (by rw [HT.out, ← Bool.and_assoc, ← HE.out]; rfl)⟩
       | true =>
        go_wp2_with fail
        refine (HN2.out w5).mono ?_
        rintro e w6 ⟨rfl, hb6⟩
        have hM3 := hM2.next hb6
        clear hM2 hb6 c0 c1
        go_wp2_with fail
        go_roundg (d.reveal.length - (i + 1))
        case measure => omega
        case rel => exact ⟨i + 1, q2, hil, rfl, rfl, by first | rfl | simp, hM3.tail, hid (by rw [HT.out, ← Bool.and_assoc, ← HE.out]; simp)⟩
     ·have hii : ¬ (i : Int) < (d.reveal.length : Int) := by omega
      have HF := hid (HE.out.trans (by rw [pairsP_full hil]) : q = (qb && zbz d.reveal))
      clear HE
      go_wp2_with fail
      go_ret
      have HR : Hid (namesP d = q) := hid (by rw [HNM.out, HF.out])
      rw [HR.out]
      exact ⟨rfl, by first | exact hM.below0 | (subst hg; exact hM.below0)⟩
theorem twiceS_any (A : Option Addr) (c : Nat) (l : List ByteArray) (hl : l.length ≤ 1000000) (hs : ∀ x ∈ l, x.size ≤ 1000000) (w : World) (hS : Strs w A l) :
 Calls Tryz.prog 83 #[.slice A l.length c] w fun e w' => e = .returned (.bool (twiceP [] l)) ∧ Below w.heap.size w w' := by
 have hmm := @run_makeMap Tryz.prog
 have hS0 := (Hp.start w).setNew strK
 obtain ⟨gm, hgm⟩ : ∃ g, w.heap.size = g := ⟨_, rfl⟩
 rw [hgm] at hS0
 go_enter Tryz.func83, Tryz.ntmps83
 go_upto_region 2 with fail
 clear hmm
 try simp only [hgm]
 generalize w.alloc (.map #[] 0) = W at *
 go_upto_region 3 with fail
 go_loopg [9] l.length (fun m s9 wx => ∃ i : Nat, i ≤ l.length ∧ m = l.length - i ∧ s9 = .int .i64 (i : Int) ∧ Hp [] w [iset strK gm (l.take i)] wx ∧ Hid (twiceP [] l = twiceP (l.take i) (l.drop i)))
 case atStart => exact ⟨0, Nat.zero_le _, rfl, rfl, hS0, hid rfl⟩
 case round =>
  obtain ⟨i, hi, rfl, rfl, hM, HE⟩ := hrel
  clear hS0
  by_cases hil : i < l.length
  ·have hii : (i : Int) < (l.length : Int) := by omega
   have hi0 : (0 : Int) ≤ (i : Int) := by omega
   obtain ⟨x, hx⟩ : ∃ x, l[i]? = some x := ⟨_, List.getElem?_eq_getElem hil⟩
   have hxs := hs x (List.mem_of_getElem? hx)
   obtain ⟨ad, rfl, ca⟩ := (hS.up hM.below0).at_ i x hx
   have HT := hid (zbb hx)
   have HE2 : Hid (twiceP [] l = (memD x (l.take i) || twiceP (l.take (i + 1)) (l.drop (i + 1)))) := hid (by
    rw [HE.out, zc7 hx, twiceP, HT.out])
   have htl : (l.take i).length ≤ 1000000 := by rw [List.length_take]; omega
   clear hx HE
   obtain ⟨wa, hwa⟩ : ∃ x, wr = x := ⟨_, rfl⟩
   subst hwa
   have hlk := zcw strK (hM.sep.ok _ (List.mem_cons_self ..)) x hxs
   have hlk : (Instr.lookup 222 (.map (some gm)) (.string x) false).run Tryz.prog wr = .ok (.bool (memD x (l.take i))) wr := hlk
   generalize memD x (l.take i) = r at *
   cases r with
   | true =>
    go_wp2_with fail
    go_ret
    rw [HE2.out]
    exact ⟨rfl, by first | exact hM.below0 | (subst hgm; exact hM.below0)⟩
   | false =>
    have hown := iset_own strK (hM.sep.ok _ (List.mem_cons_self ..))
    go_wp2_with (first | (at_mapUpdate; refine wpList_mapUpdate_own _ rfl _ _ _ 222 rfl 9 4 strK.law Tryz.underlying222 (plainElem (H := Unit) Tryz.prog 4) gm (l.take i).length (strK.setD (l.take i)) rfl hown (by unfold maxLen; omega) _ _ (strK.kl x) rfl rfl (strK.key x hxs) _ [] (plainElem_bool Tryz.underlying4 true) ?_; intro w2 hown2 hgrow2))
    have hM2 := hM.setPut strK 0 rfl hxs hown2 hgrow2
    rw [← HT.out] at hM2
    have hM2 : Hp [] w ([iset strK gm (l.take (i + 1))]) w2 := hM2
    have HE3 : Hid (twiceP [] l = twiceP (l.take (i + 1)) (l.drop (i + 1))) := hid (by rw [HE2.out]; rfl)
    clear hown hown2 hgrow2 hM HE2
    go_roundg (l.length - (i + 1))
    case measure => omega
    case rel => exact ⟨i + 1, hil, rfl, by first | rfl | simp, hM2, HE3⟩
  ·have hii : ¬ (i : Int) < (l.length : Int) := by omega
   have HR : Hid (twiceP [] l = false) := hid (by rw [HE.out, List.drop_of_length_le (by omega), twiceP])
   go_wp2_with fail
   go_ret
   rw [HR.out]
   exact ⟨rfl, by first | exact hM.below0 | (subst hgm; exact hM.below0)⟩
theorem twiceR_any (A : Option Addr) (c : Nat) (l : List Bp) (hl : l.length ≤ 1000000) (hs : ∀ x ∈ l, x.1.size ≤ 1000000 ∧ x.2.size ≤ 1000000) (w : World) (hS : Prs w A l) :
 Calls Tryz.prog 84 #[.slice A l.length c] w fun e w' => e = .returned (.bool (twiceP [] l)) ∧ Below w.heap.size w w' := by
 have hmm := @run_makeMap Tryz.prog
 have hS0 := (Hp.start w).setNew refK
 obtain ⟨gm, hgm⟩ : ∃ g, w.heap.size = g := ⟨_, rfl⟩
 rw [hgm] at hS0
 go_enter Tryz.func84, Tryz.ntmps84
 go_upto_region 2 with fail
 clear hmm
 try simp only [hgm]
 generalize w.alloc (.map #[] 0) = W at *
 go_upto_region 3 with fail
 go_loopg [9] l.length (fun m s9 wx => ∃ i : Nat, i ≤ l.length ∧ m = l.length - i ∧ s9 = .int .i64 (i : Int) ∧ Hp [] w [iset refK gm (l.take i)] wx ∧ Hid (twiceP [] l = twiceP (l.take i) (l.drop i)))
 case atStart => exact ⟨0, Nat.zero_le _, rfl, rfl, hS0, hid rfl⟩
 case round =>
  obtain ⟨i, hi, rfl, rfl, hM, HE⟩ := hrel
  clear hS0
  by_cases hil : i < l.length
  ·have hii : (i : Int) < (l.length : Int) := by omega
   have hi0 : (0 : Int) ≤ (i : Int) := by omega
   obtain ⟨x, hx⟩ : ∃ x, l[i]? = some x := ⟨_, List.getElem?_eq_getElem hil⟩
   have hxs := hs x (List.mem_of_getElem? hx)
   obtain ⟨ad, rfl, ca, cb⟩ := (hS.up hM.below0).at_ i x hx
   have HT := hid (zbb hx)
   have HE2 : Hid (twiceP [] l = (memD x (l.take i) || twiceP (l.take (i + 1)) (l.drop (i + 1)))) := hid (by
    rw [HE.out, zc7 hx, twiceP, HT.out])
   have htl : (l.take i).length ≤ 1000000 := by rw [List.length_take]; omega
   clear hx HE
   have hM1 := (hM.new 89 [.string x.1, .string x.2]).perm (List.Perm.swap _ _ _)
   obtain ⟨gx, hgx⟩ : ∃ y, wr.heap.size = y := ⟨_, rfl⟩
   rw [hgx] at hM1
   go_upto_region 5 with fail
   try simp only [hgx]
   have hM1 : Hp [] w [iset refK gm (l.take i), iblk gx 89 [.string x.1, .string x.2]] (wr.alloc (.cells #[.string x.1, .string x.2] 89)) := hM1
   clear ca cb hM
   generalize wr.alloc (.cells #[.string x.1, .string x.2] 89) = wa at *
   clear hgx
   have hM := hM1
   clear hM1
   obtain ⟨c0, c1⟩ := (hM.blk 1 rfl).get2
   have hlk := zcw refK (hM.sep.ok _ (List.mem_cons_self ..)) x hxs
   have hlk : (Instr.lookup 223 (.map (some gm)) (refV x) false).run Tryz.prog wa = .ok (.bool (memD x (l.take i))) wa := hlk
   generalize memD x (l.take i) = r at *
   cases r with
   | true =>
    go_wp2_with fail
    go_ret
    rw [HE2.out]
    exact ⟨rfl, by first | exact hM.below0 | (subst hgm; exact hM.below0)⟩
   | false =>
    have hown := iset_own refK (hM.sep.ok _ (List.mem_cons_self ..))
    go_wp2_with (first | (at_mapUpdate; refine wpList_mapUpdate_own _ rfl _ _ _ 223 rfl 89 4 refK.law Tryz.underlying223 (plainElem (H := Unit) Tryz.prog 4) gm (l.take i).length (refK.setD (l.take i)) rfl hown (by unfold maxLen; omega) _ _ (refK.kl x) rfl rfl (refK.key x hxs) _ [] (plainElem_bool Tryz.underlying4 true) ?_; intro w2 hown2 hgrow2))
    have hM2 := hM.setPut refK 0 rfl hxs hown2 hgrow2
    rw [← HT.out] at hM2
    have hM2 : Hp [] w ([iset refK gm (l.take (i + 1))] ++ [iblk gx 89 [.string x.1, .string x.2]]) w2 := hM2
    have HE3 : Hid (twiceP [] l = twiceP (l.take (i + 1)) (l.drop (i + 1))) := hid (by rw [HE2.out]; rfl)
    clear hown hown2 hgrow2 hM HE2
    go_roundg (l.length - (i + 1))
    case measure => omega
    case rel => exact ⟨i + 1, hil, rfl, by first | rfl | simp, hM2.sub, HE3⟩
  ·have hii : ¬ (i : Int) < (l.length : Int) := by omega
   have HR : Hid (twiceP [] l = false) := hid (by rw [HE.out, List.drop_of_length_le (by omega), twiceP])
   go_wp2_with fail
   go_ret
   rw [HR.out]
   exact ⟨rfl, by first | exact hM.below0 | (subst hgm; exact hM.below0)⟩
end Go.Proofs.YtekkapgknohadaaGreatDoor
