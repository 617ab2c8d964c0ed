/-
 dominoref41: the visit of a policy's nodes. Printed by mkpci.py.
-/
import Derived.Test.YtogmhaihmkcjgaaGreatDoorPcH
namespace Go.Proofs.YtogmhaihmkcjgaaGreatDoor
open Go.RowKit Go.Shelf
set_option linter.unusedVariables false

abbrev ivals (l : List Int) : List Value := l.map (Value.int .i64)
/-- which nodes were met -/
def flags (N : Nat) (S : List Int) : List Value := (List.range N).map fun (i : Nat) => .bool (memD (i : Int) S)
theorem flags_len (N : Nat) (S : List Int) : (flags N S).length = N := by simp [flags]
theorem flags_at {N i : Nat} (S : List Int) (h : i < N) : (flags N S)[i]? = some (.bool (memD (i : Int) S)) := by
 simp [flags, h]
theorem flags_set {N i : Nat} (S : List Int) (h : i < N) : (flags N S).set i (.bool true) = flags N (S ++ [(i : Int)]) := by
 apply List.ext_getElem?
 intro j
 rw [List.getElem?_set]
 by_cases hj : j < N
 ·rw [flags_at _ hj, flags_at _ hj, flags_len, memD_snoc]
  by_cases hij : i = j
  ·subst hij; simp [h]
  ·have : ¬ (i : Int) = (j : Int) := by omega
   simp [hij, this]
 ·have e1 : (flags N S)[j]? = none := List.getElem?_eq_none (by rw [flags_len]; omega)
  have e2 : (flags N (S ++ [(i : Int)]))[j]? = none := List.getElem?_eq_none (by rw [flags_len]; omega)
  rw [e1, e2, flags_len]
  rw [if_neg (by omega)]
theorem flags_nil (N : Nat) : flags N [] = List.replicate N (.bool false) := by
 apply List.ext_getElem?
 intro j
 by_cases hj : j < N
 ·rw [flags_at _ hj]; simp [memD, hj]
 ·rw [List.getElem?_eq_none (by rw [flags_len]; omega), List.getElem?_eq_none (by simp; omega)]
abbrev wcs (d : Po) (L : Lp) (sb N : Nat) (vo : Value) (err : Int) : List Value := [.string d.name, .slice L.ua d.uses.length L.uc, .slice L.ra d.reveal.length L.rc, .slice L.na d.nodes.length L.nc, .int .i64 d.root, .string d.scope, .int .i64 d.limit, .string d.escrow, .slice (some ⟨sb, 0, none⟩) N N, vo, .int .i64 err]
abbrev iorder (v : Value) (S : List Int) : It := irow 3 1 v S.length (ivals S)
abbrev iflags (sb N : Nat) (S : List Int) : It := irow 4 1 (.slice (some ⟨sb, 0, none⟩) N N) N (flags N S)
/-- the reference's visit: its pieces -/
abbrev wits (d : Po) (L : Lp) (gw sb : Nat) (S : List Int) (vo : Value) (err : Int) : List It := [iblk gw 235 (wcs d L sb d.nodes.length vo err), iflags sb d.nodes.length S, iorder vo S]
theorem rint_info : (Tryz.prog.info? 3).map (fun i => (i.zero, i.size, i.bytes)) = some (some (.int .i64 0), 1, 8) := by kernel_rfl
theorem Blk.get11 {w : World} {g : Nat} {t : TypeId} {a b c d e f i j k l m : Value} (h : Blk w g t [a, b, c, d, e, f, i, j, k, l, m]) : w.cell? ⟨g, 3, none⟩ = some d ∧ w.cell? ⟨g, 8, none⟩ = some k ∧ w.cell? ⟨g, 9, none⟩ = some l ∧ w.cell? ⟨g, 10, none⟩ = some m := ⟨h.cell 3, h.cell 8, h.cell 9, h.cell 10⟩
set_option maxRecDepth 20000 in
set_option maxHeartbeats 4000000 in
theorem rvisit_err (gw : Nat) (a dp : Int) (c : Bool) (err : Int) (he : err ≠ 0) (W : World) (hc : W.cell? ⟨gw, 10, none⟩ = some (.int .i64 err)) : Calls Tryz.prog 166 #[pptr gw, .int .i64 a, .int .i64 dp, .bool c] W fun e w' => e = .returned (.tuple #[]) ∧ w' = W := by
 have hne : (err != 0) = true := by simpa using he
 go_enter Tryz.func166, Tryz.ntmps166
 go_wp2_with fail
 refine ⟨rfl, .tuple #[], by simp [results, Tryz.results166, go_sem], rfl, rfl⟩
theorem lies_at {w : World} {v : Value} {n c g H : Nat} (h : v.ownBlock = some g ∨ g = H) (hH : w.heap.size = H) : (Value.slice (some ⟨g, 0, none⟩) n c).ownBlock = v.ownBlock ∨ ∀ k, (Value.slice (some ⟨g, 0, none⟩) n c).ownBlock = some k → w.heap.size ≤ k := by
 rcases h with h | h
 ·exact .inl h.symm
 ·right
  intro k hk
  simp [Value.ownBlock] at hk
  omega
/-- the visit's outcome -/
def RV (d : Po) (L : Lp) (gw sb : Nat) (w0 : World) (r : List It) (x : Int × List Int) (e : Ending) (w' : World) : Prop := e = .returned (.tuple #[]) ∧ ∃ OA oc, Hp [] w0 (wits d L gw sb x.2 (.slice OA x.2.length oc) x.1 ++ r) w'
theorem RV.mk {d : Po} {L : Lp} {gw sb : Nat} {w0 : World} {r : List It} {x : Int × List Int} {w' : World} {E : Int} {S : List Int} {OA : Option Addr} {oc : Nat} (h : x = (E, S)) (hH : Hp [] w0 (wits d L gw sb S (.slice OA S.length oc) E ++ r) w') : RV d L gw sb w0 r x (.returned (.tuple #[])) w' := by
 subst h
 exact ⟨rfl, OA, oc, hH⟩
set_option maxRecDepth 20000 in
set_option maxHeartbeats 32000000 in
theorem rvisit_any (d : Po) (L : Lp) (hB : PBd d) (gw sb : Nat) (w0 : World) (hP : PolM w0 d L) : ∀ (f : Nat) (dp : Int), f ≤ 32 → dp = 33 - (f : Int) → ∀ (a : Int) (c : Bool) (S : List Int) (OA : Option Addr) (oc : Nat) (r : List It) (W : World), Met d.nodes S → Hp [] w0 (wits d L gw sb S (.slice OA S.length oc) 0 ++ r) W →
  Calls Tryz.prog 166 #[pptr gw, .int .i64 a, .int .i64 dp, .bool c] W (RV d L gw sb w0 r (visitP d.nodes f a c S)) := by
 obtain ⟨j0, hj0, hy0, hy1, hy2⟩ := info3 rint_info
 intro f
 induction f with
 | zero =>
  intro dp hf hdp a c S OA oc r W hM hk
  have hnl := hB.nl
  obtain ⟨c3, c8, c9, c10⟩ := (hk.blk 0 rfl).get11
  have f10 := (hk.blk 0 rfl).frozen 10
  have HDP := Lib.hid hdp
  by_cases h1 : a < 0
  ·have HV : Hid (visitP d.nodes (0) a c S = (3, S)) := Lib.hid (visitP_out (.inl h1))
   clear hdp
   go_enter Tryz.func166, Tryz.ntmps166
   go_wp2_with fail
   refine ⟨rfl, .tuple #[], by simp [results, Tryz.results166, go_sem], ?_⟩
   exact RV.mk HV.out (hk.set 0 rfl 10 (.int .i64 3))
  ·obtain ⟨i, rfl⟩ : ∃ i : Nat, a = (i : Int) := ⟨a.toNat, by omega⟩
   have hi0 : (0 : Int) ≤ (i : Int) := by omega
   by_cases h2 : (d.nodes.length : Int) ≤ (i : Int)
   ·have HV : Hid (visitP d.nodes (0) (i : Int) c S = (3, S)) := Lib.hid (visitP_out (.inr (.inl h2)))
    clear hdp
    go_enter Tryz.func166, Tryz.ntmps166
    go_wp2_with fail
    refine ⟨rfl, .tuple #[], by simp [results, Tryz.results166, go_sem], ?_⟩
    exact RV.mk HV.out (hk.set 0 rfl 10 (.int .i64 3))
   ·have hil : i < d.nodes.length := by omega
    have hii : (i : Int) < (d.nodes.length : Int) := by omega
    have cf : W.cell? ⟨sb, i, none⟩ = some (.bool (memD (i : Int) S)) := row_cell (hk.row 1 rfl) (flags_at S hil)
    cases hm : memD (i : Int) S with
    | true =>
     rw [hm] at cf
     have HV : Hid (visitP d.nodes (0) (i : Int) c S = (3, S)) := Lib.hid (visitP_out (.inr (.inr (memD_iff.1 hm))))
     clear hdp
     go_enter Tryz.func166, Tryz.ntmps166
     go_wp2_with fail
     refine ⟨rfl, .tuple #[], by simp [results, Tryz.results166, go_sem], ?_⟩
     exact RV.mk HV.out (hk.set 0 rfl 10 (.int .i64 3))
    | false =>
     rw [hm] at cf
     have hnot : ¬ ((i : Int) < 0 ∨ (d.nodes.length : Int) ≤ (i : Int) ∨ (i : Int) ∈ S) := by
      rintro (h | h | h)
      ·exact h1 h
      ·exact h2 h
      ·rw [memD_iff.2 h] at hm; cases hm
     have HV : Hid (visitP d.nodes 0 (i : Int) c S = (7, S)) := Lib.hid (visitP_deep hnot)
     have hdp1 : (32 : Int) < dp := by omega
     clear hdp hnot
     go_enter Tryz.func166, Tryz.ntmps166
     go_wp2_with fail
     refine ⟨rfl, .tuple #[], by simp [results, Tryz.results166, go_sem], ?_⟩
     exact RV.mk HV.out (hk.set 0 rfl 10 (.int .i64 7))
 | succ f ih =>
  intro dp hf hdp a c S OA oc r W hM hk
  have hnl := hB.nl
  obtain ⟨c3, c8, c9, c10⟩ := (hk.blk 0 rfl).get11
  have f10 := (hk.blk 0 rfl).frozen 10
  have HDP := Lib.hid hdp
  by_cases h1 : a < 0
  ·have HV : Hid (visitP d.nodes (f + 1) a c S = (3, S)) := Lib.hid (visitP_out (.inl h1))
   clear hdp
   go_enter Tryz.func166, Tryz.ntmps166
   go_wp2_with fail
   refine ⟨rfl, .tuple #[], by simp [results, Tryz.results166, go_sem], ?_⟩
   exact RV.mk HV.out (hk.set 0 rfl 10 (.int .i64 3))
  ·obtain ⟨i, rfl⟩ : ∃ i : Nat, a = (i : Int) := ⟨a.toNat, by omega⟩
   have hi0 : (0 : Int) ≤ (i : Int) := by omega
   by_cases h2 : (d.nodes.length : Int) ≤ (i : Int)
   ·have HV : Hid (visitP d.nodes (f + 1) (i : Int) c S = (3, S)) := Lib.hid (visitP_out (.inr (.inl h2)))
    clear hdp
    go_enter Tryz.func166, Tryz.ntmps166
    go_wp2_with fail
    refine ⟨rfl, .tuple #[], by simp [results, Tryz.results166, go_sem], ?_⟩
    exact RV.mk HV.out (hk.set 0 rfl 10 (.int .i64 3))
   ·have hil : i < d.nodes.length := by omega
    have hii : (i : Int) < (d.nodes.length : Int) := by omega
    have cf : W.cell? ⟨sb, i, none⟩ = some (.bool (memD (i : Int) S)) := row_cell (hk.row 1 rfl) (flags_at S hil)
    cases hm : memD (i : Int) S with
    | true =>
     rw [hm] at cf
     have HV : Hid (visitP d.nodes (f + 1) (i : Int) c S = (3, S)) := Lib.hid (visitP_out (.inr (.inr (memD_iff.1 hm))))
     clear hdp
     go_enter Tryz.func166, Tryz.ntmps166
     go_wp2_with fail
     refine ⟨rfl, .tuple #[], by simp [results, Tryz.results166, go_sem], ?_⟩
     exact RV.mk HV.out (hk.set 0 rfl 10 (.int .i64 3))
    | false =>
     rw [hm] at cf
     have hnot : ¬ ((i : Int) < 0 ∨ (d.nodes.length : Int) ≤ (i : Int) ∨ (i : Int) ∈ S) := by
      rintro (h | h | h)
      ·exact h1 h
      ·exact h2 h
      ·rw [memD_iff.2 h] at hm; cases hm
     obtain ⟨n, hn⟩ : ∃ n, d.nodes[i]? = some n := ⟨_, List.getElem?_eq_getElem hil⟩
     have HV := Lib.hid (visitP_in (f := f) (c := c) hnot (by rw [Int.toNat_natCast]; exact hn))
     generalize visitP d.nodes (f + 1) (i : Int) c S = X at *
     have hdp1 : ¬ (32 : Int) < dp := by omega
     have hdp2 : 0 ≤ dp := by omega
     have hS2 := hM.snoc hnot
     have hSl := hM.len
     have hnb := hB.ns n (List.mem_of_getElem? hn)
     have hkl := hnb.kids
     obtain ⟨ad, KA, kc, hna, hN0⟩ := hP.ns.at_ i n hn
     rw [hna] at c3
     have ff := row_frozen (hk.row 1 rfl) i
     have hk1 : Hp [] w0 ([iblk gw 235 (wcs d L sb d.nodes.length (.slice OA S.length oc) 0), iflags sb d.nodes.length (S ++ [(i : Int)]), iorder (.slice OA S.length oc) S] ++ r) (W.setCell ⟨sb, i, none⟩ (.bool true)) := by
      have h9 := hk.rowset 1 rfl i (by omega) (.bool true)
      rw [flags_set S hil] at h9
      exact h9
     clear hnot hm hdp
     go_enter Tryz.func166, Tryz.ntmps166
     go_upto_region 6 with fail
     clear hk c3 c8 c9 c10 f10 cf ff
     generalize W.setCell ⟨sb, i, none⟩ (.bool true) = w1 at *
     obtain ⟨c3, c8, c9, c10⟩ := (hk1.blk 0 rfl).get11
     go_upto_region 7 with (first | (at_builtin; refine wpList_append_own2 rfl _ _ 61 rfl 0 3 j0 _ 1 8 Tryz.underlying61 hj0 hy0 hy1 hy2 rfl (by decide) _ S.length (ivals S) rfl ((hk1.alloc (.cells #[.int .i64 (i : Int)] 3)).row 2 rfl) ⟨w1.heap.size, 0, none⟩ 1 1 [.int .i64 (i : Int)] rfl rfl (new1q _ _ _) (by intro u hu; simp at hu; rw [hu]; rfl) (by decide) (by unfold maxLen; omega) (by omega) (Nat.zero_le _) ?_; intro v' w2 hown hgrow hat; obtain ⟨A2, ca2, rfl⟩ := row_forms hown; have hk2 := (hk1.alloc (.cells #[.int .i64 (i : Int)] 3)).grown 2 rfl hown hgrow hat; obtain ⟨c3, c8, c9, c10⟩ := (hk2.blk 0 rfl).get11; have f9 := (hk2.blk 0 rfl).frozen 9; clear hown hgrow hat))
     have hk3 : Hp [] w0 (wits d L gw sb (S ++ [(i : Int)]) (.slice A2 (S ++ [(i : Int)]).length ca2) 0 ++ r) (w2.setCell ⟨gw, 9, none⟩ (.slice A2 (S.length + 1) ca2)) := by
      have h9 := hk2.set 0 rfl 9 (.slice A2 (S.length + 1) ca2)
      have e2 : (S ++ [(i : Int)]).length = S.length + 1 := by simp
      have e3 : ivals S ++ [.int .i64 (i : Int)] = ivals (S ++ [(i : Int)]) := by simp [ivals]
      unfold wits iorder
      rw [e2, ← e3]
      exact h9
     clear hk1 hk2 c3 c8 c9 c10 f9
     generalize w2.setCell ⟨gw, 9, none⟩ (.slice A2 (S.length + 1) ca2) = w3 at *
     obtain ⟨c3, c8, c9, c10⟩ := (hk3.blk 0 rfl).get11
     rw [hna] at c3
     have hN1 := hN0.up hk3.below0
     have d0 := hN1.kind
     have d1 := hN1.num
     have d2 := hN1.name
     have d3 := hN1.attr
     have d4 := hN1.kids
     have d5 := hN1.at_
     obtain ⟨g, hg⟩ : ∃ x, w3.heap.size = x := ⟨_, rfl⟩
     have hk4 := (hk3.new 76 (nkcs n KA kc)).perm (List.perm_middle (l₁ := wits d L gw sb (S ++ [(i : Int)]) (.slice A2 (S ++ [(i : Int)]).length ca2) 0)).symm
     rw [hg] at hk4
     go_upto_region 8 with fail
     try simp only [hg]
     have hk4 : Hp [] w0 (wits d L gw sb (S ++ [(i : Int)]) (.slice A2 (S ++ [(i : Int)]).length ca2) 0 ++ (iblk g 76 (nkcs n KA kc) :: r)) (w3.alloc (.cells #[.int .i64 n.kind, .int .i64 n.num, .string n.name, .string n.attr, .slice KA n.kids.length kc, .int .i64 n.at_] 76)) := hk4
     clear hk3 hN1 d0 d1 d2 d3 d4 d5 c3 c8 c9 c10
     generalize w3.alloc (.cells #[.int .i64 n.kind, .int .i64 n.num, .string n.name, .string n.attr, .slice KA n.kids.length kc, .int .i64 n.at_] 76) = w4 at *
     clear hg
     obtain ⟨d0, d1, d2, d3, d4, d5⟩ := (hk4.blk 3 rfl).get6
     have HPM : Hid (∀ (T : List Int) (vo : Value) (E : Int) (V : World), Hp [] w0 (wits d L gw sb T vo E ++ (iblk g 76 (nkcs n KA kc) :: r)) V → Hp [] w0 (wits d L gw sb T vo E ++ r) V) := Lib.hid fun T vo E V h => (h.perm (List.perm_middle (l₁ := wits d L gw sb T vo E))).tail
     -- the shape of the kind
     have HSh : Hid (shapeP n c = false → X = (3, S ++ [(i : Int)])) := Lib.hid fun h => by rw [HV.out, formP, if_pos h]; rfl
     by_cases k0 : n.kind < 0
     ·have HV3 := Lib.hid (HSh.out (by unfold shapeP; rw [decide_eq_false (by omega : ¬ 0 ≤ n.kind)]; rfl))
      have f10 := (hk4.blk 0 rfl).frozen 10
      obtain ⟨c3, c8, c9, c10⟩ := (hk4.blk 0 rfl).get11
      go_wp2_with fail
      refine ⟨rfl, .tuple #[], by simp [results, Tryz.results166, go_sem], ?_⟩
      exact RV.mk HV3.out (HPM.out _ _ _ _ (hk4.set 0 rfl 10 (.int .i64 3)))
     ·by_cases k1 : 11 < n.kind
      ·have HV3 := Lib.hid (HSh.out (by unfold shapeP; rw [decide_eq_false (by omega : ¬ n.kind < 12)]; simp))
       have f10 := (hk4.blk 0 rfl).frozen 10
       obtain ⟨c3, c8, c9, c10⟩ := (hk4.blk 0 rfl).get11
       go_wp2_with fail
       refine ⟨rfl, .tuple #[], by simp [results, Tryz.results166, go_sem], ?_⟩
       exact RV.mk HV3.out (HPM.out _ _ _ _ (hk4.set 0 rfl 10 (.int .i64 3)))
      ·have HC1 := Lib.hid (condition_is n.kind w4)
       rw [decide_eq_true (by omega : 0 ≤ n.kind), Bool.true_and] at HC1
       have HFm := Lib.hid (rform_any n KA kc hnb (by omega) (by omega) w4)
       have HSh2 : Hid (decide (n.kind ≤ 8) ≠ c → shapeP n c = false) := Lib.hid fun h => by
        unfold shapeP
        rw [show (decide (n.kind ≤ 8) == c) = false from by simpa using h]
        simp
       by_cases k8 : decide (n.kind ≤ 8) = c
       ·rw [k8] at HFm HC1
        generalize hfe : formP n c = fe at *
        have hcc : (c != c) = false := by cases c <;> rfl
        go_wp2_with fail
        refine HC1.out.mono ?_
        rintro e w5 ⟨rfl, hw⟩
        subst hw
        go_wp2_with fail
        refine HFm.out.mono ?_
        rintro e w6 ⟨rfl, hb6⟩
        have hk5 := hk4.next hb6
        clear hk4 hb6 d0 d1 d2 d3 d4 d5
        cases hne : (fe != 0) with
        | true =>
         have HV3 : Hid (X = (fe, S ++ [(i : Int)])) := Lib.hid (by rw [HV.out, if_pos (by simpa using hne)])
         have f10 := (hk5.blk 0 rfl).frozen 10
         obtain ⟨c3, c8, c9, c10⟩ := (hk5.blk 0 rfl).get11
         go_wp2_with fail
         refine ⟨rfl, .tuple #[], by simp [results, Tryz.results166, go_sem], ?_⟩
         exact RV.mk HV3.out (HPM.out _ _ _ _ (hk5.set 0 rfl 10 (.int .i64 fe)))
        | false =>
         have HV2 : Hid (X = loopP (fun k S => visitP d.nodes f k (decide (n.kind ≤ 5)) S) n.kids (S ++ [(i : Int)])) := Lib.hid (by rw [HV.out, if_neg (by simpa using hne)])
         go_upto_region 14 with fail
         have HM := Lib.hid hS2
         have HN := Lib.hid hN0
         clear hS2 hN0 hne HV hfe HSh HSh2 HFm HC1 hna
         go_loopg [10] n.kids.length (fun m s10 wx => ∃ (j : Nat) (T : List Int) (E : Int) (OB : Option Addr) (ob : Nat), j ≤ n.kids.length ∧ m = n.kids.length - j ∧ s10 = .int .i64 (j : Int) ∧ Hp [] w0 (wits d L gw sb T (.slice OB T.length ob) E ++ (iblk g 76 (nkcs n KA kc) :: r)) wx ∧ Hid (Met d.nodes T ∧ (E = 0 → loopP (fun k S => visitP d.nodes f k (decide (n.kind ≤ 5)) S) n.kids (S ++ [(i : Int)]) = loopP (fun k S => visitP d.nodes f k (decide (n.kind ≤ 5)) S) (n.kids.drop j) T) ∧ (E ≠ 0 → loopP (fun k S => visitP d.nodes f k (decide (n.kind ≤ 5)) S) n.kids (S ++ [(i : Int)]) = (E, T))))
         case atStart => exact ⟨0, S ++ [(i : Int)], 0, A2, ca2, Nat.zero_le _, rfl, rfl, hk5, Lib.hid ⟨HM.out, fun _ => rfl, fun h => absurd rfl h⟩⟩
         case round =>
          obtain ⟨j, T, E, OB, ob, hj, rfl, rfl, hMx, HE⟩ := hrel
          clear hk5
          obtain ⟨d0, d1, d2, d3, d4, d5⟩ := (hMx.blk 3 rfl).get6
          by_cases hjl : j < n.kids.length
          ·have hjj : (j : Int) < (n.kids.length : Int) := by omega
           have hj0 : (0 : Int) ≤ (j : Int) := by omega
           obtain ⟨k, hk⟩ : ∃ k, n.kids[j]? = some k := ⟨_, List.getElem?_eq_getElem hjl⟩
           obtain ⟨ka, hKA, hkc⟩ := (HN.out.ints.up hMx.below0).at_ j k hk
           subst hKA
           have HD := Lib.hid (And.intro (drop_at hk) (HE.out))
           have HD2 := Lib.hid hk
           clear hk HE d1 d2 d3 d5
           go_upto_region 16 with fail
           have hMd := hMx.drew
           have d0 : wr.drew.cell? ⟨g, 0, none⟩ = some (.int .i64 n.kind) := d0
           have d4 : wr.drew.cell? ⟨g, 4, none⟩ = some (.slice (some ka) n.kids.length kc) := d4
           have hkc : wr.drew.cell? (ka.add j) = some (.int .i64 k) := hkc
           clear hMx
           have HCL : Hid (∀ V, Hp [] w0 (wits d L gw sb T (.slice OB T.length ob) E ++ (iblk g 76 (nkcs n (some ka) kc) :: r)) V → Calls Tryz.prog 166 #[pptr gw, .int .i64 k, .int .i64 (dp + 1), .bool (decide (n.kind ≤ 5))] V fun e w' => e = .returned (.tuple #[]) ∧ ∃ (T2 : List Int) (E2 : Int) (OB2 : Option Addr) (ob2 : Nat), Hp [] w0 (wits d L gw sb T2 (.slice OB2 T2.length ob2) E2 ++ (iblk g 76 (nkcs n (some ka) kc) :: r)) w' ∧ Hid (Met d.nodes T2 ∧ (E2 = 0 → loopP (fun k S => visitP d.nodes f k (decide (n.kind ≤ 5)) S) n.kids (S ++ [(i : Int)]) = loopP (fun k S => visitP d.nodes f k (decide (n.kind ≤ 5)) S) (n.kids.drop (j + 1)) T2) ∧ (E2 ≠ 0 → loopP (fun k S => visitP d.nodes f k (decide (n.kind ≤ 5)) S) n.kids (S ++ [(i : Int)]) = (E2, T2)))) := Lib.hid fun V h => by
            by_cases hE : E = 0
            ·subst hE
             refine (ih (dp + 1) (by omega) (by have := HDP.out; omega) k (decide (n.kind ≤ 5)) T OB ob _ V HD.out.2.1 h).mono ?_
             rintro e w' ⟨rfl, OA2, oc2, h2⟩
             refine ⟨rfl, _, _, OA2, oc2, h2, Lib.hid ⟨visitP_met d.nodes f k _ T HD.out.2.1, fun h0 => ?_, fun h0 => ?_⟩⟩
             ·rw [HD.out.2.2.1 rfl, HD.out.1, loopP, if_neg (by simpa using h0)]
             ·rw [HD.out.2.2.1 rfl, HD.out.1, loopP, if_pos h0]
            ·refine (rvisit_err gw k (dp + 1) (decide (n.kind ≤ 5)) E hE V ((h.blk 0 rfl).cell 10)).mono ?_
             rintro e w' ⟨rfl, hw⟩
             subst hw
             exact ⟨rfl, T, E, OB, ob, h, Lib.hid ⟨HD.out.2.1, fun h0 => absurd h0 hE, HD.out.2.2.2⟩⟩
           have HKC : Hid (∀ V T2 vo E2, Hp [] w0 (wits d L gw sb T2 vo E2 ++ (iblk g 76 (nkcs n (some ka) kc) :: r)) V → V.cell? ⟨g, 4, none⟩ = some (.slice (some ka) n.kids.length kc) ∧ V.cell? ⟨g, 0, none⟩ = some (.int .i64 n.kind) ∧ V.cell? (ka.add j) = some (.int .i64 k)) := Lib.hid fun V T2 vo E2 h => by
            obtain ⟨ka', e1, e2⟩ := (HN.out.ints.up h.below0).at_ j k HD2.out
            cases e1
            exact ⟨(h.blk 3 rfl).cell 4, (h.blk 3 rfl).cell 0, e2⟩
           clear HD
           have hwr : IntKind.i64.wrap (dp + 1) = dp + 1 := IntWalk.i64_in _ (by omega)
           go_region_held3 (fun w' => w'.cell? ⟨g, 4, none⟩ = some (.slice (some ka) n.kids.length kc) ∧ w'.cell? ⟨g, 0, none⟩ = some (.int .i64 n.kind) ∧ w'.cell? (ka.add j) = some (.int .i64 k)) (first | exact ⟨e4, e0, ekc⟩ | exact ⟨d4, d0, hkc⟩)
            (first | (go_at_call 166; refine (HCL.out _ hMd).mono ?_; rintro e w8 ⟨rfl, T2, E2, OB2, ob2, hM2, HE2⟩; obtain ⟨e4, e0, ekc⟩ := HKC.out _ _ _ _ hM2))
           go_wp2_with fail
           go_roundg (n.kids.length - (j + 1))
           case measure => omega
           case rel => exact ⟨j + 1, T2, E2, OB2, ob2, hjl, rfl, by first | rfl | simp, hM2, HE2⟩
          ·have hjj : ¬ (j : Int) < (n.kids.length : Int) := by omega
           have HV3 : Hid (X = (E, T)) := Lib.hid (by
            rw [HV2.out]
            by_cases hE : E = 0
            ·rw [HE.out.2.1 hE, List.drop_of_length_le (by omega), hE]; rfl
            ·exact HE.out.2.2 hE)
           go_wp2_with fail
           refine ⟨rfl, .tuple #[], by simp [results, Tryz.results166, go_sem], ?_⟩
           exact RV.mk HV3.out (HPM.out _ _ _ _ hMx)
       ·have HV3 := Lib.hid (HSh.out (HSh2.out k8))
        have hdk : decide (n.kind ≤ 8) = !c := by cases c <;> simpa using k8
        rw [hdk] at HC1
        have f10 := (hk4.blk 0 rfl).frozen 10
        obtain ⟨c3, c8, c9, c10⟩ := (hk4.blk 0 rfl).get11
        clear k8 hdk HFm HSh2
        cases c
        all_goals
         go_wp2_with fail
         refine HC1.out.mono ?_
         rintro e w5 ⟨rfl, hw⟩
         subst hw
         go_wp2_with fail
         refine ⟨rfl, .tuple #[], by simp [results, Tryz.results166, go_sem], ?_⟩
         exact RV.mk HV3.out (HPM.out _ _ _ _ (hk4.set 0 rfl 10 (.int .i64 3)))
end Go.Proofs.YtogmhaihmkcjgaaGreatDoor
-- halved
