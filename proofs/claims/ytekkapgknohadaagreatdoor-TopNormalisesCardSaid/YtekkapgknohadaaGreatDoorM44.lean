/- normal: the closures of norm. -/
import Derived.Test.YtekkapgknohadaaGreatDoorM40
import Derived.Test.YtekkapgknohadaaGreatDoorM43
set_option linter.unusedVariables false
set_option maxRecDepth 20000
set_option maxHeartbeats 16000000
namespace Go.Proofs.YtekkapgknohadaaGreatDoor.Nf
open Go.RowKit Go.Shelf
open Lib (hid)
open Pa (F Nd)
structure Kid (d : Po) (l : List Int) (i : Nat) (ix : Nat) (a : Nk) : Prop where
 at_ : l[i]? = some (ix : Int)
 nd : d.nodes[ix]? = some a
 a0 : 0 ≤ a.kind
 num : a.kind = 10 → -2147483648 ≤ a.num ∧ a.num ≤ 2147483647
 v : isV (ndOf a)
theorem kid_of {d : Po} {l : List Int} {f : Nat} (hk : ∀ k ∈ l, Pa.VN d.nodes f false k ∧ WfP d.nodes f k) {i : Nat} {k : Int} (hi : l[i]? = some k) : ∃ ix a, Kid d l i ix a ∧ k = (ix : Int) ∧ nodeK d.nodes k = a := by
 obtain ⟨hv, hw⟩ := hk k (List.mem_of_getElem? hi)
 cases f with
 | zero => exact hv.elim
 | succ f =>
   obtain ⟨j, m, rfl, hm, hF, -⟩ := vn_at hv hw
   refine ⟨j, m, ⟨hi, hm, hF.lo, fun e => ?_, rfl, ?_⟩, rfl, nodeK_at hm⟩
   ·have h1 := hF.low
    have h2 := hF.high
    unfold lowP at h1
    unfold highP at h2
    rw [e] at h1 h2
    exact ⟨by simpa using h1, by simpa using h2⟩
   ·have h1 := hF.ctx
    have h2 := hF.hi
    have h3 := hF.lo
    simp only [decide_eq_false_iff_not] at h1
    show m.kind.toNat = 9 ∨ m.kind.toNat = 10 ∨ m.kind.toNat = 11
    omega
theorem pr6 {L : Look} {x a b : Nd} (hx : x.kind = 6) (ha : isV a) (hb : isV b) (hc : condB L x [a, b] = true) : Pr L x.num a b := by
 simp only [condB, if_pos hx, List.all_cons, List.all_nil, firstB, Bool.and_true, Bool.and_eq_true, Bool.or_eq_true, decide_eq_true_eq] at hc
 refine ⟨ha, hb, hc.2, ?_⟩
 rcases hc.1.2 with e | e
 ·rcases e with e | e
  ·exact .inl e
  ·exact .inr (.inl e)
 ·exact .inr (.inr e)
theorem pr7 {L : Look} {x a b c : Nd} (hx : x.kind = 7) (ha : isV a) (hb : isV b) (hc9 : isV c) (hc : condB L x [a, b, c] = true) (h : Int) : Pr L h a b ∧ Pr L h a c ∧ numTy L a = true := by
 simp only [condB, if_neg (show ¬ x.kind = 6 by omega), if_pos hx, List.all_cons, List.all_nil, Bool.and_true, Bool.and_eq_true] at hc
 obtain ⟨_, n1, n2, n3⟩ := hc
 exact ⟨pr_num ha hb n1 n2 h, pr_num ha hc9 n1 n3 h, n1⟩
theorem pr8 {L : Look} {x a : Nd} {r : List Nd} (hx : x.kind = 8) (ha : isV a) (hr : ∀ y ∈ r, isV y) (hc : condB L x (a :: r) = true) : ∀ y ∈ r, Pr L 0 a y := by
 simp only [condB, if_neg (show ¬ x.kind = 6 by omega), if_neg (show ¬ x.kind = 7 by omega), if_pos hx, firstB, Bool.and_eq_true] at hc
 exact fun y hy => ⟨ha, hr y hy, List.all_eq_true.1 hc.2 y hy, .inl rfl⟩
theorem compl_rng {h : Int} : 0 ≤ compl h ∧ compl h ≤ 5 := by
 unfold compl
 repeat' split
 all_goals omega
theorem cmpd_any {d : Po} {L : Lp} {A : Option Addr} {c : Nat} {S : List Sm} {w0 : World} (E : Env w0 d L A c S) (hR : za9 chkB S d = true) (g : Bool) (n : Nk) (KA : Option Addr) (kc : Nat) (hI : Ints w0 KA n.kids) (hkl : n.kids.length ≤ 1000000) (how : Int) (hh : 0 ≤ how) (hh5 : how ≤ 5) (i k ix kx : Nat) (a b : Nk) (hi : Kid d n.kids i ix a) (hk : Kid d n.kids k kx b) (hP : Pr (lookS S d.uses) how (ndOf a) (ndOf b)) (gb gm gn : Nat) (tb tm tn : TypeId) (w : World) (h0 : Below w0.heap.size w0 w) (B : Nat) (hBs : B ≤ w.heap.size) (hB : Blk w gb tb [.bool g]) (hM : Blk w gm tm (fitC d L A S.length c)) (hN : Blk w gn tn (nkcs n KA kc)) :
 Calls Tryz.prog 90 #[.int .i64 how, .int .i64 (i : Int), .int .i64 (k : Int), .pointer (some ⟨gb, 0, none⟩), .pointer (some ⟨gm, 0, none⟩), .pointer (some ⟨gn, 0, none⟩)] w fun e w' => (∃ v, e = .returned v ∧ CvM B w' (cmpd (lookS S d.uses) g how (ndOf a) (ndOf b)) [v]) ∧ Below w.heap.size w w' := by
 obtain ⟨G, hG⟩ : ∃ G, cmpd (lookS S d.uses) g how (ndOf a) (ndOf b) = G := ⟨_, rfl⟩
 rw [hG]
 obtain ⟨ua, uc, ra, rc, na, nc⟩ := L
 obtain ⟨ad, QA, qa, hA, hNa⟩ := E.p.ns.at_ ix a hi.nd
 obtain ⟨ad', QB, qb, hA', hNb⟩ := E.p.ns.at_ kx b hk.nd
 change na = some ad at hA
 change na = some ad' at hA'
 subst hA
 injection hA' with hA'
 subst hA'
 obtain ⟨ka, hKA, ci⟩ := hI.at_ i _ hi.at_
 obtain ⟨ka', hKA', ck⟩ := hI.at_ k _ hk.at_
 subst hKA
 injection hKA' with hKA'
 subst hKA'
 have h1 := (List.getElem?_eq_some_iff.1 hi.at_).1
 have h2 := (List.getElem?_eq_some_iff.1 hk.at_).1
 have h3 := (List.getElem?_eq_some_iff.1 hi.nd).1
 have h4 := (List.getElem?_eq_some_iff.1 hk.nd).1
 have i1 : (i : Int) < (n.kids.length : Int) := by omega
 have i2 : (k : Int) < (n.kids.length : Int) := by omega
 have i3 : (ix : Int) < (d.nodes.length : Int) := by omega
 have i4 : (kx : Int) < (d.nodes.length : Int) := by omega
 have z1 : (0 : Int) ≤ (i : Int) := by omega
 have z2 : (0 : Int) ≤ (k : Int) := by omega
 have z3 : (0 : Int) ≤ (ix : Int) := by omega
 have z4 : (0 : Int) ≤ (kx : Int) := by omega
 have HV := hid (fun hw (q0 : 0 ≤ hw) (q5 : hw ≤ 5) (hp : Pr (lookS S d.uses) hw (ndOf a) (ndOf b)) W hW => values_any E hR hw q0 q5 a b hi.a0 hk.a0 QA QB qa qb hi.num hk.num hp W hW B)
 have HCO := hid (complement_any how hh hh5)
 have HP := hid hP
 have HH := hid (And.intro hh hh5)
 have HG := hid hG
 have HNa := hid hNa
 have HNb := hid hNb
 have HCI := hid (And.intro ci ck)
 have g0 := hB.cell 0
 simp only [List.getElem?_cons_zero] at g0
 have HM := hid (fun W (hb : Below w.heap.size w W) => (show Blk W gm tm _ from (hb.block gm hM.lt).trans hM))
 have HN := hid (fun W (hb : Below w.heap.size w W) => (show Blk W gn tn _ from (hb.block gn hN.lt).trans hN))
 clear hG hP hh hh5 hNa hNb hi hk ci ck E hR h1 h2 h3 h4 hB hM hN hI
 cases g with
 | false =>
   have hb0 := Below.refl w.heap.size w
   go_enter Tryz.func90, Tryz.ntmps90
   go_upto_region 3 with fail
   have hM1 := HM.out w hb0
   have hN1 := HN.out w hb0
   obtain ⟨c0, c1, c2, c3, c4, c5, c6, c7, c8⟩ := blk9 hM1
   have n4 := hN1.cell 4
   simp only [List.getElem?_cons_zero, List.getElem?_cons_succ] at n4
   have k0 := zaa (zaa HCI.out.1 h0) hb0
   have k1 := zaa (zaa HCI.out.2 h0) hb0
   have hNa := (HNa.out.up h0).up hb0
   have hNb := (HNb.out.up h0).up hb0
   have d0 := hNa.kind
   have d1 := hNa.num
   have d2 := hNa.name
   have d3 := hNa.attr
   have d4 := hNa.kids
   have d5 := hNa.at_
   have e0 := hNb.kind
   have e1 := hNb.num
   have e2 := hNb.name
   have e3 := hNb.attr
   have e4 := hNb.kids
   have e5 := hNb.at_
   clear hM1 hN1 hNa hNb
   have HC := hid (HV.out how HH.out.1 HH.out.2 HP.out (w.drew) (h0.trans ((hb0.mono h0.size).trans (Below.refl _ _).drew)) (Nat.le_trans hBs hb0.size))
   clear HV
   go_still_tail 22, (by kernel_rfl)
   change wpList _ _ _ _ _ (World.drew _)
   go_wp2_with fail
   refine HC.out.mono ?_
   rintro e w2 ⟨⟨v, rfl, hv⟩, hb2⟩
   have hbz : Below w.heap.size w w2 := (hb0.trans (Below.refl _ _).drew).trans (hb2.mono hb0.size)
   have HV2 := hid hv
   clear hv HC
   go_wp2_with fail
   go_ret
   exact ⟨⟨v, rfl, by rw [← HG.out]; exact HV2.out⟩, hbz⟩
 | true =>
   go_enter Tryz.func90, Tryz.ntmps90
   go_wp2_with fail
   refine (HCO.out _).mono ?_
   rintro e w1 ⟨rfl, hb1⟩
   clear HCO
   go_upto_region 3 with fail
   have hM1 := HM.out w1 hb1
   have hN1 := HN.out w1 hb1
   obtain ⟨c0, c1, c2, c3, c4, c5, c6, c7, c8⟩ := blk9 hM1
   have n4 := hN1.cell 4
   simp only [List.getElem?_cons_zero, List.getElem?_cons_succ] at n4
   have k0 := zaa (zaa HCI.out.1 h0) hb1
   have k1 := zaa (zaa HCI.out.2 h0) hb1
   have hNa := (HNa.out.up h0).up hb1
   have hNb := (HNb.out.up h0).up hb1
   have d0 := hNa.kind
   have d1 := hNa.num
   have d2 := hNa.name
   have d3 := hNa.attr
   have d4 := hNa.kids
   have d5 := hNa.at_
   have e0 := hNb.kind
   have e1 := hNb.num
   have e2 := hNb.name
   have e3 := hNb.attr
   have e4 := hNb.kids
   have e5 := hNb.at_
   clear hM1 hN1 hNa hNb
   have HC := hid (HV.out (compl how) compl_rng.1 compl_rng.2 (HP.out.compl true) (w1.drew) (h0.trans ((hb1.mono h0.size).trans (Below.refl _ _).drew)) (Nat.le_trans hBs hb1.size))
   clear HV
   go_still_tail 22, (by kernel_rfl)
   change wpList _ _ _ _ _ (World.drew _)
   go_wp2_with fail
   refine HC.out.mono ?_
   rintro e w2 ⟨⟨v, rfl, hv⟩, hb2⟩
   have hbz : Below w.heap.size w w2 := (hb1.trans (Below.refl _ _).drew).trans (hb2.mono hb1.size)
   have HV2 := hid hv
   clear hv HC
   go_wp2_with fail
   go_ret
   exact ⟨⟨v, rfl, by rw [← HG.out]; exact HV2.out⟩, hbz⟩
theorem of_any (w0 : World) (g : Bool) (k : Int) (f : F) (vs : List Value) (LA : Option Addr) (lc : Nat) (hf : f.size ≤ 100000) (hk1 : -100000 ≤ k) (hk2 : k ≤ 100000) (B : Nat) (hBs : B ≤ w0.heap.size) (hV : Vls B w0 LA vs) (hC : CvM B w0 f vs) (gb : Nat) (tb : TypeId) (w : World) (h0 : Below w0.heap.size w0 w) (hB : Blk w gb tb [.bool g]) :
 Calls Tryz.prog 93 #[.int .i64 k, .slice LA vs.length lc, .pointer (some ⟨gb, 0, none⟩)] w fun e w' => (∃ v, e = .returned v ∧ CvM B w' (ofT g k f) [v]) ∧ Below w.heap.size w w' := by
 have hvl : vs.length = f.len := hC.len
 have hfl := F.len_size f
 have hw1 : IntKind.i64.wrap ((vs.length : Int) - k) = (vs.length : Int) - k := IntWalk.i64_in _ (by omega)
 have hw2 : IntKind.i64.wrap ((vs.length : Int) - k + 1) = (vs.length : Int) - k + 1 := IntWalk.i64_in _ (by omega)
 have HT := hid (fun q (q1 : -1000000 ≤ q) (q2 : q ≤ 1000000) => threshold_any w0 q f vs LA lc hf q1 q2 B hBs hV hC w h0)
 have g0 := hB.cell 0
 simp only [List.getElem?_cons_zero] at g0
 have hbd : -1000000 ≤ (vs.length : Int) - k + 1 ∧ (vs.length : Int) - k + 1 ≤ 1000000 := by omega
 have HK := hid (And.intro (show -1000000 ≤ k by omega) (show k ≤ 1000000 by omega))
 have HBD := hid hbd
 have HVL := hid hvl
 clear hvl hfl hf hk1 hk2 hV hC hbd
 cases g with
 | false =>
   go_enter Tryz.func93, Tryz.ntmps93
   go_wp2_with fail
   refine (HT.out _ HK.out.1 HK.out.2).mono ?_
   rintro e w2 ⟨⟨v, rfl, hv⟩, hb2⟩
   have HV2 := hid hv
   clear hv HT
   go_wp2_with fail
   go_ret
   exact ⟨⟨v, rfl, HV2.out⟩, hb2⟩
 | true =>
   go_enter Tryz.func93, Tryz.ntmps93
   go_wp2_with fail
   refine (HT.out _ HBD.out.1 HBD.out.2).mono ?_
   rintro e w2 ⟨⟨v, rfl, hv⟩, hb2⟩
   have HV2 := hid hv
   clear hv HT
   go_wp2_with fail
   go_ret
   exact ⟨⟨v, rfl, by rw [HVL.out] at HV2; exact HV2.out⟩, hb2⟩
theorem kind_any {d : Po} {L : Lp} {A : Option Addr} {c : Nat} {S : List Sm} {w0 : World} (E : Env w0 d L A c S) (n : Nk) (KA : Option Addr) (kc : Nat) (hI : Ints w0 KA n.kids) (hkl : n.kids.length ≤ 1000000) (i ix : Nat) (a : Nk) (hi : Kid d n.kids i ix a) (gm gn : Nat) (tm tn : TypeId) (w : World) (h0 : Below w0.heap.size w0 w) (hM : Blk w gm tm (fitC d L A S.length c)) (hN : Blk w gn tn (nkcs n KA kc)) :
 Calls Tryz.prog 96 #[.int .i64 (i : Int), .pointer (some ⟨gm, 0, none⟩), .pointer (some ⟨gn, 0, none⟩)] w fun e w' => e = .returned (.int .i64 a.kind) ∧ Below w.heap.size w w' := by
 obtain ⟨ua, uc, ra, rc, na, nc⟩ := L
 obtain ⟨ad, QA, qa, hA, hNa⟩ := E.p.ns.at_ ix a hi.nd
 change na = some ad at hA
 subst hA
 obtain ⟨ka, hKA, ci⟩ := hI.at_ i _ hi.at_
 subst hKA
 have h1 := (List.getElem?_eq_some_iff.1 hi.at_).1
 have h3 := (List.getElem?_eq_some_iff.1 hi.nd).1
 have i1 : (i : Int) < (n.kids.length : Int) := by omega
 have i3 : (ix : Int) < (d.nodes.length : Int) := by omega
 have z1 : (0 : Int) ≤ (i : Int) := by omega
 have z3 : (0 : Int) ≤ (ix : Int) := by omega
 obtain ⟨c0, c1, c2, c3, c4, c5, c6, c7, c8⟩ := blk9 hM
 have n4 := hN.cell 4
 simp only [List.getElem?_cons_zero, List.getElem?_cons_succ] at n4
 have k0 := zaa ci h0
 have d0 := (hNa.up h0).kind
 clear E hI hi hNa hM hN ci h1 h3
 go_enter Tryz.func96, Tryz.ntmps96
 go_upto_region 1 with fail
 go_quiet (fail)
 go_wp2_with fail
 go_ret
 exact ⟨rfl, zad (Below.refl _ _) _⟩
end Go.Proofs.YtekkapgknohadaaGreatDoor.Nf
