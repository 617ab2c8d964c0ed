/- normal: norm, a lemma for each kind. Printed by mkty.py. -/
import Derived.Test.YtekkapgknohadaaGreatDoorM44
import Derived.Test.YtekkapgknohadaaGreatDoorM41
set_option linter.unusedVariables false
set_option maxRecDepth 20000
set_option maxHeartbeats 64000000
namespace Go.Proofs.YtekkapgknohadaaGreatDoor.Nf
open Go.RowKit Go.Shelf
open Lib (hid)
open Pa (F Nd)
def btwF (L : Look) (g : Bool) (a b z : Nd) : F := if g = false ∧ a.kind = 9 ∧ b.kind = 10 ∧ z.kind = 10 then within L a b.num z.num else ofT g 2 ((cmpd L g 5 a b).app (cmpd L g 3 a z))
def Carries (its : List It) (B : Nat) (f : F) (vs : List Value) : Prop := ∀ W, (∀ x ∈ its, x.P W) → CvM B W f vs
theorem Carries.snoc {its : List It} {B lo : Nat} {W1 : World} {f t : F} {vs us : List Value} (h : Carries its B f vs) (hB : B ≤ lo) : Carries (icv lo W1 t us :: its) B (f.app t) (vs ++ us) := fun W hW => by
 have h1 : (icv lo W1 t us).P W := hW _ (List.mem_cons_self ..)
 exact (h W fun x hx => hW x (List.mem_cons_of_mem _ hx)).app ((h1.1.agree h1.2).low hB)
theorem CvM.form {B : Nat} {W : World} {f : F} {v : Value} (h : CvM B W f [v]) : ∃ T pl, v = .iface T pl := by
 cases f with
 | nil => cases h
 | cons x ks r =>
   obtain ⟨v', us, e, -, h3⟩ := h
   injection e with e1 _
   subst e1
   by_cases hk : x.kind = 5
   ·rw [if_pos hk] at h3
    obtain ⟨-, A, c, ws, rfl, -⟩ := h3
    exact ⟨_, _, rfl⟩
   ·rw [if_neg hk] at h3
    obtain ⟨-, A, c, rfl, -⟩ := h3
    exact ⟨_, _, rfl⟩
theorem Carries.at_ {o : List Nat} {w W : World} {a its : List It} {B : Nat} {f : F} {vs : List Value} (h : Carries its B f vs) (hH : Hp o w (a ++ its) W) : CvM B W f vs := h W fun x hx => hH.sep.ok x (List.mem_append_right _ hx)
def numG (n : Nk) (l : Nat) : Int := if n.kind = 3 then l else if n.kind = 4 then 1 else n.num
inductive NCs (d : Po) (L : Lp) (A : Option Addr) (c : Nat) (S : List Sm) (w0 : World) (n : Nk) (g : Bool) : F → Prop
 | k0 (hkind : n.kind = 0) : NCs d L A c S w0 n g (tru (true != g))
 | k1 (hkind : n.kind = 1) : NCs d L A c S w0 n g (tru (false != g))
 | k2 (hkind : n.kind = 2) (k0 : Int) (hk0 : n.kids = [k0]) (T : Bool → F) (IH : ∀ g W, Below w0.heap.size w0 W → ∀ B, B ≤ W.heap.size → Calls Tryz.prog 30 #[fitV d L A S.length c, .int .i64 k0, .bool g] W fun e w' => (∃ v, e = .returned v ∧ CvM B w' (T g) [v]) ∧ Below W.heap.size W w') : NCs d L A c S w0 n g (T !g)
 | k6 (hkind : n.kind = 6) (hh : 0 ≤ n.num) (hh5 : n.num ≤ 5) (ix kx : Nat) (a b : Nk) (ha : Kid d n.kids 0 ix a) (hb9 : Kid d n.kids 1 kx b) (hP : Pr (lookS S d.uses) n.num (ndOf a) (ndOf b)) : NCs d L A c S w0 n g (cmpd (lookS S d.uses) g n.num (ndOf a) (ndOf b))
 | k7 (hkind : n.kind = 7) (ia ib iz : Nat) (a b z : Nk) (ha : Kid d n.kids 0 ia a) (hb9 : Kid d n.kids 1 ib b) (hz9 : Kid d n.kids 2 iz z) (hP1 : ∀ h, Pr (lookS S d.uses) h (ndOf a) (ndOf b)) (hP2 : ∀ h, Pr (lookS S d.uses) h (ndOf a) (ndOf z)) (hfd : a.kind = 9 → ∃ fd, findS S d.uses a.name a.attr = some fd) : NCs d L A c S w0 n g (btwF (lookS S d.uses) g (ndOf a) (ndOf b) (ndOf z))
 | k8 (hkind : n.kind = 8) (ix : Nat) (a : Nk) (hlz : 2 ≤ n.kids.length ∧ n.kids.length ≤ 10000) (ha : Kid d n.kids 0 ix a) (hj : ∀ j, 1 ≤ j → j < n.kids.length → ∃ jx b, Kid d n.kids j jx b ∧ (za3 d.nodes n.kids)[j]? = some (ndOf b) ∧ Pr (lookS S d.uses) 0 (ndOf a) (ndOf b)) : NCs d L A c S w0 n g (ofT g 1 (F.cat (((za3 d.nodes n.kids).drop 1).map (cmpd (lookS S d.uses) g 0 (ndOf a)))))
 | kg (hkind : n.kind = 3 ∨ n.kind = 4 ∨ n.kind = 5) (t : Int → F) (hsz : n.kids.length ≤ 10000 ∧ (F.cat (n.kids.map t)).size ≤ 100000) (hnum : 0 ≤ n.num ∧ n.num ≤ 100000) (IH : ∀ k ∈ n.kids, ∀ W, Below w0.heap.size w0 W → ∀ B, B ≤ W.heap.size → Calls Tryz.prog 30 #[fitV d L A S.length c, .int .i64 k, .bool g] W fun e w' => (∃ v, e = .returned v ∧ CvM B w' (t k) [v]) ∧ Below W.heap.size W w') : NCs d L A c S w0 n g (ofT g (numG n (F.cat (n.kids.map t)).len) (F.cat (n.kids.map t)))
theorem zb0 {d : Po} {L : Lp} {A : Option Addr} {c : Nat} {S : List Sm} {w0 : World} (E : Env w0 d L A c S) (hR : za9 chkB S d = true) (i : Nat) (n : Nk) (hn : d.nodes[i]? = some n) (g : Bool) (w : World) (h0 : Below w0.heap.size w0 w) (B : Nat) (hBs : B ≤ w.heap.size) (R : F) (HNC : Hid (NCs d L A c S w0 n g R)) :
 Calls Tryz.prog 30 #[fitV d L A S.length c, .int .i64 (i : Int), .bool g] w fun e w' => (∃ v, e = .returned v ∧ CvM B w' R [v]) ∧ Below w.heap.size w w' := by
 obtain ⟨ua, uc, ra, rc, na, nc⟩ := L
 obtain ⟨ad, KA, kc, hA, hN0⟩ := E.p.ns.at_ i n hn
 change na = some ad at hA
 subst hA
 have hkl : n.kids.length ≤ 1000000 := (E.pd.ns n (List.mem_of_getElem? hn)).kids
 have hil := (List.getElem?_eq_some_iff.1 hn).1
 have hii : (i : Int) < (d.nodes.length : Int) := by omega
 have hi0 : (0 : Int) ≤ (i : Int) := by omega
 have HE0 := hid E
 have HR0 := hid hR
 have HN0 := hid hN0
 have hN := hN0.up h0
 have hk := ((Hp.start w).new 93 (fitC d ⟨ua, uc, ra, rc, some ad, nc⟩ A S.length c)).new 4 [.bool g]
 obtain ⟨gm, hg⟩ : ∃ g, w.heap.size = g := ⟨_, rfl⟩
 obtain ⟨q, hq⟩ : ∃ f, gm + 1 = f := ⟨_, rfl⟩
 simp only [sizeA, hg] at hk
 have hN1 := hid (hN.up hk.below0)
 clear hN hN0 hn hil E hR
 go_enter Tryz.func30, Tryz.ntmps30
 go_upto_region 1 with fail
 simp only [hq] at hk ⊢
 have hk1 : Hp [] w [iblk q 4 [.bool g], iblk gm 93 (fitC d ⟨ua, uc, ra, rc, some ad, nc⟩ A S.length c)] ((w.alloc (.cells #[.string d.name, .slice ua d.uses.length uc, .slice ra d.reveal.length rc, .slice (some ad) d.nodes.length nc, .int .i64 d.root, .string d.scope, .int .i64 d.limit, .string d.escrow, .slice A S.length c] 93)).alloc (.cells #[.bool g] 4)) := hk
 have hN1 : Hid (NodeAt ((w.alloc (.cells #[.string d.name, .slice ua d.uses.length uc, .slice ra d.reveal.length rc, .slice (some ad) d.nodes.length nc, .int .i64 d.root, .string d.scope, .int .i64 d.limit, .string d.escrow, .slice A S.length c] 93)).alloc (.cells #[.bool g] 4)) (ad.add (i * 6)) n KA kc) := hN1
 generalize (w.alloc (.cells #[.string d.name, .slice ua d.uses.length uc, .slice ra d.reveal.length rc, .slice (some ad) d.nodes.length nc, .int .i64 d.root, .string d.scope, .int .i64 d.limit, .string d.escrow, .slice A S.length c] 93)).alloc (.cells #[.bool g] 4) = W1 at *
 clear hk hq
 obtain ⟨d0, d1, d2, d3, d4, d5, -, -⟩ := hN1.out
 obtain ⟨c0, c1, c2, c3, c4, c5, c6, c7, c8⟩ := blk9 (hk1.blk 1 rfl)
 have hk2 := hk1.new 68 (nkcs n KA kc)
 go_upto_region 2 with fail
 have hk2 : Hp [] w [iblk W1.heap.size 68 (nkcs n KA kc), iblk q 4 [.bool g], iblk gm 93 (fitC d ⟨ua, uc, ra, rc, some ad, nc⟩ A S.length c)] (W1.alloc (.cells #[.int .i64 n.kind, .int .i64 n.num, .string n.name, .string n.attr, .slice KA n.kids.length kc, .int .i64 n.at_] 68)) := hk2
 generalize W1.alloc (.cells #[.int .i64 n.kind, .int .i64 n.num, .string n.name, .string n.attr, .slice KA n.kids.length kc, .int .i64 n.at_] 68) = W2 at *
 generalize W1.heap.size = p at *
 clear hk1 hN1 c0 c1 c2 c3 c4 c5 c6 c7 c8 d0 d1 d2 d3 d4 d5
 obtain ⟨d0, d1, d2, d3, d4, d5⟩ := Blk.get6 (hk2.blk 0 rfl)
 have g0 := (hk2.blk 1 rfl).cell 0
 simp only [List.getElem?_cons_zero] at g0
 obtain ⟨c0, c1, c2, c3, c4, c5, c6, c7, c8⟩ := blk9 (hk2.blk 2 rfl)
 have E := HE0.out
 have hR := HR0.out
 have hN0 := HN0.out
 cases HNC.out with
 | k0 hkind =>
   have kq0 : (n.kind == 0) = true := by rw [hkind]; rfl
   have kq1 : (n.kind == 1) = false := by rw [hkind]; rfl
   have kq2 : (n.kind == 2) = false := by rw [hkind]; rfl
   have kq6 : (n.kind == 6) = false := by rw [hkind]; rfl
   have kq7 : (n.kind == 7) = false := by rw [hkind]; rfl
   have kq8 : (n.kind == 8) = false := by rw [hkind]; rfl
   have HT := hid (fun b W => za8 b W B)
   clear hN0 E hR HE0 HR0
   clear hkind
   cases g
   all_goals
    go_wp2_with fail
    refine (HT.out _ _).mono ?_
    rintro e w4 ⟨⟨v, rfl, hv⟩, hb4⟩
    have hk4 := hk2.next hb4
    have HV2 := hid hv
    clear hv
    go_wp2_with fail
    go_ret
    have hb := hk4.below0
    exact ⟨⟨v, rfl, HV2.out⟩, by first | exact hb | (subst hg; exact hb)⟩
 | k1 hkind =>
   have kq0 : (n.kind == 0) = false := by rw [hkind]; rfl
   have kq1 : (n.kind == 1) = true := by rw [hkind]; rfl
   have kq2 : (n.kind == 2) = false := by rw [hkind]; rfl
   have kq6 : (n.kind == 6) = false := by rw [hkind]; rfl
   have kq7 : (n.kind == 7) = false := by rw [hkind]; rfl
   have kq8 : (n.kind == 8) = false := by rw [hkind]; rfl
   have HT := hid (fun b W => za8 b W B)
   clear hN0 E hR HE0 HR0
   clear hkind
   cases g
   all_goals
    go_wp2_with fail
    refine (HT.out _ _).mono ?_
    rintro e w4 ⟨⟨v, rfl, hv⟩, hb4⟩
    have hk4 := hk2.next hb4
    have HV2 := hid hv
    clear hv
    go_wp2_with fail
    go_ret
    have hb := hk4.below0
    exact ⟨⟨v, rfl, HV2.out⟩, by first | exact hb | (subst hg; exact hb)⟩
 | k2 hkind k0 hk0 T IH =>
   have kq0 : (n.kind == 0) = false := by rw [hkind]; rfl
   have kq1 : (n.kind == 1) = false := by rw [hkind]; rfl
   have kq2 : (n.kind == 2) = true := by rw [hkind]; rfl
   have kq6 : (n.kind == 6) = false := by rw [hkind]; rfl
   have kq7 : (n.kind == 7) = false := by rw [hkind]; rfl
   have kq8 : (n.kind == 8) = false := by rw [hkind]; rfl
   obtain ⟨ka, hKA, ck⟩ := hN0.ints.at_ 0 k0 (by rw [hk0]; rfl)
   have hl1 : (0 : Int) < (n.kids.length : Int) := by rw [hk0]; simp
   have hl2 : 0 < n.kids.length := by rw [hk0]; simp
   have HK := hid (And.intro hKA ck)
   have HI := hid (IH (!g))
   clear hk0 hKA ck
   clear hN0 E hR HE0 HR0
   clear hkind
   obtain ⟨hKA, ck⟩ := HK.out
   subst hKA
   have ck1 := zaa (zaa ck h0) hk2.below0
   rw [show ka.add 0 = ka from rfl] at ck1
   go_upto_region 10 with fail
   go_still_tail 7, (by kernel_rfl)
   change wpList _ _ _ _ _ (World.drew _)
   have hkd := hk2.drew
   have HC := hid (HI.out _ (h0.trans (hkd.below0.mono h0.size)) B (Nat.le_trans hBs hkd.size))
   cases g
   all_goals
    go_wp2_with fail
    refine HC.out.mono ?_
    rintro e w4 ⟨⟨v, rfl, hv⟩, hb4⟩
    have hk4 := hkd.next hb4
    have HV2 := hid hv
    clear hv
    go_wp2_with fail
    go_ret
    have hb := hk4.below0
    exact ⟨⟨v, rfl, HV2.out⟩, by first | exact hb | (subst hg; exact hb)⟩
 | k6 hkind hh hh5 ix kx a b ha hb9 hP =>
   have kq0 : (n.kind == 0) = false := by rw [hkind]; rfl
   have kq1 : (n.kind == 1) = false := by rw [hkind]; rfl
   have kq2 : (n.kind == 2) = false := by rw [hkind]; rfl
   have kq6 : (n.kind == 6) = true := by rw [hkind]; rfl
   have kq7 : (n.kind == 7) = false := by rw [hkind]; rfl
   have kq8 : (n.kind == 8) = false := by rw [hkind]; rfl
   have HC0 := hid (fun gb gm gn tb tm tn W hW hq hB hM hN => cmpd_any E hR g n KA kc hN0.ints hkl n.num hh hh5 0 1 ix kx a b ha hb9 hP gb gm gn tb tm tn W hW B hq hB hM hN)
   clear ha hb9 hP hh hh5
   clear hN0 E hR HE0 HR0
   clear hkind
   have HC := hid (HC0.out _ _ _ _ _ _ W2 (h0.trans (hk2.below0.mono h0.size)) (Nat.le_trans hBs hk2.size) (hk2.blk 1 rfl) (hk2.blk 2 rfl) (hk2.blk 0 rfl))
   go_wp2_with fail
   refine HC.out.mono ?_
   rintro e w4 ⟨⟨v, rfl, hv⟩, hb4⟩
   have hk4 := hk2.next hb4
   have HV2 := hid hv
   clear hv
   go_wp2_with fail
   go_ret
   have hb := hk4.below0
   exact ⟨⟨v, rfl, HV2.out⟩, by first | exact hb | (subst hg; exact hb)⟩
 | k7 hkind ia ib iz a b z ha hb9 hz9 hP1 hP2 hfd =>
   have kq0 : (n.kind == 0) = false := by rw [hkind]; rfl
   have kq1 : (n.kind == 1) = false := by rw [hkind]; rfl
   have kq2 : (n.kind == 2) = false := by rw [hkind]; rfl
   have kq6 : (n.kind == 6) = false := by rw [hkind]; rfl
   have kq7 : (n.kind == 7) = true := by rw [hkind]; rfl
   have kq8 : (n.kind == 8) = false := by rw [hkind]; rfl
   have HE := hid E
   have HA := hid (And.intro ha (And.intro hb9 hz9))
   have HR := hid hR
   have HP := hid (And.intro hP1 hP2)
   have HFD := hid hfd
   clear ha hb9 hz9 hP1 hP2 hfd
   clear hN0 E hR HE0 HR0
   clear hkind
   have HN0 := hid (HN0.out)
   go_upto_region 15 with fail
   go_cut [69] (fun s69 wx => s69 = .bool (decide (g = false ∧ a.kind = 9 ∧ b.kind = 10 ∧ z.kind = 10)) ∧ Hp [] w [iblk p 68 (nkcs n KA kc), iblk q 4 [.bool g], iblk gm 93 (fitC d ⟨ua, uc, ra, rc, some ad, nc⟩ A S.length c)] wx)
   case first =>
    have HK0 := hid (fun W hW (hM : Blk W gm 93 _) (hN : Blk W p 68 _) => kind_any HE.out n KA kc HN0.out.ints hkl 0 ia a HA.out.1 gm p _ _ W hW hM hN)
    have HK1 := hid (fun W hW (hM : Blk W gm 93 _) (hN : Blk W p 68 _) => kind_any HE.out n KA kc HN0.out.ints hkl 1 ib b HA.out.2.1 gm p _ _ W hW hM hN)
    have HK2 := hid (fun W hW (hM : Blk W gm 93 _) (hN : Blk W p 68 _) => kind_any HE.out n KA kc HN0.out.ints hkl 2 iz z HA.out.2.2 gm p _ _ W hW hM hN)
    clear d0 d1 d2 d3 d4 d5 c0 c1 c2 c3 c4 c5 c6 c7 c8
    cases g with
    | true =>
      go_wp2_with fail
      go_meet
      exact ⟨by simp, hk2⟩
    | false =>
      go_wp2_with fail
      refine (HK0.out W2 (h0.trans (hk2.below0.mono h0.size)) (hk2.blk 2 rfl) (hk2.blk 0 rfl)).mono ?_
      rintro e w3 ⟨rfl, hb3⟩
      have hk3 := hk2.next hb3
      by_cases e0 : a.kind = 9
      ·have f0 : (a.kind == 9) = true := by simpa using e0
       go_wp2_with fail
       refine (HK1.out w3 (h0.trans (hk3.below0.mono h0.size)) (hk3.blk 2 rfl) (hk3.blk 0 rfl)).mono ?_
       rintro e w4 ⟨rfl, hb4⟩
       have hk4 := hk3.next hb4
       by_cases e1 : b.kind = 10
       ·have f1 : (b.kind == 10) = true := by simpa using e1
        go_wp2_with fail
        refine (HK2.out w4 (h0.trans (hk4.below0.mono h0.size)) (hk4.blk 2 rfl) (hk4.blk 0 rfl)).mono ?_
        rintro e w5 ⟨rfl, hb5⟩
        have hk5 := hk4.next hb5
        by_cases e2 : z.kind = 10
        ·have f2 : (z.kind == 10) = true := by simpa using e2
         have HX : Hid (decide (True ∧ a.kind = 9 ∧ b.kind = 10 ∧ z.kind = 10) = true) := hid (by exact decide_eq_true ⟨trivial, e0, e1, e2⟩)
         clear e0 e1 e2
         go_wp2_with fail
         go_meet
         exact ⟨by rw [HX.out], hk5⟩
        ·have f2 : (z.kind == 10) = false := by simpa using e2
         have HX : Hid (decide (True ∧ a.kind = 9 ∧ b.kind = 10 ∧ z.kind = 10) = false) := hid (by exact decide_eq_false (fun h => e2 h.2.2.2 ))
         clear e0 e1 e2
         go_wp2_with fail
         go_meet
         exact ⟨by rw [HX.out], hk5⟩
       ·have f1 : (b.kind == 10) = false := by simpa using e1
        have HX : Hid (decide (True ∧ a.kind = 9 ∧ b.kind = 10 ∧ z.kind = 10) = false) := hid (by exact decide_eq_false (fun h => e1 h.2.2.1 ))
        clear e0 e1
        go_wp2_with fail
        go_meet
        exact ⟨by rw [HX.out], hk4⟩
      ·have f0 : (a.kind == 9) = false := by simpa using e0
       have HX : Hid (decide (True ∧ a.kind = 9 ∧ b.kind = 10 ∧ z.kind = 10) = false) := hid (by exact decide_eq_false (fun h => e0 h.2.1 ))
       clear e0
       go_wp2_with fail
       go_meet
       exact ⟨by rw [HX.out], hk3⟩
   case rest =>
    clear hk2 d0 d1 d2 d3 d4 d5 g0 c0 c1 c2 c3 c4 c5 c6 c7 c8
    obtain ⟨rfl, hk3⟩ := hcut
    obtain ⟨T, hT⟩ : ∃ t, decide (g = false ∧ a.kind = 9 ∧ b.kind = 10 ∧ z.kind = 10) = t := ⟨_, rfl⟩
    rw [hT]
    cases T with
    | true =>
      have hT2 := of_decide_eq_true hT
      obtain ⟨fd, hf⟩ := HFD.out hT2.2.1
      have HV : Hid (btwF (lookS S d.uses) g (ndOf a) (ndOf b) (ndOf z) = withB fd (ndOf a) (max b.num fd.min) (min z.num fd.max)) := hid (by
       unfold btwF
       rw [if_pos ⟨hT2.1, (zas HA.out.1.a0 9).2 hT2.2.1, (zas HA.out.2.1.a0 10).2 hT2.2.2.1, (zas HA.out.2.2.a0 10).2 hT2.2.2.2⟩]
       unfold within
       rw [fdOf_nd hf]
       rfl)
      obtain ⟨x1, QA, qa, e1, hNa⟩ := HE.out.p.ns.at_ ia a HA.out.1.nd
      obtain ⟨x2, QB, qb, e2, hNb⟩ := HE.out.p.ns.at_ ib b HA.out.2.1.nd
      obtain ⟨x3, QZ, qz, e3, hNz⟩ := HE.out.p.ns.at_ iz z HA.out.2.2.nd
      injection (e1 : some ad = some x1) with e1
      injection (e2 : some ad = some x2) with e2
      injection (e3 : some ad = some x3) with e3
      subst e1 e2 e3
      obtain ⟨y1, hKA, k1⟩ := HN0.out.ints.at_ 0 _ HA.out.1.at_
      obtain ⟨y2, hKA2, k2⟩ := HN0.out.ints.at_ 1 _ HA.out.2.1.at_
      obtain ⟨y3, hKA3, k3⟩ := HN0.out.ints.at_ 2 _ HA.out.2.2.at_
      subst hKA
      injection hKA2 with hKA2
      injection hKA3 with hKA3
      subst hKA2 hKA3
      have l3 := (List.getElem?_eq_some_iff.1 HA.out.2.2.at_).1
      have l4 := (List.getElem?_eq_some_iff.1 HA.out.1.nd).1
      have l5 := (List.getElem?_eq_some_iff.1 HA.out.2.1.nd).1
      have l6 := (List.getElem?_eq_some_iff.1 HA.out.2.2.nd).1
      have i1 : (0 : Int) < (n.kids.length : Int) := by omega
      have i2 : (1 : Int) < (n.kids.length : Int) := by omega
      have i3 : (2 : Int) < (n.kids.length : Int) := by omega
      have j1 : 0 < n.kids.length := by omega
      have j2 : 1 < n.kids.length := by omega
      have j3 : 2 < n.kids.length := by omega
      have i4 : (ia : Int) < (d.nodes.length : Int) := by omega
      have i5 : (ib : Int) < (d.nodes.length : Int) := by omega
      have i6 : (iz : Int) < (d.nodes.length : Int) := by omega
      have z4 : (0 : Int) ≤ (ia : Int) := by omega
      have z5 : (0 : Int) ≤ (ib : Int) := by omega
      have z6 : (0 : Int) ≤ (iz : Int) := by omega
      replace k1 := zaa (zaa k1 h0) hk3.below0
      rw [show ∀ a : Addr, a.add 0 = a from fun _ => rfl] at k1
      replace k2 := zaa (zaa k2 h0) hk3.below0
      replace k3 := zaa (zaa k3 h0) hk3.below0
      rw [show ∀ a : Addr, a.add 1 = ⟨a.block, a.off + 1, none⟩ from fun _ => rfl] at k2
      rw [show ∀ a : Addr, a.add 2 = ⟨a.block, a.off + 2, none⟩ from fun _ => rfl] at k3
      replace hNa := (hNa.up h0).up hk3.below0
      replace hNb := (hNb.up h0).up hk3.below0
      replace hNz := (hNz.up h0).up hk3.below0
      have a0 := hNa.kind
      have a1 := hNa.num
      have a2 := hNa.name
      have a3 := hNa.attr
      have a4 := hNa.kids
      have a5 := hNa.at_
      have b1 := hNb.num
      have b2 := hNz.num
      obtain ⟨c0, c1, c2, c3, c4, c5, c6, c7, c8⟩ := blk9 (hk3.blk 2 rfl)
      have d4 := (hk3.blk 0 rfl).cell 4
      simp only [List.getElem?_cons_zero, List.getElem?_cons_succ] at d4
      have hkd := hk3.drew
      have HC := hid (within_any HE.out HR.out a HA.out.1.a0 QA qa fd hf (by have := (fdB_of HR.out hf).wl; omega) b.num z.num _ (h0.trans (hkd.below0.mono h0.size)) B (Nat.le_trans hBs hkd.size))
      clear hT hT2 hf HFD HP HR HE HN0 hNa hNb hNz l3 l4 l5 l6 HA
      go_upto_region 16 with fail
      go_still_tail 30, (by kernel_rfl)
      change wpList _ _ _ _ _ (World.drew _)
      go_wp2_with fail
      refine HC.out.mono ?_
      rintro e w4 ⟨⟨v, rfl, hv⟩, hb4⟩
      have hk4 := hkd.next hb4
      have HV2 := hid hv
      clear hv
      go_wp2_with fail
      go_ret
      have hb := hk4.below0
      exact ⟨⟨v, rfl, by rw [HV.out]; exact HV2.out⟩, by first | exact hb | (subst hg; exact hb)⟩
    | false =>
      have hT2 := of_decide_eq_false hT
      have HV : Hid (btwF (lookS S d.uses) g (ndOf a) (ndOf b) (ndOf z) = ofT g 2 ((cmpd (lookS S d.uses) g 5 (ndOf a) (ndOf b)).app (cmpd (lookS S d.uses) g 3 (ndOf a) (ndOf z)))) := hid (by
       unfold btwF
       rw [if_neg (fun e => hT2 ⟨e.1, (zas HA.out.1.a0 9).1 e.2.1, (zas HA.out.2.1.a0 10).1 e.2.2.1, (zas HA.out.2.2.a0 10).1 e.2.2.2⟩)])
      have HC5 := hid (cmpd_any HE.out HR.out g n KA kc HN0.out.ints hkl 5 (by decide) (by decide) 0 1 ia ib a b HA.out.1 HA.out.2.1 (HP.out.1 5) q gm p _ _ _ wc (h0.trans (hk3.below0.mono h0.size)) wc.heap.size (Nat.le_refl _) (hk3.blk 1 rfl) (hk3.blk 2 rfl) (hk3.blk 0 rfl))
      have HC3 := hid (fun W hW hM hN hB => cmpd_any HE.out HR.out g n KA kc HN0.out.ints hkl 3 (by decide) (by decide) 0 2 ia iz a z HA.out.1 HA.out.2.2 (HP.out.2 3) q gm p 4 93 68 W hW W.heap.size (Nat.le_refl _) hB hM hN)
      have hs5 := zcg (lookS S d.uses) g 5 (ndOf a) (ndOf b)
      have hs3 := zcg (lookS S d.uses) g 3 (ndOf a) (ndOf z)
      have HSZ : Hid (((cmpd (lookS S d.uses) g 5 (ndOf a) (ndOf b)).app (cmpd (lookS S d.uses) g 3 (ndOf a) (ndOf z))).size ≤ 100000) := hid (by rw [F.size_app]; omega)
      generalize cmpd (lookS S d.uses) g 5 (ndOf a) (ndOf b) = T1 at *
      generalize cmpd (lookS S d.uses) g 3 (ndOf a) (ndOf z) = T2 at *
      have hsw := Nat.le_trans hBs hk3.size
      clear hT hT2 HFD HP HR HE HN0 HA hs5 hs3
      go_wp2_with fail
      refine HC5.out.mono ?_
      rintro e w4 ⟨⟨v1, rfl, hv1⟩, hb4⟩
      obtain ⟨t1, pl1, rfl⟩ := CvM.form hv1
      have hk4 := Hp.cv hk3 hb4 hv1
      have HC := hid (HC3.out w4 (h0.trans (hk4.below0.mono h0.size)) (hk4.blk 3 rfl) (hk4.blk 1 rfl) (hk4.blk 2 rfl))
      clear HC5 HC3 hk3 hv1
      go_wp2_with fail
      refine HC.out.mono ?_
      rintro e w5 ⟨⟨v2, rfl, hv2⟩, hb5⟩
      obtain ⟨t2, pl2, rfl⟩ := CvM.form hv2
      have hk5 := Hp.cv hk4 hb5 hv2
      have hs4 := Nat.le_trans hBs hk4.size
      have hk6 := hk5.new 91 [.iface t1 pl1, .iface t2 pl2]
      have C1 := (Hp.cvm hk6 2 rfl).low hsw
      have C2 := (Hp.cvm hk6 1 rfl).low hs4
      have hrow := hk6.blk 0 rfl
      have HO := hid (of_any (w5.alloc (.cells [.iface t1 pl1, .iface t2 pl2].toArray 91)) g 2 (T1.app T2) [.iface t1 pl1, .iface t2 pl2] (some ⟨w5.heap.size, 0, none⟩) 2 HSZ.out (by decide) (by decide) B (Nat.le_trans hBs hk6.size) (fun i u hu => ⟨⟨w5.heap.size, 0, none⟩, rfl, Nat.le_trans hBs hk5.size, by rw [zcn]; exact (hrow.cell i).trans hu⟩) (C1.app C2) q 4 _ (Below.refl _ _) (hk6.blk 4 rfl))
      clear hk4 HC hv2 C1 C2 hrow
      go_wp2_with fail
      refine HO.out.mono ?_
      rintro e w7 ⟨⟨v, rfl, hv⟩, hb7⟩
      have hk7 := hk6.next hb7
      have HV2 := hid hv
      clear hv
      go_wp2_with fail
      go_ret
      have hb := hk7.below0
      exact ⟨⟨v, rfl, by rw [HV.out]; exact HV2.out⟩, by first | exact hb | (subst hg; exact hb)⟩
 | k8 hkind ix a hlz ha hj =>
   have kq0 : (n.kind == 0) = false := by rw [hkind]; rfl
   have kq1 : (n.kind == 1) = false := by rw [hkind]; rfl
   have kq2 : (n.kind == 2) = false := by rw [hkind]; rfl
   have kq6 : (n.kind == 6) = false := by rw [hkind]; rfl
   have kq7 : (n.kind == 7) = false := by rw [hkind]; rfl
   have kq8 : (n.kind == 8) = true := by rw [hkind]; rfl
   have HE := hid E
   have HR := hid hR
   have HA := hid ha
   have HJ := hid hj
   have HLZ := hid hlz
   clear ha hj
   clear hN0 E hR HE0 HR0
   clear hkind
   obtain ⟨i0, hi0', hz0, hz1, hz2⟩ := info_parts cond_info
   obtain ⟨t, ht⟩ : ∃ t : Nd → F, cmpd (lookS S d.uses) g 0 (ndOf a) = t := ⟨_, rfl⟩
   have HTT := hid (fun y => congrFun ht y)
   obtain ⟨Y, hY⟩ : ∃ Y, (za3 d.nodes n.kids).drop 1 = Y := ⟨_, rfl⟩
   have HY := hid hY
   have HYL : Hid (Y.length + 1 = n.kids.length) := hid (by rw [← hY, List.length_drop, List.length_map]; omega)
   have HSZ : Hid ((F.cat (Y.map t)).size ≤ 100000) := hid (by
    have h1 := zda (t := t) (fun y => by rw [← ht]; exact zcg _ _ _ _ _) Y
    have h2 := HYL.out
    omega)
   have HTX := hid ht
   have hkz : n.kids.length ≤ 10000 := HLZ.out.2
   have hk2l : 2 ≤ n.kids.length := HLZ.out.1
   clear ht hY hlz
   have hk3 := hk2.nilrow 91 1
   go_upto_region 20 with fail
   clear d0 d1 d2 d3 d4 d5 g0 c0 c1 c2 c3 c4 c5 c6 c7 c8 hk2
   go_loopg [10, 12] (n.kids.length - 1) (fun m s10 s12 wx => ∃ (j : Nat) (vs : List Value) (LA : Option Addr) (lc : Nat) (its : List It), 1 ≤ j ∧ j ≤ n.kids.length ∧ m = n.kids.length - j ∧ s10 = .slice LA vs.length lc ∧ s12 = .int .i64 (j : Int) ∧ vs.length ≤ j ∧ Hid (Carries its B (F.cat ((Y.take (j - 1)).map t)) vs) ∧ Hp [] w (zcf (.slice LA vs.length lc) vs :: iblk p 68 (nkcs n KA kc) :: iblk q 4 [.bool g] :: iblk gm 93 (fitC d ⟨ua, uc, ra, rc, some ad, nc⟩ A S.length c) :: its) wx)
   case atStart => exact ⟨1, [], none, 0, [], Nat.le_refl _, by omega, rfl, rfl, rfl, Nat.zero_le _, hid (fun W _ => rfl), hk3⟩
   case round =>
    obtain ⟨j, vs, LA, lc, its, hj1, hjn, rfl, rfl, rfl, hvj, HCA, hM⟩ := hrel
    clear hk3
    have d4 := (hM.blk 1 rfl).cell 4
    simp only [List.getElem?_cons_zero, List.getElem?_cons_succ] at d4
    by_cases hjl : j < n.kids.length
    ·have hjj : (j : Int) < (n.kids.length : Int) := by omega
     obtain ⟨jx, b, hb9, hy, hpr⟩ := HJ.out j hj1 hjl
     have HC := hid (cmpd_any HE.out HR.out g n KA kc HN0.out.ints hkl 0 (by decide) (by decide) 0 j ix jx a b HA.out hb9 hpr q gm p _ _ _ wr (h0.trans (hM.below0.mono h0.size)) wr.heap.size (Nat.le_refl _) (hM.blk 2 rfl) (hM.blk 3 rfl) (hM.blk 1 rfl))
     rw [HTT.out (ndOf b)] at HC
     have HT2 : Hid (F.cat ((Y.take (j + 1 - 1)).map t) = (F.cat ((Y.take (j - 1)).map t)).app (t (ndOf b))) := hid (by
      have h9 : Y[j - 1]? = some (ndOf b) := by rw [← HY.out, List.getElem?_drop, show 1 + (j - 1) = j by omega]; exact hy
      rw [show j + 1 - 1 = (j - 1) + 1 by omega, zbb h9, List.map_append, List.map_cons, List.map_nil, F.cat_snoc])
     generalize t (ndOf b) = T at *
     have hsw := Nat.le_trans hBs hM.size
     clear hb9 hy hpr
     go_wp2_with fail
     refine HC.out.mono ?_
     rintro e w4 ⟨⟨v, rfl, hv⟩, hb4⟩
     obtain ⟨t1, pl1, rfl⟩ := CvM.form hv
     have hk4 := Hp.cv hM hb4 hv
     have HCA2 := hid (HCA.out.snoc (W1 := w4) (t := T) (us := [.iface t1 pl1]) hsw)
     clear HC hM hv hb4 d4
     go_wp2_with (at_builtin; refine zac rfl _ _ 181 rfl 0 91 i0 _ 1 16 Tryz.underlying181 hi0' hz0 hz1 hz2 rfl (by decide) _ vs.length vs rfl ((hk4.alloc _).row 1 rfl) ⟨w4.heap.size, 0, none⟩ 1 1 [.iface t1 pl1] rfl rfl (new1p _ _ _) (by intro u hu; simp at hu; rw [hu]; rfl) (by decide) (by unfold maxLen; omega) (by omega) (Nat.zero_le _) ?_; intro v' w5 hown hgrow hat; obtain ⟨LA2, lc2, rfl⟩ := zag hown; have hk5 := ((hk4.alloc (.cells #[.iface t1 pl1] 91)).grown 1 rfl hown hgrow hat).perm (List.perm_middle (l₁ := [_, _, _, _])).symm; clear hown hgrow hat hk4)
     go_roundg (n.kids.length - (j + 1))
     case measure => omega
     case rel =>
      refine ⟨j + 1, vs ++ [.iface t1 pl1], LA2, lc2, _ :: its, by omega, hjl, rfl, by rw [List.length_append]; rfl, by first | rfl | simp, by rw [List.length_append]; simp; omega, hid (by rw [HT2.out]; exact HCA2.out), ?_⟩
      unfold zcf
      rw [List.length_append]
      exact hk5
    ·have hjj : ¬ (j : Int) < (n.kids.length : Int) := by omega
     have HTK : Hid (Y.take (j - 1) = Y) := hid (List.take_of_length_le (by have := HYL.out; omega))
     rw [HTK.out] at HCA
     have HCM := hid (HCA.out.at_ (a := [zcf (.slice LA vs.length lc) vs, iblk p 68 (nkcs n KA kc), iblk q 4 [.bool g], iblk gm 93 (fitC d ⟨ua, uc, ra, rc, some ad, nc⟩ A S.length c)]) hM)
     have HO := hid (of_any wr g 1 _ vs LA lc HSZ.out (by decide) (by decide) B (Nat.le_trans hBs hM.size) (vls_row (hM.row 0 rfl) rfl (fun ag e => Nat.le_trans hBs (hM.ge (by rw [show LA = some ag from e]; simp [ow, irow, Value.ownBlock])))) HCM.out q 4 wr (Below.refl _ _) (hM.blk 2 rfl))
     clear HE HR HA HJ HN0
     go_wp2_with fail
     refine HO.out.mono ?_
     rintro e w7 ⟨⟨v, rfl, hv⟩, hb7⟩
     have hk7 := hM.next hb7
     have HV2 := hid hv
     clear hv
     go_wp2_with fail
     go_ret
     have hb := hk7.below0
     exact ⟨⟨v, rfl, by have h9 := HV2.out; rw [← HY.out, ← HTX.out] at h9; exact h9⟩, by first | exact hb | (subst hg; exact hb)⟩
 | kg hkind t hsz hnum IH =>
   rcases hkind with hkind | hkind | hkind
   all_goals
    have kq0 : (n.kind == 0) = false := by rw [hkind]; rfl
    have kq1 : (n.kind == 1) = false := by rw [hkind]; rfl
    have kq2 : (n.kind == 2) = false := by rw [hkind]; rfl
    have kq6 : (n.kind == 6) = false := by rw [hkind]; rfl
    have kq7 : (n.kind == 7) = false := by rw [hkind]; rfl
    have kq8 : (n.kind == 8) = false := by rw [hkind]; rfl
    first | (have kq3 : (n.kind == 3) = true := by rw [hkind]; rfl) | (have kq3 : (n.kind == 3) = false := by rw [hkind]; rfl)
    first | (have kq4 : (n.kind == 4) = true := by rw [hkind]; rfl) | (have kq4 : (n.kind == 4) = false := by rw [hkind]; rfl)
    have HIH := hid IH
    have HSZ := hid hsz
    have HNM := hid hnum
    clear IH hsz hnum
    clear hN0 E hR HE0 HR0
    have HKD := hid hkind
    clear hkind
    obtain ⟨i0, hi0', hz0, hz1, hz2⟩ := info_parts cond_info
    have hkz : n.kids.length ≤ 100000 := by
     have h1 := HSZ.out.1
     omega
    have hk3 := hk2.nilrow 91 1
    go_upto_region 25 with fail
    clear d0 d1 d2 d3 d4 d5 g0 c0 c1 c2 c3 c4 c5 c6 c7 c8 hk2
    go_loopg [10, 129] n.kids.length (fun m s10 s129 wx => ∃ (j : Nat) (vs : List Value) (LA : Option Addr) (lc : Nat) (its : List It), j ≤ n.kids.length ∧ m = n.kids.length - j ∧ s10 = .slice LA vs.length lc ∧ s129 = .int .i64 (j : Int) ∧ vs.length ≤ j ∧ Hid (Carries its B (F.cat ((n.kids.take j).map t)) vs) ∧ Hp [] w (zcf (.slice LA vs.length lc) vs :: iblk p 68 (nkcs n KA kc) :: iblk q 4 [.bool g] :: iblk gm 93 (fitC d ⟨ua, uc, ra, rc, some ad, nc⟩ A S.length c) :: its) wx)
    case atStart => exact ⟨0, [], none, 0, [], Nat.zero_le _, rfl, rfl, rfl, Nat.zero_le _, hid (fun W _ => rfl), hk3⟩
    case round =>
     obtain ⟨j, vs, LA, lc, its, hjn, rfl, rfl, rfl, hvj, HCA, hM⟩ := hrel
     clear hk3
     by_cases hjl : j < n.kids.length
     ·have hjj : (j : Int) < (n.kids.length : Int) := by omega
      have hj0 : (0 : Int) ≤ (j : Int) := by omega
      obtain ⟨k, hkj⟩ : ∃ k, n.kids[j]? = some k := ⟨_, List.getElem?_eq_getElem hjl⟩
      obtain ⟨ka, hKA, ck⟩ := ((HN0.out.up h0).up hM.below0).ints.at_ j k hkj
      subst hKA
      obtain ⟨c0, c1, c2, c3, c4, c5, c6, c7, c8⟩ := blk9 (hM.blk 3 rfl)
      have g0 := (hM.blk 2 rfl).cell 0
      simp only [List.getElem?_cons_zero] at g0
      have HC := hid (HIH.out k (List.mem_of_getElem? hkj) wr (h0.trans (hM.below0.mono h0.size)) wr.heap.size (Nat.le_refl _))
      have HT2 : Hid (F.cat ((n.kids.take (j + 1)).map t) = (F.cat ((n.kids.take j).map t)).app (t k)) := hid (by rw [zbb hkj, List.map_append, List.map_cons, List.map_nil, F.cat_snoc])
      generalize t k = T at *
      have hsw := Nat.le_trans hBs hM.size
      clear hkj
      go_wp2_with fail
      refine HC.out.mono ?_
      rintro e w4 ⟨⟨v, rfl, hv⟩, hb4⟩
      obtain ⟨t1, pl1, rfl⟩ := CvM.form hv
      have hk4 := Hp.cv hM hb4 hv
      have HCA2 := hid (HCA.out.snoc (W1 := w4) (t := T) (us := [.iface t1 pl1]) hsw)
      clear HC hM hv hb4 ck c0 c1 c2 c3 c4 c5 c6 c7 c8 g0
      go_wp2_with (at_builtin; refine zac rfl _ _ 181 rfl 0 91 i0 _ 1 16 Tryz.underlying181 hi0' hz0 hz1 hz2 rfl (by decide) _ vs.length vs rfl ((hk4.alloc _).row 1 rfl) ⟨w4.heap.size, 0, none⟩ 1 1 [.iface t1 pl1] rfl rfl (new1p _ _ _) (by intro u hu; simp at hu; rw [hu]; rfl) (by decide) (by unfold maxLen; omega) (by omega) (Nat.zero_le _) ?_; intro v' w5 hown hgrow hat; obtain ⟨LA2, lc2, rfl⟩ := zag hown; have hk5 := ((hk4.alloc (.cells #[.iface t1 pl1] 91)).grown 1 rfl hown hgrow hat).perm (List.perm_middle (l₁ := [_, _, _, _])).symm; clear hown hgrow hat hk4)
      go_roundg (n.kids.length - (j + 1))
      case measure => omega
      case rel =>
       refine ⟨j + 1, vs ++ [.iface t1 pl1], LA2, lc2, _ :: its, hjl, rfl, by rw [List.length_append]; rfl, by first | rfl | simp, by rw [List.length_append]; simp; omega, hid (by rw [HT2.out]; exact HCA2.out), ?_⟩
       unfold zcf
       rw [List.length_append]
       exact hk5
     ·have hjj : ¬ (j : Int) < (n.kids.length : Int) := by omega
      have HTK : Hid (n.kids.take j = n.kids) := hid (List.take_of_length_le (by omega))
      rw [HTK.out] at HCA
      have HSZ := hid HSZ.out.2
      have HLN := hid ((HCA.out.at_ (a := [zcf (.slice LA vs.length lc) vs, iblk p 68 (nkcs n KA kc), iblk q 4 [.bool g], iblk gm 93 (fitC d ⟨ua, uc, ra, rc, some ad, nc⟩ A S.length c)]) hM).len)
      obtain ⟨d0, d1, d2, d3, d4, d5⟩ := Blk.get6 (hM.blk 1 rfl)
      have HCM := hid (HCA.out.at_ (a := [zcf (.slice LA vs.length lc) vs, iblk p 68 (nkcs n KA kc), iblk q 4 [.bool g], iblk gm 93 (fitC d ⟨ua, uc, ra, rc, some ad, nc⟩ A S.length c)]) hM)
      have HOA := fun num h1 h2 => hid (of_any wr g num _ vs LA lc HSZ.out h1 h2 B (Nat.le_trans hBs hM.size) (vls_row (hM.row 0 rfl) rfl (fun ag e => Nat.le_trans hBs (hM.ge (by rw [show LA = some ag from e]; simp [ow, irow, Value.ownBlock])))) HCM.out q 4 wr (Below.refl _ _) (hM.blk 2 rfl))
      have hnn := HNM.out
      first
      | (have z : Hid (n.kind = 3) := HKD; have HO := HOA (vs.length : Int) (by omega) (by omega))
      | (have z : Hid (n.kind = 4) := HKD; have HO := HOA 1 (by omega) (by omega))
      | have HO := HOA n.num (by omega) (by omega)
      clear HIH HN0 HOA hnn
      go_wp2_with fail
      refine HO.out.mono ?_
      rintro e w7 ⟨⟨v, rfl, hv⟩, hb7⟩
      have hk7 := hM.next hb7
      have HV2 := hid hv
      clear hv
      go_wp2_with fail
      go_ret
      have hb := hk7.below0
      exact ⟨⟨v, rfl, by unfold numG; rw [HKD.out]; first | exact HV2.out | (rw [HLN.out] at HV2; exact HV2.out)⟩, by first | exact hb | (subst hg; exact hb)⟩
end Go.Proofs.YtekkapgknohadaaGreatDoor.Nf
