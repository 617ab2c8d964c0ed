/- TopNormalises: the walk. -/
import Derived.Test.YtekkapgknohadaaGreatDoorM47
import Derived.Test.YtekkapgknohadaaGreatDoorM31
import Derived.Test.YtekkapgknohadaaGreatDoorM26
set_option linter.unusedVariables false
set_option maxRecDepth 20000
set_option maxHeartbeats 32000000
namespace Go.Proofs.YtekkapgknohadaaGreatDoor.Nf
open Go.RowKit Go.Shelf
open Lib (hid)
open Pa (F Nd)
theorem each_refl {v : Int → Int → Bool} : ∀ {l : List Int}, (∀ k ∈ l, v k k = true) → eachP v l l = true
 | [], _ => rfl
 | a :: l, h => by rw [eachP, h a (List.mem_cons_self ..), each_refl fun k hk => h k (List.mem_cons_of_mem _ hk)]; rfl
theorem sameN_refl {ns : List Nk} : ∀ (f : Nat) (c : Bool) (a : Int), Pa.VN ns f c a → sameN ns ns f a a = true
 | 0, _, _, h => h.elim
 | f + 1, c, a, h => by
   obtain ⟨n, hn, -, hk⟩ := h
   rw [sameN, hn]
   show (eqN n n && eachP (sameN ns ns f) n.kids n.kids) = true
   rw [each_refl fun k hk9 => sameN_refl f _ k (hk k hk9)]
   simp [eqN]
theorem same_refl {d : Po} (h : checkP d = 0) : sameP d d = true := by
 unfold sameP
 rw [sameN_refl 32 true d.root (Pa.tree_vn h), decide_eq_true h]
 simp
theorem parse_chk {l : List UInt8} (h : (zav l).2.2 = 0) : checkP (zav l).1 = 0 := by
 unfold zav at h ⊢
 cases hsc : Lx.sc l with
 | err a n =>
   rw [hsc] at h
   have := sc_err_ne hsc
   simp only at h
   omega
 | ok ts =>
   rw [hsc] at h
   simp only at h ⊢
   unfold parseT at h ⊢
   cases hp : Pa.policyR ts with
   | mk so q =>
     rw [hp] at h
     cases so with
     | none => simp only at h; cases h
     | some p =>
       simp only at h ⊢
       by_cases hc : checkP (poOf p) = 0
       ·rw [if_neg (by simpa using hc)]; exact hc
       ·rw [if_pos hc] at h; exact absurd h hc
theorem back_of {d : Po} (hB : PBd d) (hc : checkP d = 0) : ∃ q, PBd q ∧ sameP d q = true ∧ prS q = prS d ∧ checkP q = 0 ∧ ∀ V, Calls Tryz.prog 7 #[.string (prS d)] V fun e w' => (∃ L, e = .returned (.tuple #[polV q L, .int .i64 0, .int .i64 0]) ∧ PolM w' q L) ∧ Below V.heap.size V w' := by
 obtain ⟨q, t1, t2, t3⟩ := back_law hc (fun n hn => (hB.ns n hn).kids)
 have hlen := Pa.print_len hc (fun n hn => (hB.ns n hn).kids)
 have hBq : PBd q := by
  have := parse_pbd (Pa.printP d) (by omega)
  rw [t1] at this
  exact this
 have hcq : checkP q = 0 := by
  have := parse_chk (l := Pa.printP d) (by rw [t1])
  rw [t1] at this
  exact this
 have hpe : prS d = ⟨(Pa.printP d).toArray⟩ := by unfold prS; rw [if_pos hc]; rfl
 have hpq : prS q = ⟨(Pa.printP q).toArray⟩ := by unfold prS; rw [if_pos hcq]; rfl
 refine ⟨q, hBq, t2, by rw [hpe, hpq, t3], hcq, fun V => ?_⟩
 rw [hpe]
 exact parse_at t1 (by omega) V
theorem pback_any (d : Po) (L : Lp) (hB : PBd d) (hc : checkP d = 0) (w : World) (hP : PolM w d L) (hG : Glob w) :
 Calls Tryz.prog 8 #[polV d L] w fun e w' => e = .returned (.bool true) ∧ Below w.heap.size w w' := by
 obtain ⟨q, hBq, hsm, hpq, hcq, hPA⟩ := back_of hB hc
 have HPA := hid hPA
 have HPr := hid (fun LQ V h hg => print_any d LQ hB V h hg)
 have HPq := hid (fun LQ V h hg => print_any q LQ hBq V h hg)
 have HS := hid (fun L L2 V h1 h2 => psame_any d q L L2 hB hBq V h1 h2)
 rw [hsm] at HS
 rw [hc] at HPr
 rw [hcq, hpq] at HPq
 have hk1 := (Hp.start w).new 29 (polcs d L)
 have M1 := hP.up hk1.below0
 have hG1 := hG.up hk1.below0
 obtain ⟨g, hg⟩ : ∃ g, w.heap.size = g := ⟨_, rfl⟩
 rw [hg] at hk1
 clear hsm hpq hcq hc hPA
 generalize prS d = S at *
 have hss : (S.toList == S.toList) = true := beq_self_eq_true _
 go_enter Tryz.func8, Tryz.ntmps8
 go_upto_region 1 with fail
 try simp only [hg]
 have hk2 : Hp [] w [iblk g 29 (polcs d L)] (w.alloc (.cells #[.string d.name, .slice L.ua d.uses.length L.uc, .slice L.ra d.reveal.length L.rc, .slice L.na d.nodes.length L.nc, .int .i64 d.root, .string d.scope, .int .i64 d.limit, .string d.escrow] 29)) := hk1
 have M2 : PolM (w.alloc (.cells #[.string d.name, .slice L.ua d.uses.length L.uc, .slice L.ra d.reveal.length L.rc, .slice L.na d.nodes.length L.nc, .int .i64 d.root, .string d.scope, .int .i64 d.limit, .string d.escrow] 29)) d L := M1
 have hG2 : Glob (w.alloc (.cells #[.string d.name, .slice L.ua d.uses.length L.uc, .slice L.ra d.reveal.length L.rc, .slice L.na d.nodes.length L.nc, .int .i64 d.root, .string d.scope, .int .i64 d.limit, .string d.escrow] 29)) := hG1
 clear hk1 M1 hG1
 generalize w.alloc (.cells #[.string d.name, .slice L.ua d.uses.length L.uc, .slice L.ra d.reveal.length L.rc, .slice L.na d.nodes.length L.nc, .int .i64 d.root, .string d.scope, .int .i64 d.limit, .string d.escrow] 29) = w2 at *
 obtain ⟨c0, c1, c2, c3, c4, c5, c6, c7⟩ := (hk2.blk 0 rfl).get8
 have HA := hid (HPr.out L w2 M2 hG2)
 go_wp2_with fail
 refine HA.out.mono ?_
 rintro e w3 ⟨rfl, hb3⟩
 have hk3 := hk2.next hb3
 have M3 := M2.up hb3
 have hG3 := hG2.up hb3
 clear HA hk2 M2 hG2 hb3 c0 c1 c2 c3 c4 c5 c6 c7 HPr
 go_wp2_with fail
 refine (HPA.out _).mono ?_
 rintro e w4 ⟨⟨L2, rfl, hM⟩, hb4⟩
 have hk4 := (hk3.next hb4).new 29 (polcs q L2)
 have hba := (Below.refl w4.heap.size w4).alloc (Nat.le_refl _) (.cells #[.string q.name, .slice L2.ua q.uses.length L2.uc, .slice L2.ra q.reveal.length L2.rc, .slice L2.na q.nodes.length L2.nc, .int .i64 q.root, .string q.scope, .int .i64 q.limit, .string q.escrow] 29)
 have MQ := hM.up hba
 have MD := (M3.up hb4).up hba
 have hG4 := (hG3.up hb4).up hba
 clear hM hb4 hba hk3 HPA M3 hG3
 go_upto_region 3 with fail
 have hk4 : Hp [] w [iblk w4.heap.size 29 (polcs q L2), iblk g 29 (polcs d L)] (w4.alloc (.cells #[.string q.name, .slice L2.ua q.uses.length L2.uc, .slice L2.ra q.reveal.length L2.rc, .slice L2.na q.nodes.length L2.nc, .int .i64 q.root, .string q.scope, .int .i64 q.limit, .string q.escrow] 29)) := hk4
 generalize w4.alloc (.cells #[.string q.name, .slice L2.ua q.uses.length L2.uc, .slice L2.ra q.reveal.length L2.rc, .slice L2.na q.nodes.length L2.nc, .int .i64 q.root, .string q.scope, .int .i64 q.limit, .string q.escrow] 29) = w5 at *
 generalize w4.heap.size = gq at *
 obtain ⟨c0, c1, c2, c3, c4, c5, c6, c7⟩ := (hk4.blk 0 rfl).get8
 have HA := hid (HPq.out L2 w5 MQ hG4)
 go_wp2_with fail
 refine HA.out.mono ?_
 rintro e w6 ⟨rfl, hb6⟩
 have hk6 := hk4.next hb6
 have HA2 := hid (HS.out L L2 w6 (MD.up hb6) (MQ.up hb6))
 clear HA HS HPq hk4 MQ MD hG4 hb6 c0 c1 c2 c3 c4 c5 c6 c7
 obtain ⟨a0, a1, a2, a3, a4, a5, a6, a7⟩ := (hk6.blk 0 rfl).get8
 obtain ⟨b0, b1, b2, b3, b4, b5, b6, b7⟩ := (hk6.blk 1 rfl).get8
 go_wp2_with fail
 refine HA2.out.mono ?_
 rintro e w7 ⟨rfl, hb7⟩
 have hk7 := hk6.next hb7
 go_wp2_with fail
 go_ret
 have hb := hk7.below0
 exact ⟨by rfl, by first | exact hb | (subst hg; exact hb)⟩
abbrev exS : List UInt8 := [112, 111, 108, 105, 99, 121, 32, 112, 32, 117, 115, 101, 115, 32, 99, 58, 99, 97, 114, 100, 32, 112, 114, 111, 118, 101, 32, 99, 46, 97, 103, 101, 62, 61, 49, 56, 32, 101, 110, 100]
abbrev exT : List UInt8 := [112, 111, 108, 105, 99, 121, 32, 112, 10, 117, 115, 101, 115, 32, 99, 58, 32, 99, 97, 114, 100, 10, 112, 114, 111, 118, 101, 32, 99, 46, 97, 103, 101, 32, 62, 61, 32, 49, 56, 10, 101, 110, 100, 10]
def exPo (a b : Int) : Po := ⟨bs [112], [(bs [99], bs [99, 97, 114, 100])], [], [⟨6, 5, bs [], bs [], [1, 2], a⟩, ⟨9, 0, bs [99], bs [97, 103, 101], [], a⟩, ⟨10, 18, bs [], bs [], [], b⟩], 0, bs [], 0, bs []⟩
theorem ex_parse : zav exS = (exPo 27 34, 0, 0) := by kernel_rfl
theorem ex_parse2 : zav exT = (exPo 28 37, 0, 0) := by kernel_rfl
theorem ex_check : checkP (exPo 27 34) = 0 := by kernel_rfl
theorem ex_itoa : Lib.itoa 18 = [49, 56] := by
 unfold Lib.itoa
 rw [if_neg (by decide)]
 rw [show ((18 : Int)).toNat = 18 from rfl, Lib.decDigits, dif_neg (by decide), Lib.decDigits, dif_pos (by decide)]
 decide
theorem ex_t : Pa.textN (exPo 27 34).nodes 32 0 = [99, 46, 97, 103, 101, 32, 62, 61, 32, 49, 56] := by
 have h : Pa.textN (exPo 27 34).nodes 32 0 = [99, 46, 97, 103, 101, 32, 62, 61, 32] ++ Lib.itoa 18 := by kernel_rfl
 rw [h, ex_itoa]; rfl
theorem ex_print : prS (exPo 27 34) = ⟨exT.toArray⟩ := by
 rw [prS_ok ex_check]
 unfold printW
 rw [show (exPo 27 34).root = 0 from rfl, ex_t]
 kernel_rfl
theorem ex_bd : PBd (exPo 27 34) := by
 refine ⟨by decide, by decide, by decide, by decide, by decide, by decide, fun x hx => ?_, fun x hx => (List.not_mem_nil hx).elim, fun n hn => ?_⟩
 ·obtain rfl := List.mem_singleton.1 hx
  exact ⟨by decide, by decide⟩
 ·have h : ∀ n ∈ (exPo 27 34).nodes, n.name.size ≤ 1000000 ∧ n.attr.size ≤ 1000000 ∧ n.kids.length ≤ 1000000 := by decide
  exact ⟨(h n hn).1, (h n hn).2.1, (h n hn).2.2⟩
theorem ex_any (w : World) (hG : Glob w) : Calls Tryz.prog 5 #[] w fun e w' => e = .returned (.bool true) ∧ Below w.heap.size w w' := by
 have H1 := hid (fun W => parse_at ex_parse (by decide) W)
 have H2 : Hid (∀ (L : Lp) (W : World), PolM W (exPo 27 34) L → Glob W → Calls Tryz.prog 10 #[polV (exPo 27 34) L] W fun e w' => e = .returned (.tuple #[.string ⟨exT.toArray⟩, .int .i64 0]) ∧ Below W.heap.size W w') := hid fun L W hP hG => by
  have := print_any (exPo 27 34) L ex_bd W hP hG
  rw [ex_print, ex_check] at this
  exact this
 have H3 := hid (fun W => parse_at ex_parse2 (by decide) W)
 have HQ : Hid ((exPo 28 37).nodes.length = 3 ∧ (exPo 28 37).name = ⟨#[112]⟩) := hid ⟨rfl, rfl⟩
 generalize exPo 27 34 = d at *
 generalize exPo 28 37 = q at *
 obtain ⟨s1, hs1⟩ : ∃ x : ByteArray, ⟨exT.toArray⟩ = x := ⟨_, rfl⟩
 rw [hs1] at H2 H3
 clear hs1
 have hk := Hp.start w
 go_enter Tryz.func5, Tryz.ntmps5
 go_wp2_with fail
 refine (H1.out _).mono ?_
 rintro e w1 ⟨⟨L, rfl, hM⟩, hb1⟩
 clear H1
 have hk1 := hk.next hb1
 have hG1 := hG.up hb1
 clear hk hb1 hG
 have hk2 := hk1.new 29 (polcs d L)
 have hba := (Below.refl w1.heap.size w1).alloc (Nat.le_refl _) (.cells #[.string d.name, .slice L.ua d.uses.length L.uc, .slice L.ra d.reveal.length L.rc, .slice L.na d.nodes.length L.nc, .int .i64 d.root, .string d.scope, .int .i64 d.limit, .string d.escrow] 29)
 have M1 := hM.up hba
 have hG2 := hG1.up hba
 clear hba hk1 hM hG1
 go_upto_region 2 with fail
 have hk2 : Hp [] w [iblk w1.heap.size 29 (polcs d L)] (w1.alloc (.cells #[.string d.name, .slice L.ua d.uses.length L.uc, .slice L.ra d.reveal.length L.rc, .slice L.na d.nodes.length L.nc, .int .i64 d.root, .string d.scope, .int .i64 d.limit, .string d.escrow] 29)) := hk2
 generalize w1.alloc (.cells #[.string d.name, .slice L.ua d.uses.length L.uc, .slice L.ra d.reveal.length L.rc, .slice L.na d.nodes.length L.nc, .int .i64 d.root, .string d.scope, .int .i64 d.limit, .string d.escrow] 29) = w2 at *
 generalize w1.heap.size = g at *
 obtain ⟨c0, c1, c2, c3, c4, c5, c6, c7⟩ := (hk2.blk 0 rfl).get8
 have HA := hid (H2.out L w2 M1 hG2)
 go_wp2_with fail
 refine HA.out.mono ?_
 rintro e w3 ⟨rfl, hb3⟩
 have hk3 := hk2.next hb3
 clear HA H2 hk2 M1 hG2 hb3 c0 c1 c2 c3 c4 c5 c6 c7
 go_wp2_with fail
 refine (H3.out _).mono ?_
 rintro e w4 ⟨⟨L2, rfl, hM2⟩, hb4⟩
 have hk4 := hk3.next hb4
 clear H3 hk3 hb4 hM2
 have hk5 := hk4.new 29 (polcs q L2)
 have hba := (Below.refl w4.heap.size w4).alloc (Nat.le_refl _) (.cells #[.string q.name, .slice L2.ua q.uses.length L2.uc, .slice L2.ra q.reveal.length L2.rc, .slice L2.na q.nodes.length L2.nc, .int .i64 q.root, .string q.scope, .int .i64 q.limit, .string q.escrow] 29)
 clear hba hk4
 go_upto_region 4 with fail
 have hk5 : Hp [] w [iblk w4.heap.size 29 (polcs q L2), iblk g 29 (polcs d L)] (w4.alloc (.cells #[.string q.name, .slice L2.ua q.uses.length L2.uc, .slice L2.ra q.reveal.length L2.rc, .slice L2.na q.nodes.length L2.nc, .int .i64 q.root, .string q.scope, .int .i64 q.limit, .string q.escrow] 29)) := hk5
 generalize w4.alloc (.cells #[.string q.name, .slice L2.ua q.uses.length L2.uc, .slice L2.ra q.reveal.length L2.rc, .slice L2.na q.nodes.length L2.nc, .int .i64 q.root, .string q.scope, .int .i64 q.limit, .string q.escrow] 29) = w5 at *
 generalize w4.heap.size = gq at *
 obtain ⟨c0, c1, c2, c3, c4, c5, c6, c7⟩ := (hk5.blk 0 rfl).get8
 have h3 : ((q.nodes.length : Int) == 3) = true := by rw [HQ.out.1]; rfl
 have h4 : (q.name.toList == [112]) = true := by rw [HQ.out.2, zbg]; exact beq_self_eq_true _
 go_wp2_with fail
 go_ret
 exact ⟨by rfl, hk5.below0⟩
open Go.RowKit Go.Shelf
open Lib (hid)
theorem built_pol : Tryz.prog.built 29 [] = some #[.string ⟨#[]⟩, .slice none 0 0, .slice none 0 0, .slice none 0 0, .int .i64 0, .string ⟨#[]⟩, .int .i64 0, .string ⟨#[]⟩] := by kernel_rfl
structure Fix (S : List Sm) (n : Po) : Prop where
 pd : PBd n
 of : ofP chkB S n = some n
 ck : checkP n = 0
theorem of_fix {n q : Po} {L : Lp} {A : Option Addr} {c : Nat} {S : List Sm} {w0 : World} (hS : Schs w0 A S) (hl : S.length ≤ 1000000) (hc : S.length ≤ c) (hm : ∀ m ∈ S, MBd m) (hB : PBd q) (hq : ofP chkB S q = some n) (w : World) (h0 : Below w0.heap.size w0 w) (hP : PolM w q L) :
 Calls Tryz.prog 9 #[polV q L, .slice A S.length c] w fun e w' => (∃ L2, e = .returned (.tuple #[polV n L2, .int .i64 0]) ∧ PolM w' n L2) ∧ Below w.heap.size w w' := by
 have := of_pol ⟨hS.up h0, hP, hl, hc, hm, hB⟩ w (Below.refl _ _)
 rw [hq] at this
 exact this
theorem is_any {n : Po} {L : Lp} {A : Option Addr} {c : Nat} {S : List Sm} {w0 : World} (hS : Schs w0 A S) (hl : S.length ≤ 1000000) (hc : S.length ≤ c) (hm : ∀ m ∈ S, MBd m) (F : Fix S n) (w : World) (h0 : Below w0.heap.size w0 w) (hP : PolM w n L) :
 Calls Tryz.prog 11 #[polV n L, .slice A S.length c] w fun e w' => e = .returned (.bool true) ∧ Below w.heap.size w w' := by
 have HO := hid (fun W hW hP => of_fix (L := L) hS hl hc hm F.pd F.of W hW hP)
 have HS := hid (fun L L2 V h1 h2 => psame_any n n L L2 F.pd F.pd V h1 h2)
 rw [same_refl F.ck] at HS
 have hk1 := (Hp.start w).new 29 (polcs n L)
 have M1 := hP.up hk1.below0
 have h1 := h0.trans (hk1.below0.mono h0.size)
 clear hS hl hc hm F h0 hP
 obtain ⟨g, hg⟩ : ∃ g, w.heap.size = g := ⟨_, rfl⟩
 rw [hg] at hk1
 go_enter Tryz.func11, Tryz.ntmps11
 go_upto_region 1 with fail
 try simp only [hg]
 have hk2 : Hp [] w [iblk g 29 (polcs n L)] (w.alloc (.cells #[.string n.name, .slice L.ua n.uses.length L.uc, .slice L.ra n.reveal.length L.rc, .slice L.na n.nodes.length L.nc, .int .i64 n.root, .string n.scope, .int .i64 n.limit, .string n.escrow] 29)) := hk1
 have M2 : PolM (w.alloc (.cells #[.string n.name, .slice L.ua n.uses.length L.uc, .slice L.ra n.reveal.length L.rc, .slice L.na n.nodes.length L.nc, .int .i64 n.root, .string n.scope, .int .i64 n.limit, .string n.escrow] 29)) n L := M1
 have h2 : Below w0.heap.size w0 (w.alloc (.cells #[.string n.name, .slice L.ua n.uses.length L.uc, .slice L.ra n.reveal.length L.rc, .slice L.na n.nodes.length L.nc, .int .i64 n.root, .string n.scope, .int .i64 n.limit, .string n.escrow] 29)) := h1
 clear hk1 M1 h1
 generalize w.alloc (.cells #[.string n.name, .slice L.ua n.uses.length L.uc, .slice L.ra n.reveal.length L.rc, .slice L.na n.nodes.length L.nc, .int .i64 n.root, .string n.scope, .int .i64 n.limit, .string n.escrow] 29) = w2 at *
 obtain ⟨c0, c1, c2, c3, c4, c5, c6, c7⟩ := (hk2.blk 0 rfl).get8
 have HA := hid (HO.out w2 h2 M2)
 go_wp2_with fail
 refine HA.out.mono ?_
 rintro e w3 ⟨⟨L2, rfl, hM⟩, hb3⟩
 have hk3 := (hk2.next hb3).new 29 (polcs n L2)
 have hba := (Below.refl w3.heap.size w3).alloc (Nat.le_refl _) (.cells #[.string n.name, .slice L2.ua n.uses.length L2.uc, .slice L2.ra n.reveal.length L2.rc, .slice L2.na n.nodes.length L2.nc, .int .i64 n.root, .string n.scope, .int .i64 n.limit, .string n.escrow] 29)
 have MQ := hM.up hba
 have MD := (M2.up hb3).up hba
 clear hM hba hk2 HA HO M2 hb3 h2 c0 c1 c2 c3 c4 c5 c6 c7
 go_upto_region 2 with fail
 have hk4 : Hp [] w [iblk w3.heap.size 29 (polcs n L2), iblk g 29 (polcs n L)] (w3.alloc (.cells #[.string n.name, .slice L2.ua n.uses.length L2.uc, .slice L2.ra n.reveal.length L2.rc, .slice L2.na n.nodes.length L2.nc, .int .i64 n.root, .string n.scope, .int .i64 n.limit, .string n.escrow] 29)) := hk3
 clear hk3
 generalize w3.alloc (.cells #[.string n.name, .slice L2.ua n.uses.length L2.uc, .slice L2.ra n.reveal.length L2.rc, .slice L2.na n.nodes.length L2.nc, .int .i64 n.root, .string n.scope, .int .i64 n.limit, .string n.escrow] 29) = w5 at *
 generalize w3.heap.size = gq at *
 obtain ⟨a0, a1, a2, a3, a4, a5, a6, a7⟩ := (hk4.blk 0 rfl).get8
 obtain ⟨b0, b1, b2, b3, b4, b5, b6, b7⟩ := (hk4.blk 1 rfl).get8
 have HA2 := hid (HS.out L L2 w5 MD MQ)
 clear MD MQ HS
 go_wp2_with fail
 refine HA2.out.mono ?_
 rintro e w7 ⟨rfl, hb7⟩
 have hk7 := hk4.next hb7
 go_wp2_with fail
 go_ret
 have hb := hk7.below0
 exact ⟨by rfl, by first | exact hb | (subst hg; exact hb)⟩
theorem top_walk (s : ByteArray) (A : Option Addr) (c : Nat) (S : List Sm) (hc : S.length ≤ c) (w : World) (hS : Schs w A S) (hG : Glob w) :
 Calls Tryz.prog 3 #[.string s, .slice A S.length c] w fun e w' => e = .returned (.bool true) ∧ Below w.heap.size w w' := by
 have HX := hid (ex_any w hG)
 have HF := hid (fun W h => few_zero A c S W h)
 have HSS := hid hS
 have HG := hid hG
 have hbl := built_pol
 have hk0 := Hp.start w
 by_cases hlen : 400 < s.size
 ·have i1 : (400 : Int) < (s.size : Int) := by omega
  clear hlen hS hG hc
  go_enter Tryz.func3, Tryz.ntmps3
  go_wp2_with fail
  refine HX.out.mono ?_
  rintro e w1 ⟨rfl, hb1⟩
  go_wp2_with fail
  go_ret
  exact ⟨by rfl, hb1⟩
 have i1 : ¬ (400 : Int) < (s.size : Int) := by omega
 by_cases hfew : fewS S = true
 case neg =>
  have HW : Hid (fewS S = false) := hid (by simpa using hfew)
  clear hlen hS hG hc hfew
  go_enter Tryz.func3, Tryz.ntmps3
  go_wp2_with fail
  refine HX.out.mono ?_
  rintro e w1 ⟨rfl, hb1⟩
  have HF2 := hid (HF.out w1 (HSS.out.up hb1))
  rw [HW.out] at HF2
  clear HF
  go_wp2_with fail
  refine HF2.out.mono ?_
  rintro e w2 ⟨rfl, hb2⟩
  have hk2 := (hk0.next hb1).next hb2
  go_wp2_with fail
  go_ret
  exact ⟨by rfl, hk2.below0⟩
 have hbd := fewS_bd hfew
 obtain ⟨d, pos, er, hp⟩ : ∃ d a e, zav (tl s) = (d, a, e) := ⟨_, _, _, rfl⟩
 have HPA := hid (fun V => Parse_any s (by omega) V)
 rw [hp] at HPA
 have hBd : PBd d := by have := parse_pbd (tl s) (by rw [zab]; omega); rw [hp] at this; exact this
 have HW := hid hfew
 have HCk : Hid (er = 0 → checkP d = 0) := hid fun h0 => by have := parse_chk (l := tl s) (by rw [hp]; exact h0); rw [hp] at this; exact this
 have HB := hid hBd
 have HN := hid hbd
 have HCC := hid hc
 clear hp hlen hS hG hc hfew hbd hBd
 go_enter Tryz.func3, Tryz.ntmps3
 go_wp2_with fail
 refine HX.out.mono ?_
 rintro e w1 ⟨rfl, hb1⟩
 have hk1 := hk0.next hb1
 have HF2 := hid (HF.out w1 (HSS.out.up hb1))
 rw [HW.out] at HF2
 clear HF hk0 HW HX
 go_wp2_with fail
 refine HF2.out.mono ?_
 rintro e w2 ⟨rfl, hb2⟩
 have hk2 := hk1.next hb2
 clear HF2 hk1 hb2 hb1
 go_wp2_with fail
 refine (HPA.out w2).mono ?_
 rintro e w3 ⟨⟨L, rfl, hM⟩, hb3⟩
 have hk3 := (hk2.next hb3).new 29 (polcs d L)
 have hba := (Below.refl w3.heap.size w3).alloc (Nat.le_refl _) (.cells (polcs d L).toArray 29)
 have M3 := hM.up hba
 clear HPA hM hba hb3 hk2
 by_cases he : er = 0
 case neg =>
  have h9 : (er != 0) = true := by simpa using he
  clear he
  go_wp2_with fail
  go_ret
  have hb := hk3.below0
  exact ⟨by rfl, hb⟩
 subst he
 have hck := HCk.out rfl
 have HPB := hid (fun V h1 h2 => pback_any d L HB.out hck V h1 h2)
 have HOF := hid (fun V h1 h2 => of_pol (w0 := V) (L := L) (A := A) (c := c) (S := S) ⟨h1, h2, by have := HN.out.1; omega, HCC.out, HN.out.2, HB.out⟩ V (Below.refl _ _))
 have HPR := hid (fun V h1 h2 => print_any d L HB.out V h1 h2)
 rw [hck] at HPR
 obtain ⟨q, hBq, hsm, hpq, hcq, hPA⟩ := back_of HB.out hck
 have HPA := hid hPA
 have HQ := hid hBq
 have HFQ : Hid (ofP chkB S q = ofP chkB S d) := hid (of_same hsm).symm
 have HOO : Hid (∀ n, ofP chkB S d = some n → Fix S n) := hid fun n hn => by
  have h2 := of_twice hn
  have hnd : n = outP S d := by
   unfold ofP at hn
   split at hn
   ·exact (Option.some.inj hn).symm
   ·cases hn
  exact ⟨by rw [hnd]; exact out_pbd HB.out hck, h2.1, h2.2⟩
 clear HCk hPA hBq hsm hpq hcq hck
 obtain ⟨sd, hsd⟩ : ∃ x, prS d = x := ⟨_, rfl⟩
 rw [hsd] at HPR HPA
 clear hsd
 go_upto_region 8 with fail
 have hk4 : Hp [] w [iblk w3.heap.size 29 (polcs d L)] (w3.alloc (.cells #[.string d.name, .slice L.ua d.uses.length L.uc, .slice L.ra d.reveal.length L.rc, .slice L.na d.nodes.length L.nc, .int .i64 d.root, .string d.scope, .int .i64 d.limit, .string d.escrow] 29)) := hk3
 have M4 : PolM (w3.alloc (.cells #[.string d.name, .slice L.ua d.uses.length L.uc, .slice L.ra d.reveal.length L.rc, .slice L.na d.nodes.length L.nc, .int .i64 d.root, .string d.scope, .int .i64 d.limit, .string d.escrow] 29)) d L := M3
 clear hk3 M3
 generalize w3.alloc (.cells #[.string d.name, .slice L.ua d.uses.length L.uc, .slice L.ra d.reveal.length L.rc, .slice L.na d.nodes.length L.nc, .int .i64 d.root, .string d.scope, .int .i64 d.limit, .string d.escrow] 29) = w4 at *
 generalize w3.heap.size = gp at *
 obtain ⟨c0, c1, c2, c3, c4, c5, c6, c7⟩ := (hk4.blk 0 rfl).get8
 have HA := hid (HPB.out w4 M4 (HG.out.up hk4.below0))
 go_wp2_with fail
 refine HA.out.mono ?_
 rintro e w5 ⟨rfl, hb5⟩
 have hk5 := hk4.next hb5
 have M5 := M4.up hb5
 clear HA HPB hk4 M4 hb5 c0 c1 c2 c3 c4 c5 c6 c7
 obtain ⟨c0, c1, c2, c3, c4, c5, c6, c7⟩ := (hk5.blk 0 rfl).get8
 have HA := hid (HOF.out w5 (HSS.out.up hk5.below0) M5)
 clear HOF
 go_wp2_with fail
 refine HA.out.mono ?_
 rintro e w6 ⟨hO, hb6⟩
 have hk6 := hk5.next hb6
 have M6 := M5.up hb6
 clear HA hk5 M5 hb6 c0 c1 c2 c3 c4 c5 c6 c7
 cases hof : ofP chkB S d with
 | none =>
   rw [hof] at hO
   obtain ⟨y, he, hy⟩ := hO
   have hz : polV zPo ⟨none, 0, none, 0, none, 0⟩ = zPlV := rfl
   rw [hz] at he
   subst he
   have h9 : (y != 0) = true := by simpa using hy
   have hk7 := hk6.new 29 zPl
   obtain ⟨c0, c1, c2, c3, c4, c5, c6, c7⟩ := (hk7.blk 0 rfl).get8
   clear hy hz hof
   go_wp2_with fail
   go_ret
   exact ⟨by rfl, hk7.below0⟩
 | some n =>
   rw [hof] at hO
   obtain ⟨L2, rfl, hM⟩ := hO
   have F := HOO.out n hof
   have HFF := hid F
   have HF2 : Hid (ofP chkB S q = some n) := hid (by rw [HFQ.out, hof])
   have HL : Hid (S.length ≤ 1000000) := hid (by have := HN.out.1; omega)
   clear HOO F hof HFQ
   have hk7 := hk6.new 29 (polcs n L2)
   have hba := (Below.refl w6.heap.size w6).alloc (Nat.le_refl _) (.cells #[.string n.name, .slice L2.ua n.uses.length L2.uc, .slice L2.ra n.reveal.length L2.rc, .slice L2.na n.nodes.length L2.nc, .int .i64 n.root, .string n.scope, .int .i64 n.limit, .string n.escrow] 29)
   have M7 := M6.up hba
   have N7 := hM.up hba
   clear hM hba hk6 M6
   go_upto_region 13 with fail
   have hk8 : Hp [] w [iblk w6.heap.size 29 (polcs n L2), iblk gp 29 (polcs d L)] (w6.alloc (.cells #[.string n.name, .slice L2.ua n.uses.length L2.uc, .slice L2.ra n.reveal.length L2.rc, .slice L2.na n.nodes.length L2.nc, .int .i64 n.root, .string n.scope, .int .i64 n.limit, .string n.escrow] 29)) := hk7
   clear hk7
   generalize w6.alloc (.cells #[.string n.name, .slice L2.ua n.uses.length L2.uc, .slice L2.ra n.reveal.length L2.rc, .slice L2.na n.nodes.length L2.nc, .int .i64 n.root, .string n.scope, .int .i64 n.limit, .string n.escrow] 29) = w8 at *
   generalize w6.heap.size = gn at *
   obtain ⟨c0, c1, c2, c3, c4, c5, c6, c7⟩ := (hk8.blk 1 rfl).get8
   have HA := hid (HPR.out w8 M7 (HG.out.up hk8.below0))
   clear HPR
   go_wp2_with fail
   refine HA.out.mono ?_
   rintro e w9 ⟨rfl, hb9⟩
   have hk9 := hk8.next hb9
   have N9 := N7.up hb9
   clear HA hk8 M7 N7 hb9 c0 c1 c2 c3 c4 c5 c6 c7
   go_wp2_with fail
   refine (HPA.out w9).mono ?_
   rintro e wa ⟨⟨L3, rfl, hM⟩, hba⟩
   have hka := (hk9.next hba).new 29 (polcs q L3)
   have hbb := (Below.refl wa.heap.size wa).alloc (Nat.le_refl _) (.cells #[.string q.name, .slice L3.ua q.uses.length L3.uc, .slice L3.ra q.reveal.length L3.rc, .slice L3.na q.nodes.length L3.nc, .int .i64 q.root, .string q.scope, .int .i64 q.limit, .string q.escrow] 29)
   have Na := (N9.up hba).up hbb
   have Qa := hM.up hbb
   clear HPA hk9 N9 hba hbb hM
   go_upto_region 15 with fail
   have hkb : Hp [] w [iblk wa.heap.size 29 (polcs q L3), iblk gn 29 (polcs n L2), iblk gp 29 (polcs d L)] (wa.alloc (.cells #[.string q.name, .slice L3.ua q.uses.length L3.uc, .slice L3.ra q.reveal.length L3.rc, .slice L3.na q.nodes.length L3.nc, .int .i64 q.root, .string q.scope, .int .i64 q.limit, .string q.escrow] 29)) := hka
   clear hka
   generalize wa.alloc (.cells #[.string q.name, .slice L3.ua q.uses.length L3.uc, .slice L3.ra q.reveal.length L3.rc, .slice L3.na q.nodes.length L3.nc, .int .i64 q.root, .string q.scope, .int .i64 q.limit, .string q.escrow] 29) = wb at *
   generalize wa.heap.size = gq at *
   obtain ⟨c0, c1, c2, c3, c4, c5, c6, c7⟩ := (hkb.blk 1 rfl).get8
   have HA := hid (of_fix HSS.out HL.out HCC.out HN.out.2 HFF.out.pd HFF.out.of wb hkb.below0 Na)
   go_wp2_with fail
   refine HA.out.mono ?_
   rintro e wc ⟨⟨L4, rfl, hM⟩, hbc⟩
   have hkc := (hkb.next hbc).new 29 (polcs n L4)
   have hbb := (Below.refl wc.heap.size wc).alloc (Nat.le_refl _) (.cells #[.string n.name, .slice L4.ua n.uses.length L4.uc, .slice L4.ra n.reveal.length L4.rc, .slice L4.na n.nodes.length L4.nc, .int .i64 n.root, .string n.scope, .int .i64 n.limit, .string n.escrow] 29)
   have Nc := (Na.up hbc).up hbb
   have Qc := (Qa.up hbc).up hbb
   have Mc := hM.up hbb
   clear HA hkb Na Qa hbc hbb hM c0 c1 c2 c3 c4 c5 c6 c7
   go_upto_region 16 with fail
   have hkd : Hp [] w [iblk wc.heap.size 29 (polcs n L4), iblk gq 29 (polcs q L3), iblk gn 29 (polcs n L2), iblk gp 29 (polcs d L)] (wc.alloc (.cells #[.string n.name, .slice L4.ua n.uses.length L4.uc, .slice L4.ra n.reveal.length L4.rc, .slice L4.na n.nodes.length L4.nc, .int .i64 n.root, .string n.scope, .int .i64 n.limit, .string n.escrow] 29)) := hkc
   clear hkc
   generalize wc.alloc (.cells #[.string n.name, .slice L4.ua n.uses.length L4.uc, .slice L4.ra n.reveal.length L4.rc, .slice L4.na n.nodes.length L4.nc, .int .i64 n.root, .string n.scope, .int .i64 n.limit, .string n.escrow] 29) = wd at *
   generalize wc.heap.size = gm at *
   obtain ⟨c0, c1, c2, c3, c4, c5, c6, c7⟩ := (hkd.blk 1 rfl).get8
   have HA := hid (of_fix HSS.out HL.out HCC.out HN.out.2 HQ.out HF2.out wd hkd.below0 Qc)
   go_wp2_with fail
   refine HA.out.mono ?_
   rintro e we ⟨⟨L5, rfl, hM⟩, hbe⟩
   have hke := (hkd.next hbe).new 29 (polcs n L5)
   have hbb := (Below.refl we.heap.size we).alloc (Nat.le_refl _) (.cells #[.string n.name, .slice L5.ua n.uses.length L5.uc, .slice L5.ra n.reveal.length L5.rc, .slice L5.na n.nodes.length L5.nc, .int .i64 n.root, .string n.scope, .int .i64 n.limit, .string n.escrow] 29)
   have Ne := (Nc.up hbe).up hbb
   have Me := (Mc.up hbe).up hbb
   have Oe := hM.up hbb
   clear HA hkd Nc Qc Mc hbe hbb hM c0 c1 c2 c3 c4 c5 c6 c7
   go_upto_region 17 with fail
   have hkf : Hp [] w [iblk we.heap.size 29 (polcs n L5), iblk gm 29 (polcs n L4), iblk gq 29 (polcs q L3), iblk gn 29 (polcs n L2), iblk gp 29 (polcs d L)] (we.alloc (.cells #[.string n.name, .slice L5.ua n.uses.length L5.uc, .slice L5.ra n.reveal.length L5.rc, .slice L5.na n.nodes.length L5.nc, .int .i64 n.root, .string n.scope, .int .i64 n.limit, .string n.escrow] 29)) := hke
   clear hke
   generalize we.alloc (.cells #[.string n.name, .slice L5.ua n.uses.length L5.uc, .slice L5.ra n.reveal.length L5.rc, .slice L5.na n.nodes.length L5.nc, .int .i64 n.root, .string n.scope, .int .i64 n.limit, .string n.escrow] 29) = wf at *
   generalize we.heap.size = go at *
   obtain ⟨c0, c1, c2, c3, c4, c5, c6, c7⟩ := (hkf.blk 3 rfl).get8
   have HA := hid (is_any HSS.out HL.out HCC.out HN.out.2 HFF.out wf hkf.below0 Ne)
   go_wp2_with fail
   refine HA.out.mono ?_
   rintro e wg ⟨rfl, hbg⟩
   have hkg := hkf.next hbg
   have HA2 : Hid (Calls Tryz.prog 12 #[polV n L4, polV n L2] wg fun e w' => e = .returned (.bool true) ∧ Below wg.heap.size wg w') := hid (by
    have := psame_any n n L4 L2 HFF.out.pd HFF.out.pd wg (Me.up hbg) (Ne.up hbg)
    rw [same_refl HFF.out.ck] at this
    exact this)
   have Ng := Ne.up hbg
   have Og := Oe.up hbg
   clear HA hkf Ne Me Oe hbg c0 c1 c2 c3 c4 c5 c6 c7
   obtain ⟨c0, c1, c2, c3, c4, c5, c6, c7⟩ := (hkg.blk 3 rfl).get8
   obtain ⟨b0, b1, b2, b3, b4, b5, b6, b7⟩ := (hkg.blk 1 rfl).get8
   go_wp2_with fail
   refine HA2.out.mono ?_
   rintro e wh ⟨rfl, hbh⟩
   have hkh := hkg.next hbh
   have HA3 : Hid (Calls Tryz.prog 12 #[polV n L5, polV n L2] wh fun e w' => e = .returned (.bool true) ∧ Below wh.heap.size wh w') := hid (by
    have := psame_any n n L5 L2 HFF.out.pd HFF.out.pd wh (Og.up hbh) (Ng.up hbh)
    rw [same_refl HFF.out.ck] at this
    exact this)
   have Nh := Ng.up hbh
   clear HA2 hkg Og Ng hbh c0 c1 c2 c3 c4 c5 c6 c7 b0 b1 b2 b3 b4 b5 b6 b7
   obtain ⟨c0, c1, c2, c3, c4, c5, c6, c7⟩ := (hkh.blk 3 rfl).get8
   obtain ⟨b0, b1, b2, b3, b4, b5, b6, b7⟩ := (hkh.blk 0 rfl).get8
   go_wp2_with fail
   refine HA3.out.mono ?_
   rintro e wi ⟨rfl, hbi⟩
   have hki := hkh.next hbi
   have HA4 := hid (pback_any n L2 HFF.out.pd HFF.out.ck wi (Nh.up hbi) (HG.out.up hki.below0))
   clear HA3 hkh Nh hbi c0 c1 c2 c3 c4 c5 c6 c7 b0 b1 b2 b3 b4 b5 b6 b7
   obtain ⟨c0, c1, c2, c3, c4, c5, c6, c7⟩ := (hki.blk 3 rfl).get8
   go_wp2_with fail
   refine HA4.out.mono ?_
   rintro e wj ⟨rfl, hbj⟩
   have hkj := hki.next hbj
   go_wp2_with fail
   go_ret
   exact ⟨by rfl, hkj.below0⟩
end Go.Proofs.YtekkapgknohadaaGreatDoor.Nf
