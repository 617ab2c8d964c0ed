/- typing: visit, Check. -/
import Derived.Test.YtekkapgknohadaaGreatDoorM39
set_option linter.unusedVariables false
set_option maxRecDepth 20000
set_option maxHeartbeats 16000000
namespace Go.Proofs.YtekkapgknohadaaGreatDoor.Nf
open Go.RowKit Go.Shelf
open Lib (hid)
open Pa (F Nd)
theorem kids_in {ns : List Nk} {f : Nat} {c : Bool} {l : List Int} (h : ∀ k ∈ l, Pa.VN ns f c k ∧ WfP ns f k) : KidsIn ns l := by
 intro k hk
 obtain ⟨hv, hw⟩ := h k hk
 cases f with
 | zero => exact hv.elim
 | succ f =>
   obtain ⟨j, m, e, hm, hF, -⟩ := vn_at hv hw
   exact ⟨j, m, e, hm, hF.lo, hF.hi⟩
theorem kids_two {n : Nk} {c : Bool} (h : Pa.Fm n c) (hk : n.kind = 6 ∨ n.kind = 7 ∨ n.kind = 8) : 2 ≤ n.kids.length := by
 have := h.kids
 unfold kidsP at this
 rcases hk with e | e | e <;> rw [e] at this <;> simp at this <;> omega
theorem ty_node {ns : List Nk} {Lk : Look} {f : Nat} {i : Nat} {n : Nk} (hn : ns[i]? = some n) {c : Bool} (hk : ∀ k ∈ n.kids, Pa.VN ns f c k) : tyF Lk (Pa.treeN ns (f + 1) (i : Int)) = (condB Lk (ndOf n) (za3 ns n.kids) && n.kids.all fun k => tyF Lk (Pa.treeN ns f k)) := by
 rw [Pa.treeN_in (by rw [Int.toNat_natCast]; exact hn), tyF, vals_cat hk, tyF_cat, List.all_map, show tyF Lk .nil = true from rfl, Bool.and_true]
 rfl
theorem tvisit_any {d : Po} {L : Lp} {A : Option Addr} {c : Nat} {S : List Sm} {w0 : World} (E : Env w0 d L A c S) : ∀ (f : Nat) (c9 : Bool) (a : Int), Pa.VN d.nodes f c9 a → WfP d.nodes f a → ∀ (w : World), Below w0.heap.size w0 w →
 Calls Tryz.prog 89 #[fitV d L A S.length c, .int .i64 a] w fun e w' => PairOut (tyF (lookS S d.uses) (Pa.treeN d.nodes f a)) e ∧ Below w.heap.size w w' := by
 intro f
 induction f with
 | zero => intro c9 a h _ w h0; exact h.elim
 | succ f ih =>
 intro c9 a hv hw w h0
 obtain ⟨i, n, rfl, hn, hF, hks⟩ := vn_at hv hw
 obtain ⟨ua, uc, ra, rc, na, nc⟩ := L
 obtain ⟨ad, KA, kc, hA, hN0⟩ := E.p.ns.at_ i n hn
 change na = some ad at hA
 subst hA
 have hkl : n.kids.length ≤ 1000000 := (E.pd.ns n (List.mem_of_getElem? hn)).kids
 have HC0 := hid (fun W hW => tcond_any E i n hn hF.lo hF.hi (kids_two hF) hkl (kids_in hks) W hW)
 have HIH := hid (fun k (hk : k ∈ n.kids) W hW => ih _ k (hks k hk).1 (hks k hk).2 W hW)
 rw [ty_node hn (fun k hk => (hks k hk).1)]
 obtain ⟨RC, hRC⟩ : ∃ R, condB (lookS S d.uses) (ndOf n) (za3 d.nodes n.kids) = R := ⟨_, rfl⟩
 rw [hRC] at HC0 ⊢
 clear hRC
 obtain ⟨p, hp⟩ : ∃ p : Int → Bool, (fun k => tyF (lookS S d.uses) (Pa.treeN d.nodes f k)) = p := ⟨_, rfl⟩
 have HP := hid (fun k => congrFun hp k)
 rw [hp]
 clear hp
 have hil := (List.getElem?_eq_some_iff.1 hn).1
 have hii : (i : Int) < (d.nodes.length : Int) := by omega
 have hi0 : (0 : Int) ≤ (i : Int) := by omega
 have hk := (Hp.start w).new 172 (fitC d ⟨ua, uc, ra, rc, some ad, nc⟩ A S.length c)
 have HN := hid (hN0.up h0)
 obtain ⟨g, hg⟩ : ∃ g, w.heap.size = g := ⟨_, rfl⟩
 rw [hg] at hk
 clear hn hN0 hil hF hks hv hw ih E
 go_enter Tryz.func89, Tryz.ntmps89
 go_upto_region 1 with fail
 try simp only [hg]
 have hk0 : Hp [] w [iblk g 172 (fitC d ⟨ua, uc, ra, rc, some ad, nc⟩ A S.length c)] (w.alloc (.cells #[.string d.name, .slice ua d.uses.length uc, .slice ra d.reveal.length rc, .slice (some ad) d.nodes.length nc, .int .i64 d.root, .string d.scope, .int .i64 d.limit, .string d.escrow, .slice A S.length c] 172)) := hk
 clear hk
 generalize w.alloc (.cells #[.string d.name, .slice ua d.uses.length uc, .slice ra d.reveal.length rc, .slice (some ad) d.nodes.length nc, .int .i64 d.root, .string d.scope, .int .i64 d.limit, .string d.escrow, .slice A S.length c] 172) = W1 at *
 obtain ⟨c0, c1, c2, c3, c4, c5, c6, c7, c8⟩ := blk9 (hk0.blk 0 rfl)
 have HC := hid (HC0.out W1 (h0.trans (hk0.below0.mono h0.size)))
 clear HC0
 go_wp2_with fail
 refine HC.out.mono ?_
 rintro e w2 ⟨⟨x, y, rfl, hy⟩, hb2⟩
 have hk2 := hk0.next hb2
 clear HC hk0 hb2 c0 c1 c2 c3 c4 c5 c6 c7 c8
 cases RC with
 | false =>
   have hy0 : (y != 0) = true := by simpa using fun e => by simpa using hy.1 e
   have HY := hid hy
   clear hy
   go_wp2_with fail
   go_ret2
   refine ⟨⟨x, y, rfl, ?_⟩, by have hb := hk2.below0; first | exact hb | (subst hg; exact hb)⟩
   rw [Bool.false_and]; exact HY.out
 | true =>
   obtain rfl : y = 0 := hy.2 rfl
   clear hy
   obtain ⟨c0, c1, c2, c3, c4, c5, c6, c7, c8⟩ := blk9 (hk2.blk 0 rfl)
   have hN := HN.out.up hk2.below0
   have d4 := hN.kids
   go_upto_region 5 with fail
   clear d4 hN c0 c1 c2 c3 c4 c5 c6 c7 c8
   go_loopg [30] n.kids.length (fun m s30 wx => ∃ j : Nat, j ≤ n.kids.length ∧ m = n.kids.length - j ∧ s30 = .int .i64 (j : Int) ∧ Hp [] w [iblk g 172 (fitC d ⟨ua, uc, ra, rc, some ad, nc⟩ A S.length c)] wx ∧ Hid ((n.kids.take j).all p = true))
   case atStart => exact ⟨0, Nat.zero_le _, rfl, rfl, hk2, hid rfl⟩
   case round =>
    obtain ⟨j, hj, rfl, rfl, hM, HA⟩ := hrel
    clear hk2
    by_cases hjl : j < n.kids.length
    ·have hjj : (j : Int) < (n.kids.length : Int) := by omega
     have hj0 : (0 : Int) ≤ (j : Int) := by omega
     obtain ⟨k, hkj⟩ : ∃ k, n.kids[j]? = some k := ⟨_, List.getElem?_eq_getElem hjl⟩
     obtain ⟨ka, hKA, ck⟩ := (HN.out.up hM.below0).ints.at_ j k hkj
     subst hKA
     obtain ⟨c0, c1, c2, c3, c4, c5, c6, c7, c8⟩ := blk9 (hM.blk 0 rfl)
     have HC := hid (HIH.out k (List.mem_of_getElem? hkj) wr (h0.trans (hM.below0.mono h0.size)))
     have HPk := hid (HP.out k)
     obtain ⟨Q, hQ⟩ : ∃ Q, tyF (lookS S d.uses) (Pa.treeN d.nodes f k) = Q := ⟨_, rfl⟩
     rw [hQ] at HC HPk
     have HAT := hid (all_take (p := p) hkj)
     have HAB := hid (fun h => all_bad (p := p) hkj h)
     clear hkj hQ
     go_wp2_with fail
     refine HC.out.mono ?_
     rintro e w3 ⟨⟨x2, y2, rfl, hy2⟩, hb3⟩
     have hM3 := hM.next hb3
     clear HC hM hb3 ck c0 c1 c2 c3 c4 c5 c6 c7 c8
     cases Q with
     | false =>
       have hy0 : (y2 != 0) = true := by simpa using fun e => by simpa using hy2.1 e
       have HR : Hid (n.kids.all p = false) := hid (HAB.out HPk.out.symm)
       have HY := hid hy2
       clear hy2
       go_wp2_with fail
       go_ret2
       refine ⟨⟨x2, y2, rfl, ?_⟩, by have hb := hM3.below0; first | exact hb | (subst hg; exact hb)⟩
       rw [HR.out, Bool.and_false]; exact HY.out
     | true =>
       obtain rfl : y2 = 0 := hy2.2 rfl
       have HA2 : Hid ((n.kids.take (j + 1)).all p = true) := hid (by rw [HAT.out, HA.out, ← HPk.out]; rfl)
       clear hy2
       go_wp2_with fail
       go_roundg (n.kids.length - (j + 1))
       case measure => omega
       case rel => exact ⟨j + 1, hjl, rfl, by first | rfl | simp, hM3, HA2⟩
    ·have hjj : ¬ (j : Int) < (n.kids.length : Int) := by omega
     have HR : Hid (n.kids.all p = true) := hid (by rw [← HA.out, List.take_of_length_le (by omega)])
     go_wp2_with fail
     go_ret2
     refine ⟨⟨0, 0, rfl, ?_⟩, by have hb := hM.below0; first | exact hb | (subst hg; exact hb)⟩
     rw [HR.out]; simp
structure Env0 (w0 : World) (d : Po) (L : Lp) (A : Option Addr) (c : Nat) (S : List Sm) : Prop where
 s : Schs w0 A S
 p : PolM w0 d L
 sl : S.length ≤ 1000000
 cap : S.length ≤ c
 m : ∀ m ∈ S, MBd m
 pd : PBd d
theorem Env0.env {w0 : World} {d : Po} {L : Lp} {A : Option Addr} {c : Nat} {S : List Sm} (E : Env0 w0 d L A c S) (hR : za9 chkB S d = true) : Env w0 d L A c S :=
 ⟨E.s, E.p, E.sl, E.cap, E.m, E.pd, fun a t fd hf hk => by
  have h := fdB_of hR hf
  rcases h.kd with e | ⟨-, e⟩
  ·exact absurd e hk
  ·exact ⟨e, h.wl⟩⟩
theorem tcheck_any {d : Po} {L : Lp} {A : Option Addr} {c : Nat} {S : List Sm} {w0 : World} (E : Env0 w0 d L A c S) (w : World) (h0 : Below w0.heap.size w0 w) :
 Calls Tryz.prog 27 #[polV d L, .slice A S.length c] w fun e w' => PairOut (zb7 chkB S d) e ∧ Below w.heap.size w w' := by
 obtain ⟨ua, uc, ra, rc, na, nc⟩ := L
 have hrl : d.reveal.length ≤ 1000000 := E.pd.rl
 have HE := hid E
 have hk := (Hp.start w).new 29 (polcs d ⟨ua, uc, ra, rc, na, nc⟩)
 obtain ⟨g, hg⟩ : ∃ g, w.heap.size = g := ⟨_, rfl⟩
 rw [hg] at hk
 obtain ⟨T, hT⟩ : ∃ T, zb7 chkB S d = T := ⟨_, rfl⟩
 rw [hT]
 have HT := hid hT
 clear hT
 have HRA := hid (fun W hW => ready_any d ⟨ua, uc, ra, rc, na, nc⟩ A c S E.sl E.cap E.m E.pd w0 W E.s E.p hW)
 obtain ⟨R, hR⟩ : ∃ R, za9 chkB S d = R := ⟨_, rfl⟩
 rw [hR] at HRA
 have HR := hid hR
 clear hR E
 go_enter Tryz.func27, Tryz.ntmps27
 go_upto_region 1 with fail
 try simp only [hg]
 have hk0 : Hp [] w [iblk g 29 (polcs d ⟨ua, uc, ra, rc, na, nc⟩)] (w.alloc (.cells #[.string d.name, .slice ua d.uses.length uc, .slice ra d.reveal.length rc, .slice na d.nodes.length nc, .int .i64 d.root, .string d.scope, .int .i64 d.limit, .string d.escrow] 29)) := hk
 clear hk
 generalize w.alloc (.cells #[.string d.name, .slice ua d.uses.length uc, .slice ra d.reveal.length rc, .slice na d.nodes.length nc, .int .i64 d.root, .string d.scope, .int .i64 d.limit, .string d.escrow] 29) = W1 at *
 obtain ⟨c0, c1, c2, c3, c4, c5, c6, c7⟩ := (hk0.blk 0 rfl).get8
 have HC := hid (HRA.out W1 (h0.trans (hk0.below0.mono h0.size)))
 clear HRA
 go_wp2_with fail
 refine HC.out.mono ?_
 rintro e w2 ⟨⟨y, rfl, hy⟩, hb2⟩
 have hk2 := (hk0.next hb2).new 172 (fitC d ⟨ua, uc, ra, rc, na, nc⟩ A S.length c)
 clear HC hk0 hb2 c0 c1 c2 c3 c4 c5 c6 c7
 go_upto_region 2 with fail
 generalize w2.alloc (.cells #[.string d.name, .slice ua d.uses.length uc, .slice ra d.reveal.length rc, .slice na d.nodes.length nc, .int .i64 d.root, .string d.scope, .int .i64 d.limit, .string d.escrow, .slice A S.length c] 172) = W3 at *
 generalize w2.heap.size = gf at *
 cases R with
 | false =>
   have hy0 : (y != 0) = true := by simpa using fun e => by simpa using hy.1 e
   have HY := hid hy
   have HF : Hid (T = false) := hid (by rw [← HT.out]; unfold zb7; rw [HR.out]; rfl)
   clear hy
   go_wp2_with fail
   go_ret2
   refine ⟨⟨0, y, rfl, ?_⟩, by have hb := hk2.below0; first | exact hb | (subst hg; exact hb)⟩
   rw [HF.out]; exact HY.out
 | true =>
   obtain rfl : y = 0 := hy.2 rfl
   clear hy
   have HE1 := hid (HE.out.env HR.out)
   have HV := hid (fun W hW => tvisit_any HE1.out 32 true d.root (Pa.tree_vn (by have := HR.out; unfold za9 at this; simp only [Bool.and_eq_true, decide_eq_true_eq] at this; exact this.1.1.1)) (tree_wf (za7 (by have := HR.out; unfold za9 at this; simp only [Bool.and_eq_true, decide_eq_true_eq] at this; exact this.1.1.1))) W hW)
   have HT2 : Hid (T = (d.reveal.all (fun r => (findS S d.uses r.1 r.2).isSome) && tyF (lookS S d.uses) (Pa.treeN d.nodes 32 d.root))) := hid (by rw [← HT.out]; unfold zb7; rw [HR.out, Bool.true_and]; rfl)
   have HFI := hid (fun (r : Bp) W hW => find_fit d ⟨ua, uc, ra, rc, na, nc⟩ A c S r.1 r.2 HE.out.sl (fun m hm => (HE.out.m m hm).len) HE.out.pd.ul w0 W HE.out.s HE.out.p.us hW)
   have HRV := hid HE.out.p.rv
   obtain ⟨p, hp⟩ : ∃ p : Bp → Bool, (fun r => (findS S d.uses r.1 r.2).isSome) = p := ⟨_, rfl⟩
   have HP := hid (fun k => congrFun hp k)
   rw [hp] at HT2
   generalize tyF (lookS S d.uses) (Pa.treeN d.nodes 32 d.root) = V at *
   clear hp HT HR HE HE1
   obtain ⟨c0, c1, c2, c3, c4, c5, c6, c7, c8⟩ := blk9 (hk2.blk 0 rfl)
   go_upto_region 5 with fail
   clear c0 c1 c2 c3 c4 c5 c6 c7 c8
   go_loopg [26] d.reveal.length (fun m s26 wx => ∃ j : Nat, j ≤ d.reveal.length ∧ m = d.reveal.length - j ∧ s26 = .int .i64 (j : Int) ∧ Hp [] w [iblk gf 172 (fitC d ⟨ua, uc, ra, rc, na, nc⟩ A S.length c)] wx ∧ Hid ((d.reveal.take j).all p = true))
   case atStart => exact ⟨0, Nat.zero_le _, rfl, rfl, hk2.sub (r := [_]), hid rfl⟩
   case round =>
    obtain ⟨j, hj, rfl, rfl, hM, HA⟩ := hrel
    clear hk2
    by_cases hjl : j < d.reveal.length
    ·have hjj : (j : Int) < (d.reveal.length : Int) := by omega
     have hj0 : (0 : Int) ≤ (j : Int) := by omega
     obtain ⟨r, hrj⟩ : ∃ r, d.reveal[j]? = some r := ⟨_, List.getElem?_eq_getElem hjl⟩
     obtain ⟨rad, hRA, r0, r1⟩ := ((HRV.out.up h0).up hM.below0).at_ j r hrj
     change ra = some rad at hRA
     subst hRA
     have hM1 := hM.new 89 [.string r.1, .string r.2]
     have HAT := hid (all_take (p := p) hrj)
     have HAB := hid (fun h => all_bad (p := p) hrj h)
     have HPr := hid (HP.out r)
     clear hrj
     go_upto_region 7 with fail
     generalize wr.alloc (.cells #[.string r.1, .string r.2] 89) = W4 at *
     generalize wr.heap.size = g4 at *
     clear r0 r1 hM
     obtain ⟨c0, c1, c2, c3, c4, c5, c6, c7, c8⟩ := blk9 (hM1.blk 1 rfl)
     have r0 := (hM1.blk 0 rfl).cell 0
     have r1 := (hM1.blk 0 rfl).cell 1
     simp only [List.getElem?_cons_zero, List.getElem?_cons_succ] at r0 r1
     have HC := hid (HFI.out r W4 (h0.trans (hM1.below0.mono h0.size)))
     obtain ⟨O, hO⟩ : ∃ O, findS S d.uses r.1 r.2 = O := ⟨_, rfl⟩
     rw [hO] at HC HPr
     clear hO
     go_wp2_with fail
     refine HC.out.mono ?_
     rintro e w5 ⟨ho, hb5⟩
     have hM5 := hM1.next hb5
     clear HC hM1 hb5 c0 c1 c2 c3 c4 c5 c6 c7 c8 r0 r1
     cases O with
     | none =>
       have h1 : e = .returned (.tuple #[plV 0 0, .agg zFl.toArray, .bool false]) := ho
       subst h1
       have HF : Hid (T = false) := hid (by rw [HT2.out, HAB.out HPr.out.symm]; rfl)
       clear ho
       have hb := hM5.below0
       go_wp2_with fail
       go_ret2
       refine ⟨⟨0, 9, rfl, ?_⟩, ?_⟩
       ·rw [HF.out]; simp
       ·have h9 := ((hM5.alloc (.cells #[.int .i64 0, .int .i64 0] 122)).alloc (.cells #[.string ⟨#[]⟩, .int .i64 0, .int .i64 0, .int .i64 0, .slice none 0 0] 57)).below0
        first | exact h9 | (subst hg; exact h9)
     | some fd =>
       obtain ⟨WA, wc, x, y, h1, -⟩ := ho
       subst h1
       have HA2 : Hid ((d.reveal.take (j + 1)).all p = true) := hid (by rw [HAT.out, HA.out, ← HPr.out]; rfl)
       have hM6 := (hM5.alloc (.cells #[.int .i64 x, .int .i64 y] 122)).alloc (.cells #[.string fd.name, .int .i64 fd.kind, .int .i64 fd.min, .int .i64 fd.max, .slice WA fd.words.length wc] 57)
       go_wp2_with fail
       go_roundg (d.reveal.length - (j + 1))
       case measure => omega
       case rel => exact ⟨j + 1, hjl, rfl, by first | rfl | simp, hM6.tail, HA2⟩
    ·have hjj : ¬ (j : Int) < (d.reveal.length : Int) := by omega
     have HRR : Hid (d.reveal.all p = true) := hid (by rw [← HA.out, List.take_of_length_le (by omega)])
     obtain ⟨c0, c1, c2, c3, c4, c5, c6, c7, c8⟩ := blk9 (hM.blk 0 rfl)
     have HC := hid (HV.out wr (h0.trans (hM.below0.mono h0.size)))
     go_wp2_with fail
     refine HC.out.mono ?_
     rintro e w5 ⟨⟨x, y, rfl, hy⟩, hb5⟩
     have hM5 := hM.next hb5
     have HY := hid hy
     clear hy
     go_wp2_with fail
     go_ret2
     refine ⟨⟨x, y, rfl, ?_⟩, by have hb := hM5.below0; first | exact hb | (subst hg; exact hb)⟩
     rw [HT2.out, HRR.out, Bool.true_and]; exact HY.out
end Go.Proofs.YtekkapgknohadaaGreatDoor.Nf
