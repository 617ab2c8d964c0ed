/- normal.Of. -/
import Derived.Test.YtekkapgknohadaaGreatDoorM46
import Derived.Test.YtekkapgknohadaaGreatDoorM23
import Derived.Test.YtekkapgknohadaaGreatDoorM38
set_option linter.unusedVariables false
set_option maxRecDepth 20000
set_option maxHeartbeats 16000000
namespace Go.Proofs.YtekkapgknohadaaGreatDoor.Nf
open Go.RowKit Go.Shelf
open Lib (hid)
open Pa (F Nd)
theorem tree_ev {p : Nd → Prop} (ns : List Nk) (h : ∀ n ∈ ns, p (ndOf n)) : ∀ f a, (Pa.treeN ns f a).Ev p
 | 0, a => trivial
 | f + 1, a => by
   cases hn : ns[a.toNat]? with
   | none => rw [Pa.treeN, hn]; trivial
   | some n =>
     rw [Pa.treeN_in hn]
     refine ⟨h n (List.mem_of_getElem? hn), F.ev_cat fun f9 hf => ?_, trivial⟩
     obtain ⟨k, -, rfl⟩ := List.mem_map.1 hf
     exact tree_ev ns h f k
def shortNd (x : Nd) : Prop := x.name.length ≤ 1000000 ∧ x.attr.length ≤ 1000000
theorem out_size {S : List Sm} {d : Po} (hc : checkP d = 0) : (nrm (lookS S d.uses) (treeD d) false).size ≤ 2048 := by
 have h1 := nrm_size (lookS S d.uses) (treeD d) false
 have h2 : (treeD d).size = d.nodes.length := Go.Proofs.YtekkapgknohadaaGreatDoor.tree_size hc
 have h3 := (Pa.check_ck hc).nodes
 omega
theorem out_pbd {S : List Sm} {d : Po} (hB : PBd d) (hc : checkP d = 0) : PBd (outP S d) := by
 have hs := out_size (S := S) hc
 have hev : (nrm (lookS S d.uses) (treeD d) false).Ev shortNd := nrm_ev (fun k n => ⟨by simp, by simp⟩) false (tree_ev d.nodes (fun n hn => ⟨by show (tl n.name).length ≤ _; rw [zab]; exact (hB.ns n hn).name, by show (tl n.attr).length ≤ _; rw [zab]; exact (hB.ns n hn).attr⟩) 32 d.root)
 refine ⟨hB.name, hB.scope, hB.escrow, hB.ul, hB.rl, ?_, hB.us, hB.rv, fun n hn => ?_⟩
 ·show ((F.num 0 _).map nkOf).length ≤ _
  rw [List.length_map, F.num_len]; omega
 ·obtain ⟨x, hx, rfl⟩ := List.mem_map.1 (show n ∈ (F.num 0 _).map nkOf from hn)
  have h1 := F.ev_num _ 0 hev x hx
  have h2 := F.num_kids _ 0 x hx
  refine ⟨?_, ?_, ?_⟩
  ·show (bs x.1.name).size ≤ _
   rw [← zab, tl_bs]; exact h1.1
  ·show (bs x.1.attr).size ≤ _
   rw [← zab, tl_bs]; exact h1.2
  ·show (x.2.map fun (n : Nat) => (n : Int)).length ≤ _
   rw [List.length_map]; omega
theorem keyP {W : World} {g : Nat} {t : TypeId} {a b c d e f i j : Value} (h : Blk W g t [a, b, c, d, e, f, i, j]) : W.cell? ⟨g, 1, none⟩ = some b ∧ W.cell? ⟨g, 2, none⟩ = some c := ⟨h.cell 1, h.cell 2⟩
def NOut (o : Option Po) (e : Ending) (w' : World) : Prop := match o with
 | some n => ∃ L, e = .returned (.tuple #[polV n L, .int .i64 0]) ∧ PolM w' n L
 | none => ∃ y : Int, e = .returned (.tuple #[polV zPo ⟨none, 0, none, 0, none, 0⟩, .int .i64 y]) ∧ y ≠ 0
theorem built_maker (s1 s2 s3 : ByteArray) (A1 A2 A3 A4 : Option Addr) (n1 n2 n3 n4 c1 c2 c3 c4 : Nat) (i1 i2 : Int) : Tryz.prog.built 93 [(0, .agg #[.string s1, .slice A1 n1 c1, .slice A2 n2 c2, .slice A3 n3 c3, .int .i64 i1, .string s2, .int .i64 i2, .string s3]), (1, .slice A4 n4 c4)] = some #[.string s1, .slice A1 n1 c1, .slice A2 n2 c2, .slice A3 n3 c3, .int .i64 i1, .string s2, .int .i64 i2, .string s3, .slice A4 n4 c4] := by kernel_rfl
theorem iface_form {B : Nat} {W : World} {x : Nd} {ks r : F} {v : Value} {us : List Value} (h : CvM B W (.cons x ks r) (v :: us)) : (x.kind = 5 ∧ ∃ pl, v = .iface 237 pl) ∨ (x.kind ≠ 5 ∧ ∃ pl, v = .iface 235 pl) := by
 obtain ⟨v', us', e, -, h3⟩ := h
 injection e with e1 _
 subst e1
 by_cases h5 : x.kind = 5
 ·rw [if_pos h5] at h3
  obtain ⟨-, A2, c2, ws2, e, -⟩ := h3
  exact .inl ⟨h5, _, e⟩
 ·rw [if_neg h5] at h3
  obtain ⟨-, A2, c2, e, -⟩ := h3
  exact .inr ⟨h5, _, e⟩
theorem out_polm {S : List Sm} {d : Po} {o : List Nat} {w W : World} {UA RA NA : Option Addr} {uc rc nc : Nat} {Q : List NV} {x y z : It} (hQ : Q.map Prod.fst = (nrm (lookS S d.uses) (treeD d) false).num 0) (h : Hp o w (([irow 89 2 (.slice RA d.reveal.length rc) d.reveal.length (zbe d.reveal), irow 50 2 (.slice UA d.uses.length uc) d.uses.length (zbe d.uses), x, y, z, inodes (.slice NA Q.length nc) Q]) ++ krows Q) W) : PolM W (outP S d) ⟨UA, uc, RA, rc, NA, nc⟩ := by
 refine ⟨bprs_row (h.row 1 rfl), bprs_row (h.row 0 rfl), ?_⟩
 have h1 := nks_row (h.row 5 rfl) (krows_row h)
 have e : (Q.map fun x => nkOf x.1) = (outP S d).nodes := by
  show _ = ((nrm (lookS S d.uses) (treeD d) false).num 0).map nkOf
  rw [← hQ, List.map_map]; rfl
 rw [e] at h1
 exact h1
theorem of_pol {d : Po} {L : Lp} {A : Option Addr} {c : Nat} {S : List Sm} {w0 : World} (E : Env0 w0 d L A c S) (w : World) (h0 : Below w0.heap.size w0 w) :
 Calls Tryz.prog 9 #[polV d L, .slice A S.length c] w fun e w' => NOut (ofP chkB S d) e w' ∧ Below w.heap.size w w' := by
 have hk := ((Hp.start w).new 29 (polcs d L)).new 29 zPl
 obtain ⟨gp, hg⟩ : ∃ g, w.heap.size = g := ⟨_, rfl⟩
 obtain ⟨gr, hr⟩ : ∃ g, gp + 1 = g := ⟨_, rfl⟩
 simp only [sizeA, hg] at hk
 have HC0 := hid (fun W hW => tcheck_any E W hW)
 have HE := hid E
 obtain ⟨O, hO⟩ : ∃ o, ofP chkB S d = o := ⟨_, rfl⟩
 rw [hO]
 have HO := hid hO
 obtain ⟨T, hT⟩ : ∃ t, zb7 chkB S d = t := ⟨_, rfl⟩
 rw [hT] at HC0
 have HT := hid hT
 have hbl := built_maker
 clear hO hT E
 go_enter Tryz.func9, Tryz.ntmps9
 go_upto_region 1 with fail
 try simp only [hg]
 simp only [hr] at hk ⊢
 have hk1 : Hp [] w [iblk gr 29 zPl, iblk gp 29 (polcs d L)] ((w.alloc (.cells #[.string d.name, .slice L.ua d.uses.length L.uc, .slice L.ra d.reveal.length L.rc, .slice L.na d.nodes.length L.nc, .int .i64 d.root, .string d.scope, .int .i64 d.limit, .string d.escrow] 29)).alloc (.cells zPl.toArray 29)) := hk
 generalize hW : (w.alloc (.cells #[.string d.name, .slice L.ua d.uses.length L.uc, .slice L.ra d.reveal.length L.rc, .slice L.na d.nodes.length L.nc, .int .i64 d.root, .string d.scope, .int .i64 d.limit, .string d.escrow] 29)).alloc (.cells zPl.toArray 29) = W1 at *
 clear hk hW
 obtain ⟨c0, c1, c2, c3, c4, c5, c6, c7⟩ := (hk1.blk 1 rfl).get8
 have HC := hid (HC0.out W1 (h0.trans (hk1.below0.mono h0.size)))
 clear HC0
 go_wp2_with fail
 refine HC.out.mono ?_
 rintro e w2 ⟨⟨x, y, rfl, hy⟩, hb2⟩
 have hk2 := hk1.next hb2
 clear HC hk1 hb2 c0 c1 c2 c3 c4 c5 c6 c7
 cases T with
 | false =>
   have hyn : y ≠ 0 := fun e => by simpa using hy.1 e
   have hy0 : (y != 0) = true := by simpa using hyn
   have HY := hid hyn
   have HF : Hid (O = none) := hid (by rw [← HO.out, ofP, if_neg (fun e => by rw [HT.out] at e; cases e.1)])
   clear hy hyn
   go_wp2_with (refine wpList_store_row rfl 29 (.tmp 4) (.tmp 18) rfl gr zPl.toArray rfl rfl 29 zPl.toArray (hk2.blk 0 rfl) (by kernel_rfl) (by kernel_rfl) (by kernel_rfl) ?_)
   have hk3 := hk2.rowAt 0 rfl zPl
   obtain ⟨m0, m1, m2, m3, m4, m5, m6, m7⟩ := (hk3.blk 0 rfl).get8
   refine bodyPost_ret (v := .tuple #[polV zPo ⟨none, 0, none, 0, none, 0⟩, .int .i64 y]) (by simp [results, Tryz.results9, go_sem, m0, m1, m2, m3, m4, m5, m6, m7, zPo]) rfl ?_
   rw [HF.out]
   have hb := hk3.below0
   exact ⟨⟨y, rfl, HY.out⟩, by first | exact hb | (subst hg; exact hb)⟩
 | true =>
   obtain rfl : y = 0 := hy.2 rfl
   clear hy
   have hTT := HT.out
   unfold zb7 at hTT
   simp only [Bool.and_eq_true] at hTT
   have hR := hTT.1.1
   have hck : checkP d = 0 := by have := hR; unfold za9 at this; simp only [Bool.and_eq_true, decide_eq_true_eq] at this; exact this.1.1.1
   have hE := HE.out.env hR
   have hsz : (Pa.treeN d.nodes 32 d.root).size ≤ 2000 := by have h1 := Go.Proofs.YtekkapgknohadaaGreatDoor.tree_size hck; have h3 := (Pa.check_ck hck).nodes; omega
   have HN := hid (fun W hW B hB => mnorm_any hE hR 32 d.root (Pa.tree_vn hck) (tree_wf (za7 hck)) hTT.2 hsz false W hW B hB)
   have HPB := hid (out_pbd (S := S) HE.out.pd hck)
   have HSZ := hid (out_size (S := S) hck)
   have HLN : Hid ((nrm (lookS S d.uses) (treeD d) false).len = 1) := hid (by
    have hv := Pa.tree_vn hck
    have hl : (treeD d).len = 1 := by
     have := cat_len (ns := d.nodes) (f := 32) (c := true) (l := [d.root]) (fun x hx => by rw [List.mem_singleton.1 hx]; exact hv)
     simp only [List.map_cons, List.map_nil, F.cat, F.app_nil, List.length_singleton] at this
     exact this
    rw [(nrm_nf (L := lookS S d.uses) false hTT.2 (tree_wfF _ _ _ _ hv)).2, hl])
   have HOO : Hid (O = if checkP (outP S d) = 0 then some (outP S d) else none) := hid (by
    rw [← HO.out, ofP]
    by_cases h9 : checkP (outP S d) = 0
    ·rw [if_pos ⟨HT.out, h9⟩, if_pos h9]
    ·rw [if_neg (fun e => h9 e.2), if_neg h9])
   have HU := hid (fun W (hW : Prs W L.ua d.uses) => clone_use L.ua L.uc d.uses W hW HE.out.pd.ul)
   have HV := hid (fun W (hW : Prs W L.ra d.reveal) => clone_ref L.ra L.rc d.reveal W hW HE.out.pd.rl)
   have HPP := hid (And.intro (HE.out.p.us.up h0) (HE.out.p.rv.up h0))
   clear hTT hR hck hE hsz HE HT HO
   obtain ⟨c0, c1, c2, c3, c4, c5, c6, c7⟩ := (hk2.blk 1 rfl).get8
   have hk3 := hk2.new 29 (polcs d L)
   go_upto_region 5 with fail
   have hk3 : Hp [] w [iblk w2.heap.size 29 (polcs d L), iblk gr 29 zPl, iblk gp 29 (polcs d L)] (w2.alloc (.cells #[.string d.name, .slice L.ua d.uses.length L.uc, .slice L.ra d.reveal.length L.rc, .slice L.na d.nodes.length L.nc, .int .i64 d.root, .string d.scope, .int .i64 d.limit, .string d.escrow] 29)) := hk3
   generalize w2.alloc (.cells #[.string d.name, .slice L.ua d.uses.length L.uc, .slice L.ra d.reveal.length L.rc, .slice L.na d.nodes.length L.nc, .int .i64 d.root, .string d.scope, .int .i64 d.limit, .string d.escrow] 29) = W3 at *
   generalize w2.heap.size = go at *
   clear hk2 c0 c1 c2 c3 c4 c5 c6 c7
   have hkd := hk3.drew
   obtain ⟨c0, c1, c2, c3, c4, c5, c6, c7⟩ := (hkd.blk 2 rfl).get8
   have hfr := (hkd.blk 0 rfl).frozen 1
   have hfr2 := (hkd.blk 0 rfl).frozen 2
   have HCU := hid (HU.out W3.drew (HPP.out.1.up hkd.below0))
   go_region_held3 (fun w' => w'.cell? ⟨gp, 1, none⟩ = some (.slice L.ua d.uses.length L.uc) ∧ w'.cell? ⟨gp, 2, none⟩ = some (.slice L.ra d.reveal.length L.rc)) (first | exact ⟨c1, c2⟩ | exact ⟨p1, p2⟩ | exact ⟨q1, q2⟩ | exact keyP (hs1.blk 4 rfl) | exact keyP (hs2.blk 4 rfl)) (first | (go_at_call 28; refine HCU.out.mono ?_; rintro e w4 ⟨UA, uc, rfl, hH4⟩; have hk4 := Hp.call (a := []) hkd hH4; obtain ⟨p0, p1, p2, -⟩ := (hk4.blk 3 rfl).get8; have HCV := HV.out w4 (HPP.out.2.up hk4.below0)) | (go_at_call 29; refine HCV.mono ?_; rintro e w5 ⟨RA, rc2, rfl, hH5⟩; have hk5 := Hp.call (a := []) hk4 hH5; obtain ⟨q0, q1, q2, -⟩ := (hk5.blk 4 rfl).get8; have f1 := (hk5.blk 2 rfl).frozen 1; have e1 := (hk5.blk 2 rfl).cell 1; have hs1 := hk5.set 2 rfl 1 (.slice UA d.uses.length uc); have f2 := (hs1.blk 2 rfl).frozen 2; have e2 := (hs1.blk 2 rfl).cell 2; have hs2 := hs1.set 2 rfl 2 (.slice RA d.reveal.length rc2)))
   all_goals
    have hk6 : Hp [] w [irow 89 2 (.slice RA d.reveal.length rc2) d.reveal.length (zbe d.reveal), irow 50 2 (.slice UA d.uses.length uc) d.uses.length (zbe d.uses), iblk go 29 [.string d.name, .slice UA d.uses.length uc, .slice RA d.reveal.length rc2, .slice L.na d.nodes.length L.nc, .int .i64 d.root, .string d.scope, .int .i64 d.limit, .string d.escrow], iblk gr 29 zPl, iblk gp 29 (polcs d L)] ((w5.setCell ⟨go, 1, none⟩ (.slice UA d.uses.length uc)).setCell ⟨go, 2, none⟩ (.slice RA d.reveal.length rc2)) := hs2
    generalize (w5.setCell ⟨go, 1, none⟩ (.slice UA d.uses.length uc)).setCell ⟨go, 2, none⟩ (.slice RA d.reveal.length rc2) = W6 at *
    clear hk3 hkd c0 c1 c2 c3 c4 c5 c6 c7 hfr hfr2 HCU HCV hk4 hk5 p0 p1 p2 q0 q1 q2 f1 e1 hs1 f2 e2 hs2 HU HV HPP
    obtain ⟨c0, c1, c2, c3, c4, c5, c6, c7⟩ := (hk6.blk 4 rfl).get8
    have HN2 := hid (HN.out W6 (h0.trans (hk6.below0.mono h0.size)) W6.heap.size (Nat.le_refl _))
    have hblm := built_maker d.name d.scope d.escrow L.ua L.ra L.na A d.uses.length d.reveal.length d.nodes.length S.length L.uc L.rc L.nc c d.root d.limit
    clear HN hbl
    go_wp2_with fail
    refine HN2.out.mono ?_
    rintro e w7 ⟨⟨v, rfl, hv⟩, hb7⟩
    have hk7 := hk6.next hb7
    obtain ⟨x9, ks, hF⟩ : ∃ x ks, nrm (lookS S d.uses) (treeD d) false = .cons x ks .nil := by
     have := HLN.out
     cases hn : nrm (lookS S d.uses) (treeD d) false with
     | nil => rw [hn] at this; cases this
     | cons x k r =>
       rw [hn] at this
       cases r with
       | nil => exact ⟨x, k, rfl⟩
       | cons _ _ _ => simp only [F.len] at this; omega
    have hv2 : CvM W6.heap.size w7 (.cons x9 ks .nil) [v] := by rw [← hF]; exact hv
    have HWR := hid (CvM.wr hv2).1
    have hsz : ([] : List NV).length + (F.cons x9 ks .nil).size ≤ 100000 := by rw [← hF]; have := HSZ.out; simp only [List.length_nil]; omega
    have hnil : Hp [] w7 (inodes (.slice none 0 0) [] :: []) w7 := (Hp.start w7).nilrow 68 6
    have HFF := hid hF
    have hif := iface_form hv2
    clear hv hv2 HN2 hk6 hF c0 c1 c2 c3 c4 c5 c6 c7
    rcases hif with ⟨h5, pl, rfl⟩ | ⟨h5, pl, rfl⟩
    all_goals
     have HX := hid (HWR.out _ _ rfl [] (.slice none 0 0) [] w7 hsz hnil)
     have H5 := hid h5
     clear h5 HWR hsz hnil
     go_wp2_with fail
     first | refine (HX.out.1 H5.out).mono ?_ | refine (HX.out.2 H5.out).mono ?_
     rintro e w8 ⟨Q, v', hQ, rfl, hH8⟩
     obtain ⟨NA, nc2, rfl⟩ := zag (hH8.row 0 rfl)
     have hQ2 : Q.map Prod.fst = (nrm (lookS S d.uses) (treeD d) false).num 0 := by rw [HFF.out]; exact hQ
     have hk8 := Hp.call (a := []) hk7 hH8
     have hk9 : Hp [] w ([irow 89 2 (.slice RA d.reveal.length rc2) d.reveal.length (zbe d.reveal), irow 50 2 (.slice UA d.uses.length uc) d.uses.length (zbe d.uses), iblk go 29 [.string d.name, .slice UA d.uses.length uc, .slice RA d.reveal.length rc2, .slice L.na d.nodes.length L.nc, .int .i64 d.root, .string d.scope, .int .i64 d.limit, .string d.escrow], iblk gr 29 zPl, iblk gp 29 (polcs d L), inodes (.slice NA Q.length nc2) Q] ++ krows Q) w8 := hk8.perm (by
      rw [List.append_nil]
      exact (List.perm_append_comm (l₁ := inodes (.slice NA Q.length nc2) Q :: krows Q)))
     have f3 := (hk9.blk 2 rfl).frozen 3
     have e3 := (hk9.blk 2 rfl).cell 3
     have hs1 := hk9.set 2 rfl 3 (.slice NA Q.length nc2)
     have f4 := (hs1.blk 2 rfl).frozen 4
     have e4 := (hs1.blk 2 rfl).cell 4
     have hs2 := hs1.set 2 rfl 4 (.int .i64 0)
     simp only [List.getElem?_cons_zero, List.getElem?_cons_succ, List.set_cons_succ, List.set_cons_zero] at e3 e4
     have HQ2 := hid hQ2
     clear HX H5 hk7 hk8 hH8 hQ hQ2
     go_upto_region 7 with fail
     have hk10 : Hp [] w ([irow 89 2 (.slice RA d.reveal.length rc2) d.reveal.length (zbe d.reveal), irow 50 2 (.slice UA d.uses.length uc) d.uses.length (zbe d.uses), iblk go 29 [.string d.name, .slice UA d.uses.length uc, .slice RA d.reveal.length rc2, .slice NA Q.length nc2, .int .i64 0, .string d.scope, .int .i64 d.limit, .string d.escrow], iblk gr 29 zPl, iblk gp 29 (polcs d L), inodes (.slice NA Q.length nc2) Q] ++ krows Q) ((w8.setCell ⟨go, 3, none⟩ (.slice NA Q.length nc2)).setCell ⟨go, 4, none⟩ (.int .i64 0)) := hs2
     generalize (w8.setCell ⟨go, 3, none⟩ (.slice NA Q.length nc2)).setCell ⟨go, 4, none⟩ (.int .i64 0) = W9 at *
     clear f3 e3 hs1 f4 e4 hs2 hk9
     have hPM := out_polm HQ2.out hk10
     have HQL : Hid ((outP S d).nodes.length = Q.length) := hid (by
      show (((nrm (lookS S d.uses) (treeD d) false).num 0).map nkOf).length = _
      rw [← HQ2.out, List.length_map, List.length_map])
     have HCK : Hid (Calls Tryz.prog 26 #[.agg #[.string d.name, .slice UA d.uses.length uc, .slice RA d.reveal.length rc2, .slice NA Q.length nc2, .int .i64 0, .string d.scope, .int .i64 d.limit, .string d.escrow]] W9 fun e w' => e = .returned (.int .i64 (checkP (outP S d))) ∧ Below W9.heap.size W9 w') := hid (by
      have h9 := zb5 (outP S d) ⟨UA, uc, RA, rc2, NA, nc2⟩ HPB.out W9 hPM
      unfold polV at h9
      rw [HQL.out] at h9
      exact h9)
     obtain ⟨E9, hE9⟩ : ∃ x, checkP (outP S d) = x := ⟨_, rfl⟩
     rw [hE9] at HCK HOO
     have HEE := hid hE9
     clear hPM hE9
     obtain ⟨c0, c1, c2, c3, c4, c5, c6, c7⟩ := (hk10.blk 2 rfl).get8
     go_wp2_with fail
     refine HCK.out.mono ?_
     rintro e w10 ⟨rfl, hb10⟩
     have hk11 := hk10.next hb10
     clear HCK hk10 hb10 c0 c1 c2 c3 c4 c5 c6 c7
     by_cases hz : E9 = 0
     ·subst hz
      obtain ⟨c0, c1, c2, c3, c4, c5, c6, c7⟩ := (hk11.blk 2 rfl).get8
      go_wp2_with (refine wpList_store_row rfl 29 (.tmp 4) (.tmp 44) rfl gr (show List Value from [.string d.name, .slice UA d.uses.length uc, .slice RA d.reveal.length rc2, .slice NA Q.length nc2, .int .i64 0, .string d.scope, .int .i64 d.limit, .string d.escrow]).toArray rfl rfl 29 zPl.toArray (hk11.blk 3 rfl) (by kernel_rfl) (by kernel_rfl) (by kernel_rfl) ?_)
      have hk12 := hk11.rowAt 3 rfl [.string d.name, .slice UA d.uses.length uc, .slice RA d.reveal.length rc2, .slice NA Q.length nc2, .int .i64 0, .string d.scope, .int .i64 d.limit, .string d.escrow]
      obtain ⟨m0, m1, m2, m3, m4, m5, m6, m7⟩ := (hk12.blk 3 rfl).get8
      refine bodyPost_ret (v := .tuple #[.agg #[.string d.name, .slice UA d.uses.length uc, .slice RA d.reveal.length rc2, .slice NA Q.length nc2, .int .i64 0, .string d.scope, .int .i64 d.limit, .string d.escrow], .int .i64 0]) (by simp [results, Tryz.results9, go_sem, m0, m1, m2, m3, m4, m5, m6, m7]) rfl ?_
      rw [HOO.out, if_pos trivial]
      have hb := hk12.below0
      refine ⟨⟨⟨UA, uc, RA, rc2, NA, nc2⟩, ?_, out_polm HQ2.out (by exact hk12)⟩, by first | exact hb | (subst hg; exact hb)⟩
      unfold polV
      rw [HQL.out]
      rfl
     ·have hz0 : (E9 != 0) = true := by simpa using hz
      have HZ := hid hz
      clear hz
      go_wp2_with (refine wpList_store_row rfl 29 (.tmp 4) (.tmp 42) rfl gr zPl.toArray rfl rfl 29 zPl.toArray (hk11.blk 3 rfl) (by kernel_rfl) (by kernel_rfl) (by kernel_rfl) ?_)
      have hk12 := hk11.rowAt 3 rfl zPl
      obtain ⟨m0, m1, m2, m3, m4, m5, m6, m7⟩ := (hk12.blk 3 rfl).get8
      refine bodyPost_ret (v := .tuple #[polV zPo ⟨none, 0, none, 0, none, 0⟩, .int .i64 E9]) (by simp [results, Tryz.results9, go_sem, m0, m1, m2, m3, m4, m5, m6, m7, zPo]) rfl ?_
      rw [HOO.out, if_neg HZ.out]
      have hb := hk12.below0
      exact ⟨⟨E9, rfl, HZ.out⟩, by first | exact hb | (subst hg; exact hb)⟩
end Go.Proofs.YtekkapgknohadaaGreatDoor.Nf
