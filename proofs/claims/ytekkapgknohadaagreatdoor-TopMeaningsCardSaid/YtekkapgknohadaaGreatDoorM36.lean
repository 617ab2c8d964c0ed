/- normal: norm, a lemma for each kind. Printed by mkty.py. -/
import Derived.Test.YtekkapgknohadaaGreatDoorM33
set_option linter.unusedVariables false
set_option maxRecDepth 20000
set_option maxHeartbeats 64000000
open Go.Proofs.Tryz
namespace Go.Proofs.YtekkapgknohadaaGreatDoor
namespace Nf
open Go.RowKit Go.Shelf
open Lib (hid)
open Pa (F Nd)
def btwF (L:Look) (g:Bool) (a b z:Nd):F:=if g=false∧a.kind=9∧b.kind=10∧z.kind=10 then within L a b.num z.num else ofT g 2 ((cmpd L g 5 a b).app (cmpd L g 3 a z))
def Carries (its:List It) (B:Nat) (f:F) (vs:List Value):Prop:=∀W,(∀x∈its,x.P W)→CvM B W f vs
theorem Carries.snoc {its:List It} {B lo:Nat} {W1:World} {f t:F} {vs us:List Value} (h:Carries its B f vs) (hB:B≤lo):Carries (icv lo W1 t us::its) B (f.app t) (vs++us):=fun W hW=>by
 have h1:(icv lo W1 t us).P W:=hW _ (List.mem_cons_self ..);exact(h W fun x hx=>hW x (List.mem_cons_of_mem _ hx)).app ((h1.1.agree h1.2).low hB)
theorem CvM.form {B:Nat} {W:World} {f:F} {v:Value} (h:CvM B W f [v]):∃T pl,v=.iface T pl:=by
 cases f with
 | nil=>cases h
 | cons x ks r =>
   obtain⟨v',us,e,-,h3⟩:=h;injection e with e1 _;subst e1;by_cases hk:x.kind=5
   ·rw[if_pos hk]at h3;obtain⟨-,A,c,ws,rfl,-⟩:=h3;exact⟨_,_,rfl⟩
   ·rw[if_neg hk]at h3;obtain⟨-,A,c,rfl,-⟩:=h3;exact⟨_,_,rfl⟩
theorem Carries.at_ {o:List Nat} {w W:World} {a its:List It} {B:Nat} {f:F} {vs:List Value} (h:Carries its B f vs) (hH:Hp o w (a++its) W):CvM B W f vs:=h W fun x hx=>hH.sep.ok x (List.mem_append_right _ hx)
def numG (n:Nk) (l:Nat):Int:=if n.kind=3 then l else if n.kind=4 then 1 else n.num
inductive NCs (d:Po) (L:Lp) (A:Option Addr) (c:Nat) (S:List Sm) (w0:World) (n:Nk) (g:Bool):F→Prop
 | k0 (au:n.kind=0):NCs d L A c S w0 n g (tru (true != g))
 | k1 (au:n.kind=1):NCs d L A c S w0 n g (tru (false != g))
 | k2 (au:n.kind=2) (k0:Int) (ar:n.kids=[k0]) (T:Bool→F) (IH:∀g W,Below w0.heap.size w0 W→∀B,B≤W.heap.size→Calls prog 30 #[fitV d L A S.length c,.int .i64 k0,.bool g] W fun e w'=>(∃v,e=.returned v∧CvM B w' (T g) [v])∧Below W.heap.size W w'):NCs d L A c S w0 n g (T !g)
 | k6 (au:n.kind=6) (hh:0≤n.num) (fM:n.num≤5) (ix kx:Nat) (a b:Nk) (ha:Kid d n.kids 0 ix a) (aX:Kid d n.kids 1 kx b) (hP:Pr (lookS S d.uses) n.num (ndOf a) (ndOf b)):NCs d L A c S w0 n g (cmpd (lookS S d.uses) g n.num (ndOf a) (ndOf b))
 | k7 (au:n.kind=7) (ia ib iz:Nat) (a b z:Nk) (ha:Kid d n.kids 0 ia a) (aX:Kid d n.kids 1 ib b) (rY:Kid d n.kids 2 iz z) (xe:∀h,Pr (lookS S d.uses) h (ndOf a) (ndOf b)) (iV:∀h,Pr (lookS S d.uses) h (ndOf a) (ndOf z)) (bJ:a.kind=9→∃fd,findS S d.uses a.name a.attr=some fd):NCs d L A c S w0 n g (btwF (lookS S d.uses) g (ndOf a) (ndOf b) (ndOf z))
 | k8 (au:n.kind=8) (ix:Nat) (a:Nk) (uk:2≤n.kids.length∧n.kids.length≤10000) (ha:Kid d n.kids 0 ix a) (hj:∀j,1≤j→j<n.kids.length→∃jx b,Kid d n.kids j jx b∧(zaf d.nodes n.kids)[j]? =some (ndOf b)∧Pr (lookS S d.uses) 0 (ndOf a) (ndOf b)):NCs d L A c S w0 n g (ofT g 1 (F.cat (((zaf d.nodes n.kids).drop 1).map (cmpd (lookS S d.uses) g 0 (ndOf a)))))
 | kg (au:n.kind=3∨n.kind=4∨n.kind=5) (t:Int→F) (bu:n.kids.length≤10000∧(F.cat (n.kids.map t)).size≤100000) (iZ:0≤n.num∧n.num≤100000) (IH:∀k∈n.kids,∀W,Below w0.heap.size w0 W→∀B,B≤W.heap.size→Calls prog 30 #[fitV d L A S.length c,.int .i64 k,.bool g] W fun e w'=>(∃v,e=.returned v∧CvM B w' (t k) [v])∧Below W.heap.size W w'):NCs d L A c S w0 n g (ofT g (numG n (F.cat (n.kids.map t)).len) (F.cat (n.kids.map t)))
theorem zbt {d:Po} {L:Lp} {A:Option Addr} {c:Nat} {S:List Sm} {w0:World} (E:Env w0 d L A c S) (hR:zah chkB S d=true) (i:Nat) (n:Nk) (hn:d.nodes[i]? =some n) (g:Bool) (w:World) (h0:Below w0.heap.size w0 w) (B:Nat) (bM:B≤w.heap.size) (R:F) (HNC:Hid (NCs d L A c S w0 n g R)) :
 Calls prog 30 #[fitV d L A S.length c,.int .i64 (i:Int),.bool g] w fun e w'=>(∃v,e=.returned v∧CvM B w' R [v])∧Below w.heap.size w w':=by
 obtain⟨ua,uc,ra,rc,na,nc⟩:=L;obtain⟨ad,KA,kc,hA,aP⟩:=E.p.ns.at_ i n hn;change na=some ad at hA;subst hA;have bk:n.kids.length≤1000000:=(E.pd.ns n (List.mem_of_getElem? hn)).kids;have ay:=(List.getElem?_eq_some_iff.1 hn).1;have aM:(i:Int)<(d.nodes.length:Int):=om;have aL:(0:Int)≤(i:Int):=om;have dT:=hid E;have kY:=hid hR;have cT:=hid aP;have hN:=aP.up h0;have hk:=((Hp.start w).new 93 (fitC d ⟨ua,uc,ra,rc,some ad,nc⟩ A S.length c)).new 4 [.bool g];obtain⟨gm,hg⟩:∃g,w.heap.size=g:=⟨_,rfl⟩;obtain⟨q,hq⟩:∃f,gm+1=f:=⟨_,rfl⟩;simp only[sizeA,hg]at hk;have bH:=hid (hN.up hk.below0);clear hN aP hn ay E hR;go_enter func30,ntmps30;go_upto_region 1 with fail;simp only[hq]at hk ⊢;have an:Hp [] w [iblk q 4 [.bool g],iblk gm 93 (fitC d ⟨ua,uc,ra,rc,some ad,nc⟩ A S.length c)] ((w.alloc (.cells #[.string d.name,.slice ua d.uses.length uc,.slice ra d.reveal.length rc,.slice (some ad) d.nodes.length nc,.int .i64 d.root,.string d.scope,.int .i64 d.limit,.string d.escrow,.slice A S.length c] 93)).alloc (.cells #[.bool g] 4)):=hk;have bH:Hid (NodeAt ((w.alloc (.cells #[.string d.name,.slice ua d.uses.length uc,.slice ra d.reveal.length rc,.slice (some ad) d.nodes.length nc,.int .i64 d.root,.string d.scope,.int .i64 d.limit,.string d.escrow,.slice A S.length c] 93)).alloc (.cells #[.bool g] 4)) (ad.add (i*6)) n KA kc):=bH;generalize (w.alloc (.cells #[.string d.name,.slice ua d.uses.length uc,.slice ra d.reveal.length rc,.slice (some ad) d.nodes.length nc,.int .i64 d.root,.string d.scope,.int .i64 d.limit,.string d.escrow,.slice A S.length c] 93)).alloc (.cells #[.bool g] 4)=W1 at *;clear hk hq;obtain⟨d0,d1,d2,d3,d4,d5,-,-⟩:=bH.out;obtain⟨c0,c1,c2,c3,c4,c5,c6,c7,c8⟩:=blk9 (an.blk 1 rfl);have ah:=an.new 68 (nkcs n KA kc);go_upto_region 2 with fail;have ah:Hp [] w [iblk W1.heap.size 68 (nkcs n KA kc),iblk q 4 [.bool g],iblk gm 93 (fitC d ⟨ua,uc,ra,rc,some ad,nc⟩ A S.length c)] (W1.alloc (.cells #[.int .i64 n.kind,.int .i64 n.num,.string n.name,.string n.attr,.slice KA n.kids.length kc,.int .i64 n.at_] 68)):=ah;generalize W1.alloc (.cells #[.int .i64 n.kind,.int .i64 n.num,.string n.name,.string n.attr,.slice KA n.kids.length kc,.int .i64 n.at_] 68)=W2 at *;generalize W1.heap.size=p at *;clear an bH c0 c1 c2 c3 c4 c5 c6 c7 c8 d0 d1 d2 d3 d4 d5;obtain⟨d0,d1,d2,d3,d4,d5⟩:=Blk.get6 (ah.blk 0 rfl);have g0:=(ah.blk 1 rfl).cell 0;simp only[List.getElem?_cons_zero]at g0;obtain⟨c0,c1,c2,c3,c4,c5,c6,c7,c8⟩:=blk9 (ah.blk 2 rfl);have E:=dT.out;have hR:=kY.out;have aP:=cT.out;cases HNC.out with
 | k0 au =>
   have nT:(n.kind==0)=true:=by rw[au];rfl
   have nj:(n.kind==1)=false:=by rw[au];rfl
   exact zt13
 | k1 au =>
   have nT:(n.kind==0)=false:=by rw[au];rfl
   have nj:(n.kind==1)=true:=by rw[au];rfl
   exact zt13
 | k2 au k0 ar T IH =>
   have nT:(n.kind==0)=false:=by rw[au];rfl
   have nj:(n.kind==1)=false:=by rw[au];rfl
   have mX:(n.kind==2)=true:=by rw[au];rfl
   have nL:(n.kind==6)=false:=by rw[au];rfl
   have mV:(n.kind==7)=false:=by rw[au];rfl
   have o8:(n.kind==8)=false:=by rw[au];rfl
   obtain⟨ka,cM,ck⟩:=aP.ints.at_ 0 k0 zu8;have lV:(0:Int)<(n.kids.length:Int):=by rw[ar];simp
   have fQ:0<n.kids.length:=by rw[ar];simp
   have HK:=hid (And.intro cM ck);have HI:=hid (IH (!g));clear ar cM ck;clear aP E hR dT kY;clear au;obtain⟨cM,ck⟩:=HK.out;subst cM;have ck1:=zaa (zaa ck h0) ah.below0;rw[show ka.add 0=ka from rfl]at ck1;go_upto_region 10 with fail;go_still_tail 7,kr;change wpList _ _ _ _ _ (World.drew _);have cf:=ah.drew;have HC:=hid (HI.out _ (h0.trans (cf.below0.mono h0.size)) B (Nat.le_trans bM cf.size));cases g;all_goals
    go_wp2_with fail;refine HC.out.mono ?_;rintro e w4 ⟨⟨v,rfl,hv⟩,aK⟩;have aq:=cf.next aK;have aN:=hid hv;clear hv;go_wp2_with fail;go_ret;have hb:=aq.below0;exact zuy
 | k6 au hh fM ix kx a b ha aX hP =>
   have nT:(n.kind==0)=false:=by rw[au];rfl
   have nj:(n.kind==1)=false:=by rw[au];rfl
   have mX:(n.kind==2)=false:=by rw[au];rfl
   have nL:(n.kind==6)=true:=by rw[au];rfl
   have mV:(n.kind==7)=false:=by rw[au];rfl
   have o8:(n.kind==8)=false:=by rw[au];rfl
   have dj:=hid (fun gb gm gn tb tm tn W hW hq hB hM hN=>cmpd_any E hR g n KA kc aP.ints bk n.num hh fM 0 1 ix kx a b ha aX hP gb gm gn tb tm tn W hW B hq hB hM hN);clear ha aX hP hh fM;clear aP E hR dT kY;clear au;have HC:=hid (dj.out _ _ _ _ _ _ W2 (h0.trans (ah.below0.mono h0.size)) (Nat.le_trans bM ah.size) (ah.blk 1 rfl) (ah.blk 2 rfl) (ah.blk 0 rfl));go_wp2_with fail;refine HC.out.mono ?_;rintro e w4 ⟨⟨v,rfl,hv⟩,aK⟩;have aq:=ah.next aK;have aN:=hid hv;clear hv;go_wp2_with fail;go_ret;have hb:=aq.below0;exact zuy
 | k7 au ia ib iz a b z ha aX rY xe iV bJ =>
   have nT:(n.kind==0)=false:=by rw[au];rfl
   have nj:(n.kind==1)=false:=by rw[au];rfl
   have mX:(n.kind==2)=false:=by rw[au];rfl
   have nL:(n.kind==6)=false:=by rw[au];rfl
   have mV:(n.kind==7)=true:=by rw[au];rfl
   have o8:(n.kind==8)=false:=by rw[au];rfl
   have HE:=hid E;have HA:=hid (And.intro ha (And.intro aX rY));have HR:=hid hR;have HP:=hid (And.intro xe iV);have iE:=hid bJ;clear ha aX rY xe iV bJ;clear aP E hR dT kY;clear au;have cT:=hid (cT.out);go_upto_region 15 with fail;go_cut [69] (fun s69 wx=>s69=.bool (decide (g=false∧a.kind=9∧b.kind=10∧z.kind=10))∧Hp [] w [iblk p 68 (nkcs n KA kc),iblk q 4 [.bool g],iblk gm 93 (fitC d ⟨ua,uc,ra,rc,some ad,nc⟩ A S.length c)] wx);case first =>
    have gN:=hid (fun W hW (hM:Blk W gm 93 _) (hN:Blk W p 68 _)=>kind_any HE.out n KA kc cT.out.ints bk 0 ia a HA.out.1 gm p _ _ W hW hM hN);have iD:=hid (fun W hW (hM:Blk W gm 93 _) (hN:Blk W p 68 _)=>kind_any HE.out n KA kc cT.out.ints bk 1 ib b HA.out.2.1 gm p _ _ W hW hM hN);have ls:=hid (fun W hW (hM:Blk W gm 93 _) (hN:Blk W p 68 _)=>kind_any HE.out n KA kc cT.out.ints bk 2 iz z HA.out.2.2 gm p _ _ W hW hM hN);clear d0 d1 d2 d3 d4 d5 c0 c1 c2 c3 c4 c5 c6 c7 c8;cases g with
    | true =>
      go_wp2_with fail;go_meet;exact⟨by simp,ah⟩
    | false =>
      go_wp2_with fail;refine(gN.out W2 (h0.trans (ah.below0.mono h0.size)) (ah.blk 2 rfl) (ah.blk 0 rfl)).mono ?_;rintro e w3 ⟨rfl,aJ⟩;have aj:=ah.next aJ;by_cases e0:a.kind=9
      ·have f0:(a.kind==9)=true:=by simpa using e0
       go_wp2_with fail;refine(iD.out w3 (h0.trans (aj.below0.mono h0.size)) (aj.blk 2 rfl) (aj.blk 0 rfl)).mono ?_;rintro e w4 ⟨rfl,aK⟩;have aq:=aj.next aK;by_cases e1:b.kind=10
       ·have f1:(b.kind==10)=true:=by simpa using e1
        go_wp2_with fail;refine(ls.out w4 (h0.trans (aq.below0.mono h0.size)) (aq.blk 2 rfl) (aq.blk 0 rfl)).mono ?_;rintro e w5 ⟨rfl,aS⟩;have aw:=aq.next aS;by_cases e2:z.kind=10
        ·have f2:(z.kind==10)=true:=by simpa using e2
         have HX:Hid (decide (True∧a.kind=9∧b.kind=10∧z.kind=10)=true):=hid (by exact decide_eq_true ⟨trivial,e0,e1,e2⟩);clear e0 e1 e2;go_wp2_with fail;go_meet;exact⟨by rw[HX.out],aw⟩
        ·have f2:(z.kind==10)=false:=by simpa using e2
         have HX:Hid (decide (True∧a.kind=9∧b.kind=10∧z.kind=10)=false):=hid (by exact decide_eq_false (fun h=>e2 h.2.2.2));clear e0 e1 e2;go_wp2_with fail;go_meet;exact⟨by rw[HX.out],aw⟩
       ·have f1:(b.kind==10)=false:=by simpa using e1
        have HX:Hid (decide (True∧a.kind=9∧b.kind=10∧z.kind=10)=false):=hid (by exact decide_eq_false (fun h=>e1 h.2.2.1));clear e0 e1;go_wp2_with fail;go_meet;exact⟨by rw[HX.out],aq⟩
      ·have f0:(a.kind==9)=false:=by simpa using e0
       have HX:Hid (decide (True∧a.kind=9∧b.kind=10∧z.kind=10)=false):=hid (by exact decide_eq_false (fun h=>e0 h.2.1));clear e0;go_wp2_with fail;go_meet;exact⟨by rw[HX.out],aj⟩
   case rest =>
    clear ah d0 d1 d2 d3 d4 d5 g0 c0 c1 c2 c3 c4 c5 c6 c7 c8;obtain⟨rfl,aj⟩:=hcut;obtain⟨T,hT⟩:∃t,decide (g=false∧a.kind=9∧b.kind=10∧z.kind=10)=t:=⟨_,rfl⟩;rw[hT];cases T with
    | true =>
      have dP:=of_decide_eq_true hT;obtain⟨fd,hf⟩:=iE.out dP.2.1;have HV:Hid (btwF (lookS S d.uses) g (ndOf a) (ndOf b) (ndOf z)=withB fd (ndOf a) (max b.num fd.min) (min z.num fd.max)):=hid (by
       unfold btwF;rw[if_pos ⟨dP.1,(zau HA.out.1.a0 9).2 dP.2.1,(zau HA.out.2.1.a0 10).2 dP.2.2.1,(zau HA.out.2.2.a0 10).2 dP.2.2.2⟩];unfold within;rw[fdOf_nd hf];rfl)
      obtain⟨x1,QA,qa,e1,cR⟩:=HE.out.p.ns.at_ ia a HA.out.1.nd;obtain⟨x2,QB,qb,e2,dL⟩:=HE.out.p.ns.at_ ib b HA.out.2.1.nd;obtain⟨x3,QZ,qz,e3,sH⟩:=HE.out.p.ns.at_ iz z HA.out.2.2.nd;injection (e1:some ad=some x1)with e1;injection (e2:some ad=some x2)with e2;injection (e3:some ad=some x3)with e3;subst e1 e2 e3;obtain⟨y1,cM,k1⟩:=cT.out.ints.at_ 0 _ HA.out.1.at_;obtain⟨y2,mA,k2⟩:=cT.out.ints.at_ 1 _ HA.out.2.1.at_;obtain⟨y3,mJ,k3⟩:=cT.out.ints.at_ 2 _ HA.out.2.2.at_;subst cM;injection mA with mA;injection mJ with mJ;subst mA mJ;have l3:=(List.getElem?_eq_some_iff.1 HA.out.2.2.at_).1;have l4:=(List.getElem?_eq_some_iff.1 HA.out.1.nd).1;have l5:=(List.getElem?_eq_some_iff.1 HA.out.2.1.nd).1;have l6:=(List.getElem?_eq_some_iff.1 HA.out.2.2.nd).1;have i1:(0:Int)<(n.kids.length:Int):=om;have i2:(1:Int)<(n.kids.length:Int):=om;have i3:(2:Int)<(n.kids.length:Int):=om;have j1:0<n.kids.length:=om;have j2:1<n.kids.length:=om;have j3:2<n.kids.length:=om;have i4:(ia:Int)<(d.nodes.length:Int):=om;have i5:(ib:Int)<(d.nodes.length:Int):=om;have i6:(iz:Int)<(d.nodes.length:Int):=om;have z4:(0:Int)≤(ia:Int):=om;have z5:(0:Int)≤(ib:Int):=om;have z6:(0:Int)≤(iz:Int):=om;replace k1:=zaa (zaa k1 h0) aj.below0;rw[show∀a:Addr,a.add 0=a from fun _=>rfl]at k1;replace k2:=zaa (zaa k2 h0) aj.below0;replace k3:=zaa (zaa k3 h0) aj.below0;rw[show∀a:Addr,a.add 1=⟨a.block,a.off+1,none⟩from fun _=>rfl]at k2;rw[show∀a:Addr,a.add 2=⟨a.block,a.off+2,none⟩from fun _=>rfl]at k3;replace cR:=(cR.up h0).up aj.below0;replace dL:=(dL.up h0).up aj.below0;replace sH:=(sH.up h0).up aj.below0;have a0:=cR.kind;have a1:=cR.num;have a2:=cR.name;have a3:=cR.attr;have a4:=cR.kids;have a5:=cR.at_;have b1:=dL.num;have b2:=sH.num;obtain⟨c0,c1,c2,c3,c4,c5,c6,c7,c8⟩:=blk9 (aj.blk 2 rfl);have d4:=(aj.blk 0 rfl).cell 4;simp only[List.getElem?_cons_zero,List.getElem?_cons_succ]at d4;have cf:=aj.drew;have HC:=hid (within_any HE.out HR.out a HA.out.1.a0 QA qa fd hf (by have:=(fdB_of HR.out hf).wl;omega) b.num z.num _ (h0.trans (cf.below0.mono h0.size)) B (Nat.le_trans bM cf.size));clear hT dP hf iE HP HR HE cT cR dL sH l3 l4 l5 l6 HA;go_upto_region 16 with fail;go_still_tail 30,kr;change wpList _ _ _ _ _ (World.drew _);go_wp2_with fail;refine HC.out.mono ?_;rintro e w4 ⟨⟨v,rfl,hv⟩,aK⟩;have aq:=cf.next aK;have aN:=hid hv;clear hv;exact zt15
    | false =>
      have dP:=of_decide_eq_false hT;have HV:Hid (btwF (lookS S d.uses) g (ndOf a) (ndOf b) (ndOf z)=ofT g 2 ((cmpd (lookS S d.uses) g 5 (ndOf a) (ndOf b)).app (cmpd (lookS S d.uses) g 3 (ndOf a) (ndOf z)))):=hid (by
       unfold btwF;rw[if_neg (fun e=>dP ⟨e.1,(zau HA.out.1.a0 9).1 e.2.1,(zau HA.out.2.1.a0 10).1 e.2.2.1,(zau HA.out.2.2.a0 10).1 e.2.2.2⟩)])
      have HC5:=hid (cmpd_any HE.out HR.out g n KA kc cT.out.ints bk 5 zy0 zy0 0 1 ia ib a b HA.out.1 HA.out.2.1 (HP.out.1 5) q gm p _ _ _ wc (h0.trans (aj.below0.mono h0.size)) wc.heap.size (Nat.le_refl _) (aj.blk 1 rfl) (aj.blk 2 rfl) (aj.blk 0 rfl));have n9:=hid (fun W hW hM hN hB=>cmpd_any HE.out HR.out g n KA kc cT.out.ints bk 3 zy0 zy0 0 2 ia iz a z HA.out.1 HA.out.2.2 (HP.out.2 3) q gm p 4 93 68 W hW W.heap.size (Nat.le_refl _) hB hM hN);have hs5:=zb8 (lookS S d.uses) g 5 (ndOf a) (ndOf b);have hs3:=zb8 (lookS S d.uses) g 3 (ndOf a) (ndOf z);have im:Hid (((cmpd (lookS S d.uses) g 5 (ndOf a) (ndOf b)).app (cmpd (lookS S d.uses) g 3 (ndOf a) (ndOf z))).size≤100000):=hid (by rw[F.size_app];omega);generalize cmpd (lookS S d.uses) g 5 (ndOf a) (ndOf b)=T1 at *;generalize cmpd (lookS S d.uses) g 3 (ndOf a) (ndOf z)=T2 at *;have j':=Nat.le_trans bM aj.size;clear hT dP iE HP HR HE cT HA hs5 hs3;go_wp2_with fail;refine HC5.out.mono ?_;rintro e w4 ⟨⟨v1,rfl,lU⟩,aK⟩;obtain⟨t1,ir,rfl⟩:=CvM.form lU;have aq:=Hp.cv aj aK lU;have HC:=hid (n9.out w4 (h0.trans (aq.below0.mono h0.size)) (aq.blk 3 rfl) (aq.blk 1 rfl) (aq.blk 2 rfl));clear HC5 n9 aj lU;go_wp2_with fail;refine HC.out.mono ?_;rintro e w5 ⟨⟨v2,rfl,fR⟩,aS⟩;obtain⟨t2,tE,rfl⟩:=CvM.form fR;have aw:=Hp.cv aq aS fR;have hs4:=Nat.le_trans bM aq.size;have aE:=aw.new 91 [.iface t1 ir,.iface t2 tE];have C1:=(Hp.cvm aE 2 rfl).low j';have C2:=(Hp.cvm aE 1 rfl).low hs4;have cA:=aE.blk 0 rfl;have HO:=hid (of_any (w5.alloc (.cells [.iface t1 ir,.iface t2 tE].toArray 91)) g 2 (T1.app T2) [.iface t1 ir,.iface t2 tE] (some ⟨w5.heap.size,0,none⟩) 2 im.out zy0 zy0 B (Nat.le_trans bM aE.size) (fun i u hu=>⟨⟨w5.heap.size,0,none⟩,rfl,Nat.le_trans bM aw.size,by rw[zce];exact(cA.cell i).trans hu⟩) (C1.app C2) q 4 _ (Below.refl _ _) (aE.blk 4 rfl));clear aq HC fR C1 C2 cA;go_wp2_with fail;refine HO.out.mono ?_;rintro e w7 ⟨⟨v,rfl,hv⟩,eK⟩;have aO:=aE.next eK;have aN:=hid hv;clear hv;go_wp2_with fail;go_ret;have hb:=aO.below0;exact zuo
 | k8 au ix a uk ha hj =>
   have nT:(n.kind==0)=false:=by rw[au];rfl
   have nj:(n.kind==1)=false:=by rw[au];rfl
   have mX:(n.kind==2)=false:=by rw[au];rfl
   have nL:(n.kind==6)=false:=by rw[au];rfl
   have mV:(n.kind==7)=false:=by rw[au];rfl
   have o8:(n.kind==8)=true:=by rw[au];rfl
   have HE:=hid E;have HR:=hid hR;have HA:=hid ha;have HJ:=hid hj;have HLZ:=hid uk;clear ha hj;clear aP E hR dT kY;clear au;obtain⟨i0,cC,bg,aY,bh⟩:=info_parts cond_info;obtain⟨t,ht⟩:∃t:Nd→F,cmpd (lookS S d.uses) g 0 (ndOf a)=t:=⟨_,rfl⟩;have qK:=hid (fun y=>congrFun ht y);obtain⟨Y,hY⟩:∃Y,(zaf d.nodes n.kids).drop 1=Y:=⟨_,rfl⟩;have HY:=hid hY;have HYL:Hid (Y.length+1=n.kids.length):=hid (by rw[←hY,List.length_drop,List.length_map];omega);have im:Hid ((F.cat (Y.map t)).size≤100000):=hid (by
    have h1:=cat_size (t:=t) (fun y=>by rw[←ht];exact zb8 _ _ _ _ _) Y;have h2:=HYL.out;omega)
   have HTX:=hid ht;have dz:n.kids.length≤10000:=HLZ.out.2;have hk2l:2≤n.kids.length:=HLZ.out.1;clear ht hY uk;have aj:=ah.nilrow 91 1;go_upto_region 20 with fail;clear d0 d1 d2 d3 d4 d5 g0 c0 c1 c2 c3 c4 c5 c6 c7 c8 ah;go_loopg [10,12] (n.kids.length-1) (fun m fu s12 wx=>∃(j:Nat) (vs:List Value) (LA:Option Addr) (lc:Nat) (its:List It),1≤j∧j≤n.kids.length∧m=n.kids.length-j∧fu=.slice LA vs.length lc∧s12=.int .i64 (j:Int)∧vs.length≤j∧Hid (Carries its B (F.cat ((Y.take (j-1)).map t)) vs)∧Hp [] w (zb5 (.slice LA vs.length lc) vs::iblk p 68 (nkcs n KA kc)::iblk q 4 [.bool g]::iblk gm 93 (fitC d ⟨ua,uc,ra,rc,some ad,nc⟩ A S.length c)::its) wx);case atStart=>exact⟨1,[],none,0,[],Nat.le_refl _,by omega,rfl,rfl,rfl,Nat.zero_le _,hid (fun W _=>rfl),aj⟩
   case round =>
    obtain⟨j,vs,LA,lc,its,jm,hjn,rfl,rfl,rfl,hvj,jg,hM⟩:=hrel;clear aj;have d4:=(hM.blk 1 rfl).cell 4;simp only[List.getElem?_cons_zero,List.getElem?_cons_succ]at d4;by_cases aW:j<n.kids.length
    ·have bX:(j:Int)<(n.kids.length:Int):=om;obtain⟨jx,b,aX,hy,sB⟩:=HJ.out j jm aW;have HC:=hid (cmpd_any HE.out HR.out g n KA kc cT.out.ints bk 0 zy0 zy0 0 j ix jx a b HA.out aX sB q gm p _ _ _ wr (h0.trans (hM.below0.mono h0.size)) wr.heap.size (Nat.le_refl _) (hM.blk 2 rfl) (hM.blk 3 rfl) (hM.blk 1 rfl));rw[qK.out (ndOf b)]at HC;have ep:Hid (F.cat ((Y.take (j+1-1)).map t)=(F.cat ((Y.take (j-1)).map t)).app (t (ndOf b))):=hid (by
      have h9:Y[j-1]? =some (ndOf b):=by rw[←HY.out,List.getElem?_drop,show 1+(j-1)=j by omega];exact hy
      rw[show j+1-1=(j-1)+1 by omega,zan h9,List.map_append,List.map_cons,List.map_nil,F.cat_snoc])
     generalize t (ndOf b)=T at *;have j':=Nat.le_trans bM hM.size;clear aX hy sB;go_wp2_with fail;refine HC.out.mono ?_;rintro e w4 ⟨⟨v,rfl,hv⟩,aK⟩;obtain⟨t1,ir,rfl⟩:=CvM.form hv;have aq:=Hp.cv hM aK hv;have lP:=hid (jg.out.snoc (W1:=w4) (t:=T) (us:=[.iface t1 ir]) j');clear HC hM hv aK d4;go_wp2_with (at_builtin;refine zac rfl _ _ 181 rfl 0 91 i0 _ 1 16 underlying181 cC bg aY bh rfl zy0 _ vs.length vs rfl ((aq.alloc _).row 1 rfl) ⟨w4.heap.size,0,none⟩ 1 1 [.iface t1 ir] rfl rfl (new1p _ _ _) zy3 zy0 zy2 om (Nat.zero_le _) ?_;intro v' w5 af ai aH;obtain⟨uo,uL,rfl⟩:=zab af;have aw:=((aq.alloc (.cells #[.iface t1 ir] 91)).grown 1 rfl af ai aH).perm (List.perm_middle (l₁:=[_,_,_,_])).symm;clear af ai aH aq);go_roundg (n.kids.length-(j+1));case measure=>omega
     case rel =>
      refine⟨j+1,vs++[.iface t1 ir],uo,uL,_::its,by omega,aW,rfl,by rw[List.length_append];rfl,by first|rfl|simp,by rw[List.length_append];simp;omega,hid (by rw[ep.out];exact lP.out),?_⟩;unfold zb5;rw[List.length_append];exact aw
    ·have bX:¬(j:Int)<(n.kids.length:Int):=om;have lh:Hid (Y.take (j-1)=Y):=hid (List.take_of_length_le (by have:=HYL.out;omega));rw[lh.out]at jg;have mD:=hid (jg.out.at_ (a:=[zb5 (.slice LA vs.length lc) vs,iblk p 68 (nkcs n KA kc),iblk q 4 [.bool g],iblk gm 93 (fitC d ⟨ua,uc,ra,rc,some ad,nc⟩ A S.length c)]) hM);have HO:=hid (of_any wr g 1 _ vs LA lc im.out zy0 zy0 B (Nat.le_trans bM hM.size) (vls_row (hM.row 0 rfl) rfl (fun ag e=>Nat.le_trans bM (hM.ge (by rw[show LA=some ag from e];simp[ow,irow,Value.ownBlock])))) mD.out q 4 wr (Below.refl _ _) (hM.blk 2 rfl));clear HE HR HA HJ cT;go_wp2_with fail;refine HO.out.mono ?_;rintro e w7 ⟨⟨v,rfl,hv⟩,eK⟩;have aO:=hM.next eK;have aN:=hid hv;clear hv;go_wp2_with fail;go_ret;have hb:=aO.below0;exact⟨⟨v,rfl,by have h9:=aN.out;rw[←HY.out,←HTX.out]at h9;exact h9⟩,by first|exact hb|(subst hg;exact hb)⟩
 | kg au t bu iZ IH =>
   rcases au with au|au|au;all_goals
    have nT:(n.kind==0)=false:=by rw[au];rfl
    have nj:(n.kind==1)=false:=by rw[au];rfl
    have mX:(n.kind==2)=false:=by rw[au];rfl
    have nL:(n.kind==6)=false:=by rw[au];rfl
    have mV:(n.kind==7)=false:=by rw[au];rfl
    have o8:(n.kind==8)=false:=by rw[au];rfl
    first|(have kq3:(n.kind==3)=true:=by rw[au];rfl)|(have kq3:(n.kind==3)=false:=by rw[au];rfl)
    first|(have kq4:(n.kind==4)=true:=by rw[au];rfl)|(have kq4:(n.kind==4)=false:=by rw[au];rfl)
    have lf:=hid IH;have im:=hid bu;have iH:=hid iZ;clear IH bu iZ;clear aP E hR dT kY;have nA:=hid au;clear au;obtain⟨i0,cC,bg,aY,bh⟩:=info_parts cond_info;have dz:n.kids.length≤100000:=by
     have h1:=im.out.1;omega
    have aj:=ah.nilrow 91 1;go_upto_region 25 with fail;clear d0 d1 d2 d3 d4 d5 g0 c0 c1 c2 c3 c4 c5 c6 c7 c8 ah;go_loopg [10,129] n.kids.length (fun m fu vh wx=>∃(j:Nat) (vs:List Value) (LA:Option Addr) (lc:Nat) (its:List It),j≤n.kids.length∧m=n.kids.length-j∧fu=.slice LA vs.length lc∧vh=.int .i64 (j:Int)∧vs.length≤j∧Hid (Carries its B (F.cat ((n.kids.take j).map t)) vs)∧Hp [] w (zb5 (.slice LA vs.length lc) vs::iblk p 68 (nkcs n KA kc)::iblk q 4 [.bool g]::iblk gm 93 (fitC d ⟨ua,uc,ra,rc,some ad,nc⟩ A S.length c)::its) wx);case atStart=>exact⟨0,[],none,0,[],Nat.zero_le _,rfl,rfl,rfl,Nat.zero_le _,hid (fun W _=>rfl),aj⟩
    case round =>
     obtain⟨j,vs,LA,lc,its,hjn,rfl,rfl,rfl,hvj,jg,hM⟩:=hrel;clear aj;by_cases aW:j<n.kids.length
     ·have bX:(j:Int)<(n.kids.length:Int):=om;have bT:(0:Int)≤(j:Int):=om;obtain⟨k,cU⟩:∃k,n.kids[j]? =some k:=⟨_,List.getElem?_eq_getElem aW⟩;obtain⟨ka,cM,ck⟩:=((cT.out.up h0).up hM.below0).ints.at_ j k cU;subst cM;obtain⟨c0,c1,c2,c3,c4,c5,c6,c7,c8⟩:=blk9 (hM.blk 3 rfl);have g0:=(hM.blk 2 rfl).cell 0;simp only[List.getElem?_cons_zero]at g0;have HC:=hid (lf.out k (List.mem_of_getElem? cU) wr (h0.trans (hM.below0.mono h0.size)) wr.heap.size (Nat.le_refl _));have ep:Hid (F.cat ((n.kids.take (j+1)).map t)=(F.cat ((n.kids.take j).map t)).app (t k)):=hid (by rw[zan cU,List.map_append,List.map_cons,List.map_nil,F.cat_snoc]);generalize t k=T at *;have j':=Nat.le_trans bM hM.size;clear cU;go_wp2_with fail;refine HC.out.mono ?_;rintro e w4 ⟨⟨v,rfl,hv⟩,aK⟩;obtain⟨t1,ir,rfl⟩:=CvM.form hv;have aq:=Hp.cv hM aK hv;have lP:=hid (jg.out.snoc (W1:=w4) (t:=T) (us:=[.iface t1 ir]) j');clear HC hM hv aK ck c0 c1 c2 c3 c4 c5 c6 c7 c8 g0;go_wp2_with (at_builtin;refine zac rfl _ _ 181 rfl 0 91 i0 _ 1 16 underlying181 cC bg aY bh rfl zy0 _ vs.length vs rfl ((aq.alloc _).row 1 rfl) ⟨w4.heap.size,0,none⟩ 1 1 [.iface t1 ir] rfl rfl (new1p _ _ _) zy3 zy0 zy2 om (Nat.zero_le _) ?_;intro v' w5 af ai aH;obtain⟨uo,uL,rfl⟩:=zab af;have aw:=((aq.alloc (.cells #[.iface t1 ir] 91)).grown 1 rfl af ai aH).perm (List.perm_middle (l₁:=[_,_,_,_])).symm;clear af ai aH aq);go_roundg (n.kids.length-(j+1));case measure=>omega
      case rel =>
       refine⟨j+1,vs++[.iface t1 ir],uo,uL,_::its,aW,rfl,by rw[List.length_append];rfl,by first|rfl|simp,by rw[List.length_append];simp;omega,hid (by rw[ep.out];exact lP.out),?_⟩;unfold zb5;rw[List.length_append];exact aw
     ·have bX:¬(j:Int)<(n.kids.length:Int):=om;have lh:Hid (n.kids.take j=n.kids):=hid (List.take_of_length_le om);rw[lh.out]at jg;have im:=hid im.out.2;have ew:=hid ((jg.out.at_ (a:=[zb5 (.slice LA vs.length lc) vs,iblk p 68 (nkcs n KA kc),iblk q 4 [.bool g],iblk gm 93 (fitC d ⟨ua,uc,ra,rc,some ad,nc⟩ A S.length c)]) hM).len);obtain⟨d0,d1,d2,d3,d4,d5⟩:=Blk.get6 (hM.blk 1 rfl);have mD:=hid (jg.out.at_ (a:=[zb5 (.slice LA vs.length lc) vs,iblk p 68 (nkcs n KA kc),iblk q 4 [.bool g],iblk gm 93 (fitC d ⟨ua,uc,ra,rc,some ad,nc⟩ A S.length c)]) hM);have sb:=fun num h1 h2=>hid (of_any wr g num _ vs LA lc im.out h1 h2 B (Nat.le_trans bM hM.size) (vls_row (hM.row 0 rfl) rfl (fun ag e=>Nat.le_trans bM (hM.ge (by rw[show LA=some ag from e];simp[ow,irow,Value.ownBlock])))) mD.out q 4 wr (Below.refl _ _) (hM.blk 2 rfl));have nQ:=iH.out;first
      | (have z:Hid (n.kind=3):=nA;have HO:=sb (vs.length:Int) om om)
      | (have z:Hid (n.kind=4):=nA;have HO:=sb 1 om om)
      | have HO:=sb n.num om om
      clear lf cT sb nQ;go_wp2_with fail;refine HO.out.mono ?_;rintro e w7 ⟨⟨v,rfl,hv⟩,eK⟩;have aO:=hM.next eK;have aN:=hid hv;clear hv;go_wp2_with fail;go_ret;have hb:=aO.below0;exact⟨⟨v,rfl,by unfold numG;rw[nA.out];first|exact aN.out|(rw[ew.out]at aN;exact aN.out)⟩,by first|exact hb|(subst hg;exact hb)⟩
end Nf
end Go.Proofs.YtekkapgknohadaaGreatDoor
