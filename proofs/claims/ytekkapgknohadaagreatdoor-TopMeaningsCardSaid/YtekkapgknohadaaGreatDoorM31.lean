/- plan: Check. -/
import Derived.Test.YtekkapgknohadaaGreatDoorM14
import Derived.Test.YtekkapgknohadaaGreatDoorM30
set_option linter.unusedVariables false
set_option maxRecDepth 20000
set_option maxHeartbeats 8000000
open Go.Proofs.Tryz
namespace Go.Proofs.YtekkapgknohadaaGreatDoor
namespace Nf
open Go.RowKit Go.Shelf
open Lib (hid)
structure AtAt (W:World) (ad:Addr) (a:At):Prop where
 c0:W.cell? ad=some (.int .i64 a.kind)
 c1:W.cell? ⟨ad.block,ad.off+1,none⟩=some (.int .i64 a.a)
 c2:W.cell? ⟨ad.block,ad.off+2,none⟩=some (.int .i64 a.b)
 c3:W.cell? ⟨ad.block,ad.off+3,none⟩=some (.int .i64 a.lo)
 c4:W.cell? ⟨ad.block,ad.off+4,none⟩=some (.int .i64 a.hi)
structure Ats (W:World) (A:Option Addr) (l:List At):Prop where
 at_:∀i x,l[i]? =some x→∃ad,A=some ad∧AtAt W (ad.add (i*5)) x
theorem AtAt.up {W W':World} {ad:Addr} {a:At} (h:AtAt W ad a) (hb:Below W.heap.size W W'):AtAt W' ad a:=⟨zaa h.c0 hb,zaa h.c1 hb,zaa h.c2 hb,zaa h.c3 hb,zaa h.c4 hb⟩
theorem Ats.up {W W':World} {A:Option Addr} {l:List At} (h:Ats W A l) (hb:Below W.heap.size W W'):Ats W' A l:=⟨fun i s hs=>by
 obtain⟨ad,h1,h2⟩:=h.at_ i s hs;exact⟨ad,h1,h2.up hb⟩⟩
structure PlD where
 dis:List Pla
 com:List Pla
 ats:List At
 fm:List Fm.Gt
 sqs:List At
structure PlL where
 da:Option Addr
 dc:Nat
 ca:Option Addr
 cc:Nat
 aa:Option Addr
 ac:Nat
 fa:Option Addr
 fc:Nat
 sa:Option Addr
 sc:Nat
abbrev pnC (p:PlD) (l:PlL):List Value:=[.slice l.da p.dis.length l.dc,.slice l.ca p.com.length l.cc,.slice l.aa p.ats.length l.ac,.slice l.fa p.fm.length l.fc,.slice l.sa p.sqs.length l.sc]
abbrev pnV (p:PlD) (l:PlL):Value:=.agg #[.slice l.da p.dis.length l.dc,.slice l.ca p.com.length l.cc,.slice l.aa p.ats.length l.ac,.slice l.fa p.fm.length l.fc,.slice l.sa p.sqs.length l.sc]
structure PlnAt (W:World) (p:PlD) (l:PlL):Prop where
 dis:Plas W l.da p.dis
 com:Plas W l.ca p.com
 ats:Ats W l.aa p.ats
 fm:Fm.Gates W W.heap.size l.fa p.fm
 sqs:Ats W l.sa p.sqs
theorem PlnAt.up {W W':World} {p:PlD} {l:PlL} (h:PlnAt W p l) (hb:Below W.heap.size W W'):PlnAt W' p l:=⟨h.dis.up hb,h.com.up hb,h.ats.up hb,h.fm.keep' hb,h.sqs.up hb⟩
structure PlOk (p:PlD):Prop where
 nd:p.dis.length≤64
 nc:p.com.length≤64
 ns:p.sqs.length≤64
 na:p.ats.length≤256
 nf:p.fm.length≤512
 pl:∀x∈p.dis++p.com,0≤x.1∧x.1<4∧2≤x.2∧x.2≤17
 td:twiceP [] p.dis=false
 tc:twiceP [] p.com=false
 kd:∀g∈p.fm,g.kids.length≤512
 fm:Fm.checkP p.fm p.ats.length=0
 at_:∀a∈p.ats,OkAt p.com.length a
 sq:∀a∈p.sqs,a.kind=2∧OkAt p.com.length a
theorem pcheck_any (p:PlD) (l:PlL) (h:PlOk p) (w:World) (hP:PlnAt w p l):Calls prog 56 #[pnV p l] w fun e w'=>e=.returned (.int .i64 0)∧Below w.heap.size w w':=by
 obtain⟨da,dc,ca,cc,aa,ac,fa,fc,sa,sc⟩:=l;have hk:=(Hp.start w).new 46 (pnC p ⟨da,dc,ca,cc,aa,ac,fa,fc,sa,sc⟩);obtain⟨gp,hg⟩:∃g,w.heap.size=g:=⟨_,rfl⟩;rw[hg]at hk;have n1:=h.nd;have n2:=h.nc;have n3:=h.ns;have n4:=h.na;go_enter func56,ntmps56;go_upto_region 1 with fail;try simp only[hg]
 have an:Hp [] w [iblk gp 46 (pnC p ⟨da,dc,ca,cc,aa,ac,fa,fc,sa,sc⟩)] (w.alloc (.cells #[.slice da p.dis.length dc,.slice ca p.com.length cc,.slice aa p.ats.length ac,.slice fa p.fm.length fc,.slice sa p.sqs.length sc] 46)):=hk;clear hk;generalize w.alloc (.cells #[.slice da p.dis.length dc,.slice ca p.com.length cc,.slice aa p.ats.length ac,.slice fa p.fm.length fc,.slice sa p.sqs.length sc] 46)=W1 at *;obtain⟨c0,c1,c2,c3,c4⟩:=Blk.get5 (an.blk 0 rfl);go_upto_region 3 with fail;have ah:Hp [] w [iblk W1.heap.size 40 [.slice da p.dis.length dc,.slice ca p.com.length cc],iblk gp 46 (pnC p ⟨da,dc,ca,cc,aa,ac,fa,fc,sa,sc⟩)] (W1.alloc (.cells #[.slice da p.dis.length dc,.slice ca p.com.length cc] 40)):=an.new 40 [.slice da p.dis.length dc,.slice ca p.com.length cc];have iV:=hP.up ah.below0;obtain⟨d0,d1⟩:=(ah.blk 0 rfl).get2;have hq:Plq (W1.alloc (.cells #[.slice da p.dis.length dc,.slice ca p.com.length cc] 40)) ⟨W1.heap.size,0,none⟩ [(da,p.dis,dc),(ca,p.com,cc)]:=⟨fun i x hx=>by
  rcases i with _|_|i
  ·cases hx;exact⟨d0,iV.dis⟩
  ·cases hx;exact⟨d1,iV.com⟩
  ·simp at hx⟩
 have HC:=hid (pconcat_any ⟨W1.heap.size,0,none⟩ 2 _ zy1 (by
  intro x hx;rcases List.mem_cons.1 hx with rfl|hx
  ·exact n1
  ·rw[List.mem_singleton.1 hx];exact n2) _ hq)
 have eA:plAll [(da,p.dis,dc),(ca,p.com,cc)]=p.dis++p.com:=by simp[plAll]
 rw[eA]at HC;obtain⟨al,eQ⟩:∃al,p.dis++p.com=al:=⟨_,rfl⟩;rw[eQ]at HC;obtain⟨ga,dK⟩:∃g,W1.heap.size=g:=⟨_,rfl⟩;rw[dK]at HC ah;replace HC:Hid (Calls prog 118 #[.slice (some ⟨ga,0,none⟩) 2 2] (W1.alloc (.cells #[.slice da p.dis.length dc,.slice ca p.com.length cc] 40)) fun e w'=>∃v,e=.returned v∧Hp [] (W1.alloc (.cells #[.slice da p.dis.length dc,.slice ca p.com.length cc] 40)) [irow 122 2 v al.length (placs al)] w'):=HC;clear an hq d0 d1 eA iV;have HP:=hid hP;have H:=hid h;clear hP h n1 n2 n3 n4;go_wp2_with fail;refine HC.out.mono ?_;rintro e3 w3 ⟨v,rfl,hv⟩;obtain⟨VA,vc,rfl⟩:=zab (hv.row 0 rfl);have aj:Hp [] w [irow 122 2 (.slice VA al.length vc) al.length (placs al),iblk ga 40 [.slice da p.dis.length dc,.slice ca p.com.length cc],iblk gp 46 (pnC p ⟨da,dc,ca,cc,aa,ac,fa,fc,sa,sc⟩)] w3:=Hp.call (a:=[]) ah hv;clear HC ah hv dK c0 c1 c2 c3 c4;have ug:Hid (∀x∈al,0≤x.1∧x.1<4∧2≤x.2∧x.2≤17):=hid (by rw[←eQ];exact H.out.pl);have hal2:al.length≤128:=by rw[←eQ,List.length_append];have:=H.out.nd;have:=H.out.nc;omega
 clear eQ;go_upto_region 4 with fail;go_loopg [41] al.length (fun m ui wx=>∃i:Nat,i≤al.length∧m=al.length-i∧ui=.int .i64 (i:Int)∧Hp [] w [irow 122 2 (.slice VA al.length vc) al.length (placs al),iblk ga 40 [.slice da p.dis.length dc,.slice ca p.com.length cc],iblk gp 46 (pnC p ⟨da,dc,ca,cc,aa,ac,fa,fc,sa,sc⟩)] wx);case atStart=>exact⟨0,Nat.zero_le _,rfl,rfl,aj⟩
 case round =>
  obtain⟨i,hi,rfl,rfl,hS⟩:=hrel;clear aj;by_cases ay:i<al.length
  ·have aM:(i:Int)<(al.length:Int):=om;have aL:(0:Int)≤(i:Int):=om;obtain⟨x,hx⟩:∃x,al[i]? =some x:=⟨_,List.getElem?_eq_getElem ay⟩;obtain⟨b0,b1,b2,b3⟩:=ug.out x (List.mem_of_getElem? hx);obtain⟨ga2,cp2,hvv,-⟩:=zak (hS.row 0 rfl) om;have hVA:VA=some ⟨ga2,0,none⟩:=by injection hvv
   subst hVA;clear hvv;obtain⟨p0,p1⟩:=placs_at hx;have cx:=zal (hS.row 0 rfl) p0;have cy:=zal (hS.row 0 rfl) p1;obtain⟨x1,x2⟩:=x;simp only at b0 b1 b2 b3 cx cy;clear hx p0 p1;have bi:=hS.new 122 [.int .i64 x1,.int .i64 x2];have q0:¬x1<0:=om;have q1:¬(4:Int)≤x1:=om;have q2:¬x2<2:=om;have q3:¬(17:Int)<x2:=om;clear hS b0 b1 b2 b3;go_upto_region 6 with fail;have bK:Hp [] w [iblk wr.heap.size 122 [.int .i64 x1,.int .i64 x2],irow 122 2 (.slice (some ⟨ga2,0,none⟩) al.length vc) al.length (placs al),iblk ga 40 [.slice da p.dis.length dc,.slice ca p.com.length cc],iblk gp 46 (pnC p ⟨da,dc,ca,cc,aa,ac,fa,fc,sa,sc⟩)] (wr.alloc (.cells #[.int .i64 x1,.int .i64 x2] 122)):=bi;clear bi;generalize wr.alloc (.cells #[.int .i64 x1,.int .i64 x2] 122)=w2 at *;generalize wr.heap.size=g4 at *;obtain⟨d0,d1⟩:=(bK.blk 0 rfl).get2;clear cx cy;go_wp2_with fail;go_roundg (al.length-(i+1));case measure=>omega
   case rel=>exact⟨i+1,ay,rfl,by first|rfl|simp,bK.tail⟩
  ·have aM:¬(i:Int)<(al.length:Int):=om;have bi:Hp [] w [iblk gp 46 (pnC p ⟨da,dc,ca,cc,aa,ac,fa,fc,sa,sc⟩)] wr:=hS.tail.tail;clear hS;have gM:∀x∈p.dis++p.com,wf1 x.1∧wf1 x.2:=fun x hx=>by
    obtain⟨b0,b1,b2,b3⟩:=H.out.pl x hx;exact⟨int_wf b0 om,int_wf om om⟩
   have pm:=hid (fun W hb=>ptwice_any da dc p.dis (by have:=H.out.nd;omega) (fun x hx=>gM x (List.mem_append_left _ hx)) W (HP.out.up hb).dis);have ep:=hid (fun W hb=>ptwice_any ca cc p.com (by have:=H.out.nc;omega) (fun x hx=>gM x (List.mem_append_right _ hx)) W (HP.out.up hb).com);rw[H.out.td]at pm;rw[H.out.tc]at ep;have vd:=hid (fun W hb=>Fm.check_any fa fc p.fm p.ats.length (by have:=H.out.nf;omega) (fun g hg=>by have:=H.out.kd g hg;omega) W (HP.out.up hb).fm);rw[H.out.fm]at vd;clear gM;have HC:=hid (pm.out wr bi.below0);obtain⟨c0,c1,c2,c3,c4⟩:=Blk.get5 (bi.blk 0 rfl);clear pm;go_wp2_with fail;refine HC.out.mono ?_;rintro e w5 ⟨rfl,aS⟩;have bS:=bi.next aS;clear bi aS HC c0 c1 c2 c3 c4;have HC:=hid (ep.out w5 bS.below0);obtain⟨c0,c1,c2,c3,c4⟩:=Blk.get5 (bS.blk 0 rfl);clear ep;go_wp2_with fail;refine HC.out.mono ?_;rintro e w6 ⟨rfl,dM⟩;have bt:=bS.next dM;clear bS dM HC c0 c1 c2 c3 c4;have HC:=hid (vd.out w6 bt.below0);obtain⟨c0,c1,c2,c3,c4⟩:=Blk.get5 (bt.blk 0 rfl);clear vd;go_wp2_with fail;refine HC.out.mono ?_;rintro e w7 ⟨rfl,eK⟩;have de:=bt.next eK;clear bt eK HC c0 c1 c2 c3 c4;obtain⟨c0,c1,c2,c3,c4⟩:=Blk.get5 (de.blk 0 rfl);have pq:=H.out.nc;go_upto_region 15 with fail;clear c0 c1 c2 c3 c4;go_loopg [84] p.ats.length (fun m qA wx=>∃i:Nat,i≤p.ats.length∧m=p.ats.length-i∧qA=.int .i64 (i:Int)∧Hp [] w [iblk gp 46 (pnC p ⟨da,dc,ca,cc,aa,ac,fa,fc,sa,sc⟩)] wx);case atStart=>exact⟨0,Nat.zero_le _,rfl,rfl,de⟩
   case round =>
    obtain⟨j,hj,rfl,rfl,hS⟩:=hrel;clear de;have jR:=H.out.na;by_cases aW:j<p.ats.length
    ·have bX:(j:Int)<(p.ats.length:Int):=om;have bT:(0:Int)≤(j:Int):=om;obtain⟨a,ha⟩:∃a,p.ats[j]? =some a:=⟨_,List.getElem?_eq_getElem aW⟩;have cI:=H.out.at_ a (List.mem_of_getElem? ha);obtain⟨ad,rfl,hA⟩:=(HP.out.up hS.below0).ats.at_ j a ha;obtain⟨e0,e1,e2,e3,e4⟩:=hA;clear ha;have bi:=hS.new 133 (atC a);clear hS;go_upto_region 17 with fail;clear e0 e1 e2 e3 e4;have bK:Hp [] w [iblk wr.heap.size 133 (atC a),iblk gp 46 (pnC p ⟨da,dc,ca,cc,some ad,ac,fa,fc,sa,sc⟩)] (wr.alloc (.cells #[.int .i64 a.kind,.int .i64 a.a,.int .i64 a.b,.int .i64 a.lo,.int .i64 a.hi] 133)):=bi;clear bi;generalize wr.alloc (.cells #[.int .i64 a.kind,.int .i64 a.a,.int .i64 a.b,.int .i64 a.lo,.int .i64 a.hi] 133)=w8 at *;generalize wr.heap.size=g7 at *;have HC:=hid (pcheck_atom a p.com.length pq cI w8);obtain⟨e0,e1,e2,e3,e4⟩:=Blk.get5 (bK.blk 0 rfl);have c1:w8.cell? ⟨gp,1,none⟩=some (.slice ca p.com.length cc):=(bK.blk 1 rfl).cell 1;clear cI;go_wp2_with fail;refine HC.out.mono ?_;rintro e w9 ⟨rfl,aX⟩;have cQ:=(bK.next aX).tail;clear bK HC aX e0 e1 e2 e3 e4 c1;go_wp2_with fail;go_roundg (p.ats.length-(j+1));case measure=>omega
     case rel=>exact⟨j+1,aW,rfl,by first|rfl|simp,cQ⟩
    ·have bX:¬(j:Int)<(p.ats.length:Int):=om;obtain⟨c0,c1,c2,c3,c4⟩:=Blk.get5 (hS.blk 0 rfl);go_upto_region 22 with fail;clear c0 c1 c2 c3 c4;go_loopg [100] p.sqs.length (fun m uR wx=>∃i:Nat,i≤p.sqs.length∧m=p.sqs.length-i∧uR=.int .i64 (i:Int)∧Hp [] w [iblk gp 46 (pnC p ⟨da,dc,ca,cc,aa,ac,fa,fc,sa,sc⟩)] wx);case atStart=>exact⟨0,Nat.zero_le _,rfl,rfl,hS⟩
     case round =>
      obtain⟨k,cH,rfl,rfl,hS⟩:=hrel;have ph:=H.out.ns;by_cases bk:k<p.sqs.length
      ·have cU:(k:Int)<(p.sqs.length:Int):=om;have ar:(0:Int)≤(k:Int):=om;obtain⟨a,ha⟩:∃a,p.sqs[k]? =some a:=⟨_,List.getElem?_eq_getElem bk⟩;obtain⟨ah,cI⟩:=H.out.sq a (List.mem_of_getElem? ha);obtain⟨ad,rfl,hA⟩:=(HP.out.up hS.below0).sqs.at_ k a ha;obtain⟨ak,a1,a2,a3,a4⟩:=a;obtain rfl:ak=2:=ah;obtain⟨e0,e1,e2,e3,e4⟩:=hA;simp only at e0 e1 e2 e3 e4;clear ha;have bi:=hS.new 133 (atC ⟨2,a1,a2,a3,a4⟩);clear hS;go_upto_region 24 with fail;clear e0 e1 e2 e3 e4;have bK:Hp [] w [iblk wr.heap.size 133 (atC ⟨2,a1,a2,a3,a4⟩),iblk gp 46 (pnC p ⟨da,dc,ca,cc,aa,ac,fa,fc,some ad,sc⟩)] (wr.alloc (.cells #[.int .i64 2,.int .i64 a1,.int .i64 a2,.int .i64 a3,.int .i64 a4] 133)):=bi;clear bi;generalize wr.alloc (.cells #[.int .i64 2,.int .i64 a1,.int .i64 a2,.int .i64 a3,.int .i64 a4] 133)=w8 at *;generalize wr.heap.size=g7 at *;have HC:=hid (pcheck_atom ⟨2,a1,a2,a3,a4⟩ p.com.length pq cI w8);obtain⟨e0,e1,e2,e3,e4⟩:=Blk.get5 (bK.blk 0 rfl);have c1:w8.cell? ⟨gp,1,none⟩=some (.slice ca p.com.length cc):=(bK.blk 1 rfl).cell 1;clear cI;go_wp2_with fail;refine HC.out.mono ?_;rintro e w9 ⟨rfl,aX⟩;have cQ:=(bK.next aX).tail;clear bK HC aX e0 e1 e2 e3 e4 c1;go_wp2_with fail;go_roundg (p.sqs.length-(k+1));case measure=>omega
       case rel=>exact⟨k+1,bk,rfl,by first|rfl|simp,cQ⟩
      ·have cU:¬(k:Int)<(p.sqs.length:Int):=om;have cV:=hS.below0;go_wp2_with fail;go_ret;exact zv4
end Nf
namespace Nf
open Go.RowKit Go.Shelf
abbrev cmC (i:Int) (f:Fd) (fa:Option Addr) (fc b:Nat):List Value:=[.int .i64 i,.string f.name,.int .i64 f.kind,.int .i64 f.min,.int .i64 f.max,.slice fa f.words.length fc,.map (some b)]
abbrev cmV (i:Int) (f:Fd) (fa:Option Addr) (fc b:Nat):Value:=.agg #[.int .i64 i,.string f.name,.int .i64 f.kind,.int .i64 f.min,.int .i64 f.max,.slice fa f.words.length fc,.map (some b)]
theorem itUp {x:It} {W W':World} (h:x.P W) (hb:Below W.heap.size W W'):x.P W':=x.st W W' (fun b gG=>hb.block b (x.lv W h b gG)) h
theorem mof_any (gm gf nc:Nat) (NA:Option Addr) (nodes:List Nk) (S:List (Bp×Value)) (o:List Value) (w:World) (hN:Nks w NA nodes) (hn:nodes.length≤1000000) (hm:Blk w gm 120 (.slice NA nodes.length nc:: .map (some gf)::o)) (hS:(imapV refM gf S).P w)
 (i:Nat) (n:Nk) (hi:nodes[i]? =some n) (k:Int) (f:Fd) (fa:Option Addr) (fc b:Nat) (hc:((n.name,n.attr),cmV k f fa fc b)∈S) :
 Calls prog 214 #[ptO gm,.int .i64 (i:Int)] w fun e w'=>e=.returned (cmV k f fa fc b)∧Below w.heap.size w w':=by
 obtain⟨ad,KA,kc,rfl,hA⟩:=hN.at_ i n hi;have ay:=(List.getElem?_eq_some_iff.1 hi).1;have aM:(i:Int)<(nodes.length:Int):=om;have aL:(0:Int)≤(i:Int):=om;obtain⟨nk,nn,nm,nt,nks,bI⟩:=n;have hk:=(Hp.start w).new 130 [.int .i64 0,.string ⟨#[]⟩,.int .i64 0,.int .i64 0,.int .i64 0,.slice none 0 0,.map none];obtain⟨g4,hg⟩:∃g,w.heap.size=g:=⟨_,rfl⟩;rw[hg]at hk;have HL:=Lib.hid (fun W (hb:Below w.heap.size w W)=>imapV_look refM (W:=W) (itUp hS hb) hc);go_enter func214,ntmps214;go_upto_region 1 with fail;try simp only[hg]
 have an:Hp [] w [iblk g4 130 [.int .i64 0,.string ⟨#[]⟩,.int .i64 0,.int .i64 0,.int .i64 0,.slice none 0 0,.map none]] (w.alloc (.cells #[.int .i64 0,.string ⟨#[]⟩,.int .i64 0,.int .i64 0,.int .i64 0,.slice none 0 0,.map none] 130)):=hk;clear hk;generalize w.alloc (.cells #[.int .i64 0,.string ⟨#[]⟩,.int .i64 0,.int .i64 0,.int .i64 0,.slice none 0 0,.map none] 130)=W1 at *;have jO:=hA.up an.below0;have d0:=jO.kind;have d1:=jO.num;have d2:=jO.name;have d3:=jO.attr;have d4:W1.cell? ⟨(ad.add (i*6)).block,(ad.add (i*6)).off+4,none⟩=some (.slice KA nks.length kc):=jO.kids;have d5:=jO.at_;simp only at d0 d1 d2 d3 d5;have m0:W1.cell? ⟨gm,0,none⟩=some (.slice (some ad) nodes.length nc):=zaa (hm.cell 0) an.below0;go_upto_region 2 with fail;have ah:=an.new 68 [.int .i64 nk,.int .i64 nn,.string nm,.string nt,.slice KA nks.length kc,.int .i64 bI];obtain⟨g5,fE⟩:∃g,W1.heap.size=g:=⟨_,rfl⟩;rw[fE]at ah ⊢;have aj:Hp [] w [iblk g5 68 [.int .i64 nk,.int .i64 nn,.string nm,.string nt,.slice KA nks.length kc,.int .i64 bI],iblk g4 130 [.int .i64 0,.string ⟨#[]⟩,.int .i64 0,.int .i64 0,.int .i64 0,.slice none 0 0,.map none]] (W1.alloc (.cells #[.int .i64 nk,.int .i64 nn,.string nm,.string nt,.slice KA nks.length kc,.int .i64 bI] 68)):=ah;clear ah jO d0 d1 d2 d3 d4 d5 m0;generalize W1.alloc (.cells #[.int .i64 nk,.int .i64 nn,.string nm,.string nt,.slice KA nks.length kc,.int .i64 bI] 68)=W2 at *;clear fE an;have aq:=aj.drew;clear aj;have m1:W2.drew.cell? ⟨gm,1,none⟩=some (.map (some gf)):=zaa (hm.cell 1) aq.below0;have d2:W2.drew.cell? ⟨g5,2,none⟩=some (.string nm):=(aq.blk 0 rfl).cell 2;have d3:W2.drew.cell? ⟨g5,3,none⟩=some (.string nt):=(aq.blk 0 rfl).cell 3;have dw:(Instr.lookup 118 (.map (some gf)) (.agg #[.string nm,.string nt]) false).run prog W2.drew=.ok (cmV k f fa fc b) W2.drew:=HL.out W2.drew aq.below0;have HM:=Lib.hid (fun W (hb:Below w.heap.size w W)=>(zaa (hm.cell 1) hb:W.cell? ⟨gm,1,none⟩=some (.map (some gf))));clear hm hS hN hA hc hi;refine wp_region_held_drew (S:=(fun w'=>w'.cell? ⟨gm,1,none⟩=some (.map (some gf))∧(w'.cell? ⟨g5,2,none⟩=some (.string nm)∧w'.cell? ⟨g5,3,none⟩=some (.string nt))∧(Instr.lookup 118 (.map (some gf)) (.agg #[.string nm,.string nt]) false).run prog w'=.ok (cmV k f fa fc b) w')) kr ?_ (fun ae=>?_)
 ·exact⟨m1,⟨d2,d3⟩,dw⟩
 refine tk3 0 rfl ?_;refine zvq ?_;refine tk3 1 rfl ?_;refine zvq ?_;refine tk3 2 rfl ?_;refine zvq ?_;refine tk3 3 rfl ?_;refine zvq ?_;refine tk3 4 rfl ?_;refine zvq ?_;refine tk3 5 rfl ?_;refine zvq ?_;refine tk3 6 rfl ?_;refine zvq ?_;refine tk3 7 rfl ?_;refine zvq ?_;refine tk3 8 rfl ?_;refine zvq ?_;refine tk3 9 rfl ?_;refine zvq ?_;refine tkO 10 rfl (fun K hK=>?_);rw[if_pos rr];refine wp_store_row 130 (.tmp 4) (.tmp 22) rfl g4 (cmC k f fa fc b).toArray rfl rfl 130 #[.int .i64 0,.string ⟨#[]⟩,.int .i64 0,.int .i64 0,.int .i64 0,.slice none 0 0,.map none] (aq.blk 1 rfl) kr kr kr ?_;have aw:=aq.rowAt 1 rfl (cmC k f fa fc b);have aE:Hp [] w [iblk g5 68 [.int .i64 nk,.int .i64 nn,.string nm,.string nt,.slice KA nks.length kc,.int .i64 bI],iblk g4 130 (cmC k f fa fc b)] (W2.drew.setRow g4 (cmC k f fa fc b).toArray):=aw;clear aw aq dw m1 d2 d3 ae;refine hK.out _ _ ⟨HM.out _ aE.below0,⟨(aE.blk 0 rfl).cell 2,(aE.blk 0 rfl).cell 3⟩,HL.out _ aE.below0⟩ fun ae=>?_;clear hK K;refine wpAnyH_done kr ?_ _;generalize W2.drew.setRow g4 (cmC k f fa fc b).toArray=W9 at *;have r0:W9.cell? ⟨g4,0,none⟩=some (.int .i64 k):=(aE.blk 1 rfl).cell 0;have r1:W9.cell? ⟨g4,1,none⟩=some (.string f.name):=(aE.blk 1 rfl).cell 1;have r2:W9.cell? ⟨g4,2,none⟩=some (.int .i64 f.kind):=(aE.blk 1 rfl).cell 2;have r3:W9.cell? ⟨g4,3,none⟩=some (.int .i64 f.min):=(aE.blk 1 rfl).cell 3;have r4:W9.cell? ⟨g4,4,none⟩=some (.int .i64 f.max):=(aE.blk 1 rfl).cell 4;have r5:W9.cell? ⟨g4,5,none⟩=some (.slice fa f.words.length fc):=(aE.blk 1 rfl).cell 5;have r6:W9.cell? ⟨g4,6,none⟩=some (.map (some b)):=(aE.blk 1 rfl).cell 6;have hb:=aE.below0;clear aE ae HL HM;go_wp2_with fail;refine bodyPost_ret (v:=cmV k f fa fc b) (by simp[results,results214,go_sem,r0,r1,r2,r3,r4,r5,r6]) rfl ?_;exact zus
end Nf
namespace Nf
open Go.RowKit Go.Shelf
abbrev ndV (n:Nk) (KA:Option Addr) (kc:Nat):Value:=.agg #[.int .i64 n.kind,.int .i64 n.num,.string n.name,.string n.attr,.slice KA n.kids.length kc,.int .i64 n.at_]
theorem Blk.get7 {W:World} {g:Nat} {t:TypeId} {a b c d e f h:Value} (H:Blk W g t [a,b,c,d,e,f,h]):W.cell? ⟨g,0,none⟩=some a∧W.cell? ⟨g,1,none⟩=some b∧W.cell? ⟨g,2,none⟩=some c∧W.cell? ⟨g,3,none⟩=some d∧W.cell? ⟨g,4,none⟩=some e∧W.cell? ⟨g,5,none⟩=some f∧W.cell? ⟨g,6,none⟩=some h :=
 ⟨H.cell 0,H.cell 1,H.cell 2,H.cell 3,H.cell 4,H.cell 5,H.cell 6⟩
theorem mattr_num (k:Int) (f:Fd) (fa:Option Addr) (fc b:Nat) (n:Nk) (KA:Option Addr) (kc:Nat) (hk:n.kind≠11) (h0: -1000000000000≤n.num-f.min) (h1:n.num-f.min≤1000000000000) (w:World) :
 Calls prog 215 #[cmV k f fa fc b,ndV n KA kc] w fun e w'=>e=.returned (.int .i64 (n.num-f.min))∧Below w.heap.size w w':=by
 obtain⟨nk,nn,nm,nt,nks,bI⟩:=n;simp only at hk h0 h1;have hw:IntKind.i64.wrap (nn-f.min)=nn-f.min:=IntWalk.i64_in _ om;have ah:(nk==11)=false:=by rw[beq_eq_false_iff_ne];exact hk
 have hp:=((Hp.start w).new 130 (cmC k f fa fc b)).new 68 [.int .i64 nk,.int .i64 nn,.string nm,.string nt,.slice KA nks.length kc,.int .i64 bI];simp only[sizeA]at hp;obtain⟨g2,hg⟩:∃g,w.heap.size=g:=⟨_,rfl⟩;rw[hg]at hp;obtain⟨g3,eD⟩:∃g,g2+1=g:=⟨_,rfl⟩;rw[eD]at hp;clear hk h0 h1;go_enter func215,ntmps215;go_upto_region 1 with fail;try simp only[hg,sizeA,eD]
 have cB:Hp [] w [iblk g3 68 [.int .i64 nk,.int .i64 nn,.string nm,.string nt,.slice KA nks.length kc,.int .i64 bI],iblk g2 130 (cmC k f fa fc b)] ((w.alloc (.cells #[.int .i64 k,.string f.name,.int .i64 f.kind,.int .i64 f.min,.int .i64 f.max,.slice fa f.words.length fc,.map (some b)] 130)).alloc (.cells #[.int .i64 nk,.int .i64 nn,.string nm,.string nt,.slice KA nks.length kc,.int .i64 bI] 68)):=hp;clear hp;generalize (w.alloc (.cells #[.int .i64 k,.string f.name,.int .i64 f.kind,.int .i64 f.min,.int .i64 f.max,.slice fa f.words.length fc,.map (some b)] 130)).alloc (.cells #[.int .i64 nk,.int .i64 nn,.string nm,.string nt,.slice KA nks.length kc,.int .i64 bI] 68)=W1 at *;obtain⟨c0,c1,c2,c3,c4,c5,c6⟩:=Blk.get7 (cB.blk 1 rfl);have d0:W1.cell? ⟨g3,0,none⟩=some (.int .i64 nk):=(cB.blk 0 rfl).cell 0;have d1:W1.cell? ⟨g3,1,none⟩=some (.int .i64 nn):=(cB.blk 0 rfl).cell 1;have hb:=cB.below0;clear cB;go_wp2_with fail;go_ret;exact zus
theorem mattr_word (k:Int) (f:Fd) (fa:Option Addr) (fc b:Nat) (n:Nk) (KA:Option Addr) (kc:Nat) (hk:n.kind=11) (T:List (ByteArray×Value)) (x:Int) (w:World) (hT:(imapV wrdM b T).P w) (hx:(n.name,.int .i64 x)∈T) :
 Calls prog 215 #[cmV k f fa fc b,ndV n KA kc] w fun e w'=>e=.returned (.int .i64 x)∧Below w.heap.size w w':=by
 obtain⟨nk,nn,nm,nt,nks,bI⟩:=n;simp only at hk hx;have ah:(nk==11)=true:=by rw[hk];rfl
 have hp:=((Hp.start w).new 130 (cmC k f fa fc b)).new 68 [.int .i64 nk,.int .i64 nn,.string nm,.string nt,.slice KA nks.length kc,.int .i64 bI];simp only[sizeA]at hp;obtain⟨g2,hg⟩:∃g,w.heap.size=g:=⟨_,rfl⟩;rw[hg]at hp;obtain⟨g3,eD⟩:∃g,g2+1=g:=⟨_,rfl⟩;rw[eD]at hp;have HL:=Lib.hid (fun W (hb:Below w.heap.size w W)=>imapV_look wrdM (W:=W) (itUp hT hb) hx);clear hk hT hx;go_enter func215,ntmps215;go_upto_region 1 with fail;try simp only[hg,sizeA,eD]
 have cB:Hp [] w [iblk g3 68 [.int .i64 nk,.int .i64 nn,.string nm,.string nt,.slice KA nks.length kc,.int .i64 bI],iblk g2 130 (cmC k f fa fc b)] ((w.alloc (.cells #[.int .i64 k,.string f.name,.int .i64 f.kind,.int .i64 f.min,.int .i64 f.max,.slice fa f.words.length fc,.map (some b)] 130)).alloc (.cells #[.int .i64 nk,.int .i64 nn,.string nm,.string nt,.slice KA nks.length kc,.int .i64 bI] 68)):=hp;clear hp;generalize (w.alloc (.cells #[.int .i64 k,.string f.name,.int .i64 f.kind,.int .i64 f.min,.int .i64 f.max,.slice fa f.words.length fc,.map (some b)] 130)).alloc (.cells #[.int .i64 nk,.int .i64 nn,.string nm,.string nt,.slice KA nks.length kc,.int .i64 bI] 68)=W1 at *;obtain⟨c0,c1,c2,c3,c4,c5,c6⟩:=Blk.get7 (cB.blk 1 rfl);have d0:W1.cell? ⟨g3,0,none⟩=some (.int .i64 nk):=(cB.blk 0 rfl).cell 0;have d2:W1.cell? ⟨g3,2,none⟩=some (.string nm):=(cB.blk 0 rfl).cell 2;have dw:(Instr.lookup 128 (.map (some b)) (.string nm) false).run prog W1=.ok (.int .i64 x) W1:=HL.out W1 cB.below0;have hb:=cB.below0;clear cB HL;go_wp2_with fail;go_ret;exact zus
theorem mgreat_any (k:Int) (f:Fd) (fa:Option Addr) (fc b:Nat) (hl:f.words.length≤1000000) (h0: -1000000000000≤f.max-f.min) (h1:f.max-f.min≤1000000000000) (w:World) :
 Calls prog 217 #[cmV k f fa fc b] w fun e w'=>e=.returned (.int .i64 (grP f))∧Below w.heap.size w w':=by
 have hw:IntKind.i64.wrap (f.max-f.min)=f.max-f.min:=IntWalk.i64_in _ om;have fq:IntKind.i64.wrap ((f.words.length:Int)-1)=(f.words.length:Int)-1:=IntWalk.i64_in _ om;obtain⟨r,hr⟩:∃r,grP f=r:=⟨_,rfl⟩;rw[hr];have HR:=Lib.hid hr;have hp:=(Hp.start w).new 130 (cmC k f fa fc b);obtain⟨g2,hg⟩:∃g,w.heap.size=g:=⟨_,rfl⟩;rw[hg]at hp;clear h0 h1 hr;go_enter func217,ntmps217;go_upto_region 1 with fail;try simp only[hg]
 have cB:Hp [] w [iblk g2 130 (cmC k f fa fc b)] (w.alloc (.cells #[.int .i64 k,.string f.name,.int .i64 f.kind,.int .i64 f.min,.int .i64 f.max,.slice fa f.words.length fc,.map (some b)] 130)):=hp;clear hp;generalize w.alloc (.cells #[.int .i64 k,.string f.name,.int .i64 f.kind,.int .i64 f.min,.int .i64 f.max,.slice fa f.words.length fc,.map (some b)] 130)=W1 at *;obtain⟨c0,c1,c2,c3,c4,c5,c6⟩:=Blk.get7 (cB.blk 0 rfl);have hb:=cB.below0;clear cB;by_cases h:f.kind=1
 ·have hz:(f.kind==1)=true:=by rw[h];rfl
  have HV:Hid (r=(f.words.length:Int)-1):=Lib.hid (by rw[←HR.out,grP,if_pos h]);clear h;go_wp2_with fail;go_ret;rw[HV.out];exact zus
 ·have hz:(f.kind==1)=false:=by rw[beq_eq_false_iff_ne];exact h
  have HV:Hid (r=f.max-f.min):=Lib.hid (by rw[←HR.out,grP,if_neg h]);clear h;go_wp2_with fail;go_ret;rw[HV.out];exact zus
end Nf
namespace Nf
open Go.RowKit Go.Shelf
open Lib (hid)
theorem patom_ok (a:At) (VA:Option Addr) (V:List Int) (vc:Nat) (h:OkAt V.length a) (hv:∀x∈V,0≤x∧x≤4294967295) (w:World) (hV:Ints w VA V) :
 Calls prog 59 #[atVal a,.slice VA V.length vc] w fun e w'=>e=.returned (.bool (evA V a))∧Below w.heap.size w w' :=
 patom_any a VA V vc h.k0 h.k5 h.a0 h.a1 (fun _=>⟨h.b0,h.b1⟩) hv w hV
theorem hold1_any (x:Int) (h0:0≤x) (h1:x≤4294967295) (w:World):Calls prog 58 #[.int .i64 x] w fun e w'=>e=.returned (.bool false)∧w'=w:=by
 have q0:¬x<0:=om;have q1:¬(4294967295:Int)<x:=om;clear h0 h1;go_enter func58,ntmps58;go_wp2_with fail;go_ret;exact zvn
theorem indexI_any (VA:Option Addr) (V:List Int) (vc:Nat) (hl:V.length≤64) (hv:∀x∈V,0≤x∧x≤4294967295) (w:World) (hV:Ints w VA V) :
 Calls prog 122 #[.slice VA V.length vc,.func (.func 58) #[] #[]] w fun e w'=>e=.returned (.int .i64 (-1))∧w'=w:=by
 go_enter func122,ntmps122;go_upto_region 2 with fail;go_loopg [8] V.length (fun m s8 wx=>∃i:Nat,i≤V.length∧m=V.length-i∧s8=.int .i64 (i:Int)∧wx=w);case atStart=>exact⟨0,Nat.zero_le _,rfl,rfl,rfl⟩
 case round =>
  obtain⟨i,hi,rfl,rfl,rfl⟩:=hrel;by_cases ay:i<V.length
  ·have aM:(i:Int)<(V.length:Int):=om;have aL:(0:Int)≤(i:Int):=om;obtain⟨x,hx⟩:∃x,V[i]? =some x:=⟨_,List.getElem?_eq_getElem ay⟩;obtain⟨va,rfl,cx⟩:=hV.at_ i x hx;have HC:=hid (hold1_any x (hv x (List.mem_of_getElem? hx)).1 (hv x (List.mem_of_getElem? hx)).2 wr);clear hx;go_wp2_with fail;refine HC.out.mono ?_;rintro e w2 ⟨rfl,rfl⟩;go_wp2_with fail;go_roundg (V.length-(i+1));case measure=>omega
   case rel=>exact⟨i+1,ay,rfl,by first|rfl|simp,rfl⟩
  ·have aM:¬(i:Int)<(V.length:Int):=om;go_wp2_with fail;go_ret;exact zv6
theorem containsI_any (VA:Option Addr) (V:List Int) (vc:Nat) (hl:V.length≤64) (hv:∀x∈V,0≤x∧x≤4294967295) (w:World) (hV:Ints w VA V) :
 Calls prog 57 #[.slice VA V.length vc,.func (.func 58) #[] #[]] w fun e w'=>e=.returned (.bool false)∧w'=w:=by
 have HC:=hid (indexI_any VA V vc hl hv w hV);go_enter func57,ntmps57;go_wp2_with fail;refine HC.out.mono ?_;rintro e w2 ⟨rfl,rfl⟩;go_wp2_with fail;go_ret;exact zvn
theorem hold2_any (a:At) (VA:Option Addr) (V:List Int) (vc gv:Nat) (h:OkAt V.length a) (hv:∀x∈V,0≤x∧x≤4294967295) (w:World) (hV:Ints w VA V) (cv:w.cell? ⟨gv,0,none⟩=some (.slice VA V.length vc)) :
 Calls prog 62 #[atVal a,ptO gv] w fun e w'=>e=.returned (.bool (!(evA V a)))∧Below w.heap.size w w':=by
 have hk:=(Hp.start w).new 133 (atC a);obtain⟨gp,hg⟩:∃g,w.heap.size=g:=⟨_,rfl⟩;have hb:=hk.below0;have dj:=hid (fun W hb=>patom_ok a VA V vc h hv W (hV.up hb));generalize evA V a=r at *;rw[hg]at hk;clear h hv hV;go_enter func62,ntmps62;go_upto_region 1 with fail;try simp only[hg]
 have an:Hp [] w [iblk gp 133 (atC a)] (w.alloc (.cells #[.int .i64 a.kind,.int .i64 a.a,.int .i64 a.b,.int .i64 a.lo,.int .i64 a.hi] 133)):=hk;clear hk hb;generalize w.alloc (.cells #[.int .i64 a.kind,.int .i64 a.a,.int .i64 a.b,.int .i64 a.lo,.int .i64 a.hi] 133)=w8 at *;obtain⟨e0,e1,e2,e3,e4⟩:=Blk.get5 (an.blk 0 rfl);have cv8:=zaa cv an.below0;have HC:=hid (dj.out w8 an.below0);clear cv dj;go_wp2_with fail;refine HC.out.mono ?_;rintro e w9 ⟨rfl,aX⟩;have ah:=an.next aX;have cV:=ah.below0;clear HC an aX e0 e1 e2 e3 e4 cv8;go_wp2_with fail;go_ret;exact zv4
def planB (p:PlD) (V:List Int):Bool:=(decide (p.fm=[])||(Fm.truthP p.fm (p.ats.map (evA V))).getD 0 false)&&p.sqs.all (evA V)
theorem indexA_any (SA:Option Addr) (S:List At) (sc:Nat) (VA:Option Addr) (V:List Int) (vc gv:Nat) (hl:S.length≤64) (h:∀a∈S,OkAt V.length a) (hv:∀x∈V,0≤x∧x≤4294967295) (w:World) (hS:Ats w SA S) (hV:Ints w VA V) (cv:w.cell? ⟨gv,0,none⟩=some (.slice VA V.length vc)) :
 Calls prog 130 #[.slice SA S.length sc,.func (.func 62) #[] #[ptO gv]] w fun e w'=>(∃k:Int,e=.returned (.int .i64 k)∧ -1≤k∧k≤64∧decide (0≤k)= !(S.all (evA V)))∧Below w.heap.size w w':=by
 go_enter func130,ntmps130;go_upto_region 2 with fail;go_loopg [8] S.length (fun m s8 wx=>∃i:Nat,i≤S.length∧m=S.length-i∧s8=.int .i64 (i:Int)∧Below w.heap.size w wx∧Hid (S.all (evA V)=(S.drop i).all (evA V)));case atStart=>exact⟨0,Nat.zero_le _,rfl,rfl,Below.refl _ _,hid rfl⟩
 case round =>
  obtain⟨i,hi,rfl,rfl,hb,HE⟩:=hrel;by_cases ay:i<S.length
  ·have aM:(i:Int)<(S.length:Int):=om;have aL:(0:Int)≤(i:Int):=om;obtain⟨a,ha⟩:∃a,S[i]? =some a:=⟨_,List.getElem?_eq_getElem ay⟩;obtain⟨ad,rfl,e0,e1,e2,e3,e4⟩:=(hS.up hb).at_ i a ha;have HC:=hid (hold2_any a VA V vc gv (h a (List.mem_of_getElem? ha)) hv wr (hV.up hb) (zaa cv hb));have cg:Hid (S.all (evA V)=(evA V a&&(S.drop (i+1)).all (evA V))):=hid (by rw[HE.out,zcu ha];rfl);generalize evA V a=r at *;clear ha HE;go_wp2_with fail;refine HC.out.mono ?_;rintro e w2 ⟨rfl,aG⟩;have aJ:=hb.trans (aG.mono hb.size);clear HC hb aG;cases r with
   | false =>
     go_wp2_with fail;go_ret;exact⟨⟨(i:Int),rfl,by omega,by omega,by rw[cg.out];simp⟩,aJ⟩
   | true =>
     go_wp2_with fail;go_roundg (S.length-(i+1));case measure=>omega
     case rel=>exact⟨i+1,ay,rfl,by first|rfl|simp,aJ,hid zuf⟩
  ·have aM:¬(i:Int)<(S.length:Int):=om;go_wp2_with fail;go_ret;exact⟨⟨-1,rfl,by omega,by omega,by rw[HE.out,List.drop_of_length_le om];rfl⟩,hb⟩
theorem containsA_any (SA:Option Addr) (S:List At) (sc:Nat) (VA:Option Addr) (V:List Int) (vc gv:Nat) (hl:S.length≤64) (h:∀a∈S,OkAt V.length a) (hv:∀x∈V,0≤x∧x≤4294967295) (w:World) (hS:Ats w SA S) (hV:Ints w VA V) (cv:w.cell? ⟨gv,0,none⟩=some (.slice VA V.length vc)) :
 Calls prog 61 #[.slice SA S.length sc,.func (.func 62) #[] #[ptO gv]] w fun e w'=>e=.returned (.bool (!(S.all (evA V))))∧Below w.heap.size w w':=by
 have HC:=hid (indexA_any SA S sc VA V vc gv hl h hv w hS hV cv);generalize S.all (evA V)=r at *;clear h hv hS hV cv;go_enter func61,ntmps61;go_wp2_with fail;refine HC.out.mono ?_;rintro e w2 ⟨⟨k,rfl,h0,h1,h2⟩,hb⟩;have H2:=hid h2;clear HC h2;go_wp2_with fail;go_ret;rw[←H2.out];exact⟨by first|rfl|simp,hb⟩
end Nf
end Go.Proofs.YtekkapgknohadaaGreatDoor
