/- dominotop.committedValues. -/
import Derived.Test.YtekkapgknohadaaGreatDoorM38
set_option linter.unusedVariables false
set_option linter.unusedSimpArgs false
set_option maxRecDepth 20000
set_option maxHeartbeats 8000000
open Go.Proofs.Tryz
namespace Go.Proofs.YtekkapgknohadaaGreatDoor
namespace Nf
open Go.RowKit Go.Shelf
open Lib (hid)
open Pa (F Nd Tx)
def dvals (l:List Int):List Value:=l.map (.int .i64 ·)
theorem ints_own {W:World} {t:TypeId} {A:Option Addr} {n c:Nat} {l:List Int} (h:W.ownsRow 0 t 1 (.slice A n c) n (dvals l)) (hn:n=l.length):Ints W A l:=⟨fun i x hx=>by
 have hl:=(List.getElem?_eq_some_iff.1 hx).1;obtain⟨g,cap,hv,-⟩:=zak h om;injection hv with hA hn hc;subst hA;have h1:=h.cells rfl i (.int .i64 x) (by unfold dvals;rw[List.getElem?_map,hx];rfl);exact⟨_,rfl,h1⟩⟩
theorem pls_of {S:List Sm} {U:List Bp} {a t:ByteArray} {fd:Fd} {u k:Nat} {s:ByteArray} {m:Sm} (h:PlAt S U a t fd u k s m):plS S U (a,t)=((u:Int),(k:Int)+2):=by
 unfold plS;rw[←h.un,←h.kn]
theorem cvals_any {d:Po} {L:Lp} {A:Option Addr} {c:Nat} {S:List Sm} (hr:zah chkB S d=true) (jA:d.uses.length≤1000000) (hL:S.length≤1000000) {R:List Bp} (rz:∀r∈R,∃fd,findS S d.uses r.1 r.2=some fd) (hRl:R.length≤1000000) (p:PlD) (l:PlL) (hp:p.com=R.map (plS S d.uses)) {FA:Option Addr} {fc:Nat} {Fs:List (List Int)} (hF:AdmF S d.uses Fs) (w:World)
 (hU:Prs w L.ua d.uses) (hS:Schs w A S) (hC:Plas w l.ca p.com) (hM:Rows w FA Fs) :
 Calls prog 17 #[polV d L,.slice A S.length c,pnV p l,.slice FA Fs.length fc] w fun e w'=>(∃VA vc,e=.returned (.tuple #[.slice VA R.length vc,.bool true])∧Ints w' VA (R.map (valR S d.uses Fs)))∧Below w.heap.size w w':=by
 obtain⟨ua,uc,ra,rc,na,nc⟩:=L;obtain⟨da,dc,ca,cc,aa,ac,fa,f9,sa,sc⟩:=l;have cG:p.com.length=R.length:=by rw[hp,List.length_map]
 have iW:=hF.len;have hk:=(((Hp.start w).new 29 (polcs d ⟨ua,uc,ra,rc,na,nc⟩)).new 46 (pnC p ⟨da,dc,ca,cc,aa,ac,fa,f9,sa,sc⟩)).nilrow 3 1;obtain⟨g4,eH⟩:∃g,w.heap.size=g:=⟨_,rfl⟩;obtain⟨g6,jP⟩:∃g,g4+1=g:=⟨_,rfl⟩;simp only[sizeA,eH,jP]at hk;obtain⟨i0,aL,bg,aY,bh⟩:=info_parts Fm.int_info;have HU:=hid hU;have HS:=hid hS;have HC:=hid hC;have HM:=hid hM;have HF:=hid hF;have HR:=hid hr;have sI:=hid rz;have HP:=hid hp;have HCL:=hid cG;have nM:=hid iW;clear hU hS hC hM hF hr rz hp cG iW;go_enter func17,ntmps17;go_upto_region 2 with fail;try simp only[eH,jP]
 have an:Hp [] w [irow 3 1 (.slice none 0 0) 0 (dvals ((R.take 0).map (valR S d.uses Fs))),iblk g6 46 (pnC p ⟨da,dc,ca,cc,aa,ac,fa,f9,sa,sc⟩),iblk g4 29 (polcs d ⟨ua,uc,ra,rc,na,nc⟩)] ((w.alloc (.cells #[.string d.name,.slice ua d.uses.length uc,.slice ra d.reveal.length rc,.slice na d.nodes.length nc,.int .i64 d.root,.string d.scope,.int .i64 d.limit,.string d.escrow] 29)).alloc (.cells #[.slice da p.dis.length dc,.slice ca p.com.length cc,.slice aa p.ats.length ac,.slice fa p.fm.length f9,.slice sa p.sqs.length sc] 46)):=hk;clear hk;generalize (w.alloc (.cells #[.string d.name,.slice ua d.uses.length uc,.slice ra d.reveal.length rc,.slice na d.nodes.length nc,.int .i64 d.root,.string d.scope,.int .i64 d.limit,.string d.escrow] 29)).alloc (.cells #[.slice da p.dis.length dc,.slice ca p.com.length cc,.slice aa p.ats.length ac,.slice fa p.fm.length f9,.slice sa p.sqs.length sc] 46)=W1 at *;have c1:W1.cell? ⟨g6,1,none⟩=some (.slice ca p.com.length cc):=(an.blk 1 rfl).cell 1;go_upto_region 3 with fail;clear c1;go_loopg [10,19] R.length (fun m9 fu wJ wx=>∃i:Nat,i≤R.length∧m9=R.length-i∧wJ=.int .i64 (i:Int)∧Hp [] w [irow 3 1 fu i (dvals ((R.take i).map (valR S d.uses Fs))),iblk g6 46 (pnC p ⟨da,dc,ca,cc,aa,ac,fa,f9,sa,sc⟩),iblk g4 29 (polcs d ⟨ua,uc,ra,rc,na,nc⟩)] wx);case atStart=>exact⟨0,Nat.zero_le _,rfl,rfl,an⟩
 case round =>
  obtain⟨i,hi,rfl,rfl,hH⟩:=hrel;clear an;obtain⟨V0,v0,rfl⟩:=zab (hH.row 0 rfl);by_cases ay:i<R.length
  ·have aM:(i:Int)<(p.com.length:Int):=by have:=HCL.out;omega
   have hi9:(0:Int)≤(i:Int):=om;obtain⟨r,nV⟩:∃r,R[i]? =some r:=⟨_,List.getElem?_eq_getElem ay⟩;obtain⟨r1,r2⟩:=r;obtain⟨fd,bJ⟩:=sI.out _ (List.mem_of_getElem? nV);simp only at bJ;obtain⟨u,k,s,m,hP⟩:=zbs bJ;obtain⟨l,y,hl,hy,uF,ea,aC,aG⟩:=hP.val HF.out;have hpc:p.com[i]? =some ((u:Int),(k:Int)+2):=by rw[HP.out,List.getElem?_map,nV];exact congrArg some (pls_of hP)
   obtain⟨pad,ju,p0,p1⟩:=(HC.out.up hH.below0).at_ i _ hpc;change ca=some pad at ju;subst ju;have hul9:=(List.getElem?_eq_some_iff.1 hP.use).1;have vj:=(List.getElem?_eq_some_iff.1 hP.at_).1;have iq:=zct HR.out bJ;have hvr:valR S d.uses Fs (r1,r2)=y-zaj fd:=by unfold valR;rw[bJ];simp only[Option.getD_some];rw[ea]
   have lT:y-zaj fd=IntKind.i64.wrap (y-zaj fd):=(IntWalk.i64_in _ (by
    unfold zaj;rcases iq.kd with q|q
    ·have:=aG om;rw[if_neg om];omega
    ·have:=aC q.1;rw[if_pos q.1];omega)).symm
   have n7:=hid (hvr.trans lT);have kN:=hid nV;obtain⟨fad,RA,rrc,rfl,rL,n8⟩:=HM.out.at_ u l hl;obtain⟨rad,rfl,y0⟩:=n8.at_ k y hy;have rG:=hid (fun W (hb:Below w.heap.size w W)=>And.intro (zaa rL hb) (zaa y0 hb));clear rL n8 y0;have kq:=hid hP;have ux:=hid iq;have hu0:¬(u:Int)<0:=om;have hu1:¬(Fs.length:Int)≤(u:Int):=by have:=nM.out;omega
   have hu2:(u:Int)<(Fs.length:Int):=by have:=nM.out;omega
   have hu3:(0:Int)≤(u:Int):=om;have ah:¬(k:Int)+2<2:=om;have fq:IntKind.i64.wrap ((k:Int)+2-2)=(k:Int):=by rw[Int.add_sub_cancel];exact IntWalk.i64_in _ (by have:=(zbo ((zaw HR.out).2 m (zbf hP.nm))).2.1;omega)
   have hw3:IntKind.i64.wrap (k:Int)=(k:Int):=by rw[Int.add_sub_cancel]at fq;exact fq
   have aj:¬(l.length:Int)≤(k:Int):=om;have aq:(k:Int)<(l.length:Int):=om;have aw:(0:Int)≤(k:Int):=om;have aA:=hH.new 122 [.int .i64 (u:Int),.int .i64 ((k:Int)+2)];have dZ:(k:Int)<(m.fields.length:Int):=om;have HLM:=hid uF;clear uF hH nV bJ hl hy ea aC aG hpc hvr lT hP iq;go_upto_region 5 with fail;clear p0 p1;have az:Hp [] w [iblk wr.heap.size 122 [.int .i64 (u:Int),.int .i64 ((k:Int)+2)],irow 3 1 (.slice V0 i v0) i (dvals ((R.take i).map (valR S d.uses Fs))),iblk g6 46 (pnC p ⟨da,dc,some pad,cc,aa,ac,fa,f9,sa,sc⟩),iblk g4 29 (polcs d ⟨ua,uc,ra,rc,na,nc⟩)] (wr.alloc (.cells #[.int .i64 (u:Int),.int .i64 ((k:Int)+2)] 122)):=aA;clear aA;generalize wr.alloc (.cells #[.int .i64 (u:Int),.int .i64 ((k:Int)+2)] 122)=W2 at *;generalize wr.heap.size=i7 at *;have df:=fun n=>az.drewN n;have e0:W2.cell? ⟨i7,0,none⟩=some (.int .i64 (u:Int)):=(az.blk 0 rfl).cell 0;have e1:W2.cell? ⟨i7,1,none⟩=some (.int .i64 ((k:Int)+2)):=(az.blk 0 rfl).cell 1;obtain⟨rL,n8⟩:=rG.out W2 az.below0;go_quiet (fail);have aR:=df nq;clear df az e0 e1 rL n8;generalize W2.drewN nq=W3 at *;have e0:W3.cell? ⟨i7,0,none⟩=some (.int .i64 (u:Int)):=(aR.blk 0 rfl).cell 0;have e1:W3.cell? ⟨i7,1,none⟩=some (.int .i64 ((k:Int)+2)):=(aR.blk 0 rfl).cell 1;have q1:W3.cell? ⟨g4,1,none⟩=some (.slice ua d.uses.length uc):=(aR.blk 3 rfl).cell 1;obtain⟨uad,huA,u0,u1⟩:=(HU.out.up aR.below0).at_ u _ kq.out.use;change ua=some uad at huA;subst huA;have hud:(u:Int)<(d.uses.length:Int):=om;have li:=hid (snamed_any A c S s m kq.out.nm hL w W3 HS.out aR.below0);go_upto_region 7 with fail;go_wp2_with fail;refine li.out.mono ?_;rintro e w5 ⟨⟨oN,s9,rfl,rm⟩,aS⟩;have bn:=(aR.next aS).new 53 [.string m.name,.slice oN m.fields.length s9];clear aR aS li e0 e1 q1 u0 u1;go_upto_region 8 with fail;have bE:Hp [] w [iblk w5.heap.size 53 [.string m.name,.slice oN m.fields.length s9],iblk i7 122 [.int .i64 (u:Int),.int .i64 ((k:Int)+2)],irow 3 1 (.slice V0 i v0) i (dvals ((R.take i).map (valR S d.uses Fs))),iblk g6 46 (pnC p ⟨da,dc,some pad,cc,aa,ac,fa,f9,sa,sc⟩),iblk g4 29 (polcs d ⟨some uad,uc,ra,rc,na,nc⟩)] (w5.alloc (.cells #[.string m.name,.slice oN m.fields.length s9] 53)):=bn;clear bn;generalize w5.alloc (.cells #[.string m.name,.slice oN m.fields.length s9] 53)=W6 at *;generalize w5.heap.size=nw at *;have e1:W6.cell? ⟨i7,1,none⟩=some (.int .i64 ((k:Int)+2)):=(bE.blk 1 rfl).cell 1;have q1:W6.cell? ⟨nw,1,none⟩=some (.slice oN m.fields.length s9):=(bE.blk 0 rfl).cell 1;obtain⟨sad,WA,dN,rfl,cO⟩:=(rm.up bE.below0).at_ k fd kq.out.at_;obtain⟨f0,f1,f2,f3,f4,f5⟩:=cO;have pZ:=hid (fleast_any fd ux.out WA dN W6);clear f5 rm;go_wp2_with fail;refine pZ.out.mono ?_;rintro e w7 ⟨rfl,eK⟩;have cz:=(bE.next eK).tail;clear bE eK pZ e1 q1 f0 f1 f2 f3 f4;go_upto_region 9 with fail;have hd:=cz.drew;clear cz;refine wp_region_held_drew (S:=(fun w'=>(w'.cell? ⟨i7,0,none⟩=some (.int .i64 (u:Int))∧w'.cell? ⟨i7,1,none⟩=some (.int .i64 ((k:Int)+2)))∧(w'.cell? (fad.add u)=some (.slice (some rad) l.length rrc)∧w'.cell? (rad.add k)=some (.int .i64 y))∧True)) kr ?_ (fun ae=>?_)
   ·exact⟨⟨(hd.blk 0 rfl).cell 0,(hd.blk 0 rfl).cell 1⟩,rG.out _ hd.below0,trivial⟩
   generalize w7.drew=fg at *;refine tk3 0 rfl ?_;refine zvq ?_;refine tk3 1 rfl ?_;refine zvq ?_;refine tk3 2 rfl ?_;refine zvq ?_;refine tk3 3 rfl ?_;refine zvq ?_;refine tk3 4 rfl ?_;refine zvq ?_;refine tk3 5 rfl ?_;refine zvq ?_;refine tk3 6 rfl ?_;refine zvq ?_;refine tk3 7 rfl ?_;refine zvq ?_;refine tk3 8 rfl ?_;refine zvq ?_;refine tk3 9 rfl ?_;refine zvq ?_;refine tk3 10 rfl ?_;refine zvq ?_;refine tk3 11 rfl ?_;refine zvq ?_;refine tk3 12 rfl ?_;refine zvq ?_;refine tkO 13 rfl (fun K hK=>?_);have ha:=hd.alloc (.cells #[.int .i64 (IntKind.i64.wrap (y-zaj fd))] 3);have eu:=Fm.new1' fg 3 (.int .i64 (IntKind.i64.wrap (y-zaj fd)));go_simp;generalize fg.alloc (.cells #[.int .i64 (IntKind.i64.wrap (y-zaj fd))] 3)=nR at *;refine hK.out _ _ ⟨⟨(ha.blk 0 rfl).cell 0,(ha.blk 0 rfl).cell 1⟩,rG.out _ ha.below0,trivial⟩ (fun ae=>?_);clear hK K;refine tkO 14 rfl (fun K hK=>?_);rw[if_pos rr];refine zaz _ _ 61 rfl 0 3 i0 _ 1 8 underlying61 aL bg aY bh rfl zy0 _ i (dvals ((R.take i).map (valR S d.uses Fs))) rfl (ha.row 1 rfl) ⟨_,0,none⟩ 1 1 [.int .i64 (IntKind.i64.wrap (y-zaj fd))] rfl rfl eu zy3 zy0 zy2 om (Nat.zero_le _) ?_;intro v9 w9 af ai aH;have bG:=ha.grown 1 rfl af ai aH;obtain⟨eR,eV,rfl⟩:=zab af;clear af ai aH ha eu;refine hK.out _ _ ⟨⟨(bG.blk 0 rfl).cell 0,(bG.blk 0 rfl).cell 1⟩,rG.out _ bG.below0,trivial⟩ (fun ae=>?_);clear hK K;refine tk3 15 rfl ?_;refine zvq ?_;refine wpAnyH_done kr ?_ _;go_wp2_with fail;go_roundg (R.length-(i+1));case measure=>omega
   case rel =>
    refine⟨i+1,ay,rfl,by first|rfl|simp,?_⟩;have e1:dvals ((R.take (i+1)).map (valR S d.uses Fs))=dvals ((R.take i).map (valR S d.uses Fs))++[.int .i64 (IntKind.i64.wrap (y-zaj fd))]:=by
     rw[zan kN.out,List.map_append];show dvals (_++[valR S d.uses Fs (r1,r2)])=_;rw[n7.out];simp[dvals]
    rw[e1];exact bG.tail
  ·have aM:¬(i:Int)<(p.com.length:Int):=by have:=HCL.out;omega
   have nI:i=R.length:=om;subst nI;rw[List.take_of_length_le (Nat.le_refl _)]at hH;have uE:=ints_own (hH.row 0 rfl) zy1;have dS:=hH.below0;clear hH;go_wp2_with fail;exact bodyPost_ret (v:=.tuple #[.slice V0 R.length v0,.bool true]) (by simp[results,results17,go_sem]) rfl ⟨⟨V0,⟨v0,rfl⟩,uE⟩,by first|exact dS|(subst eH;exact dS)⟩
end Nf
namespace Nf
open Go.RowKit Go.Shelf
open Lib (hid)
def badN (n:Nk):Bool:=decide (20<n.kids.length)||decide (80<n.name.size)||decide (80<n.attr.size)
def fewD (d:Po) (S:List Sm):Bool:=decide (d.nodes.length≤40)&&decide (d.uses.length≤8)&&decide (d.reveal.length≤20)&&fewS S&& !(d.nodes.any badN)
theorem fewD_s {d:Po} {S:List Sm} (h:fewD d S=true):d.nodes.length≤40∧d.uses.length≤8∧d.reveal.length≤20∧fewS S=true∧∀n∈d.nodes,n.kids.length≤20∧n.name.size≤80∧n.attr.size≤80:=by
 unfold fewD at h;simp only[Bool.and_eq_true,decide_eq_true_eq,Bool.not_eq_true']at h;refine⟨h.1.1.1.1,h.1.1.1.2,h.1.1.2,h.1.2,fun n hn=>?_⟩;have h2:badN n=false:=by
  rw[Bool.eq_false_iff];intro e;have:=List.any_eq_true.2 ⟨n,hn,e⟩;rw[h.2]at this;cases this
 unfold badN at h2;simp only[Bool.or_eq_false_iff,decide_eq_false_iff_not]at h2;omega
theorem few_any (d:Po) (L:Lp) (A:Option Addr) (c:Nat) (S:List Sm) (w:World) (hP:PolM w d L) (hS:Schs w A S) :
 Calls prog 6 #[polV d L,.slice A S.length c] w fun e w'=>e=.returned (.bool (fewD d S))∧Below w.heap.size w w':=by
 have hk:=(Hp.start w).new 29 (polcs d L);have hb:=hk.below0;obtain⟨d0,d1,d2,d3,d4,d5,d6,d7⟩:=(hk.blk 0 rfl).get8;by_cases h1:40<d.nodes.length
 ·have fU:(40:Int)<(d.nodes.length:Int):=om;have HV:Hid (fewD d S=false):=hid (by unfold fewD;rw[decide_eq_false (p:=d.nodes.length≤40) om];simp);clear hk h1;exact zt58
 have fU:¬(40:Int)<(d.nodes.length:Int):=om;by_cases h2:8<d.uses.length
 ·have fH:(8:Int)<(d.uses.length:Int):=om;have HV:Hid (fewD d S=false):=hid (by unfold fewD;rw[decide_eq_false (p:=d.uses.length≤8) om];simp);clear hk h2;exact zt58
 have fH:¬(8:Int)<(d.uses.length:Int):=om;by_cases h3:20<d.reveal.length
 ·have ih3:(20:Int)<(d.reveal.length:Int):=om;have HV:Hid (fewD d S=false):=hid (by unfold fewD;rw[decide_eq_false (p:=d.reveal.length≤20) om];simp);clear hk h3;exact zt58
 have ih3:¬(20:Int)<(d.reveal.length:Int):=om;by_cases h4:8<S.length
 ·have ih4:(8:Int)<(S.length:Int):=om;have HV:Hid (fewD d S=false):=hid (by unfold fewD fewS;rw[decide_eq_false (p:=S.length≤8) om];simp);clear hk h4;exact zt58
 have ih4:¬(8:Int)<(S.length:Int):=om;have HV:Hid (fewD d S=(!(S.any badM)&& !(d.nodes.any badN))):=hid (by unfold fewD fewS;rw[decide_eq_true (p:=d.nodes.length≤40) om,decide_eq_true (p:=d.uses.length≤8) om,decide_eq_true (p:=d.reveal.length≤20) om,decide_eq_true (p:=S.length≤8) om];simp);have HS:=hid hS;have HP:=hid hP;have aD:=h1;clear hP hS h1 h2 h3;go_enter func6,ntmps6;go_upto_region 4 with fail;clear d0 d1 d2 d3 d4 d5 d6 d7 fU fH ih3 ih4;go_loopg [31] d.nodes.length (fun m s31 wx=>∃i:Nat,i≤d.nodes.length∧m=d.nodes.length-i∧s31=.int .i64 (i:Int)∧Below w.heap.size w wx∧Hid ((d.nodes.take i).any badN=false));case atStart=>exact⟨0,Nat.zero_le _,rfl,rfl,hb,hid rfl⟩
 case round =>
  obtain⟨i,hi,rfl,rfl,hW,HE⟩:=hrel;clear hk;by_cases ay:i<d.nodes.length
  ·have aM:(i:Int)<(d.nodes.length:Int):=om;have aL:(0:Int)≤(i:Int):=om;obtain⟨n,hn⟩:∃n,d.nodes[i]? =some n:=⟨_,List.getElem?_eq_getElem ay⟩;obtain⟨ad,KA,kc,hA,hN⟩:=(HP.out.up hW).ns.at_ i n hn;obtain⟨ua,uc,ra,rc,na,nc⟩:=L;change na=some ad at hA;subst hA;obtain⟨e0,e1,e2,e3,e4,e5,-,-⟩:=hN;have HT:Hid ((d.nodes.take (i+1)).any badN=badN n):=hid (by rw[any_take hn,HE.out];rfl);have HB:Hid (badN n=true→fewD d S=false):=hid (fun h=>by rw[HV.out,all_bad2 hn h];simp);have aA:=(Hp.start wr).new 68 (nkcs n KA kc);clear hn HE;go_upto_region 6 with fail;clear e0 e1 e2 e3 e4 e5;have az:Hp [] wr [iblk wr.heap.size 68 (nkcs n KA kc)] (wr.alloc (.cells #[.int .i64 n.kind,.int .i64 n.num,.string n.name,.string n.attr,.slice KA n.kids.length kc,.int .i64 n.at_] 68)):=aA;clear aA;generalize wr.alloc (.cells #[.int .i64 n.kind,.int .i64 n.num,.string n.name,.string n.attr,.slice KA n.kids.length kc,.int .i64 n.at_] 68)=W2 at *;have aG:=hW.trans (az.below0.mono hW.size);generalize wr.heap.size=g6 at *;obtain⟨e0,e1,e2,e3,e4,e5⟩:=Blk.get6 (az.blk 0 rfl);clear az hW;by_cases k1:20<n.kids.length
   ·have ik1:(20:Int)<(n.kids.length:Int):=om;have HX:=hid (HB.out (by unfold badN;rw[decide_eq_true k1];simp));clear k1;go_wp2_with fail;go_ret;exact⟨za9 zub,aG⟩
   have ik1:¬(20:Int)<(n.kids.length:Int):=om;by_cases k2:80<n.name.size
   ·have ik2:(80:Int)<(n.name.size:Int):=om;have HX:=hid (HB.out (by unfold badN;rw[decide_eq_true k2];simp));clear k2;go_wp2_with fail;go_ret;exact⟨za9 zub,aG⟩
   have ik2:¬(80:Int)<(n.name.size:Int):=om;by_cases k3:80<n.attr.size
   ·have ik3:(80:Int)<(n.attr.size:Int):=om;have HX:=hid (HB.out (by unfold badN;rw[decide_eq_true k3];simp));clear k3;go_wp2_with fail;go_ret;exact⟨za9 zub,aG⟩
   have ik3:¬(80:Int)<(n.attr.size:Int):=om;have HX:=hid (HT.out.trans (show badN n=false by unfold badN;rw[decide_eq_false k1,decide_eq_false k2,decide_eq_false k3];rfl));clear k1 k2 k3;go_wp2_with fail;go_roundg (d.nodes.length-(i+1));case measure=>omega
   case rel=>exact⟨i+1,ay,rfl,by first|rfl|simp,aG,HX⟩
  ·have aM:¬(i:Int)<(d.nodes.length:Int):=om;have HN:Hid (d.nodes.any badN=false):=hid (by have:=HE.out;rwa[List.take_of_length_le om]at this);have HC:=hid (containsS_any A c S om _ (HS.out.up hW));clear ay hi;go_wp2_with fail;refine HC.out.mono ?_;rintro e w1 ⟨rfl,aC⟩;go_wp2_with fail;go_ret;rw[HV.out,HN.out];exact⟨za9 zy1,hW.trans (aC.mono hW.size)⟩
end Nf
section
open Go.RowKit Go.ChangeShapes Go.WideShapes Go.Deep Go.Joins
theorem zbm {α:Type} {R:Nat→α→Prop}:∀(n:Nat),(∀i,i<n→∃x,R i x)→∃l:List α,l.length=n∧∀i x,l[i]? =some x→R i x
 | 0,_=>⟨[],rfl,fun i x h=>by simp at h⟩
 | n+1,h=>by
  obtain⟨l,h1,h2⟩:=zbm n (fun i hi=>h i om);obtain⟨x,hx⟩:=h n om;refine⟨l++[x],by simp[h1],fun i y hy=>?_⟩;rcases Nat.lt_or_ge i l.length with hl|hl
  ·rw[List.getElem?_append_left hl]at hy;exact h2 i y hy
  ·exact zt41
theorem wadd_at (a:Addr) (k:Nat) (hk:0<k):a.add k=⟨a.block,a.off+k,none⟩:=by
 unfold Addr.add;rw[if_neg om]
theorem w2_of {α:Type} {l:List α} (h:l.length=2):∃x0 x1,l=[x0,x1]:=by
 match l,h with
 | [x0,x1],_=>exact⟨x0,x1,rfl⟩
theorem w6_of {α:Type} {l:List α} (h:l.length=6):∃x0 x1 x2 x3 x4 x5,l=[x0,x1,x2,x3,x4,x5]:=by
 match l,h with
 | [x0,x1,x2,x3,x4,x5],_=>exact⟨x0,x1,x2,x3,x4,x5,rfl⟩
theorem w8_of {α:Type} {l:List α} (h:l.length=8):∃x0 x1 x2 x3 x4 x5 x6 x7,l=[x0,x1,x2,x3,x4,x5,x6,x7]:=by
 match l,h with
 | [x0,x1,x2,x3,x4,x5,x6,x7],_=>exact⟨x0,x1,x2,x3,x4,x5,x6,x7,rfl⟩
section
variable {H:Type} {enc:TypeId×Value→H} {P:Program} {W:World} {base:Nat} {spare:Nat→Bool} {held:Bool}
theorem wtrod_struct6 {t:TypeId} {f0 f1 f2 f3 f4 f5:Field} {fuel:Nat} {cs:List Value} {x:DataW H×List MemPlace} (ht:P.underlying t=some (.struct #[f0,f1,f2,f3,f4,f5])) (h:DataW.trod enc P W base spare held fuel t cs=some x) :
 ∃y0 y1 y2 y3 y4 y5 n,DataW.trod enc P W base spare held n f0.type ((cs.drop f0.offset).take (P.cellsOf f0.type))=some y0∧DataW.trod enc P W base spare held n f1.type ((cs.drop f1.offset).take (P.cellsOf f1.type))=some y1∧DataW.trod enc P W base spare held n f2.type ((cs.drop f2.offset).take (P.cellsOf f2.type))=some y2∧DataW.trod enc P W base spare held n f3.type ((cs.drop f3.offset).take (P.cellsOf f3.type))=some y3∧DataW.trod enc P W base spare held n f4.type ((cs.drop f4.offset).take (P.cellsOf f4.type))=some y4∧DataW.trod enc P W base spare held n f5.type ((cs.drop f5.offset).take (P.cellsOf f5.type))=some y5:=by
 obtain⟨xs,n,_,rfl,hl,aD,hf⟩:=DataW.trod_struct ht h
 match xs,aD with
 | [y0,y1,y2,y3,y4,y5],_=>exact⟨y0,y1,y2,y3,y4,y5,n,by simpa using hf 0 f0 rfl,by simpa using hf 1 f1 rfl,by simpa using hf 2 f2 rfl,by simpa using hf 3 f3 rfl,by simpa using hf 4 f4 rfl,by simpa using hf 5 f5 rfl⟩
theorem wtrod_struct8 {t:TypeId} {f0 f1 f2 f3 f4 f5 f6 f7:Field} {fuel:Nat} {cs:List Value} {x:DataW H×List MemPlace} (ht:P.underlying t=some (.struct #[f0,f1,f2,f3,f4,f5,f6,f7])) (h:DataW.trod enc P W base spare held fuel t cs=some x) :
 ∃y0 y1 y2 y3 y4 y5 y6 y7 n,DataW.trod enc P W base spare held n f0.type ((cs.drop f0.offset).take (P.cellsOf f0.type))=some y0∧DataW.trod enc P W base spare held n f1.type ((cs.drop f1.offset).take (P.cellsOf f1.type))=some y1∧DataW.trod enc P W base spare held n f2.type ((cs.drop f2.offset).take (P.cellsOf f2.type))=some y2∧DataW.trod enc P W base spare held n f3.type ((cs.drop f3.offset).take (P.cellsOf f3.type))=some y3∧DataW.trod enc P W base spare held n f4.type ((cs.drop f4.offset).take (P.cellsOf f4.type))=some y4∧DataW.trod enc P W base spare held n f5.type ((cs.drop f5.offset).take (P.cellsOf f5.type))=some y5∧DataW.trod enc P W base spare held n f6.type ((cs.drop f6.offset).take (P.cellsOf f6.type))=some y6∧DataW.trod enc P W base spare held n f7.type ((cs.drop f7.offset).take (P.cellsOf f7.type))=some y7:=by
 obtain⟨xs,n,_,rfl,hl,aD,hf⟩:=DataW.trod_struct ht h
 match xs,aD with
 | [y0,y1,y2,y3,y4,y5,y6,y7],_=>exact⟨y0,y1,y2,y3,y4,y5,y6,y7,n,by simpa using hf 0 f0 rfl,by simpa using hf 1 f1 rfl,by simpa using hf 2 f2 rfl,by simpa using hf 3 f3 rfl,by simpa using hf 4 f4 rfl,by simpa using hf 5 f5 rfl,by simpa using hf 6 f6 rfl,by simpa using hf 7 f7 rfl⟩
end
section
variable {H:Type} {enc:TypeId×Value→H} {W:World} {base:Nat} {spare:Nat→Bool} {held:Bool}
theorem open_ints {fuel:Nat} {cs:List Value} {x:DataW H×List MemPlace} (h:DataW.trod enc prog W base spare held fuel 61 cs=some x):∃A c l,cs=[.slice A l.length c]∧Ints W A l∧l.length≤c∧c≤maxLen:=by
 rcases open_slice underlying61 h with⟨rfl,_⟩|⟨a,len,cap,m,n,D,Pl,rfl,hb,hl,hm,di,hx,hi⟩
 ·exact⟨none,0,[],rfl,⟨fun i s hs=>by simp at hs⟩,Nat.le_refl _,Nat.zero_le _⟩
 ·obtain⟨l,h1,h2⟩:=zbm (R:=fun i (z:Int)=>W.cell? (a.add i)=some (.int .i64 z)) len (fun i fp=>by
   obtain⟨cs',hc,ht⟩:=hi i zyl;obtain⟨z,rfl,-,-⟩:=DataW.trod_int underlying3 ht;have cG:prog.cellsOf 3=1:=kr;rw[cG]at hc;obtain⟨_,_,aH⟩:=World.cells?_some hc;refine⟨z,?_⟩;have h9:=aH 0 om;rw[Nat.mul_one]at h9;have e:(a.add i).add 0=a.add i:=by simp[Addr.add]
   rw[e]at h9;exact h9)
  exact⟨some a,cap,l,by rw[h1],⟨fun i s hs=>⟨a,rfl,h2 i s hs⟩⟩,by omega,hm⟩
theorem open_uses {fuel:Nat} {cs:List Value} {x:DataW H×List MemPlace} (h:DataW.trod enc prog W base spare held fuel 25 cs=some x):∃A c L,cs=[.slice A L.length c]∧Prs W A L∧L.length≤maxLen∧∀x∈L,x.1.size≤maxLen∧x.2.size≤maxLen:=by
 rcases open_slice underlying25 h with⟨rfl,_⟩|⟨a,len,cap,m,n,D,Pl,rfl,hb,hl,hm,di,hx,hi⟩
 ·exact zv8
 ·obtain⟨l,h1,h2⟩:=zbm (R:=fun i (x:Bp)=>(W.cell? (a.add (i*2))=some (.string x.1)∧W.cell? ⟨(a.add (i*2)).block,(a.add (i*2)).off+1,none⟩=some (.string x.2))∧x.1.size≤maxLen∧x.2.size≤maxLen) len (fun i fp=>by
   obtain⟨cs',hc,ht⟩:=hi i zyl;have cG:prog.cellsOf 50=2:=kr;rw[cG]at hc;obtain⟨_,aD,aH⟩:=World.cells?_some hc;obtain⟨y0,y1,k,-,-,q0,q1⟩:=trod_struct2 underlying50 ht;obtain⟨u0,u1,rfl⟩:=w2_of aD;have e1:prog.cellsOf 9=1:=kr;simp only[e1,List.drop_zero,List.take_succ_cons,List.take_zero,List.drop_succ_cons]at q0 q1;obtain⟨z0,r0,-,b0⟩:=DataW.trod_string underlying9 q0;obtain⟨z1,r1,-,b1⟩:=DataW.trod_string underlying9 q1;cases r0;cases r1;refine⟨(z0,z1),⟨?_,?_⟩,b0,b1⟩
   ·exact zt86
   ·have h9:=aH 1 om;rw[wadd_at _ 1 om]at h9;exact h9)
  exact zuw
theorem open_refs {fuel:Nat} {cs:List Value} {x:DataW H×List MemPlace} (h:DataW.trod enc prog W base spare held fuel 26 cs=some x):∃A c L,cs=[.slice A L.length c]∧Prs W A L∧L.length≤maxLen∧∀x∈L,x.1.size≤maxLen∧x.2.size≤maxLen:=by
 rcases open_slice underlying26 h with⟨rfl,_⟩|⟨a,len,cap,m,n,D,Pl,rfl,hb,hl,hm,di,hx,hi⟩
 ·exact zv8
 ·obtain⟨l,h1,h2⟩:=zbm (R:=fun i (x:Bp)=>(W.cell? (a.add (i*2))=some (.string x.1)∧W.cell? ⟨(a.add (i*2)).block,(a.add (i*2)).off+1,none⟩=some (.string x.2))∧x.1.size≤maxLen∧x.2.size≤maxLen) len (fun i fp=>by
   obtain⟨cs',hc,ht⟩:=hi i zyl;have cG:prog.cellsOf 89=2:=kr;rw[cG]at hc;obtain⟨_,aD,aH⟩:=World.cells?_some hc;obtain⟨y0,y1,k,-,-,q0,q1⟩:=trod_struct2 underlying89 ht;obtain⟨u0,u1,rfl⟩:=w2_of aD;have e1:prog.cellsOf 9=1:=kr;simp only[e1,List.drop_zero,List.take_succ_cons,List.take_zero,List.drop_succ_cons]at q0 q1;obtain⟨z0,r0,-,b0⟩:=DataW.trod_string underlying9 q0;obtain⟨z1,r1,-,b1⟩:=DataW.trod_string underlying9 q1;cases r0;cases r1;refine⟨(z0,z1),⟨?_,?_⟩,b0,b1⟩
   ·exact zt86
   ·have h9:=aH 1 om;rw[wadd_at _ 1 om]at h9;exact h9)
  exact zuw
theorem open_nodes {fuel:Nat} {cs:List Value} {x:DataW H×List MemPlace} (h:DataW.trod enc prog W base spare held fuel 27 cs=some x):∃A c L,cs=[.slice A L.length c]∧Nks W A L∧L.length≤maxLen∧∀n∈L,n.kids.length≤maxLen:=by
 rcases open_slice underlying27 h with⟨rfl,_⟩|⟨a,len,cap,m,n,D,Pl,rfl,hb,hl,hm,di,hx,hi⟩
 ·exact⟨none,0,[],rfl,⟨fun i s hs=>by simp at hs⟩,Nat.zero_le _,fun n hn=>(List.not_mem_nil hn).elim⟩
 ·obtain⟨l,h1,h2⟩:=zbm (R:=fun i (f:Nk)=>(∃WA c,NodeAt W (a.add (i*6)) f WA c)∧f.kids.length≤maxLen) len (fun i fp=>by
   obtain⟨cs',hc,ht⟩:=hi i zyl;have cG:prog.cellsOf 68=6:=kr;rw[cG]at hc;obtain⟨_,aD,aH⟩:=World.cells?_some hc;obtain⟨y0,y1,y2,y3,y4,y5,k,q0,q1,q2,q3,q4,q5⟩:=wtrod_struct6 underlying68 ht;obtain⟨u0,u1,u2,u3,u4,u5,rfl⟩:=w6_of aD;have e0:prog.cellsOf 3=1:=kr;have e1:prog.cellsOf 9=1:=kr;have e2:prog.cellsOf 61=1:=kr;simp only[e0,e1,e2,List.drop_zero,List.take_succ_cons,List.take_zero,List.drop_succ_cons]at q0 q1 q2 q3 q4 q5;obtain⟨z0,r0,-,-⟩:=DataW.trod_int underlying3 q0;obtain⟨z1,r1,-,-⟩:=DataW.trod_int underlying3 q1;obtain⟨z2,r2,-,-⟩:=DataW.trod_string underlying9 q2;obtain⟨z3,r3,-,-⟩:=DataW.trod_string underlying9 q3;obtain⟨KA,kc,kl,r4,hk,ez,nX⟩:=open_ints q4;obtain⟨z5,r5,-,-⟩:=DataW.trod_int underlying3 q5;cases r0;cases r1;cases r2;cases r3;cases r4;cases r5;have dV:∀j,0<j→j<6→W.cell? ⟨(a.add (i*6)).block,(a.add (i*6)).off+j,none⟩=([.int .i64 z0,.int .i64 z1,.string z2,.string z3,.slice KA kl.length kc,.int .i64 z5]:List Value)[j]? :=fun j h0 h5=>by
    have h9:=aH j om;rw[wadd_at _ j h0]at h9;exact h9
   refine⟨⟨z0,z1,z2,z3,kl,z5⟩,⟨KA,kc,?_,dV 1 om om,dV 2 om om,dV 3 om om,dV 4 om om,dV 5 om om,hk,ez⟩,by show kl.length≤_;omega⟩;have h9:=aH 0 om;have e:(a.add (i*6)).add 0=a.add (i*6):=by simp[Addr.add]
   rw[e]at h9;exact h9)
  refine⟨some a,cap,l,by rw[h1],⟨fun i f hf=>?_⟩,by omega,fun n hn=>?_⟩
  ·obtain⟨⟨WA,c,hh⟩,-⟩:=h2 i f hf;exact⟨a,WA,c,rfl,hh⟩
  ·obtain⟨i,fp⟩:=List.mem_iff_getElem?.1 hn;exact(h2 i n fp).2
structure LBd (d:Po):Prop where
 ul:d.uses.length≤maxLen
 rl:d.reveal.length≤maxLen
 nl:d.nodes.length≤maxLen
 name:d.name.size≤maxLen
 scope:d.scope.size≤maxLen
 escrow:d.escrow.size≤maxLen
 us:∀x∈d.uses,x.1.size≤maxLen∧x.2.size≤maxLen
 rv:∀x∈d.reveal,x.1.size≤maxLen∧x.2.size≤maxLen
 kl:∀n∈d.nodes,n.kids.length≤maxLen
theorem open_policy {v:Value} {dd:DataW H} {p:List MemPlace} {r:Reach} {b0:Nat} (hv:Value.okWide prog W r b0 29 v) (h:DataW.Trod enc prog W base spare held 29 v dd p):∃d L,v=polV d L∧PolM W d L∧LBd d:=by
 obtain⟨cs,rfl,bu⟩:=okWide_struct underlying29 hv;have hc:prog.cellsOf 29=8:=kr;rw[hc]at bu;obtain⟨fuel,hf⟩:=h;obtain⟨y0,y1,y2,y3,y4,y5,y6,y7,n,q0,q1,q2,q3,q4,q5,q6,q7⟩:=wtrod_struct8 underlying29 hf;obtain⟨cs⟩:=cs;obtain⟨u0,u1,u2,u3,u4,u5,u6,u7,rfl⟩:=w8_of (show cs.length=8 from bu);have e0:prog.cellsOf 9=1:=kr;have e1:prog.cellsOf 25=1:=kr;have e2:prog.cellsOf 26=1:=kr;have e3:prog.cellsOf 27=1:=kr;have e4:prog.cellsOf 3=1:=kr;simp only[Value.cells,e0,e1,e2,e3,e4,List.drop_zero,List.take_succ_cons,List.take_zero,List.drop_succ_cons]at q0 q1 q2 q3 q4 q5 q6 q7;obtain⟨z0,r0,-,b0⟩:=DataW.trod_string underlying9 q0;obtain⟨ua,uc,ul,r1,hu,hu2,hu3⟩:=open_uses q1;obtain⟨ra,rc,rl,r2,hr,dO,hr3⟩:=open_refs q2;obtain⟨na,nc,nl,r3,hn,eW,hn3⟩:=open_nodes q3;obtain⟨z4,r4,-,-⟩:=DataW.trod_int underlying3 q4;obtain⟨z5,r5,-,b5⟩:=DataW.trod_string underlying9 q5;obtain⟨z6,r6,-,-⟩:=DataW.trod_int underlying3 q6;obtain⟨z7,r7,-,b7⟩:=DataW.trod_string underlying9 q7;cases r0;cases r1;cases r2;cases r3;cases r4;cases r5;cases r6;cases r7;exact⟨⟨z0,ul,rl,nl,z4,z5,z6,z7⟩,⟨ua,uc,ra,rc,na,nc⟩,rfl,⟨hu,hr,hn⟩,⟨hu2,dO,eW,b0,b5,b7,hu3,hr3,hn3⟩⟩
end
theorem few_pbd {d:Po} {S:List Nf.Sm} (hL:LBd d) (h:Nf.fewD d S=true):PBd d:=by
 obtain⟨h1,h2,h3,-,h5⟩:=Nf.fewD_s h;have e:maxLen=9223372036854775807:=by unfold maxLen;rfl
 have a1:=hL.name;have a2:=hL.scope;have a3:=hL.escrow;rw[e]at a1 a2 a3;refine⟨a1,a2,a3,by omega,by omega,by omega,fun x hx=>?_,fun x hx=>?_,fun n hn=>?_⟩
 ·have:=hL.us x hx;rwa[e]at this
 ·have:=hL.rv x hx;rwa[e]at this
 ·have:=h5 n hn;exact⟨by omega,by omega,by omega⟩
end
end Go.Proofs.YtekkapgknohadaaGreatDoor
