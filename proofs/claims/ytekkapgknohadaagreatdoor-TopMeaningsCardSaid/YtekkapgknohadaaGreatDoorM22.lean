/- normal: within. -/
import Derived.Test.YtekkapgknohadaaGreatDoorM21
set_option linter.unusedVariables false
set_option maxRecDepth 20000
set_option maxHeartbeats 16000000
open Go.Proofs.Tryz
namespace Go.Proofs.YtekkapgknohadaaGreatDoor
namespace Nf
open Go.RowKit Go.Shelf
open Lib (hid)
open Pa (F Nd)
theorem within_any {d:Po} {L:Lp} {A:Option Addr} {c:Nat} {S:List Sm} {w0:World} (E:Env w0 d L A c S) (hR:zah chkB S d=true) (n:Nk) (dJ:0≤n.kind) (KA:Option Addr) (kc:Nat) (fd:Fd) (hf:findS S d.uses n.name n.attr=some fd) (ff:fd.words.length≤1000000) (lo hi:Int) (w:World) (h0:Below w0.heap.size w0 w) (B:Nat) (bM:B≤w.heap.size) :
 Calls prog 97 #[fitV d L A S.length c,nkV n KA kc,.int .i64 lo,.int .i64 hi] w fun e w'=>(∃v,e=.returned v∧CvM B w' (withB fd (ndOf n) (max lo fd.min) (min hi fd.max)) [v])∧Below w.heap.size w w':=by
 obtain⟨l,hl⟩:∃l,max lo fd.min=l:=⟨_,rfl⟩;obtain⟨r,hr⟩:∃r,min hi fd.max=r:=⟨_,rfl⟩;rw[hl,hr];have HL1:=hid hl;have pH:=hid hr;clear hl hr;have hk:=((Hp.start w).new 93 (fitC d L A S.length c)).new 68 (nkcs n KA kc);obtain⟨g,hg⟩:∃g,w.heap.size=g:=⟨_,rfl⟩;simp only[sizeA,hg]at hk;go_enter func97,ntmps97;go_upto_region 1 with fail;obtain⟨q,hq⟩:∃f,g+1=f:=⟨_,rfl⟩;simp only[hq]at hk ⊢;generalize hW:(w.alloc (.cells #[.string d.name,.slice L.ua d.uses.length L.uc,.slice L.ra d.reveal.length L.rc,.slice L.na d.nodes.length L.nc,.int .i64 d.root,.string d.scope,.int .i64 d.limit,.string d.escrow,.slice A S.length c] 93)).alloc (.cells #[.int .i64 n.kind,.int .i64 n.num,.string n.name,.string n.attr,.slice KA n.kids.length kc,.int .i64 n.at_] 68)=W1 at *;have ar:Hp [] w [iblk q 68 (nkcs n KA kc),iblk g 93 (fitC d L A S.length c)] W1:=hk;clear hk hW hq;obtain⟨c0,c1,c2,c3,c4,c5,c6,c7,c8⟩:=blk9 (ar.blk 1 rfl);obtain⟨d0,d1,d2,d3,d4,d5⟩:=Blk.get6 (ar.blk 0 rfl);have HF:=hid (zck E hR n KA kc fd hf ff W1 (h0.trans (ar.below0.mono h0.size)));clear E hR hf;go_wp2_with fail;refine HF.out.mono ?_;rintro e w2 ⟨⟨CA,cc,rfl⟩,aG⟩;have ah:=(ar.next aG).new 57 (fcs fd CA cc);clear HF ar aG c0 c1 c2 c3 c4 c5 c6 c7 c8 d0 d1 d2 d3 d4 d5;go_upto_region 2 with fail;generalize w2.alloc (.cells #[.string fd.name,.int .i64 fd.kind,.int .i64 fd.min,.int .i64 fd.max,.slice CA fd.words.length cc] 57)=W3 at *;generalize w2.heap.size=fb at *;obtain⟨f0,f1,f2,f3,f4⟩:=Blk.get5 (ah.blk 0 rfl);go_quiet (fail);go_upto_region 3 with fail;have aj:=ah.drewN nq;clear ah f0 f1 f2 f3 f4;generalize W3.drewN nq=W4 at *;try simp only[HL1.out,pH.out]
 have HV:Hid (withB fd (ndOf n) l r=if r<l then tru false else if l=fd.min∧r=fd.max then tru true else if l=r then rel 0 (ndOf n) (nbr l)else .cons ⟨7,0,[],[],0⟩ (.cons (ndOf n) .nil (two (nbr l) (nbr r))) .nil):=hid rfl;obtain⟨f0,f1,f2,f3,f4⟩:=Blk.get5 (aj.blk 0 rfl);by_cases h1:r<l
 ·have HT:=hid (fun W=>za8 false W B);go_wp2_with fail;refine(HT.out _).mono ?_;rintro e w4 ⟨⟨v,rfl,hv⟩,aK⟩;have aq:=aj.next aK;have aN:=hid hv;clear hv HT;go_wp2_with fail;go_ret;have hb:=aq.below0;exact⟨⟨v,rfl,by rw[HV.out,if_pos h1];exact aN.out⟩,by first|exact hb|(subst hg;exact hb)⟩
 ·by_cases rT:l=fd.min∧r=fd.max
  ·obtain⟨h2,h3⟩:=rT;have h2b:(l==fd.min)=true:=by simpa using h2
   have h3b:(r==fd.max)=true:=by simpa using h3
   have HV:Hid (withB fd (ndOf n) l r=tru true):=hid (by rw[HV.out,if_neg h1,if_pos ⟨h2,h3⟩]);clear h2 h3;have HT:=hid (fun W=>za8 true W B);exact zt102
  ·have HW:Hid (withB fd (ndOf n) l r=if l=r then rel 0 (ndOf n) (nbr l)else .cons ⟨7,0,[],[],0⟩ (.cons (ndOf n) .nil (two (nbr l) (nbr r))) .nil):=hid (by rw[HV.out,if_neg h1,if_neg rT]);have mP:((l==fd.min)&&(r==fd.max))=false:=by
    rw[Bool.eq_false_iff];intro h;simp only[Bool.and_eq_true,beq_iff_eq]at h;exact rT h
   clear rT HV;cases aC:(l==fd.min)<;>cases aG:(r==fd.max);case true.true=>rw[aC,aG]at mP;cases mP
   all_goals
    clear mP;by_cases h4:l=r
    ·subst h4;rw[if_pos rfl]at HW;obtain⟨d0,d1,d2,d3,d4,d5⟩:=Blk.get6 (aj.blk 1 rfl);have HN:=hid (number_any l);have gY:=hid (fun W hq=>zcd 0 n (nbK l) KA none kc 0 dJ (show(0:Int)≤10 by decide) W B hq);go_upto_region 8 with fail;clear f0 f1 f2 f3 f4;go_region_held3 (fun w'=>w'.cell? ⟨q,0,none⟩=some (.int .i64 n.kind)∧w'.cell? ⟨q,1,none⟩=some (.int .i64 n.num)∧w'.cell? ⟨q,2,none⟩=some (.string n.name)∧w'.cell? ⟨q,3,none⟩=some (.string n.attr)∧w'.cell? ⟨q,4,none⟩=some (.slice KA n.kids.length kc)∧w'.cell? ⟨q,5,none⟩=some (.int .i64 n.at_)) (first|exact⟨d0,d1,d2,d3,d4,d5⟩|exact Blk.get6 (aq.blk 1 rfl)|exact Blk.get6 (aw.blk 1 rfl)) (first|(go_at_call 163;refine(HN.out _).mono ?_;rintro e w4 ⟨rfl,aK⟩;have aq:=aj.drew.next aK)|(go_at_call 162;refine(gY.out _ (Nat.le_trans bM aq.size)).mono ?_;rintro e w5 ⟨⟨v,rfl,hv⟩,aS⟩;have aw:=aq.next aS));all_goals
      have aN:=hid hv;clear hv HN gY;go_wp2_with fail;go_ret;have hb:=aw.below0;exact⟨⟨v,rfl,by rw[HW.out];exact aN.out⟩,by first|exact hb|(subst hg;exact hb)⟩
    ·rw[if_neg h4]at HW;have oQ:(l==r)=false:=by simpa using h4
     obtain⟨d0,d1,d2,d3,d4,d5⟩:=Blk.get6 (aj.blk 1 rfl);go_upto_region 9 with fail;clear f0 f1 f2 f3 f4 h4;have aq:=aj.drew;go_region_held3 (fun w'=>w'.cell? ⟨q,0,none⟩=some (.int .i64 n.kind)∧w'.cell? ⟨q,1,none⟩=some (.int .i64 n.num)∧w'.cell? ⟨q,2,none⟩=some (.string n.name)∧w'.cell? ⟨q,3,none⟩=some (.string n.attr)∧w'.cell? ⟨q,4,none⟩=some (.slice KA n.kids.length kc)∧w'.cell? ⟨q,5,none⟩=some (.int .i64 n.at_)) (first|exact⟨d0,d1,d2,d3,d4,d5⟩|exact Blk.get6 (aq.blk 1 rfl)|exact Blk.get6 ((aq.alloc _).blk 1 rfl)) (first|(go_at_call 163;refine(number_any _ _).mono ?_;rintro e w4 ⟨rfl,aK⟩;replace aq:=aq.next aK));all_goals
      have dR:=Nat.le_trans bM aq.size;have aw:=aq.new 68 (nkcs n KA kc++(nkcs (nbK l) none 0++nkcs (nbK r) none 0));have hb:=aw.below0;have vN:=aw.blk 0 rfl;clear aq aw;go_wp2_with fail;go_ret;refine⟨⟨_,rfl,?_⟩,by first|exact hb|(subst hg;exact hb)⟩;rw[HW.out];refine⟨_,[],rfl,rfl,?_⟩;rw[if_neg (show¬(7:Nat)=5 by decide)];refine⟨⟨rfl,rfl,rfl,rfl,rfl,rfl,rfl,trivial⟩,some ⟨_,0,none⟩,3,rfl,fun i x hx=>⟨_,rfl,dR,?_⟩⟩;rw[zce]
      match i,hx with
      | 0,hx =>
        obtain rfl:ndOf n=x:=by simpa[two,vals]using hx
        exact vat_of (o:=0) vN dJ (fun j u hu=>by rw[Nat.zero_add,List.getElem?_append_left zyr];exact hu)
      | 1,hx =>
        obtain rfl:ndOf (nbK l)=x:=Option.some.inj hx;exact vat_of (o:=6) vN (show(0:Int)≤10 by decide) (fun j u hu=>by rw[List.getElem?_append_right (by show 6≤_;omega),show 6+j-(nkcs n KA kc).length=j by show 6+j-6=j;omega,List.getElem?_append_left zyr];exact hu)
      | 2,hx =>
        obtain rfl:ndOf (nbK r)=x:=Option.some.inj hx;exact vat_of (o:=12) vN (show(0:Int)≤10 by decide) (fun j u hu=>by rw[List.getElem?_append_right (by show 6≤_;omega),show 12+j-(nkcs n KA kc).length=6+j by show 12+j-6=6+j;omega,List.getElem?_append_right (by show 6≤_;omega),show 6+j-(nkcs (nbK l) none 0).length=j by show 6+j-6=j;omega];exact hu)
      | i+3,hx=>simp[two,vals]at hx
end Nf
namespace Nf
open Go.RowKit Go.Shelf
open Pa (F Nd)
structure FdB (f:Fd):Prop where
 lo: -2147483648≤f.min
 le:f.min≤f.max
 hi:f.max≤2147483647
 wl:f.words.length≤64
 kd:f.kind=0∨(f.kind=1∧0<f.words.length)
theorem fieldsE_mem:∀(L:List Fd) (S:List ByteArray),za7 S L=0→∀f∈L,fieldE f=0
 | [],_,_,f,hf=>by cases hf
 | g::r,S,h,f,hf=>by
   rw[za7]at h;split at h
   ·cases h
   ·split at h
    ·cases h
    ·split at h
     ·rename_i h3;exact absurd h h3
     ·rename_i h3;rcases List.mem_cons.1 hf with rfl|hf
      ·exact Decidable.not_not.1 h3
      ·exact fieldsE_mem r _ h f hf
theorem fdB_field {f:Fd} (h:fieldE f=0):FdB f:=by
 unfold fieldE at h;split at h
 ·rename_i hk;unfold numE at h;split at h
  ·cases h
  ·split at h
   ·cases h
   ·exact⟨by omega,by omega,by omega,by omega,.inl hk⟩
 ·split at h
  ·rename_i hk;unfold wrdE at h;split at h
   ·cases h
   ·unfold wordsP at h;split at h
    ·cases h
    ·exact⟨by omega,by omega,by omega,by omega,.inr ⟨hk,by omega⟩⟩
  ·cases h
theorem findS_mem {S:List Sm} {U:List Bp} {a t:ByteArray} {fd:Fd} (hf:findS S U a t=some fd):∃m∈S,fd∈m.fields:=by
 unfold findS at hf;split at hf
 ·cases hf
 ·split at hf
  ·cases hf
  ·rename_i m hm;exact⟨m,List.mem_of_find?_eq_some hm,List.mem_of_find?_eq_some hf⟩
theorem fdB_of {S:List Sm} {d:Po} (hR:zah chkB S d=true) {a t:ByteArray} {fd:Fd} (hf:findS S d.uses a t=some fd):FdB fd:=by
 obtain⟨m,hm,h1⟩:=findS_mem hf;unfold zah at hR;simp only[Bool.and_eq_true]at hR;have h2:=List.all_eq_true.1 hR.1.1.2 m hm;have h3:schemaE m.name m.fields=0:=of_decide_eq_true h2;unfold schemaE at h3;split at h3
 ·cases h3
 ·split at h3
  ·cases h3
  ·exact fdB_field (fieldsE_mem _ _ h3 fd h1)
theorem lookS_nd (S:List Sm) (U:List Bp) (n:Nk):lookS S U (ndOf n)=findS S U n.name n.attr:=by
 unfold lookS;show findS S U (bs (tl n.name)) (bs (tl n.attr))=_;rw[bs_tl,bs_tl]
theorem tyOf_nd (S:List Sm) (U:List Bp) (n:Nk) (hn:0≤n.kind):tyOf (lookS S U) (ndOf n)=tyK S U n:=by
 unfold tyOf tyK;rw[lookS_nd];show(if n.kind.toNat=10 then _ else if n.kind.toNat=11 then some (Ty.word (bs (tl n.name)))else _)=_;rw[bs_tl];by_cases h1:n.kind=10
 ·rw[if_pos om,if_pos h1]
 ·rw[if_neg om,if_neg h1];by_cases h2:n.kind=11
  ·rw[if_pos om,if_pos h2]
  ·rw[if_neg om,if_neg h2]
theorem fdOf_nd {S:List Sm} {U:List Bp} {n:Nk} {fd:Fd} (hf:findS S U n.name n.attr=some fd):fdOf (lookS S U) (ndOf n)=fd:=by
 unfold fdOf;rw[lookS_nd,hf];rfl
theorem vn_at {ns:List Nk} {f:Nat} {c:Bool} {a:Int} (h:Pa.VN ns (f+1) c a) (hw:WfP ns (f+1) a):∃(i:Nat) (n:Nk),a=(i:Int)∧ns[i]? =some n∧Pa.Fm n c∧∀k∈n.kids,Pa.VN ns f (decide (n.kind≤5)) k∧WfP ns f k:=by
 obtain⟨h0,n,hn,hk⟩:=hw;obtain⟨m,hm,hf,hv⟩:=h;rw[hn]at hm;obtain rfl:=Option.some.inj hm;exact⟨a.toNat,n,by omega,hn,Pa.form_fm hf,fun k ah=>⟨hv k ah,hk k ah⟩⟩
def zNk:Nk:=⟨0,0,⟨#[]⟩,⟨#[]⟩,[],0⟩
def nodeK (ns:List Nk) (k:Int):Nk:=(ns[k.toNat]?).getD zNk
theorem zcg {ns:List Nk} {i:Nat} {n:Nk} (h:ns[i]? =some n):nodeK ns (i:Int)=n:=by
 unfold nodeK;rw[Int.toNat_natCast,h];rfl
theorem vals_app:∀(f g:F),vals (f.app g)=vals f++vals g
 | .nil,g=>rfl
 | .cons x k r,g=>by rw[F.app,vals,vals,vals_app];rfl
theorem zcb {ns:List Nk} {f:Nat} {c:Bool}:∀{l:List Int},(∀x∈l,Pa.VN ns f c x)→vals (F.cat (l.map (Pa.treeN ns f)))=l.map fun k=>ndOf (nodeK ns k)
 | [],_=>rfl
 | x::l,h=>by
   rw[List.map_cons,F.cat,vals_app,zcb (fun y hy=>h y (List.mem_cons_of_mem _ hy)),List.map_cons];cases f with
   | zero=>exact(h x (List.mem_cons_self ..)).elim
   | succ f =>
     obtain⟨n,hn,-⟩:=h x (List.mem_cons_self ..);rw[Pa.treeN_in hn];unfold nodeK;rw[hn];rfl
theorem nrm_app {L:Look}:∀(f g:F) (b:Bool),nrm L (f.app g) b=(nrm L f b).app (nrm L g b)
 | .nil,g,b=>rfl
 | .cons x k r,g,b=>by rw[F.app,nrm,nrm,nrm_app,F.app_assoc]
theorem nrm_cat {L:Look} (b:Bool):∀(l:List F),nrm L (F.cat l) b=F.cat (l.map fun f=>nrm L f b)
 | []=>rfl
 | f::l=>by rw[F.cat,nrm_app,nrm_cat b l];rfl
theorem tyF_cat {L:Look}:∀(l:List F),tyF L (F.cat l)=l.all (tyF L)
 | []=>rfl
 | f::l=>by rw[F.cat,ty_app,tyF_cat l];rfl
theorem all_tys {L:Look} {p:Ty→Bool}:∀{vs:List Nd} {ts:List Ty},vs.map (tyOf L)=ts.map some→∀q:Nd→Bool,(∀x t,tyOf L x=some t→q x=p t)→vs.all q=ts.all p
 | [],[],_,q,_=>rfl
 | [],t::ts,h,_,_=>by cases h
 | v::vs,[],h,_,_=>by cases h
 | v::vs,t::ts,h,q,hq=>by
   simp only[List.map_cons,List.cons.injEq]at h;rw[List.all_cons,List.all_cons,hq v t h.1,all_tys h.2 q hq]
theorem cond_fits {L:Look} {x:Nd} {a:Nd} {vs:List Nd} {t:Ty} {r:List Ty} (h:(a::vs).map (tyOf L)=(t::r).map some) (hk:x.kind=6∨x.kind=7∨x.kind=8):condB L x (a::vs)=fitsK (x.kind:Int) x.num t r:=by
 have h1:(a::vs).all (zbd L)=true:=by
  rw[all_tys (p:=fun _=>true) h (zbd L) (fun x t e=>by unfold zbd;rw[e];rfl)];simp
 have h2:(a::vs).all (numTy L)=(t::r).all Ty.isN:=all_tys h (numTy L) (fun x t e=>by unfold numTy;rw[e]);have h0:tyOf L a=some t∧vs.map (tyOf L)=r.map some:=by simpa using h
 have h3:zb6 L (a::vs)=r.all (agree t):=all_tys h0.2 (agr L a) (fun x u e=>by unfold agr;rw[h0.1,e]);unfold condB fitsK;rw[h1,h2,h3];rcases hk with e|e|e<;>simp[e]
theorem cond_none {L:Look} {x a:Nd} {vs:List Nd} (ha:a∈vs) (h:tyOf L a=none) (hk:x.kind=6∨x.kind=7∨x.kind=8):condB L x vs=false:=by
 have h1:vs.all (zbd L)=false:=by
  rw[Bool.eq_false_iff];intro h9;have:=List.all_eq_true.1 h9 a ha;unfold zbd at this;rw[h]at this;cases this
 unfold condB;rw[h1];rcases hk with e|e|e<;>simp[e]
theorem cond_other {L:Look} {x:Nd} {vs:List Nd} (hk:¬(x.kind=6∨x.kind=7∨x.kind=8)):condB L x vs=true:=by
 unfold condB;rw[if_neg om,if_neg om,if_neg om]
end Nf
namespace Nf
open Go.RowKit Go.Shelf
open Lib (hid)
open Pa (F Nd)
def boundK (fd:Fd) (how:Int) (x:Nd) (c:Int):F :=
 if how=0 then withB fd x (max c fd.min) (min c fd.max)
 else if how=2 then withB fd x (max fd.min fd.min) (min (c-1) fd.max)
 else if how=3 then withB fd x (max fd.min fd.min) (min c fd.max)
 else if how=4 then withB fd x (max (c+1) fd.min) (min fd.max fd.max)
 else if how=5 then withB fd x (max c fd.min) (min fd.max fd.max)
 else if c<fd.min∨fd.max<c then tru true
 else if fd.min=fd.max then tru false
 else rel 1 x (nbr c)
theorem boundK_of {S:List Sm} {U:List Bp} {n:Nk} {fd:Fd} (hf:findS S U n.name n.attr=some fd) (how c:Int):bounded (lookS S U) how (ndOf n) c=boundK fd how (ndOf n) c:=by
 unfold bounded boundB boundK within;rw[fdOf_nd hf]
theorem bounded_any {d:Po} {L:Lp} {A:Option Addr} {c:Nat} {S:List Sm} {w0:World} (E:Env w0 d L A c S) (hR:zah chkB S d=true) (n:Nk) (dJ:0≤n.kind) (KA:Option Addr) (kc:Nat) (fd:Fd) (hf:findS S d.uses n.name n.attr=some fd) (how r:Int) (hh:0≤how) (fM:how≤5) (mI: -2147483648≤r) (dO:r≤2147483647) (w:World) (h0:Below w0.heap.size w0 w) (B:Nat) (bM:B≤w.heap.size) :
 Calls prog 159 #[fitV d L A S.length c,.int .i64 how,nkV n KA kc,.int .i64 r] w fun e w'=>(∃v,e=.returned v∧CvM B w' (bounded (lookS S d.uses) how (ndOf n) r) [v])∧Below w.heap.size w w':=by
 have hB:=fdB_of hR hf;have xg:=hid (fun lo hi W hW hq=>within_any E hR n dJ KA kc fd hf (by have:=hB.wl;omega) lo hi W hW B hq);have HF:=hid (fun W hW=>zck E hR n KA kc fd hf (by have:=hB.wl;omega) W hW);rw[boundK_of hf];have jF:IntKind.i64.wrap (r-1)=r-1:=IntWalk.i64_in _ om;have fq:IntKind.i64.wrap (r+1)=r+1:=IntWalk.i64_in _ om;clear hB mI dO E hR hf;have hk:=((Hp.start w).new 93 (fitC d L A S.length c)).new 68 (nkcs n KA kc);obtain⟨g,hg⟩:∃g,w.heap.size=g:=⟨_,rfl⟩;simp only[sizeA,hg]at hk;obtain⟨q,hq⟩:∃f,g+1=f:=⟨_,rfl⟩;rcases(by omega:how=0∨how=2∨how=3∨how=4∨how=5∨how=1)with rfl|rfl|rfl|rfl|rfl|rfl;all_goals
  go_enter func159,ntmps159;go_upto_region 1 with fail;simp only[hq]at hk ⊢;generalize hW:(w.alloc (.cells #[.string d.name,.slice L.ua d.uses.length L.uc,.slice L.ra d.reveal.length L.rc,.slice L.na d.nodes.length L.nc,.int .i64 d.root,.string d.scope,.int .i64 d.limit,.string d.escrow,.slice A S.length c] 93)).alloc (.cells #[.int .i64 n.kind,.int .i64 n.num,.string n.name,.string n.attr,.slice KA n.kids.length kc,.int .i64 n.at_] 68)=W1 at *;have ar:Hp [] w [iblk q 68 (nkcs n KA kc),iblk g 93 (fitC d L A S.length c)] W1:=hk;clear hk hW hq;obtain⟨c0,c1,c2,c3,c4,c5,c6,c7,c8⟩:=blk9 (ar.blk 1 rfl);obtain⟨d0,d1,d2,d3,d4,d5⟩:=Blk.get6 (ar.blk 0 rfl);have HF1:=hid (HF.out W1 (h0.trans (ar.below0.mono h0.size)));clear HF;go_wp2_with fail;refine HF1.out.mono ?_;rintro e w2 ⟨⟨CA,cc,rfl⟩,aG⟩;have ah:=(ar.next aG).new 57 (fcs fd CA cc);clear HF1 ar aG c0 c1 c2 c3 c4 c5 c6 c7 c8 d0 d1 d2 d3 d4 d5;go_upto_region 2 with fail;generalize w2.alloc (.cells #[.string fd.name,.int .i64 fd.kind,.int .i64 fd.min,.int .i64 fd.max,.slice CA fd.words.length cc] 57)=W3 at *;generalize w2.heap.size=fb at *;obtain⟨f0,f1,f2,f3,f4⟩:=Blk.get5 (ah.blk 0 rfl);obtain⟨d0,d1,d2,d3,d4,d5⟩:=Blk.get6 (ah.blk 1 rfl);obtain⟨c0,c1,c2,c3,c4,c5,c6,c7,c8⟩:=blk9 (ah.blk 2 rfl);have h3:=h0.trans (ah.below0.mono h0.size)
 rotate_left 5
 ·by_cases h1:r<fd.min
  ·have HT:=hid (za8 true W3 B);have HV:Hid (boundK fd 1 (ndOf n) r=tru true):=hid (by unfold boundK;simp[h1]);exact zt93
  ·by_cases h2:fd.max<r
   ·have HT:=hid (za8 true W3 B);have HV:Hid (boundK fd 1 (ndOf n) r=tru true):=hid (by unfold boundK;simp[h2]);exact zt93
   ·by_cases h4:fd.min=fd.max
    ·have oQ:(fd.min==fd.max)=true:=by simpa using h4
     have HT:=hid (za8 false W3 B);have HV:Hid (boundK fd 1 (ndOf n) r=tru false):=hid (by unfold boundK;simp only[show¬((1:Int)=0) by decide,show¬((1:Int)=2) by decide,show¬((1:Int)=3) by decide,show¬((1:Int)=4) by decide,show¬((1:Int)=5) by decide,if_false];rw[if_neg om,if_pos h4]);clear h4;exact zt93
    ·have oQ:(fd.min==fd.max)=false:=by simpa using h4
     have HV:Hid (boundK fd 1 (ndOf n) r=rel 1 (ndOf n) (nbr r)):=hid (by unfold boundK;simp only[show¬((1:Int)=0) by decide,show¬((1:Int)=2) by decide,show¬((1:Int)=3) by decide,show¬((1:Int)=4) by decide,show¬((1:Int)=5) by decide,if_false];rw[if_neg om,if_neg h4]);have HN:=hid (number_any r);have gY:=hid (fun W hq=>zcd 1 n (nbK r) KA none kc 0 dJ (show(0:Int)≤10 by decide) W B hq);clear h4 xg h3;go_upto_region 17 with fail;clear f0 f1 f2 f3 f4 c0 c1 c2 c3 c4 c5 c6 c7 c8 h1 h2 oQ;go_region_held3 (fun w'=>w'.cell? ⟨q,0,none⟩=some (.int .i64 n.kind)∧w'.cell? ⟨q,1,none⟩=some (.int .i64 n.num)∧w'.cell? ⟨q,2,none⟩=some (.string n.name)∧w'.cell? ⟨q,3,none⟩=some (.string n.attr)∧w'.cell? ⟨q,4,none⟩=some (.slice KA n.kids.length kc)∧w'.cell? ⟨q,5,none⟩=some (.int .i64 n.at_)) (first|exact⟨d0,d1,d2,d3,d4,d5⟩|exact Blk.get6 (aq.blk 1 rfl)|exact Blk.get6 (aw.blk 1 rfl)) (first|(go_at_call 163;refine(HN.out _).mono ?_;rintro e w4 ⟨rfl,aK⟩;have aq:=ah.drew.next aK)|(go_at_call 162;refine(gY.out _ (Nat.le_trans bM aq.size)).mono ?_;rintro e w5 ⟨⟨v,rfl,hv⟩,aS⟩;have aw:=aq.next aS));all_goals
      have aN:=hid hv;clear hv HN gY;go_wp2_with fail;go_ret;have hb:=aw.below0;exact zuo
 all_goals
  go_wp2_with fail;refine(xg.out _ _ _ h3 (Nat.le_trans bM ah.size)).mono ?_;rintro e w4 ⟨⟨v,rfl,hv⟩,aK⟩;have aq:=ah.next aK;have aN:=hid hv;clear hv xg;go_wp2_with fail;go_ret;have hb:=aq.below0;exact zuy
end Nf
end Go.Proofs.YtekkapgknohadaaGreatDoor
