/- meaning: the value of a node. -/
import Derived.Test.YtekkapgknohadaaGreatDoorM25
set_option linter.unusedVariables false
set_option maxRecDepth 20000
set_option maxHeartbeats 8000000
open Go.Proofs.Tryz
namespace Go.Proofs.YtekkapgknohadaaGreatDoor
namespace Nf
open Go.RowKit Go.Shelf
open Pa (F Nd Tx)
structure Rows (W:World) (A:Option Addr) (Fs:List (List Int)):Prop where
 at_:∀i l,Fs[i]? =some l→∃ad RA rc,A=some ad∧W.cell? (ad.add i)=some (.slice RA l.length rc)∧Ints W RA l
theorem Rows.up {W W':World} {A:Option Addr} {Fs:List (List Int)} (h:Rows W A Fs) (hb:Below W.heap.size W W'):Rows W' A Fs:=⟨fun i l hl=>by
 obtain⟨ad,RA,rc,h1,h2,h3⟩:=h.at_ i l hl;exact⟨ad,RA,rc,h1,zaa h2 hb,h3.up hb⟩⟩
def useN (U:List Bp) (a:ByteArray):Nat:=idxL a (U.map Prod.fst)
def fldN (S:List Sm) (U:List Bp) (a t:ByteArray):Nat:=match zaq S (U.getD (useN U a) (⟨#[]⟩,⟨#[]⟩)).2 with
 | some m=>(findF m.fields t).getD 0
 | none=>0
def valF (S:List Sm) (U:List Bp) (Fs:List (List Int)):Val:=fun a t=>(Fs.getD (useN U (bs a)) []).getD (fldN S U (bs a) (bs t)) 0
structure AdmF (S:List Sm) (U:List Bp) (Fs:List (List Int)):Prop where
 len:Fs.length=U.length
 row:∀(i:Nat) (u:Bp) (m:Sm),U[i]? =some u→zaq S u.2=some m→∃l:List Int,Fs[i]? =some l∧l.length=m.fields.length∧∀(k:Nat) (f:Fd) (x:Int),m.fields[k]? =some f→l[k]? =some x→(f.kind=1→0≤x∧x<f.words.length)∧(f.kind≠1→f.min≤x∧x≤f.max)
theorem idx_find {α β:Type} [DecidableEq α] (g:β→α) (a:α):∀(l:List β) (x:β),l.find? (fun u=>decide (g u=a))=some x→l[idxL a (l.map g)]? =some x∧g x=a∧(l.take (idxL a (l.map g))).find? (fun u=>decide (g u=a))=none
 | [],x,h=>by cases h
 | y::r,x,h=>by
   rw[List.map_cons,idxL];by_cases e:g y=a
   ·rw[if_pos e];rw[List.find?_cons_of_pos (by simpa using e)]at h;obtain rfl:=Option.some.inj h;exact⟨rfl,e,rfl⟩
   ·rw[if_neg e];rw[List.find?_cons_of_neg (by simpa using e)]at h;obtain⟨h1,h2,h3⟩:=idx_find g a r x h;refine⟨by simpa using h1,h2,?_⟩;rw[List.take_succ_cons,List.find?_cons_of_neg (by simpa using e)];exact h3
structure PlAt (S:List Sm) (U:List Bp) (a t:ByteArray) (fd:Fd) (u k:Nat) (s:ByteArray) (m:Sm):Prop where
 use:U[u]? =some (a,s)
 first:(U.take u).find? (fun x=>decide (x.1=a))=none
 nm:zaq S s=some m
 fld:findF m.fields t=some k
 at_:m.fields[k]? =some fd
 un:u=useN U a
 kn:k=fldN S U a t
theorem zbs {S:List Sm} {U:List Bp} {a t:ByteArray} {fd:Fd} (h:findS S U a t=some fd):∃u k s m,PlAt S U a t fd u k s m:=by
 unfold findS at h;cases hu:U.find? (fun u=>decide (u.1=a))with
 | none=>rw[hu]at h;cases h
 | some x =>
   obtain⟨x1,x2⟩:=x;rw[hu]at h;simp only at h;obtain⟨h1,h2,h3⟩:=idx_find Prod.fst a U _ hu;simp only at h2;subst h2;cases hn:zaq S x2 with
   | none=>rw[hn]at h;cases h
   | some m =>
     rw[hn]at h;simp only at h;rw[findF_at]at h;cases hf:findF m.fields t with
     | none=>rw[hf]at h;cases h
     | some k =>
       rw[hf,Option.bind_some]at h;refine⟨_,k,x2,m,h1,h3,hn,hf,h,rfl,?_⟩;unfold fldN;have e:(U.getD (useN U x1) (⟨#[]⟩,⟨#[]⟩))=(x1,x2):=by
        rw[List.getD_eq_getElem?_getD];show(U[idxL x1 (U.map Prod.fst)]?).getD _=_;rw[h1];rfl
       rw[e];simp only[hn,hf];rfl
theorem PlAt.val {S:List Sm} {U:List Bp} {a t:ByteArray} {fd:Fd} {u k:Nat} {s:ByteArray} {m:Sm} (h:PlAt S U a t fd u k s m) {Fs:List (List Int)} (hF:AdmF S U Fs):∃l x,Fs[u]? =some l∧l[k]? =some x∧l.length=m.fields.length∧valF S U Fs (tl a) (tl t)=x∧(fd.kind=1→0≤x∧x<fd.words.length)∧(fd.kind≠1→fd.min≤x∧x≤fd.max):=by
 obtain⟨l,h1,h2,h3⟩:=hF.row u _ m h.use h.nm;have hk:=(List.getElem?_eq_some_iff.1 h.at_).1;obtain⟨x,hx⟩:∃x,l[k]? =some x:=⟨_,List.getElem?_eq_getElem om⟩;refine⟨l,x,h1,hx,h2,?_,h3 k fd x h.at_ hx⟩;unfold valF;rw[bs_tl,bs_tl,←h.un,←h.kn,List.getD_eq_getElem?_getD,List.getD_eq_getElem?_getD,h1,Option.getD_some,hx];rfl
abbrev evC (d:Po) (L:Lp) (A:Option Addr) (n c:Nat) (FA:Option Addr) (fn fc:Nat) (TA:Option Addr) (tn tc:Nat):List Value:=[.string d.name,.slice L.ua d.uses.length L.uc,.slice L.ra d.reveal.length L.rc,.slice L.na d.nodes.length L.nc,.int .i64 d.root,.string d.scope,.int .i64 d.limit,.string d.escrow,.slice A n c,.slice FA fn fc,.slice TA tn tc]
theorem blkE {W:World} {g:Nat} {t:TypeId} {a b c d e f i j k l m:Value} (h:Blk W g t [a,b,c,d,e,f,i,j,k,l,m]):W.cell? ⟨g,0,none⟩=some a∧W.cell? ⟨g,1,none⟩=some b∧W.cell? ⟨g,2,none⟩=some c∧W.cell? ⟨g,3,none⟩=some d∧W.cell? ⟨g,4,none⟩=some e∧W.cell? ⟨g,5,none⟩=some f∧W.cell? ⟨g,6,none⟩=some i∧W.cell? ⟨g,7,none⟩=some j∧W.cell? ⟨g,8,none⟩=some k∧W.cell? ⟨g,9,none⟩=some l∧W.cell? ⟨g,10,none⟩=some m :=
 ⟨h.cell 0,h.cell 1,h.cell 2,h.cell 3,h.cell 4,h.cell 5,h.cell 6,h.cell 7,h.cell 8,h.cell 9,h.cell 10⟩
theorem valV_num {L:Look} {v:Val} {n:Nk} (h:n.kind=10):valV L v (ndOf n)=.n n.num:=by
 unfold valV;rw[if_pos (show(ndOf n).kind=10 by show n.kind.toNat=10;omega)];rfl
theorem valV_word {L:Look} {v:Val} {n:Nk} (h:n.kind=11):valV L v (ndOf n)=.w n.name:=by
 unfold valV;rw[if_neg (show¬(ndOf n).kind=10 by show¬n.kind.toNat=10;omega),if_pos (show(ndOf n).kind=11 by show n.kind.toNat=11;omega)];show Vl.w (bs (tl n.name))=_;rw[bs_tl]
theorem valV_ref {S:List Sm} {U:List Bp} {v:Val} {n:Nk} (h:n.kind=9) {fd:Fd} (hf:findS S U n.name n.attr=some fd):valV (lookS S U) v (ndOf n)=if fd.kind=1 then .w (fd.words.getD (v (tl n.name) (tl n.attr)).toNat ⟨#[]⟩)else .n (v (tl n.name) (tl n.attr)):=by
 unfold valV;rw[if_neg (show¬(ndOf n).kind=10 by show¬n.kind.toNat=10;omega),if_neg (show¬(ndOf n).kind=11 by show¬n.kind.toNat=11;omega),fdOf_nd hf];rfl
theorem mval_any {d:Po} {L:Lp} {A:Option Addr} {c:Nat} {S:List Sm} {w0:World} (E:Env w0 d L A c S) (FA:Option Addr) (fc:Nat) (Fs:List (List Int)) (hFs:Rows w0 FA Fs) (hAF:AdmF S d.uses Fs) (TA:Option Addr) (tn tc g:Nat) (i:Nat) (n:Nk) (hn:d.nodes[i]? =some n) (cf:n.kind=9∨n.kind=10∨n.kind=11) (hr:n.kind=9→∃fd,findS S d.uses n.name n.attr=some fd) (w:World) (h0:Below w0.heap.size w0 w) (hB:Blk w g 203 (evC d L A S.length c FA Fs.length fc TA tn tc)) :
 Calls prog 254 #[.pointer (some ⟨g,0,none⟩),.int .i64 (i:Int)] w fun e w'=>e=.returned (vlV (valV (lookS S d.uses) (valF S d.uses Fs) (ndOf n)))∧Below w.heap.size w w':=by
 obtain⟨ua,uc,ra,rc,na,nc⟩:=L;obtain⟨ad,KA,kc,hA,aP⟩:=E.p.ns.at_ i n hn;change na=some ad at hA;subst hA;have ay:=(List.getElem?_eq_some_iff.1 hn).1;have aM:(i:Int)<(d.nodes.length:Int):=om;have aL:(0:Int)≤(i:Int):=om;have hk:=(Hp.start w).new 68 (nkcs n KA kc);obtain⟨h,hh⟩:∃g,w.heap.size=g:=⟨_,rfl⟩;simp only[hh]at hk;have hN:=aP.up h0;have d0:=hN.kind;have d1:=hN.num;have d2:=hN.name;have d3:=hN.attr;have d4:=hN.kids;have d5:=hN.at_;obtain⟨c0,c1,c2,c3,c4,c5,c6,c7,c8,c9,dU⟩:=blkE hB;obtain⟨V,hV⟩:∃V,valV (lookS S d.uses) (valF S d.uses Fs) (ndOf n)=V:=⟨_,rfl⟩;rw[hV];have HV:=Lib.hid hV;clear hV hn hN aP ay;go_enter func254,ntmps254;go_upto_region 2 with fail;have fF:Blk (w.alloc (.cells #[.int .i64 n.kind,.int .i64 n.num,.string n.name,.string n.attr,.slice KA n.kids.length kc,.int .i64 n.at_] 68)) g 203 (evC d ⟨ua,uc,ra,rc,some ad,nc⟩ A S.length c FA Fs.length fc TA tn tc):=hB.below ((Below.refl _ _).alloc (Nat.le_refl _) _) hB.lt;try simp only[hh]
 have ar:Hp [] w [iblk h 68 (nkcs n KA kc)] (w.alloc (.cells #[.int .i64 n.kind,.int .i64 n.num,.string n.name,.string n.attr,.slice KA n.kids.length kc,.int .i64 n.at_] 68)):=hk;clear hk c0 c1 c2 c3 c4 c5 c6 c7 c8 c9 dU d0 d1 d2 d3 d4 d5;generalize w.alloc (.cells #[.int .i64 n.kind,.int .i64 n.num,.string n.name,.string n.attr,.slice KA n.kids.length kc,.int .i64 n.at_] 68)=W1 at *;obtain⟨d0,d1,d2,d3,d4,d5⟩:=Blk.get6 (ar.blk 0 rfl);by_cases jL:n.kind=10
 ·have aX:(n.kind==10)=true:=by simpa using jL
  have HV:Hid (V=.n n.num):=Lib.hid (by rw[←HV.out,valV_num jL]);have hb:=ar.below0;go_wp2_with fail;go_ret;exact zvb
 have dq:(n.kind==10)=false:=by simpa using jL
 by_cases jo:n.kind=11
 ·have aX:(n.kind==11)=true:=by simpa using jo
  have HV:Hid (V=.w n.name):=Lib.hid (by rw[←HV.out,valV_word jo]);have hb:=ar.below0;go_wp2_with fail;go_ret;exact zvb
 have hb11:(n.kind==11)=false:=by simpa using jo
 have k9:n.kind=9:=om;obtain⟨fd,hf⟩:=hr k9;obtain⟨u,k,s,m,hP⟩:=zbs hf;obtain⟨l,x,hl,hx,fC,hvx,b1,b2⟩:=hP.val hAF;have HV:Hid (V=if fd.kind=1 then .w (fd.words.getD x.toNat ⟨#[]⟩)else .n x):=Lib.hid (by rw[←HV.out,valV_ref k9 hf,hvx]);clear hvx hf hr k9 jL jo cf;obtain⟨c0,c1,c2,c3,c4,c5,c6,c7,c8,c9,dU⟩:=blkE fF;go_upto_region 8 with fail;clear c0 c1 c2 c3 c4 c5 c6 c7 c8 c9 dU d0 d1 d2 d3 d4 d5;have jA:=(List.getElem?_eq_some_iff.1 hP.use).1;have hU6:=E.pd.ul;go_loopg [38] d.uses.length (fun m9 s38 wx=>∃j:Nat,j≤u∧m9=d.uses.length-j∧s38=.int .i64 (j:Int)∧Hp [] w [iblk h 68 (nkcs n KA kc)] wx);case atStart=>exact⟨0,Nat.zero_le _,rfl,rfl,ar⟩
 case round =>
  obtain⟨j,hj,rfl,rfl,hM⟩:=hrel;clear ar fF;have bX:(j:Int)<(d.uses.length:Int):=om;have bT:(0:Int)≤(j:Int):=om;obtain⟨⟨x1,x2⟩,dg⟩:∃x,d.uses[j]? =some x:=⟨_,List.getElem?_eq_getElem om⟩;obtain⟨uad,hA,ca,cb⟩:=(((E.p.us.up h0).up hM.below0).at_ j _ dg);change ua=some uad at hA;subst hA;simp only at ca cb;have kV:=hB.below hM.below0 hB.lt;obtain⟨c0,c1,c2,c3,c4,c5,c6,c7,c8,c9,dU⟩:=blkE kV;have aA:=hM.new 50 [.string x1,.string x2];have eX:=@strs_eq x1 n.name;go_upto_region 10 with fail;generalize wr.alloc (.cells #[.string x1,.string x2] 50)=W2 at *;generalize wr.heap.size=g2 at *;clear hM ca cb c0 c1 c2 c3 c4 c5 c6 c7 c8 c9 dU kV;obtain⟨d0,d1,d2,d3,d4,d5⟩:=Blk.get6 (aA.blk 1 rfl);have v0:=(aA.blk 0 rfl).cell 0;have v1:=(aA.blk 0 rfl).cell 1;simp only[List.getElem?_cons_zero,List.getElem?_cons_succ]at v0 v1;by_cases hju:j=u
  ·subst hju;rw[hP.use]at dg;obtain⟨rfl,rfl⟩:=Prod.mk.inj (Option.some.inj dg);rw[decide_eq_true rfl]at eX;clear dg;have kV:=hB.below aA.below0 hB.lt;obtain⟨c0,c1,c2,c3,c4,c5,c6,c7,c8,c9,dU⟩:=blkE kV;go_upto_region 11 with fail;clear d0 d1 d2 d3 d4 d5 v0 v1 c0 c1 c2 c3 c4 c5 c6 c7 c8 c9 dU;have HC:=Lib.hid (fun W hW=>schemaOf_any d ⟨some uad,uc,ra,rc,some ad,nc⟩ A c S j (n.name,s) hP.use m hP.nm E.sl E.pd.ul w0 W E.s E.p.us hW);go_cut [8] (fun s8 wx=>∃(gs:Nat) (FB:Option Addr) (fb:Nat),s8=.pointer (some ⟨gs,0,none⟩)∧Flds w0 FB m.fields∧Hp [] w [iblk gs 53 [.string m.name,.slice FB m.fields.length fb],iblk g2 50 [.string n.name,.string s],iblk h 68 (nkcs n KA kc)] wx);case first =>
    have cf:=aA.drew;have bL:=(aA.new 53 zS).drew;have sr:=hB.below cf.below0 hB.lt;clear kV;go_region_held3 (fun w'=>w'.cell? ⟨g,0,none⟩=some (.string d.name)∧w'.cell? ⟨g,1,none⟩=some (.slice (some uad) d.uses.length uc)∧w'.cell? ⟨g,2,none⟩=some (.slice ra d.reveal.length rc)∧w'.cell? ⟨g,3,none⟩=some (.slice (some ad) d.nodes.length nc)∧w'.cell? ⟨g,4,none⟩=some (.int .i64 d.root)∧w'.cell? ⟨g,5,none⟩=some (.string d.scope)∧w'.cell? ⟨g,6,none⟩=some (.int .i64 d.limit)∧w'.cell? ⟨g,7,none⟩=some (.string d.escrow)∧w'.cell? ⟨g,8,none⟩=some (.slice A S.length c)∧w'.cell? ⟨g,9,none⟩=some (.slice FA Fs.length fc)∧w'.cell? ⟨g,10,none⟩=some (.slice TA tn tc)) (first|exact blkE sr|exact blkE (hB.below (Hp.below0 aj) hB.lt)|exact blkE (hB.below (Hp.below0 bL) hB.lt)|exact blkE (hB.below (Hp.below0 (aj.new 53 zS)) hB.lt)|exact blkE (hB.below (Hp.below0 (aj.new 53 [.string m.name,.slice FB m.fields.length fb])) hB.lt)|exact blkE (hB.below (Hp.below0 ((aj.set 0 rfl 0 (.string m.name)).set 0 rfl 1 (.slice FB m.fields.length fb))) hB.lt)) (first|(go_at_call 173;refine(HC.out _ (h0.trans ((Hp.below0 (w:=w) zya).mono h0.size))).mono ?_;rintro e w3 ⟨⟨FB,fb,rfl,jK⟩,aJ⟩;have aj:=Hp.next (w:=w) zya aJ;have z0:=(aj.blk 0 rfl).cell 0;have z1:=(aj.blk 0 rfl).cell 1;have y0:=(aj.blk 0 rfl).frozen 0;have y1:=(aj.blk 0 rfl).frozen 1;simp only[List.getElem?_cons_zero,List.getElem?_cons_succ]at z0 z1));all_goals
     go_wp2_with fail;go_meet;first
      | exact⟨_,FB,fb,rfl,jK,aj.new 53 [.string m.name,.slice FB m.fields.length fb]⟩
      | exact⟨_,FB,fb,rfl,jK,(aj.set 0 rfl 0 (.string m.name)).set 0 rfl 1 (.slice FB m.fields.length fb)⟩
   case rest =>
    clear aA HC kV;obtain⟨gs,FB,fb,rfl,jK,az⟩:=hcut;have oD:m.fields.length≤1000000:=(E.m m (by have:=hP.nm;unfold zaq at this;exact List.mem_of_find?_eq_some this)).len;have s0:=(az.blk 0 rfl).cell 0;have s1:=(az.blk 0 rfl).cell 1;have d3:=(az.blk 2 rfl).cell 3;simp only[List.getElem?_cons_zero,List.getElem?_cons_succ]at s0 s1 d3;have HG:=Lib.hid (find_any m.name n.attr FB fb m.fields oD wc (jK.up (h0.trans (az.below0.mono h0.size))));have hfv:findV m.fields n.attr=.tuple #[.int .i64 (k:Int),.bool true]:=by
     have e:findV m.fields n.attr=match findF m.fields n.attr with|some k=>.tuple #[.int .i64 (k:Int),.bool true]|none=>.tuple #[.int .i64 0,.bool false]:=rfl
     rw[e,hP.fld]
    rw[hfv]at HG;clear hfv;go_wp2_with fail;refine HG.out.mono ?_;rintro e w5 ⟨rfl,aS⟩;have bE:=az.next aS;clear HG az aS s0 s1 d3;have s1:=(bE.blk 0 rfl).cell 1;simp only[List.getElem?_cons_zero,List.getElem?_cons_succ]at s1;obtain⟨fad,WA,dN,rfl,dA⟩:=jK.at_ k fd hP.at_;have cO:=(dA.up h0).up bE.below0;have q0:=cO.name;have q1:=cO.kind;have q2:=cO.min;have q3:=cO.max;have q4:=cO.words;have bk:=(List.getElem?_eq_some_iff.1 hP.at_).1;have cH:(k:Int)<(m.fields.length:Int):=om;have ar:(0:Int)≤(k:Int):=om;have cz:=bE.new 57 (fcs fd WA dN);go_upto_region 14 with fail;have cz:Hp [] w [iblk w5.heap.size 57 (fcs fd WA dN),iblk gs 53 [.string m.name,.slice (some fad) m.fields.length fb],iblk g2 50 [.string n.name,.string s],iblk h 68 (nkcs n KA kc)] (w5.alloc (.cells #[.string fd.name,.int .i64 fd.kind,.int .i64 fd.min,.int .i64 fd.max,.slice WA fd.words.length dN] 57)):=cz;generalize w5.alloc (.cells #[.string fd.name,.int .i64 fd.kind,.int .i64 fd.min,.int .i64 fd.max,.slice WA fd.words.length dN] 57)=W6 at *;generalize w5.heap.size=gf at *;clear bE s1 q0 q1 q2 q3 q4 cO;have q1:=(cz.blk 0 rfl).cell 1;have q4:=(cz.blk 0 rfl).cell 4;simp only[List.getElem?_cons_zero,List.getElem?_cons_succ]at q1 q4;have kV:=hB.below cz.below0 hB.lt;obtain⟨c0,c1,c2,c3,c4,c5,c6,c7,c8,c9,dU⟩:=blkE kV;obtain⟨rad,RA,rx,rfl,cr,hI⟩:=((hFs.up h0).up cz.below0).at_ j l hl;obtain⟨ia,rfl,ci⟩:=hI.at_ k x hx;have wR:(k:Int)<(l.length:Int):=om;have aW:(j:Int)<(Fs.length:Int):=by rw[hAF.len];exact bX
    by_cases an:fd.kind=1
    ·obtain⟨b3,b4⟩:=b1 an;obtain⟨y,rfl⟩:=Int.eq_ofNat_of_zero_le b3;obtain⟨sw,j'⟩:∃sw,fd.words[y]? =some sw:=⟨_,List.getElem?_eq_getElem om⟩;have HV:Hid (V=.w sw):=Lib.hid (by rw[HV.out,if_pos an,Int.toNat_natCast,List.getD_eq_getElem?_getD,j'];rfl);obtain⟨wa,rfl,cw⟩:=((dA.strs.up h0).up cz.below0).at_ y sw j';have ej:(fd.kind==1)=true:=by simpa using an
     have hb:=cz.below0;clear hl hx an b1 b2 b3 j' fC hP;go_upto_region 15 with fail;go_quiet (fail);go_wp2_with fail;go_ret;exact⟨by rw[HV.out];rfl,by have aG:=(cz.drewN nq).below0;first|exact aG|(subst hh;exact aG)⟩
    ·have HV:Hid (V=.n x):=Lib.hid (by rw[HV.out,if_neg an]);have ej:(fd.kind==1)=false:=by simpa using an
     have hb:=cz.below0;clear hl hx an b1 b2 fC hP;go_wp2_with fail;go_ret;exact zvb
  ·have aT:¬x1=n.name:=fun e=>by
    have:=List.find?_eq_none.1 hP.first (x1,x2) (List.mem_of_getElem? (i:=j) (by rw[List.getElem?_take,if_pos om];exact dg));simp[e]at this
   rw[decide_eq_false aT]at eX;clear aT dg;go_wp2_with fail;go_roundg (d.uses.length-(j+1));case measure=>omega
   case rel=>exact⟨j+1,by omega,rfl,by first|rfl|simp,aA.tail⟩
end Nf
namespace Nf
open Go.RowKit Go.Shelf
open Lib (hid)
abbrev atC (a:At):List Value:=[.int .i64 a.kind,.int .i64 a.a,.int .i64 a.b,.int .i64 a.lo,.int .i64 a.hi]
abbrev atVal (a:At):Value:=.agg #[.int .i64 a.kind,.int .i64 a.a,.int .i64 a.b,.int .i64 a.lo,.int .i64 a.hi]
abbrev ptO (g:Nat):Value:=.pointer (some ⟨g,0,none⟩)
section
variable {W:World} {gx gy ga:Nat} {x y lo hi:Int}
theorem at1_any (cx:W.cell? ⟨gx,0,none⟩=some (.int .i64 x)) (cl:W.cell? ⟨ga,3,none⟩=some (.int .i64 lo)):Calls prog 123 #[ptO gx,ptO ga] W fun e w'=>e=.returned (.bool (decide (x=lo)))∧w'=W:=by
 have h:(x==lo)=decide (x=lo):=by rw[Bool.eq_iff_iff];simp
 go_enter func123,ntmps123;exact zt59
theorem at2_any (cx:W.cell? ⟨gx,0,none⟩=some (.int .i64 x)) (cl:W.cell? ⟨ga,3,none⟩=some (.int .i64 lo)):Calls prog 124 #[ptO gx,ptO ga] W fun e w'=>e=.returned (.bool (decide (x≠lo)))∧w'=W:=by
 have h:(x != lo)=decide (x≠lo):=by rw[Bool.eq_iff_iff];simp
 go_enter func124,ntmps124;exact zt59
theorem at4_any (cx:W.cell? ⟨gx,0,none⟩=some (.int .i64 x)) (cy:W.cell? ⟨gy,0,none⟩=some (.int .i64 y)):Calls prog 126 #[ptO gx,ptO gy] W fun e w'=>e=.returned (.bool (decide (x=y)))∧w'=W:=by
 have h:(x==y)=decide (x=y):=by rw[Bool.eq_iff_iff];simp
 go_enter func126,ntmps126;exact zt59
theorem at5_any (cx:W.cell? ⟨gx,0,none⟩=some (.int .i64 x)) (cy:W.cell? ⟨gy,0,none⟩=some (.int .i64 y)):Calls prog 127 #[ptO gx,ptO gy] W fun e w'=>e=.returned (.bool (decide (x≠y)))∧w'=W:=by
 have h:(x != y)=decide (x≠y):=by rw[Bool.eq_iff_iff];simp
 go_enter func127,ntmps127;exact zt59
theorem at3_any (cx:W.cell? ⟨gx,0,none⟩=some (.int .i64 x)) (cl:W.cell? ⟨ga,3,none⟩=some (.int .i64 lo)) (ch:W.cell? ⟨ga,4,none⟩=some (.int .i64 hi)):Calls prog 125 #[ptO ga,ptO gx] W fun e w'=>e=.returned (.bool (decide (lo≤x∧x≤hi)))∧w'=W:=by
 by_cases h:lo≤x
 ·have h2:decide (x≤hi)=decide (lo≤x∧x≤hi):=by rw[decide_eq_decide];omega
  go_enter func125,ntmps125;go_wp2_with fail;go_ret;exact⟨by rw[←h2];rfl,rfl⟩
 ·have h2:decide (lo≤x∧x≤hi)=false:=by rw[decide_eq_false_iff_not];omega
  go_enter func125,ntmps125;go_wp2_with fail;go_ret;exact⟨by first|rfl|(rw[h2];rfl),rfl⟩
theorem at6_any (hx:0≤x∧x≤4294967295) (hy:0≤y∧y≤4294967295) (cx:W.cell? ⟨gx,0,none⟩=some (.int .i64 x)) (cy:W.cell? ⟨gy,0,none⟩=some (.int .i64 y)) (cl:W.cell? ⟨ga,3,none⟩=some (.int .i64 lo)) (ch:W.cell? ⟨ga,4,none⟩=some (.int .i64 hi)):Calls prog 128 #[ptO ga,ptO gx,ptO gy] W fun e w'=>e=.returned (.bool (decide (lo≤x-y∧x-y≤hi)))∧w'=W:=by
 have hw:IntKind.i64.wrap (x-y)=x-y:=IntWalk.i64_in _ om;by_cases h:lo≤x-y
 ·have h2:decide (x-y≤hi)=decide (lo≤x-y∧x-y≤hi):=by rw[decide_eq_decide];omega
  clear hx hy;go_enter func128,ntmps128;go_wp2_with fail;go_ret;exact⟨by rw[←h2];rfl,rfl⟩
 ·have h2:decide (lo≤x-y∧x-y≤hi)=false:=by rw[decide_eq_false_iff_not];omega
  clear hx hy;go_enter func128,ntmps128;go_wp2_with fail;go_ret;exact⟨by first|rfl|(rw[h2];rfl),rfl⟩
end
abbrev cl2 (f:FuncId) (a b:Nat):Value:=.func (.func f) #[] #[ptO a,ptO b]
abbrev cl3 (f:FuncId) (a b c:Nat):Value:=.func (.func f) #[] #[ptO a,ptO b,ptO c]
abbrev atFs (ga gx gy:Nat):Array Value:=#[cl2 123 gx ga,cl2 124 gx ga,cl2 125 ga gx,cl2 126 gx gy,cl2 127 gx gy,cl3 128 ga gx gy]
theorem built_at (ga gx gy:Nat):prog.built 209 [(0,cl2 123 gx ga),(1,cl2 124 gx ga),(2,cl2 125 ga gx),(3,cl2 126 gx gy),(4,cl2 127 gx gy),(5,cl3 128 ga gx gy)]=some (atFs ga gx gy):=kr
theorem patom_any (a:At) (VA:Option Addr) (V:List Int) (vc:Nat) (ar:0≤a.kind) (aw:a.kind≤5) (iT:0≤a.a) (ha1:a.a<V.length) (hb:3≤a.kind→0≤a.b∧a.b<V.length) (hv:∀x∈V,0≤x∧x≤4294967295) (w:World) (hV:Ints w VA V) :
 Calls prog 59 #[atVal a,.slice VA V.length vc] w fun e w'=>e=.returned (.bool (evA V a))∧Below w.heap.size w w':=by
 obtain⟨R,hR⟩:∃R,evA V a=R:=⟨_,rfl⟩;rw[hR];obtain⟨ak,aa,ab,lo,hi⟩:=a;simp only at ar aw iT ha1 hb;obtain⟨i,rfl⟩:=Int.eq_ofNat_of_zero_le iT;obtain⟨x,hx⟩:∃x,V[i]? =some x:=⟨_,List.getElem?_eq_getElem om⟩;have mK:=hv x (List.mem_of_getElem? hx);have nK:V.getD i 0=x:=by rw[List.getD_eq_getElem?_getD,hx];rfl
 obtain⟨va,rfl,cx⟩:=hV.at_ i x hx;have hk:=(Hp.start w).new 133 (atC ⟨ak,(i:Int),ab,lo,hi⟩);obtain⟨ga,hg⟩:∃g,w.heap.size=g:=⟨_,rfl⟩;rw[hg]at hk;have q1:¬ak<0:=om;have q2:¬(6:Int)≤ak:=om;have q3:¬((i:Int)<0):=om;have q4:¬((V.length:Int)≤(i:Int)):=om;have HVI:=hid hV;have HB:=hid hb;have HVB:=hid hv;have HR:=hid hR;clear hb hv hx hV hR;go_enter func59,ntmps59;go_upto_region 1 with fail;try simp only[hg]
 have an:Hp [] w [iblk ga 133 (atC ⟨ak,(i:Int),ab,lo,hi⟩)] (w.alloc (.cells #[.int .i64 ak,.int .i64 (i:Int),.int .i64 ab,.int .i64 lo,.int .i64 hi] 133)):=hk;clear hk;generalize w.alloc (.cells #[.int .i64 ak,.int .i64 (i:Int),.int .i64 ab,.int .i64 lo,.int .i64 hi] 133)=W1 at *;replace cx:=zaa cx an.below0;obtain⟨c0,c1,c2,c3,c4⟩:=Blk.get5 (an.blk 0 rfl);simp only at c0 c1 c2 c3 c4;go_upto_region 4 with fail;have aj:=(an.new 3 [.int .i64 x]).new 3 [.int .i64 0];simp only[sizeA]at aj;generalize (W1.alloc (.cells #[.int .i64 x] 3)).alloc (.cells #[.int .i64 0] 3)=W2 at *;obtain⟨gx,cX⟩:∃g,W1.heap.size=g:=⟨_,rfl⟩;rw[cX]at aj ⊢;obtain⟨gy,qj⟩:∃g,gx+1=g:=⟨_,rfl⟩;rw[qj]at aj ⊢;clear an cX qj cx c0 c1 c2 c3 c4;obtain⟨c0,c1,c2,c3,c4⟩:=Blk.get5 (aj.blk 2 rfl);simp only at c0 c1 c2 c3 c4;go_upto_if 35 with fail;go_cut [6] (fun s6 wx=>s6=ptO gy∧∃y,Hid (3≤ak→V.getD ab.toNat 0=y)∧Hid (0≤y∧y≤4294967295)∧Hp [] w [iblk gy 3 [.int .i64 y],iblk gx 3 [.int .i64 x],iblk ga 133 (atC ⟨ak,(i:Int),ab,lo,hi⟩)] wx);case first =>
  by_cases h3:3≤ak
  ·obtain⟨cW,aC⟩:=HB.out h3;obtain⟨j,rfl⟩:=Int.eq_ofNat_of_zero_le cW;obtain⟨y,hy⟩:∃y,V[j]? =some y:=⟨_,List.getElem?_eq_getElem om⟩;have lT:=HVB.out y (List.mem_of_getElem? hy);have hyg:V.getD j 0=y:=by rw[List.getD_eq_getElem?_getD,hy];rfl
   obtain⟨va2,e9,cy⟩:=(HVI.out.up aj.below0).at_ j y hy;obtain rfl:=Option.some.inj e9;have q5:¬((j:Int)<0):=om;have q6:¬((V.length:Int)≤(j:Int)):=om;have z0:=(aj.blk 0 rfl).cell 0;have y0:=(aj.blk 0 rfl).frozen 0;simp only[List.getElem?_cons_zero]at z0;have aq:=aj.set 0 rfl 0 (.int .i64 y);have HY:=hid hyg;have HY2:=hid lT;clear hy cW aC e9 lT hyg;go_wp2_with fail;go_meet;exact⟨rfl,y,hid (fun _=>by rw[Int.toNat_natCast];exact HY.out),HY2,aq⟩
  ·go_wp2_with fail;go_meet;exact⟨rfl,0,hid (fun h=>om),hid om,aj⟩
 case rest =>
 obtain⟨rfl,y,HY,HYB,aq⟩:=hcut;clear aj c0 c1 c2 c3 c4;have cV:=built_at ga gx gy;have aw:Hp [] w [iblk wc.heap.size 209 [.nilFunc,.nilFunc,.nilFunc,.nilFunc,.nilFunc,.nilFunc],iblk gy 3 [.int .i64 y],iblk gx 3 [.int .i64 x],iblk ga 133 (atC ⟨ak,(i:Int),ab,lo,hi⟩)] (wc.alloc (.cells #[.nilFunc,.nilFunc,.nilFunc,.nilFunc,.nilFunc,.nilFunc] 209)):=aq.new 209 [.nilFunc,.nilFunc,.nilFunc,.nilFunc,.nilFunc,.nilFunc];go_upto_region 9 with(refine wpList_store_row rfl 209 (.tmp 7) (.tmp 57) rfl wc.heap.size (atFs ga gx gy) rfl rfl 209 #[.nilFunc,.nilFunc,.nilFunc,.nilFunc,.nilFunc,.nilFunc] (aw.blk 0 rfl) kr kr kr ?_);have aE:=aw.rowAt 0 rfl (atFs ga gx gy).toList;simp only[List.set_cons_zero]at aE;have aO:Hp [] w [iblk wc.heap.size 209 (atFs ga gx gy).toList,iblk gy 3 [.int .i64 y],iblk gx 3 [.int .i64 x],iblk ga 133 (atC ⟨ak,(i:Int),ab,lo,hi⟩)] ((wc.alloc (.cells #[.nilFunc,.nilFunc,.nilFunc,.nilFunc,.nilFunc,.nilFunc] 209)).setRow wc.heap.size (atFs ga gx gy)):=aE;clear aE aw aq cV;generalize (wc.alloc (.cells #[.nilFunc,.nilFunc,.nilFunc,.nilFunc,.nilFunc,.nilFunc] 209)).setRow wc.heap.size (atFs ga gx gy)=W5 at *;generalize wc.heap.size=gt at *;obtain⟨c0,c1,c2,c3,c4⟩:=Blk.get5 (aO.blk 3 rfl);have cx:=(aO.blk 2 rfl).cell 0;have cy:=(aO.blk 1 rfl).cell 0;have b0:=(aO.blk 0 rfl).cell 0;have b1:=(aO.blk 0 rfl).cell 1;have b2:=(aO.blk 0 rfl).cell 2;have b3:=(aO.blk 0 rfl).cell 3;have b4:=(aO.blk 0 rfl).cell 4;have b5:=(aO.blk 0 rfl).cell 5;replace cx:W5.cell? ⟨gx,0,none⟩=some (.int .i64 x):=cx;replace cy:W5.cell? ⟨gy,0,none⟩=some (.int .i64 y):=cy;replace b0:W5.cell? ⟨gt,0,none⟩=some (cl2 123 gx ga):=b0;replace b1:W5.cell? ⟨gt,1,none⟩=some (cl2 124 gx ga):=b1;replace b2:W5.cell? ⟨gt,2,none⟩=some (cl2 125 ga gx):=b2;replace b3:W5.cell? ⟨gt,3,none⟩=some (cl2 126 gx gy):=b3;replace b4:W5.cell? ⟨gt,4,none⟩=some (cl2 127 gx gy):=b4;replace b5:W5.cell? ⟨gt,5,none⟩=some (cl3 128 ga gx gy):=b5;simp only at c0 c1 c2 c3 c4;have hD:=aO.below0;have h6:ak=0∨ak=1∨ak=2∨ak=3∨ak=4∨ak=5:=om;rcases h6 with rfl|rfl|rfl|rfl|rfl|rfl
 ·clear b1 b2 b3 b4 b5;have HC:=at1_any cx c3;have HE:decide (x=lo)=R:=by rw[←HR.out,←nK];rfl
  exact zt8
 ·clear b0 b2 b3 b4 b5;have HC:=at2_any cx c3;have HE:decide (x≠lo)=R:=by rw[←HR.out,←nK];rfl
  exact zt8
 ·clear b0 b1 b3 b4 b5;have HC:=at3_any cx c3 c4;have HE:decide (lo≤x∧x≤hi)=R:=by rw[←HR.out,←nK];rfl
  exact zt8
 ·clear b0 b1 b2 b4 b5;have HC:=at4_any cx cy;have HE:decide (x=y)=R:=by rw[←HR.out,←nK];rw[←HY.out zy0];rfl
  exact zt8
 ·clear b0 b1 b2 b3 b5;have HC:=at5_any cx cy;have HE:decide (x≠y)=R:=by rw[←HR.out,←nK];rw[←HY.out zy0];rfl
  exact zt8
 ·clear b0 b1 b2 b3 b4;have HC:=at6_any mK HYB.out cx cy c3 c4;have HE:decide (lo≤x-y∧x-y≤hi)=R:=by rw[←HR.out,←nK];rw[←HY.out zy0];rfl
  exact zt8
end Nf
end Go.Proofs.YtekkapgknohadaaGreatDoor
