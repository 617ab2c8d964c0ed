/- normal: values. -/
import Derived.Test.YtekkapgknohadaaGreatDoorM29
import Derived.Test.YtekkapgknohadaaGreatDoorM31
set_option linter.unusedVariables false
set_option maxRecDepth 20000
set_option maxHeartbeats 16000000
open Go.Proofs.Tryz
namespace Go.Proofs.YtekkapgknohadaaGreatDoor
namespace Nf
open Go.RowKit Go.Shelf
open Lib (hid)
open Pa (F Nd)
structure ValC (S:List Sm) (U:List Bp) (G:F) (how:Int) (a b:Nk):Prop where
 lo:0≤how
 hi:how≤5
 a0:0≤a.kind
 b0:0≤b.kind
 na:a.kind=10→ -2147483648≤a.num∧a.num≤2147483647
 nb:b.kind=10→ -2147483648≤b.num∧b.num≤2147483647
 pr:Pr (lookS S U) how (ndOf a) (ndOf b)
 k9:a.kind=9∨b.kind≠9
 eq:G=valB (lookS S U) how (ndOf a) (ndOf b)
theorem zau {n:Nk} (h:0≤n.kind) (k:Nat):(ndOf n).kind=k↔n.kind=(k:Int):=by
 show n.kind.toNat=k↔_;omega
theorem tl_eq {s t:ByteArray}:tl s=tl t↔s=t:=⟨eq_of_tl,fun h=>by rw[h]⟩
theorem ref_some {S:List Sm} {U:List Bp} {n:Nk} (h0:0≤n.kind) (h:n.kind=9) (hs:(tyOf (lookS S U) (ndOf n)).isSome=true):∃fd,findS S U n.name n.attr=some fd:=by
 rw[tyOf_nd S U n h0,tyK,if_neg om,if_neg om]at hs;cases hf:findS S U n.name n.attr with
 | none=>rw[hf]at hs;cases hs
 | some fd=>exact⟨fd,rfl⟩
theorem agr_some {L:Look} {a b:Nd} (h:agr L a b=true):(tyOf L a).isSome=true∧(tyOf L b).isSome=true:=by
 unfold agr at h;cases e1:tyOf L a with
 | none=>rw[e1]at h;cases h
 | some t =>
   cases e2:tyOf L b with
   | none=>rw[e1,e2]at h;cases h
   | some u=>exact⟨rfl,rfl⟩
theorem ValC.kinds {S:List Sm} {U:List Bp} {G:F} {how:Int} {a b:Nk} (h:ValC S U G how a b):(a.kind=9∨a.kind=10∨a.kind=11)∧(b.kind=9∨b.kind=10∨b.kind=11):=by
 have h1:=h.pr.ka.2;have h2:=h.pr.kb.2;simp only[zau h.a0,zau h.b0]at h1 h2;exact⟨h1,h2⟩
theorem ValC.fa {S:List Sm} {U:List Bp} {G:F} {how:Int} {a b:Nk} (h:ValC S U G how a b) (ha:a.kind=9):∃fd,findS S U a.name a.attr=some fd:=ref_some h.a0 ha (agr_some h.pr.agr).1
theorem ValC.fb {S:List Sm} {U:List Bp} {G:F} {how:Int} {a b:Nk} (h:ValC S U G how a b) (ha:a.kind=9) (hb:b.kind≠10) {fd:Fd} (hf:findS S U a.name a.attr=some fd) (hk:fd.kind=0):∃fe,findS S U b.name b.attr=some fe:=by
 have hg:=h.pr.agr;unfold agr at hg;rw[tyOf_nd S U a h.a0,tyOf_nd S U b h.b0,tyK,if_neg om,if_neg om,hf,Option.map_some,if_pos hk]at hg;unfold tyK at hg;rw[if_neg hb]at hg;by_cases iP:b.kind=11
 ·rw[if_pos iP]at hg;cases hg
 ·rw[if_neg iP]at hg;cases hf:findS S U b.name b.attr with
  | none=>rw[hf]at hg;cases hg
  | some fe=>exact⟨fe,rfl⟩
theorem ValC.at_num {S:List Sm} {U:List Bp} {G:F} {how:Int} {a b:Nk} (h:ValC S U G how a b) (ha:a.kind=10):G=tru (cmpB how a.num b.num):=by
 rw[h.eq,valB,if_pos ((zau h.a0 10).2 ha)];rfl
theorem ValC.at_word {S:List Sm} {U:List Bp} {G:F} {how:Int} {a b:Nk} (h:ValC S U G how a b) (ha:a.kind=11):G=tru (decide (a.name=b.name)==decide (how=0)):=by
 rw[h.eq,valB,if_neg zyp,if_pos ((zau h.a0 11).2 ha)];congr 2;exact decide_eq_decide.2 tl_eq
theorem ValC.at_bound {S:List Sm} {U:List Bp} {G:F} {how:Int} {a b:Nk} (h:ValC S U G how a b) (ha:a.kind=9) (hb:b.kind=10):G=bounded (lookS S U) how (ndOf a) b.num:=by
 rw[h.eq,valB,if_neg zyp,if_neg zyp,if_pos ((zau h.b0 10).2 hb)];rfl
theorem ValC.at_same {S:List Sm} {U:List Bp} {G:F} {how:Int} {a b:Nk} (h:ValC S U G how a b) (ha:a.kind=9) (hb:b.kind=9) (hs:a.name=b.name∧a.attr=b.attr):G=tru (cmpB how 0 0):=by
 rw[h.eq,valB,if_neg zyp,if_neg zyp,if_neg (by rw[zau h.b0];omega),if_pos ⟨(zau h.b0 9).2 hb,by show tl a.name=tl b.name;rw[hs.1],by show tl a.attr=tl b.attr;rw[hs.2]⟩]
theorem ValC.at_rest {S:List Sm} {U:List Bp} {G:F} {how:Int} {a b:Nk} (h:ValC S U G how a b) (ha:a.kind=9) (hb:b.kind≠10) (hs:¬(b.kind=9∧(a.name=b.name∧a.attr=b.attr))) {fd:Fd} (hf:findS S U a.name a.attr=some fd):G=if fd.kind=0 then numbers (lookS S U) how (ndOf a) (ndOf b)else if fd.words.length=1 then tru (decide (how=0))else rel how (ndOf a) (ndOf b):=by
 rw[h.eq,valB,if_neg zyp,if_neg zyp,if_neg (by rw[zau h.b0];omega),if_neg (fun e=>hs ⟨(zau h.b0 9).1 e.1,tl_eq.1 e.2.1,tl_eq.1 e.2.2⟩),fdOf_nd hf]
theorem values_any {d:Po} {L:Lp} {A:Option Addr} {c:Nat} {S:List Sm} {w0:World} (E:Env w0 d L A c S) (hR:zah chkB S d=true) (how:Int) (hh:0≤how) (fM:how≤5) (a b:Nk) (iT:0≤a.kind) (cW:0≤b.kind) (KA KB:Option Addr) (ka kb:Nat) (jR:a.kind=10→ -2147483648≤a.num∧a.num≤2147483647) (iC:b.kind=10→ -2147483648≤b.num∧b.num≤2147483647) (hP:Pr (lookS S d.uses) how (ndOf a) (ndOf b)) (w:World) (h0:Below w0.heap.size w0 w) (B:Nat) (bM:B≤w.heap.size) :
 Calls prog 92 #[fitV d L A S.length c,.int .i64 how,nkV a KA ka,nkV b KB kb] w fun e w'=>(∃v,e=.returned v∧CvM B w' (values (lookS S d.uses) how (ndOf a) (ndOf b)) [v])∧Below w.heap.size w w':=by
 obtain⟨G,hG⟩:∃G,values (lookS S d.uses) how (ndOf a) (ndOf b)=G:=⟨_,rfl⟩;rw[hG];have HE:=hid E;have HR:=hid hR;have HC:Hid ((a.kind≠9∧b.kind=9→ValC S d.uses G (mirr how) b a)∧(¬(a.kind≠9∧b.kind=9)→ValC S d.uses G how a b)):=hid ⟨fun e=>⟨by unfold mirr;split<;>(try split)<;>(try split)<;>(try split)<;>(try split)<;>omega,by unfold mirr;split<;>(try split)<;>(try split)<;>(try split)<;>(try split)<;>omega,cW,iT,iC,jR,hP.mirr,.inl e.2,by rw[←hG,values,if_pos ⟨by rw[Ne,zau iT];exact e.1,(zau cW 9).2 e.2⟩]⟩,
  fun e=>⟨hh,fM,iT,cW,jR,iC,hP,by by_cases h:a.kind=9;exact .inl h;exact .inr fun e2=>e ⟨h,e2⟩,by rw[←hG,values,if_neg (by rw[Ne,zau iT,zau cW];exact e)]⟩⟩
 have hk:=(((Hp.start w).new 93 (fitC d L A S.length c)).new 68 (nkcs a KA ka)).new 68 (nkcs b KB kb);obtain⟨g,hg⟩:∃g,w.heap.size=g:=⟨_,rfl⟩;simp only[sizeA,hg]at hk;obtain⟨qx,hq⟩:∃f,g+1=f:=⟨_,rfl⟩;obtain⟨qy,oj⟩:∃f,qx+1=f:=⟨_,rfl⟩;have HM:=hid (mirror_same how hh fM);clear hG hP E hR iT cW jR iC;go_enter func92,ntmps92;go_upto_region 1 with fail;simp only[hq,oj]at hk ⊢;generalize hW:((w.alloc (.cells #[.string d.name,.slice L.ua d.uses.length L.uc,.slice L.ra d.reveal.length L.rc,.slice L.na d.nodes.length L.nc,.int .i64 d.root,.string d.scope,.int .i64 d.limit,.string d.escrow,.slice A S.length c] 93)).alloc (.cells #[.int .i64 a.kind,.int .i64 a.num,.string a.name,.string a.attr,.slice KA a.kids.length ka,.int .i64 a.at_] 68)).alloc (.cells #[.int .i64 b.kind,.int .i64 b.num,.string b.name,.string b.attr,.slice KB b.kids.length kb,.int .i64 b.at_] 68)=W1 at *;have ar:Hp [] w [iblk qy 68 (nkcs b KB kb),iblk qx 68 (nkcs a KA ka),iblk g 93 (fitC d L A S.length c)] W1:=hk;clear hk hW hq oj hh fM;go_cut [18] (fun kE wx=>kE=.bool (decide (a.kind≠9∧b.kind=9))∧wx=W1);case first =>
  obtain⟨d0,d1,d2,d3,d4,d5⟩:=Blk.get6 (ar.blk 1 rfl);obtain⟨e0,e1,e2,e3,e4,e5⟩:=Blk.get6 (ar.blk 0 rfl);clear ar;by_cases h9:a.kind=9
  ·have h9c:(a.kind != 9)=false:=by simpa using h9
   have HX:Hid (decide (a.kind≠9∧b.kind=9)=false):=hid (decide_eq_false (fun e=>e.1 h9));clear h9;go_wp2_with fail;go_meet;exact zvm
  ·have h9c:(a.kind != 9)=true:=by simpa using h9
   by_cases h8:b.kind=9
   ·have h8b:(b.kind==9)=true:=by simpa using h8
    have HX:Hid (decide (a.kind≠9∧b.kind=9)=true):=hid (decide_eq_true ⟨h9,h8⟩);clear h9 h8;go_wp2_with fail;go_meet;exact zvm
   ·have h8b:(b.kind==9)=false:=by simpa using h8
    have HX:Hid (decide (a.kind≠9∧b.kind=9)=false):=hid (decide_eq_false (fun e=>h8 e.2));clear h9 h8;go_wp2_with fail;go_meet;exact zvm
 case rest =>
 obtain⟨rfl,rfl⟩:=hcut;obtain⟨SW,gW⟩:∃sw,decide (a.kind≠9∧b.kind=9)=sw:=⟨_,rfl⟩;rw[gW];go_upto_if 18 with fail;go_cut [1] (fun s1 wx=>∃(ji:Int) (a' b':Nk) (KA' KB':Option Addr) (ka' kb':Nat),s1=.int .i64 ji∧Hid (ValC S d.uses G ji a' b')∧Hp [] w [iblk qy 68 (nkcs b' KB' kb'),iblk qx 68 (nkcs a' KA' ka'),iblk g 93 (fitC d L A S.length c)] wx);case first =>
  cases SW with
  | true =>
    have iv:=of_decide_eq_true gW;have HV:=hid (HC.out.1 iv);obtain⟨d0,d1,d2,d3,d4,d5⟩:=Blk.get6 (ar.blk 1 rfl);obtain⟨e0,e1,e2,e3,e4,e5⟩:=Blk.get6 (ar.blk 0 rfl);generalize mirr how=hm at *;clear iv gW HC;go_upto_region 2 with fail;go_still_tail 4,kr
    still_call (HM.out _)
    repeat still_step
    try refine wpStill_nil ?_
    change wpList _ _ _ _ _ (World.drew _);have cf:=ar.drew;refine wpList_store_row rfl 68 (.tmp 6) (.tmp 19) rfl qx (nkcs b KB kb).toArray rfl rfl 68 (nkcs a KA ka).toArray (cf.blk 1 rfl) kr kr kr ?_;have an:=cf.rowAt 1 rfl (nkcs b KB kb);refine wpList_store_row rfl 68 (.tmp 7) (.tmp 20) rfl qy (nkcs a KA ka).toArray rfl rfl 68 (nkcs b KB kb).toArray (an.blk 0 rfl) kr kr kr ?_;have ah:=an.rowAt 0 rfl (nkcs a KA ka);clear d0 d1 d2 d3 d4 d5 e0 e1 e2 e3 e4 e5;go_wp2_with fail;go_meet;exact⟨hm,b,a,KB,KA,kb,ka,rfl,HV,ah⟩
  | false =>
    have iv:¬(a.kind≠9∧b.kind=9):=of_decide_eq_false gW;have HV:=hid (HC.out.2 iv);clear iv HM gW HC;go_wp2_with fail;go_meet;exact⟨how,a,b,KA,KB,ka,kb,rfl,HV,ar⟩
 case rest =>
  clear ar HC HM gW;obtain⟨how,a,b,KA,KB,ka,kb,rfl,HC,ar⟩:=hcut;obtain⟨d0,d1,d2,d3,d4,d5⟩:=Blk.get6 (ar.blk 1 rfl);obtain⟨e0,e1,e2,e3,e4,e5⟩:=Blk.get6 (ar.blk 0 rfl);obtain⟨B1,fF⟩:∃B,decide (a.name=b.name)=B:=⟨_,rfl⟩;obtain⟨B2,dW⟩:∃B,decide (a.attr=b.attr)=B:=⟨_,rfl⟩;have dC:(a.name.toList==b.name.toList)=B1:=strs_eq.trans fF;have iu:(a.attr.toList==b.attr.toList)=B2:=strs_eq.trans dW;have rt:=hid fF;have jC:=hid dW;clear fF dW;go_upto_region 3 with fail;go_cut [9] (fun s9 wx=>s9=.bool (B1&&B2)∧wx=wc);case first =>
   cases B1<;>cases B2;all_goals
    go_upto_region 4 with fail;go_meet;exact zv6
  case rest =>
   obtain⟨rfl,rfl⟩:=hcut;have cH:=HC.out.kinds;obtain⟨c0,c1,c2,c3,c4,c5,c6,c7,c8⟩:=blk9 (ar.blk 2 rfl);have h3:=h0.trans (ar.below0.mono h0.size);rcases cH.1 with k9|jL|jo
   ·have sX:(a.kind==10)=false:=by rw[k9];rfl
    have a11:(a.kind==11)=false:=by rw[k9];rfl
    obtain⟨fd,bJ⟩:=HC.out.fa k9;by_cases dq:b.kind=10
    ·have kS:(b.kind==10)=true:=by rw[dq];rfl
     have HV:=hid (HC.out.at_bound k9 dq);have iC:=HC.out.nb dq;have oT:=hid (bounded_any HE.out HR.out a HC.out.a0 KA ka fd bJ how b.num HC.out.lo HC.out.hi iC.1 iC.2 _ h3 B (Nat.le_trans bM ar.size));clear k9 dq iC bJ h3 cH;go_wp2_with fail;refine oT.out.mono ?_;rintro e w4 ⟨⟨v,rfl,hv⟩,aK⟩;have aq:=ar.next aK;have aN:=hid hv;clear hv oT;exact zt15
    ·have kS:(b.kind==10)=false:=by simpa using dq
     by_cases j8:b.kind=9∧(a.name=b.name∧a.attr=b.attr)
     ·have b9:(b.kind==9)=true:=by rw[j8.1];rfl
      have HV:=hid (HC.out.at_same k9 j8.1 j8.2);have uA:B1=true:=by rw[←rt.out];exact decide_eq_true j8.2.1
      have uQ:B2=true:=by rw[←jC.out];exact decide_eq_true j8.2.2
      subst uA uQ;have mD:=hid (fun W=>compare_any how 0 0 HC.out.lo HC.out.hi W);clear k9 dq bJ h3 cH j8;generalize cmpB how 0 0=R at *;exact zt92
     ·have HV:=hid (HC.out.at_rest k9 dq j8 bJ);have kK:(b.kind==9)=false∨((b.kind==9)=true∧(B1&&B2)=false):=by
       by_cases e:b.kind=9
       ·right;refine⟨by rw[e];rfl,?_⟩;rw[←rt.out,←jC.out,Bool.eq_false_iff];intro h9;simp only[Bool.and_eq_true,decide_eq_true_eq]at h9;exact j8 ⟨e,h9⟩
       ·left;simpa using e
      have sr:=fdB_of HR.out bJ;have HF:=hid (zck HE.out HR.out a KA ka fd bJ (by have:=sr.wl;omega) _ h3);have iH:Hid (∀(hz:fd.kind=0) W,Below w0.heap.size w0 W→B≤W.heap.size→Calls prog 161 #[fitV d L A S.length c,.int .i64 how,nkV a KA ka,nkV b KB kb] W fun e w'=>(∃v,e=.returned v∧CvM B w' (numbers (lookS S d.uses) how (ndOf a) (ndOf b)) [v])∧Below W.heap.size W w'):=hid fun hz W hW hq=>by
       obtain⟨fe,nS⟩:=HC.out.fb k9 dq bJ hz;exact numbers_any HE.out HR.out how HC.out.lo HC.out.hi a b HC.out.a0 HC.out.b0 KA KB ka kb fd fe bJ nS W hW B hq
      have gY:=hid (fun W hq=>zcd how a b KA KB ka kb HC.out.a0 HC.out.b0 W B hq);have HT:=hid (fun W=>za8 (decide (how=0)) W B);have hd9:(how==0)=decide (how=0):=rfl;generalize decide (how=0)=R at *;clear k9 dq bJ h3 cH j8 sr HC HE HR rt jC;obtain⟨SM,hSM⟩:∃x,(B1&&B2)=x:=⟨_,rfl⟩;rw[hSM]at kK ⊢;clear hSM dC iu;rcases kK with b9|⟨b9,rfl⟩;all_goals
       go_wp2_with fail;refine HF.out.mono ?_;rintro e w2 ⟨⟨CA,cc,rfl⟩,aG⟩;have ah:=(ar.next aG).new 57 (fcs fd CA cc);have h3:=h0.trans (ah.below0.mono h0.size);clear HF ar aG c0 c1 c2 c3 c4 c5 c6 c7 c8 d0 d1 d2 d3 d4 d5 e0 e1 e2 e3 e4 e5;go_upto_region 13 with fail;generalize w2.alloc (.cells #[.string fd.name,.int .i64 fd.kind,.int .i64 fd.min,.int .i64 fd.max,.slice CA fd.words.length cc] 57)=W3 at *;generalize w2.heap.size=fb at *;obtain⟨f0,f1,f2,f3,f4⟩:=Blk.get5 (ah.blk 0 rfl);obtain⟨e0,e1,e2,e3,e4,e5⟩:=Blk.get6 (ah.blk 1 rfl);obtain⟨d0,d1,d2,d3,d4,d5⟩:=Blk.get6 (ah.blk 2 rfl);obtain⟨c0,c1,c2,c3,c4,c5,c6,c7,c8⟩:=blk9 (ah.blk 3 rfl);by_cases hz:fd.kind=0
       ·have z0:(fd.kind==0)=true:=by simpa using hz
        have HN:=hid (iH.out hz W3 h3 (Nat.le_trans bM ah.size));rw[if_pos hz]at HV;clear hz h3 iH gY HT;go_wp2_with fail;refine HN.out.mono ?_;rintro e w4 ⟨⟨v,rfl,hv⟩,aK⟩;have aq:=ah.next aK;have aN:=hid hv;clear hv HN;exact zt15
       ·have z0:(fd.kind==0)=false:=by simpa using hz
        rw[if_neg hz]at HV;clear hz h3 iH;by_cases hw:fd.words.length=1
        ·have w1:((fd.words.length:Int)==1)=true:=by rw[hw];rfl
         rw[if_pos hw]at HV;clear hw gY;go_wp2_with fail;refine(HT.out _).mono ?_;rintro e w4 ⟨⟨v,rfl,hv⟩,aK⟩;have aq:=ah.next aK;exact zt14
        ·have w1:((fd.words.length:Int)==1)=false:=by simpa using fun e:(fd.words.length:Int)=1=>hw om
         rw[if_neg hw]at HV;clear hw HT;go_wp2_with fail;refine(gY.out _ (Nat.le_trans bM ah.size)).mono ?_;rintro e w4 ⟨⟨v,rfl,hv⟩,aK⟩;have aq:=ah.next aK;have aN:=hid hv;clear hv gY;exact zt15
   ·have sX:(a.kind==10)=true:=by rw[jL];rfl
    have HV:=hid (HC.out.at_num jL);have mD:=hid (fun W=>compare_any how a.num b.num HC.out.lo HC.out.hi W);clear jL h3 cH;generalize cmpB how a.num b.num=R at *;exact zt92
   ·have sX:(a.kind==10)=false:=by rw[jo];rfl
    have a11:(a.kind==11)=true:=by rw[jo];rfl
    have HV:=hid (HC.out.at_word jo);have iy:Hid (G=tru (B1==decide (how=0))):=hid (by rw[HV.out,rt.out]);have hd9:(how==0)=decide (how=0):=rfl;clear jo h3 cH HV;generalize decide (how=0)=R at *;obtain⟨R2,kJ⟩:∃x,(B1==R)=x:=⟨_,rfl⟩;rw[kJ]at iy;have HT:=hid (fun W=>za8 R2 W B);go_wp2_with fail;refine(HT.out _).mono ?_;rintro e w4 ⟨⟨v,rfl,hv⟩,aK⟩;have aq:=ar.next aK;have aN:=hid hv;clear hv HT;go_wp2_with fail;go_ret;have hb:=aq.below0;exact⟨⟨v,rfl,by rw[iy.out];exact aN.out⟩,by first|exact hb|(subst hg;exact hb)⟩
end Nf
namespace Nf
open Go.RowKit Go.Shelf
def atcs (l:List At):List Value:=l.flatMap atC
theorem atcs_app (l m:List At):atcs (l++m)=atcs l++atcs m:=List.flatMap_append
theorem atcs_len (l:List At):(atcs l).length=l.length*5:=by
 induction l with
 | nil=>rfl
 | cons x l ih =>
   have e:atcs (x::l)=atC x++atcs l:=rfl;exact zt82
theorem atom_info:(prog.info? 133).map (fun i=>(i.zero,i.size,i.bytes))=some (some (.agg #[.int .i64 0,.int .i64 0,.int .i64 0,.int .i64 0,.int .i64 0]),5,40):=kr
theorem new5' (w:World) (t:TypeId) (a b c d e:Value):∀(j:Nat) u,[a,b,c,d,e][j]? =some u→(w.alloc (.cells #[a,b,c,d,e] t)).cell? ((⟨w.heap.size,0,none⟩:Addr).add j)=some u:=by
 intro j u hu;have e9:(⟨w.heap.size,0,none⟩:Addr).add j=⟨w.heap.size,j,none⟩:=by unfold Addr.add;split<;>simp_all
 rw[e9,(show Blk (w.alloc (.cells #[a,b,c,d,e] t)) w.heap.size t [a,b,c,d,e]from Blk.new w t [a,b,c,d,e]).cell j];exact hu
abbrev dits (aU g5 g8:Nat) (v:Value) (l:List At) (c1 c2:List Value):List It:=[irow 133 5 v l.length (atcs l),iblk aU 41 [v],iblk g5 130 c1,iblk g8 130 c2]
theorem mdist_any (aU g5 g8:Nat) (v:Value) (l:List At) (hl:l.length≤1000) (i j:Int) (c1 c2:List Value) (lo hi:Int) (W:World) (hS:Sep W (dits aU g5 g8 v l (.int .i64 i::c1) (.int .i64 j::c2))) :
 Calls prog 216 #[.int .i64 lo,.int .i64 hi,ptO aU,ptO g5,ptO g8] W fun e w'=>e=.returned (.tuple #[])∧∃v',Hp (ow (dits aU g5 g8 v l (.int .i64 i::c1) (.int .i64 j::c2))) W (dits aU g5 g8 v' (l++dist i j lo hi) (.int .i64 i::c1) (.int .i64 j::c2)) w':=by
 have cY:=Hp.self hS;clear hS;by_cases h:lo≤hi
 ·obtain⟨i0,aL,bg,aY,bh⟩:=info_parts atom_info;have HD:Hid (l++dist i j lo hi=l++[⟨5,i,j,lo,hi⟩]):=Lib.hid (by rw[dist,if_pos h]);have x0:W.cell? ⟨aU,0,none⟩=some v:=(cY.blk 1 rfl).cell 0;have x1:W.cell? ⟨g5,0,none⟩=some (.int .i64 i):=(cY.blk 2 rfl).cell 0;have x2:W.cell? ⟨g8,0,none⟩=some (.int .i64 j):=(cY.blk 3 rfl).cell 0;obtain⟨VA,vc,rfl⟩:=zab (cY.row 0 rfl);go_enter func216,ntmps216;go_wp2_with (at_builtin;refine zac rfl _ _ 41 rfl 0 133 i0 _ 5 40 underlying41 aL bg aY bh rfl zy0 _ l.length (atcs l) rfl ((cY.alloc _).row 0 rfl) ⟨W.heap.size,0,none⟩ 1 1 [.int .i64 5,.int .i64 i,.int .i64 j,.int .i64 lo,.int .i64 hi] rfl rfl (new5' _ _ _ _ _ _ _) zyo zy0 zy2 om (Nat.zero_le _) ?_;intro v' w4 af ai aH;have cu:=(cY.alloc (.cells #[.int .i64 5,.int .i64 i,.int .i64 j,.int .i64 lo,.int .i64 hi] 133)).grown 0 rfl af ai aH;have y0:w4.cell? ⟨aU,0,none⟩=some (.slice VA l.length vc):=(cu.blk 1 rfl).cell 0;have y1:w4.frozen? ⟨aU,0,none⟩=false:=(cu.blk 1 rfl).frozen 0;obtain⟨VB,vb,rfl⟩:=zab af;clear af ai aH);have hk:=cu.set 1 rfl 0 (.slice VB (l.length+1) vb);refine⟨rfl,.tuple #[],by simp[results,results216,go_sem],rfl,.slice VB (l.length+1) vb,?_⟩;rw[HD.out];have e1:(l++[(⟨5,i,j,lo,hi⟩:At)]).length=l.length+1:=by simp
  have e2:atcs (l++[(⟨5,i,j,lo,hi⟩:At)])=atcs l++[.int .i64 5,.int .i64 i,.int .i64 j,.int .i64 lo,.int .i64 hi]:=by rw[atcs_app];rfl
  have e3:dits aU g5 g8 (.slice VB (l.length+1) vb) (l++[(⟨5,i,j,lo,hi⟩:At)]) (.int .i64 i::c1) (.int .i64 j::c2)=[irow 133 5 (.slice VB (l.length+1) vb) (l.length+1) (atcs l++[.int .i64 5,.int .i64 i,.int .i64 j,.int .i64 lo,.int .i64 hi]),iblk aU 41 [.slice VB (l.length+1) vb],iblk g5 130 (.int .i64 i::c1),iblk g8 130 (.int .i64 j::c2)]:=by
   rw[dits,e1,e2]
  rw[e3];exact hk
 ·have HD:Hid (l++dist i j lo hi=l):=Lib.hid (by rw[dist,if_neg h,List.append_nil]);go_enter func216,ntmps216;go_wp2_with fail;refine⟨rfl,.tuple #[],by simp[results,results216,go_sem],rfl,v,?_⟩;rw[HD.out];exact cY
end Nf
namespace Nf
open Go.RowKit Go.Shelf
open Lib (hid)
theorem boolI_info:(prog.info? 4).map (fun i=>(i.zero,i.size,i.bytes))=some (some (.bool false),1,1):=kr
abbrev bls (l:List Bool):List Value:=l.map Value.bool
theorem bools_row {W:World} {A:Option Addr} {c:Nat} {l:List Bool} (h:W.ownsRow 0 4 1 (.slice A l.length c) l.length (bls l)):Fm.Bools W W.heap.size A l:=⟨fun aT=>by
 have bq:0<l.length:=List.length_pos_iff.2 aT;obtain⟨g,cap,hv,-⟩:=zak h bq;injection hv with hA _ _;subst hA;exact⟨_,rfl,(h.lt g rfl).2,fun i v hv=>h.cells rfl i v hv⟩⟩
theorem ptruth_any (A LA:Option Addr) (c lc:Nat) (F:List Fm.Gt) (L:List Bool) (hF:F.length≤512) (hK:∀g∈F,g.kids.length≤512) (h0:Fm.checkP F L.length=0) (pg:L.length≤256) (w:World) (hG:Fm.Gates w w.heap.size A F) (hL:Fm.Bools w w.heap.size LA L) :
 Calls prog 60 #[.agg #[.slice A F.length c],.slice LA L.length lc] w fun e w'=>(∃TA tc,e=.returned (.tuple #[.slice TA F.length tc,.int .i64 0])∧(F≠[]→∃ad,TA=some ad∧w'.cell? ad=some (.bool ((Fm.truthP F L).getD 0 false))))∧Below w.heap.size w w':=by
 refine(Fm.Truth_any A LA c lc F L om (fun g hg=>by have:=hK g hg;omega) w hG hL om).mono ?_;rintro e w' ⟨⟨TA,tc,rfl,hB⟩,hb⟩;have hT:Fm.truthL F L=Fm.truthP F L:=by rw[Fm.truthL,if_pos h0]
 rw[hT]at hB ⊢;have aD:=Fm.truthP_length F L;refine⟨⟨TA,tc,by rw[h0,aD],fun aT=>?_⟩,hb⟩;have bq:0<(Fm.truthP F L).length:=by rw[aD];exact List.length_pos_iff.2 aT
 obtain⟨ad,h1,-,h3⟩:=hB.some_ (List.length_pos_iff.1 bq);refine⟨ad,h1,?_⟩;have h4:=h3 0 (.bool ((Fm.truthP F L).getD 0 false)) (by
  rw[Fm.blv,List.getElem?_map,List.getD_eq_getElem?_getD,List.getElem?_eq_getElem bq];rfl)
 rw[show ad.add 0=ad by simp[Addr.add]]at h4;exact h4
theorem pholds_any (p:PlD) (l:PlL) (h:PlOk p) (VA:Option Addr) (V:List Int) (vc:Nat) (hl:V.length=p.com.length) (hv:∀x∈V,0≤x∧x≤4294967295) (w:World) (hP:PlnAt w p l) (hV:Ints w VA V) :
 Calls prog 18 #[pnV p l,.slice VA V.length vc] w fun e w'=>e=.returned (.tuple #[.bool (planB p V),.int .i64 0])∧Below w.heap.size w w':=by
 obtain⟨R,hR⟩:∃R,planB p V=R:=⟨_,rfl⟩;rw[hR];have HR:=hid hR;clear hR;obtain⟨da,dc,ca,cc,aa,ac,fa,fc,sa,sc⟩:=l;have hk:=((Hp.start w).new 46 (pnC p ⟨da,dc,ca,cc,aa,ac,fa,fc,sa,sc⟩)).new 61 [.slice VA V.length vc];simp only[sizeA]at hk;obtain⟨gp,hg⟩:∃g,w.heap.size=g:=⟨_,rfl⟩;rw[hg]at hk;obtain⟨gv,gT⟩:∃g,gp+1=g:=⟨_,rfl⟩;rw[gT]at hk;have cG:((p.com.length:Int))=(V.length:Int):=by rw[hl]
 have wN:V.length≤64:=by rw[hl];exact h.nc
 have jR:=h.na;have jD:=hid (fun W hb=>pcheck_any p ⟨da,dc,ca,cc,aa,ac,fa,fc,sa,sc⟩ h W (hP.up hb));have mE:=hid (fun W hb=>containsI_any VA V vc wN hv W (hV.up hb));have cI:∀a∈p.ats,OkAt V.length a:=fun a ha=>by rw[hl];exact h.at_ a ha
 have qv:∀a∈p.sqs,OkAt V.length a:=fun a ha=>by rw[hl];exact(h.sq a ha).2
 have eh:=hid (fun a ha W hb=>patom_ok a VA V vc (cI a ha) hv W (hV.up hb));have jg:=hid (fun gv W hb (cv:W.cell? ⟨gv,0,none⟩=some (.slice VA V.length vc))=>containsA_any sa p.sqs sc VA V vc gv h.ns qv hv W ((hP.up hb).sqs) (hV.up hb) cv);have gE:=hid (fun LA lc W hb (hL:Fm.Bools W W.heap.size LA (p.ats.map (evA V)))=>ptruth_any fa LA fc lc p.fm (p.ats.map (evA V)) h.nf h.kd (by rw[List.length_map];exact h.fm) (by rw[List.length_map];exact jR) W (hP.up hb).fm hL);rw[List.length_map]at gE;have HP:=hid hP;obtain⟨i0,aL,bg,aY,bh⟩:=info_parts boolI_info;clear cI qv hP hV h hv hl;go_enter func18,ntmps18;go_upto_region 1 with fail;try simp only[hg,sizeA,gT]
 have an:Hp [] w [iblk gv 61 [.slice VA V.length vc],iblk gp 46 (pnC p ⟨da,dc,ca,cc,aa,ac,fa,fc,sa,sc⟩)] ((w.alloc (.cells #[.slice da p.dis.length dc,.slice ca p.com.length cc,.slice aa p.ats.length ac,.slice fa p.fm.length fc,.slice sa p.sqs.length sc] 46)).alloc (.cells #[.slice VA V.length vc] 61)):=hk;clear hk;generalize (w.alloc (.cells #[.slice da p.dis.length dc,.slice ca p.com.length cc,.slice aa p.ats.length ac,.slice fa p.fm.length fc,.slice sa p.sqs.length sc] 46)).alloc (.cells #[.slice VA V.length vc] 61)=W1 at *;clear gT;obtain⟨c0,c1,c2,c3,c4⟩:=Blk.get5 (an.blk 1 rfl);have HC:=hid (jD.out W1 an.below0);clear jD;go_wp2_with fail;refine HC.out.mono ?_;rintro e w2 ⟨rfl,aG⟩;have ah:=an.next aG;clear HC an aG c0 c1 c2 c3 c4;obtain⟨c0,c1,c2,c3,c4⟩:=Blk.get5 (ah.blk 1 rfl);have cv:w2.cell? ⟨gv,0,none⟩=some (.slice VA V.length vc):=(ah.blk 0 rfl).cell 0;have HC:=hid (mE.out w2 ah.below0);clear mE;go_wp2_with fail;refine HC.out.mono ?_;rintro e w3 ⟨rfl,rfl⟩;clear HC;go_upto_region 10 with fail;clear c0 c1 c2 c3 c4 cv;have aq:=ah.nilrow 4 1;clear ah;go_loopg [7,28] p.ats.length (fun m s7 s28 wx=>∃i:Nat,i≤p.ats.length∧m=p.ats.length-i∧s28=.int .i64 (i:Int)∧Hp [] w [irow 4 1 s7 i (bls ((p.ats.take i).map (evA V))),iblk gv 61 [.slice VA V.length vc],iblk gp 46 (pnC p ⟨da,dc,ca,cc,aa,ac,fa,fc,sa,sc⟩)] wx);case atStart=>exact⟨0,Nat.zero_le _,rfl,rfl,aq⟩
 case round =>
  obtain⟨i,hi,rfl,rfl,hS⟩:=hrel;clear aq;by_cases ay:i<p.ats.length
  ·have aM:(i:Int)<(p.ats.length:Int):=om;have cC:(0:Int)≤(i:Int):=om;obtain⟨a,ha⟩:∃a,p.ats[i]? =some a:=⟨_,List.getElem?_eq_getElem ay⟩;obtain⟨ad,rfl,e0,e1,e2,e3,e4⟩:=(HP.out.up hS.below0).ats.at_ i a ha;have HA:=hid (eh.out a (List.mem_of_getElem? ha));have HT:Hid ((p.ats.take (i+1)).map (evA V)=(p.ats.take i).map (evA V)++[evA V a]):=hid (by rw[zan ha,List.map_append];rfl);generalize evA V a=r at *;clear ha;have bi:=hS.new 133 (atC a);clear hS;go_upto_region 12 with fail;clear e0 e1 e2 e3 e4;have bK:Hp [] w [iblk wr.heap.size 133 (atC a),irow 4 1 u7 i (bls ((p.ats.take i).map (evA V))),iblk gv 61 [.slice VA V.length vc],iblk gp 46 (pnC p ⟨da,dc,ca,cc,some ad,ac,fa,fc,sa,sc⟩)] (wr.alloc (.cells #[.int .i64 a.kind,.int .i64 a.a,.int .i64 a.b,.int .i64 a.lo,.int .i64 a.hi] 133)):=bi;clear bi;generalize wr.alloc (.cells #[.int .i64 a.kind,.int .i64 a.a,.int .i64 a.b,.int .i64 a.lo,.int .i64 a.hi] 133)=w8 at *;generalize wr.heap.size=g9 at *;obtain⟨e0,e1,e2,e3,e4⟩:=Blk.get5 (bK.blk 0 rfl);have cv:w8.cell? ⟨gv,0,none⟩=some (.slice VA V.length vc):=(bK.blk 2 rfl).cell 0;have HC:=hid (HA.out w8 bK.below0);clear HA;go_wp2_with fail;refine HC.out.mono ?_;rintro e w9 ⟨rfl,aX⟩;have cQ:=(bK.next aX).tail;clear bK HC aX e0 e1 e2 e3 e4 cv;have cu:=cQ.alloc (.cells #[.bool r] 4);clear cQ;go_wp2_with (at_builtin;refine zac rfl _ _ 134 rfl 0 4 i0 _ 1 1 underlying134 aL bg aY bh rfl zy0 _ i (bls ((p.ats.take i).map (evA V))) rfl (cu.row 0 rfl) ⟨w9.heap.size,0,none⟩ 1 1 [.bool r] rfl rfl (Fm.new1' _ _ _) zy3 zy0 zy2 om (Nat.zero_le _) ?_;intro v' w4 af ai aH);have bS:=cu.grown 0 rfl af ai aH;clear af ai aH cu;go_roundg (p.ats.length-(i+1));case measure=>omega
   case rel=>exact⟨i+1,ay,rfl,by first|rfl|simp,by rw[HT.out,bls,List.map_append];exact bS⟩
  ·have aM:¬(i:Int)<(p.ats.length:Int):=om;have nI:i=p.ats.length:=om;subst nI;rw[List.take_length]at hS;obtain⟨LA,lc,rfl⟩:=zab (hS.row 0 rfl);have hB:Fm.Bools wr wr.heap.size LA (p.ats.map (evA V)):=bools_row (by rw[List.length_map];exact hS.row 0 rfl);have HC:=hid (gE.out LA lc wr hS.below0 hB);clear gE hB eh aL bg aY bh;obtain⟨c0,c1,c2,c3,c4⟩:=Blk.get5 (hS.blk 2 rfl);go_wp2_with fail;refine HC.out.mono ?_;rintro e w5 ⟨⟨TA,tc,rfl,hT⟩,aS⟩;have bS:=(hS.next aS).tail;clear HC hS aS c0 c1 c2 c3 c4;have ma:Hid (R=((decide (p.fm=[])||(Fm.truthP p.fm (p.ats.map (evA V))).getD 0 false)&&p.sqs.all (evA V))):=hid (by rw[←HR.out];rfl);generalize (Fm.truthP p.fm (p.ats.map (evA V))).getD 0 false=T at *;obtain⟨c0,c1,c2,c3,c4⟩:=Blk.get5 (bS.blk 1 rfl);have cv:w5.cell? ⟨gv,0,none⟩=some (.slice VA V.length vc):=(bS.blk 0 rfl).cell 0;have HC:=hid (jg.out gv w5 bS.below0 cv);clear jg;generalize p.sqs.all (evA V)=S at *;have qK:=hid hT;clear hT;go_wp2_with fail;refine HC.out.mono ?_;rintro e w6 ⟨rfl,dM⟩;have bt:=bS.next dM;have cV:=bt.below0;clear HC c0 c1 c2 c3 c4 cv;cases S with
   | false =>
     have HF:Hid (R=false):=hid (by rw[ma.out,Bool.and_false]);go_wp2_with fail;go_ret2;rw[HF.out];exact zv4
   | true =>
     by_cases hf:p.fm=[]
     ·have HF:Hid (R=true):=hid (by rw[ma.out,hf];rfl);have hz:((p.fm.length:Int)==0)=true:=by rw[hf];rfl
      clear hf;go_wp2_with fail;go_ret2;rw[HF.out];exact zv4
     ·have HF:Hid (R=T):=hid (by rw[ma.out,decide_eq_false hf,Bool.false_or,Bool.and_true]);obtain⟨ad,rfl,ct⟩:=qK.out hf;have ct6:=zaa ct dM;have bq:=List.length_pos_iff.2 hf;have hz:((p.fm.length:Int)==0)=false:=by rw[beq_eq_false_iff_ne];omega
      have cB:(0:Int)<(p.fm.length:Int):=om;clear hf ct;go_wp2_with fail;go_ret2;rw[HF.out];exact zv4
end Nf
end Go.Proofs.YtekkapgknohadaaGreatDoor
