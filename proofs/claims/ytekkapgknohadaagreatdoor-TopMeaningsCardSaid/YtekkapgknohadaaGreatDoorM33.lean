/- normal: the closures of norm. -/
import Derived.Test.YtekkapgknohadaaGreatDoorM32
import Derived.Test.YtekkapgknohadaaGreatDoorM28
set_option linter.unusedVariables false
set_option maxRecDepth 20000
set_option maxHeartbeats 16000000
open Go.Proofs.Tryz
namespace Go.Proofs.YtekkapgknohadaaGreatDoor
namespace Nf
open Go.RowKit Go.Shelf
open Lib (hid)
open Pa (F Nd)
structure Kid (d:Po) (l:List Int) (i:Nat) (ix:Nat) (a:Nk):Prop where
 at_:l[i]? =some (ix:Int)
 nd:d.nodes[ix]? =some a
 a0:0≤a.kind
 num:a.kind=10→ -2147483648≤a.num∧a.num≤2147483647
 v:isV (ndOf a)
theorem kid_of {d:Po} {l:List Int} {f:Nat} (hk:∀k∈l,Pa.VN d.nodes f false k∧WfP d.nodes f k) {i:Nat} {k:Int} (hi:l[i]? =some k):∃ix a,Kid d l i ix a∧k=(ix:Int)∧nodeK d.nodes k=a:=by
 obtain⟨hv,hw⟩:=hk k (List.mem_of_getElem? hi);cases f with
 | zero=>exact hv.elim
 | succ f =>
   obtain⟨j,m,rfl,hm,hF,-⟩:=vn_at hv hw;refine⟨j,m,⟨hi,hm,hF.lo,fun e=>?_,rfl,?_⟩,rfl,zcg hm⟩
   ·have h1:=hF.low;have h2:=hF.high;unfold lowP at h1;unfold highP at h2;rw[e]at h1 h2;exact⟨by simpa using h1,by simpa using h2⟩
   ·have h1:=hF.ctx;have h2:=hF.hi;have h3:=hF.lo;simp only[decide_eq_false_iff_not]at h1;show m.kind.toNat=9∨m.kind.toNat=10∨m.kind.toNat=11;omega
theorem pr6 {L:Look} {x a b:Nd} (hx:x.kind=6) (ha:isV a) (hb:isV b) (hc:condB L x [a,b]=true):Pr L x.num a b:=by
 simp only[condB,if_pos hx,List.all_cons,List.all_nil,zb6,Bool.and_true,Bool.and_eq_true,Bool.or_eq_true,decide_eq_true_eq]at hc;refine⟨ha,hb,hc.2,?_⟩;exact zt27
theorem pr7 {L:Look} {x a b c:Nd} (hx:x.kind=7) (ha:isV a) (hb:isV b) (nJ:isV c) (hc:condB L x [a,b,c]=true) (h:Int):Pr L h a b∧Pr L h a c∧numTy L a=true:=by
 simp only[condB,if_neg (show¬x.kind=6 by omega),if_pos hx,List.all_cons,List.all_nil,Bool.and_true,Bool.and_eq_true]at hc;obtain⟨_,n1,n2,n3⟩:=hc;exact⟨pr_num ha hb n1 n2 h,pr_num ha nJ n1 n3 h,n1⟩
theorem pr8 {L:Look} {x a:Nd} {r:List Nd} (hx:x.kind=8) (ha:isV a) (hr:∀y∈r,isV y) (hc:condB L x (a::r)=true):∀y∈r,Pr L 0 a y:=by
 simp only[condB,if_neg (show¬x.kind=6 by omega),if_neg (show¬x.kind=7 by omega),if_pos hx,zb6,Bool.and_eq_true]at hc;exact fun y hy=>⟨ha,hr y hy,List.all_eq_true.1 hc.2 y hy,.inl rfl⟩
theorem compl_rng {h:Int}:0≤compl h∧compl h≤5:=by
 unfold compl
 repeat' split
 all_goals omega
theorem cmpd_any {d:Po} {L:Lp} {A:Option Addr} {c:Nat} {S:List Sm} {w0:World} (E:Env w0 d L A c S) (hR:zah chkB S d=true) (g:Bool) (n:Nk) (KA:Option Addr) (kc:Nat) (hI:Ints w0 KA n.kids) (bk:n.kids.length≤1000000) (how:Int) (hh:0≤how) (fM:how≤5) (i k ix kx:Nat) (a b:Nk) (hi:Kid d n.kids i ix a) (hk:Kid d n.kids k kx b) (hP:Pr (lookS S d.uses) how (ndOf a) (ndOf b)) (gb gm gn:Nat) (tb tm tn:TypeId) (w:World) (h0:Below w0.heap.size w0 w) (B:Nat) (bM:B≤w.heap.size) (hB:Blk w gb tb [.bool g]) (hM:Blk w gm tm (fitC d L A S.length c)) (hN:Blk w gn tn (nkcs n KA kc)) :
 Calls prog 90 #[.int .i64 how,.int .i64 (i:Int),.int .i64 (k:Int),.pointer (some ⟨gb,0,none⟩),.pointer (some ⟨gm,0,none⟩),.pointer (some ⟨gn,0,none⟩)] w fun e w'=>(∃v,e=.returned v∧CvM B w' (cmpd (lookS S d.uses) g how (ndOf a) (ndOf b)) [v])∧Below w.heap.size w w':=by
 obtain⟨G,hG⟩:∃G,cmpd (lookS S d.uses) g how (ndOf a) (ndOf b)=G:=⟨_,rfl⟩;rw[hG];obtain⟨ua,uc,ra,rc,na,nc⟩:=L;obtain⟨ad,QA,qa,hA,cR⟩:=E.p.ns.at_ ix a hi.nd;obtain⟨ad',QB,qb,mH,dL⟩:=E.p.ns.at_ kx b hk.nd;change na=some ad at hA;change na=some ad' at mH;subst hA;injection mH with mH;subst mH;obtain⟨ka,cM,ci⟩:=hI.at_ i _ hi.at_;obtain⟨ka',lY,ck⟩:=hI.at_ k _ hk.at_;subst cM;injection lY with lY;subst lY;have h1:=(List.getElem?_eq_some_iff.1 hi.at_).1;have h2:=(List.getElem?_eq_some_iff.1 hk.at_).1;have h3:=(List.getElem?_eq_some_iff.1 hi.nd).1;have h4:=(List.getElem?_eq_some_iff.1 hk.nd).1;have i1:(i:Int)<(n.kids.length:Int):=om;have i2:(k:Int)<(n.kids.length:Int):=om;have i3:(ix:Int)<(d.nodes.length:Int):=om;have i4:(kx:Int)<(d.nodes.length:Int):=om;have z1:(0:Int)≤(i:Int):=om;have z2:(0:Int)≤(k:Int):=om;have z3:(0:Int)≤(ix:Int):=om;have z4:(0:Int)≤(kx:Int):=om;have HV:=hid (fun hw (q0:0≤hw) (q5:hw≤5) (hp:Pr (lookS S d.uses) hw (ndOf a) (ndOf b)) W hW=>values_any E hR hw q0 q5 a b hi.a0 hk.a0 QA QB qa qb hi.num hk.num hp W hW B);have HCO:=hid (complement_any how hh fM);have HP:=hid hP;have HH:=hid (And.intro hh fM);have HG:=hid hG;have HNa:=hid cR;have HNb:=hid dL;have mE:=hid (And.intro ci ck);have g0:=hB.cell 0;simp only[List.getElem?_cons_zero]at g0;have HM:=hid (fun W (hb:Below w.heap.size w W)=>(show Blk W gm tm _ from(hb.block gm hM.lt).trans hM));have HN:=hid (fun W (hb:Below w.heap.size w W)=>(show Blk W gn tn _ from(hb.block gn hN.lt).trans hN));clear hG hP hh fM cR dL hi hk ci ck E hR h1 h2 h3 h4 hB hM hN hI;cases g with
 | false =>
   have cW:=Below.refl w.heap.size w;go_enter func90,ntmps90;go_upto_region 3 with fail;have aA:=HM.out w cW;have bH:=HN.out w cW;obtain⟨c0,c1,c2,c3,c4,c5,c6,c7,c8⟩:=blk9 aA;have n4:=bH.cell 4;simp only[List.getElem?_cons_zero,List.getElem?_cons_succ]at n4;have k0:=zaa (zaa mE.out.1 h0) cW;have k1:=zaa (zaa mE.out.2 h0) cW;have cR:=(HNa.out.up h0).up cW;have dL:=(HNb.out.up h0).up cW;have d0:=cR.kind;have d1:=cR.num;have d2:=cR.name;have d3:=cR.attr;have d4:=cR.kids;have d5:=cR.at_;have e0:=dL.kind;have e1:=dL.num;have e2:=dL.name;have e3:=dL.attr;have e4:=dL.kids;have e5:=dL.at_;clear aA bH cR dL;have HC:=hid (HV.out how HH.out.1 HH.out.2 HP.out (w.drew) (h0.trans ((cW.mono h0.size).trans (Below.refl _ _).drew)) (Nat.le_trans bM cW.size));clear HV;go_still_tail 22,kr;change wpList _ _ _ _ _ (World.drew _);go_wp2_with fail;refine HC.out.mono ?_;rintro e w2 ⟨⟨v,rfl,hv⟩,aG⟩;have sR:Below w.heap.size w w2:=(cW.trans (Below.refl _ _).drew).trans (aG.mono cW.size);exact zt76
 | true =>
   go_enter func90,ntmps90;go_wp2_with fail;refine(HCO.out _).mono ?_;rintro e w1 ⟨rfl,aC⟩;clear HCO;go_upto_region 3 with fail;have aA:=HM.out w1 aC;have bH:=HN.out w1 aC;obtain⟨c0,c1,c2,c3,c4,c5,c6,c7,c8⟩:=blk9 aA;have n4:=bH.cell 4;simp only[List.getElem?_cons_zero,List.getElem?_cons_succ]at n4;have k0:=zaa (zaa mE.out.1 h0) aC;have k1:=zaa (zaa mE.out.2 h0) aC;have cR:=(HNa.out.up h0).up aC;have dL:=(HNb.out.up h0).up aC;have d0:=cR.kind;have d1:=cR.num;have d2:=cR.name;have d3:=cR.attr;have d4:=cR.kids;have d5:=cR.at_;have e0:=dL.kind;have e1:=dL.num;have e2:=dL.name;have e3:=dL.attr;have e4:=dL.kids;have e5:=dL.at_;clear aA bH cR dL;have HC:=hid (HV.out (compl how) compl_rng.1 compl_rng.2 (HP.out.compl true) (w1.drew) (h0.trans ((aC.mono h0.size).trans (Below.refl _ _).drew)) (Nat.le_trans bM aC.size));clear HV;go_still_tail 22,kr;change wpList _ _ _ _ _ (World.drew _);go_wp2_with fail;refine HC.out.mono ?_;rintro e w2 ⟨⟨v,rfl,hv⟩,aG⟩;have sR:Below w.heap.size w w2:=(aC.trans (Below.refl _ _).drew).trans (aG.mono aC.size);exact zt76
theorem of_any (w0:World) (g:Bool) (k:Int) (f:F) (vs:List Value) (LA:Option Addr) (lc:Nat) (hf:f.size≤100000) (an: -100000≤k) (ah:k≤100000) (B:Nat) (bM:B≤w0.heap.size) (hV:Vls B w0 LA vs) (hC:CvM B w0 f vs) (gb:Nat) (tb:TypeId) (w:World) (h0:Below w0.heap.size w0 w) (hB:Blk w gb tb [.bool g]) :
 Calls prog 93 #[.int .i64 k,.slice LA vs.length lc,.pointer (some ⟨gb,0,none⟩)] w fun e w'=>(∃v,e=.returned v∧CvM B w' (ofT g k f) [v])∧Below w.heap.size w w':=by
 have fK:vs.length=f.len:=hC.len;have dX:=F.len_size f;have jF:IntKind.i64.wrap ((vs.length:Int)-k)=(vs.length:Int)-k:=IntWalk.i64_in _ om;have fq:IntKind.i64.wrap ((vs.length:Int)-k+1)=(vs.length:Int)-k+1:=IntWalk.i64_in _ om;have HT:=hid (fun q (q1: -1000000≤q) (q2:q≤1000000)=>threshold_any w0 q f vs LA lc hf q1 q2 B bM hV hC w h0);have g0:=hB.cell 0;simp only[List.getElem?_cons_zero]at g0;have fZ: -1000000≤(vs.length:Int)-k+1∧(vs.length:Int)-k+1≤1000000:=om;have HK:=hid (And.intro (show -1000000≤k by omega) (show k≤1000000 by omega));have oT:=hid fZ;have ru:=hid fK;clear fK dX hf an ah hV hC fZ;cases g with
 | false =>
   go_enter func93,ntmps93;go_wp2_with fail;refine(HT.out _ HK.out.1 HK.out.2).mono ?_;rintro e w2 ⟨⟨v,rfl,hv⟩,aG⟩;have aN:=hid hv;clear hv HT;go_wp2_with fail;go_ret;exact⟨⟨v,rfl,aN.out⟩,aG⟩
 | true =>
   go_enter func93,ntmps93;go_wp2_with fail;refine(HT.out _ oT.out.1 oT.out.2).mono ?_;rintro e w2 ⟨⟨v,rfl,hv⟩,aG⟩;have aN:=hid hv;clear hv HT;go_wp2_with fail;go_ret;exact⟨⟨v,rfl,by rw[ru.out]at aN;exact aN.out⟩,aG⟩
theorem kind_any {d:Po} {L:Lp} {A:Option Addr} {c:Nat} {S:List Sm} {w0:World} (E:Env w0 d L A c S) (n:Nk) (KA:Option Addr) (kc:Nat) (hI:Ints w0 KA n.kids) (bk:n.kids.length≤1000000) (i ix:Nat) (a:Nk) (hi:Kid d n.kids i ix a) (gm gn:Nat) (tm tn:TypeId) (w:World) (h0:Below w0.heap.size w0 w) (hM:Blk w gm tm (fitC d L A S.length c)) (hN:Blk w gn tn (nkcs n KA kc)) :
 Calls prog 96 #[.int .i64 (i:Int),.pointer (some ⟨gm,0,none⟩),.pointer (some ⟨gn,0,none⟩)] w fun e w'=>e=.returned (.int .i64 a.kind)∧Below w.heap.size w w':=by
 obtain⟨ua,uc,ra,rc,na,nc⟩:=L;obtain⟨ad,QA,qa,hA,cR⟩:=E.p.ns.at_ ix a hi.nd;change na=some ad at hA;subst hA;obtain⟨ka,cM,ci⟩:=hI.at_ i _ hi.at_;subst cM;have h1:=(List.getElem?_eq_some_iff.1 hi.at_).1;have h3:=(List.getElem?_eq_some_iff.1 hi.nd).1;have i1:(i:Int)<(n.kids.length:Int):=om;have i3:(ix:Int)<(d.nodes.length:Int):=om;have z1:(0:Int)≤(i:Int):=om;have z3:(0:Int)≤(ix:Int):=om;obtain⟨c0,c1,c2,c3,c4,c5,c6,c7,c8⟩:=blk9 hM;have n4:=hN.cell 4;simp only[List.getElem?_cons_zero,List.getElem?_cons_succ]at n4;have k0:=zaa ci h0;have d0:=(cR.up h0).kind;clear E hI hi cR hM hN ci h1 h3;go_enter func96,ntmps96;go_upto_region 1 with fail;go_quiet (fail);go_wp2_with fail;go_ret;exact⟨rfl,zae (Below.refl _ _) _⟩
end Nf
namespace Nf
open Go.RowKit Go.Shelf
open Pa (F Nd Tx)
theorem ixm (f:Nat) (h:f<9):∃q:FuncId,methA[f]? =some (fnV q)∧(∀w:World,(Instr.index 249 (.agg methA) (.int .i64 (f:Int))).run prog w=.ok (fnV q) w)∧∀(x:Array Value) (w:World),(callFunc q x).run prog w=.ok (.enter q x) w:=by
 rcases(by omega:f=0∨f=1∨f=2∨f=3∨f=4∨f=5∨f=6∨f=7∨f=8)with rfl|rfl|rfl|rfl|rfl|rfl|rfl|rfl|rfl;all_goals exact⟨_,rfl,fun _=>kr,fun _ _=>kr⟩
theorem cnt_one1 {L:Look} {v:Val} {ns:List Nk} {f:Nat} {c:Bool} {k:Int} (h:Pa.VN ns f c k):cnt L v (Pa.treeN ns f k)=(decide (cnt L v (Pa.treeN ns f k)=1)).toNat:=by
 have h1:(Pa.treeN ns f k).len=1:=by
  cases f with
  | zero=>exact h.elim
  | succ f =>
    obtain⟨n,hn,-⟩:=h;rw[Pa.treeN_in hn];rfl
 have:=zcl L v (Pa.treeN ns f k);by_cases e:cnt L v (Pa.treeN ns f k)=1
 ·rw[e];rfl
 ·rw[decide_eq_false e,Bool.toNat_false];omega
theorem cnt_kids {L:Look} {v:Val} {ns:List Nk} {f:Nat} {c:Bool}:∀{l:List Int},(∀k∈l,Pa.VN ns f c k)→(l.filter fun k=>decide (cnt L v (Pa.treeN ns f k)=1)).length=cnt L v (F.cat (l.map (Pa.treeN ns f)))
 | [],_=>rfl
 | k::l,h=>by
   rw[List.map_cons,F.cat,cnt_app,←cnt_kids (l:=l) fun x hx=>h x (List.mem_cons_of_mem _ hx),cnt_one1 (h k (List.mem_cons_self ..)),List.filter_cons];cases decide (cnt L v (Pa.treeN ns f k)=1)
   ·simp
   ·simp;omega
theorem node_ev {L:Look} {v:Val} {ns:List Nk} {f:Nat} {i:Nat} {n:Nk} (hn:ns[i]? =some n) {c:Bool} (hk:∀k∈n.kids,Pa.VN ns f c k):decide (cnt L v (Pa.treeN ns (f+1) (i:Int))=1)=evO L v (ndOf n) (zaf ns n.kids) n.kids.length (cnt L v (F.cat (n.kids.map (Pa.treeN ns f)))):=by
 rw[Pa.treeN_in zy5,cnt,zcb hk,cat_len (fun x hx=>hk x hx)];show decide ((evO L v (ndOf n) (zaf ns n.kids) n.kids.length _).toNat+0=1)=_;cases evO L v (ndOf n) (zaf ns n.kids) n.kids.length (cnt L v (F.cat (n.kids.map (Pa.treeN ns f))))<;>rfl
theorem kid_val {w0:World} {d:Po} {L:Lp} {A:Option Addr} {c:Nat} {S:List Sm} {FA:Option Addr} {fc:Nat} {Fs:List (List Int)} (M:MEnv w0 d L A c S FA fc Fs) {f:Nat} {k:Int} (hv:Pa.VN d.nodes f false k) (hw:WfP d.nodes f k) (ht:zbd (lookS S d.uses) (ndOf (nodeK d.nodes k))=true):ValP w0 d L A c S FA fc Fs k (vlV (valV (lookS S d.uses) (valF S d.uses Fs) (ndOf (nodeK d.nodes k)))):=by
 cases f with
 | zero=>exact hv.elim
 | succ f =>
   obtain⟨j,m,rfl,hm,hF,-⟩:=vn_at hv hw;rw[zcg hm]at ht ⊢;have h8:¬m.kind≤8:=by simpa using hF.ctx
   have lg:=hF.hi;intro g TA tn tc W h0 hB;refine mval_any M.e FA fc Fs M.r M.ad TA tn tc g j m hm om (fun h9=>?_) W h0 hB;exact ref_some hF.lo h9 ht
theorem any_some {L:Look} {x:Nd} {vs:List Nd} (hk:x.kind=6∨x.kind=7∨x.kind=8) (h:condB L x vs=true):∀y∈vs,zbd L y=true:=by
 intro y hy;unfold condB at h;rcases hk with e|e|e
 ·simp only[e,if_true]at h;simp only[Bool.and_eq_true]at h;exact List.all_eq_true.1 h.1.1 y hy
 ·simp only[e,show¬((7:Nat)=6) by decide,if_true,if_false]at h;simp only[Bool.and_eq_true]at h;exact List.all_eq_true.1 h.1 y hy
 ·simp only[e,show¬((8:Nat)=6) by decide,show¬((8:Nat)=7) by decide,if_true,if_false]at h;simp only[Bool.and_eq_true]at h;exact List.all_eq_true.1 h.1 y hy
theorem mholds_any {w0:World} {d:Po} {L:Lp} {A:Option Addr} {c:Nat} {S:List Sm} {FA:Option Addr} {fc:Nat} {Fs:List (List Int)} (M:MEnv w0 d L A c S FA fc Fs) (hA:Adm (lookS S d.uses) (valF S d.uses Fs)):∀(f:Nat) (a:Int),Pa.VN d.nodes f true a→WfP d.nodes f a→tyF (lookS S d.uses) (Pa.treeN d.nodes f a)=true→HoldsP w0 d L A c S FA fc Fs a (decide (cnt (lookS S d.uses) (valF S d.uses Fs) (Pa.treeN d.nodes f a)=1)):=by
 intro f
 induction f with
 | zero=>intro a h;exact h.elim
 | succ f ih =>
 intro a hv hw ht;have gM:=zco _ _ _ _ hv;obtain⟨i,n,rfl,hn,hF,bz⟩:=vn_at hv hw;have d':∀k∈n.kids,Pa.VN d.nodes f (decide (n.kind≤5)) k:=fun k hk=>(bz k hk).1;rw[node_ev hn d'];rw[ty_node hn d',Bool.and_eq_true]at ht;have h8:n.kind≤8:=by simpa using hF.ctx
 have h0:=hF.lo;have bk:n.kids.length≤1000000:=(M.e.pd.ns n (List.mem_of_getElem? hn)).kids;obtain⟨kd,cf⟩:=Int.eq_ofNat_of_zero_le h0;have bL:(ndOf n).kind=kd:=by show n.kind.toNat=kd;omega
 obtain⟨q,hq,bZ,gU⟩:=ixm kd om;rw[←cf]at bZ;refine mholds_node M i n hn q _ bZ gU ?_;by_cases h5:n.kind≤5
 ·have jQ:∀k∈n.kids,Pa.VN d.nodes f true k:=fun k hk=>by have:=d' k hk;rwa[decide_eq_true h5]at this
  have hC:=mcount_any M i n hn (fun k=>decide (cnt (lookS S d.uses) (valF S d.uses Fs) (Pa.treeN d.nodes f k)=1)) (fun k hk=>ih k (jQ k hk) (bz k hk).2 (List.all_eq_true.1 ht.2 k hk)) bk;rw[cnt_kids jQ]at hC;unfold evO;rcases(by omega:kd=0∨kd=1∨kd=2∨kd=3∨kd=4∨kd=5)with rfl|rfl|rfl|rfl|rfl|rfl
  ·obtain rfl:_=q:=by injection (Option.some.inj hq)with e;injection e
   simp only[bL,if_true];exact malways_any _
  ·obtain rfl:_=q:=by injection (Option.some.inj hq)with e;injection e
   simp only[bL,if_true,show¬((1:Nat)=0) by decide,if_false];exact mnever_any _
  ·obtain rfl:_=q:=by injection (Option.some.inj hq)with e;injection e
   simp only[bL,if_true,show¬((2:Nat)=0) by decide,show¬((2:Nat)=1) by decide,if_false];exact mnot_any i _ hC
  ·obtain rfl:_=q:=by injection (Option.some.inj hq)with e;injection e
   simp only[bL,if_true,show¬((3:Nat)=0) by decide,show¬((3:Nat)=1) by decide,show¬((3:Nat)=2) by decide,if_false];exact mevery_any M i n hn _ hC
  ·obtain rfl:_=q:=by injection (Option.some.inj hq)with e;injection e
   simp only[bL,if_true,show¬((4:Nat)=0) by decide,show¬((4:Nat)=1) by decide,show¬((4:Nat)=2) by decide,show¬((4:Nat)=3) by decide,if_false];exact msome_any i _ hC
  ·obtain rfl:_=q:=by injection (Option.some.inj hq)with e;injection e
   simp only[bL,if_true,show¬((5:Nat)=0) by decide,show¬((5:Nat)=1) by decide,show¬((5:Nat)=2) by decide,show¬((5:Nat)=3) by decide,show¬((5:Nat)=4) by decide,if_false];exact matLeast_any M i n hn _ hC
 ·have pM:∀k∈n.kids,Pa.VN d.nodes f false k:=fun k hk=>by have:=d' k hk;rwa[decide_eq_false h5]at this
  have ik:(ndOf n).kind=6∨(ndOf n).kind=7∨(ndOf n).kind=8:=om;have ox:=any_some ik ht.1;have hV:∀k∈n.kids,ValP w0 d L A c S FA fc Fs k (vlV (valV (lookS S d.uses) (valF S d.uses Fs) (ndOf (nodeK d.nodes k)))):=fun k hk=>kid_val M (pM k hk) (bz k hk).2 (ox _ (List.mem_map_of_mem hk));have jM:∀k∈n.kids,isV (ndOf (nodeK d.nodes k)):=fun k hk=>by
   rw[Pa.treeN_in zy5]at gM;have h9:=gM.1.2.2.2.2;have e:decide ((ndOf n).kind≤5)=false:=by rw[decide_eq_false_iff_not,bL];omega
   have eB:Wf false (F.cat (n.kids.map (Pa.treeN d.nodes f))):=by rw[←e];exact h9
   have iP:=zby eB;rw[zcb pM]at iP;exact iP _ (List.mem_map_of_mem hk)
  have cH:=hF.kids;have iZ:n.kind=6→0≤n.num∧n.num≤5:=fun e=>by
   have h1:=hF.low;have h2:=hF.high;unfold lowP at h1;unfold highP at h2;rw[if_neg om,if_neg om]at h1;rw[if_neg om,if_pos e]at h2;exact⟨h1,h2⟩
  unfold kidsP at cH;rcases(by omega:kd=6∨kd=7∨kd=8)with rfl|rfl|rfl
  ·obtain rfl:_=q:=by injection (Option.some.inj hq)with e;injection e
   rw[cf]at cH;simp at cH;obtain⟨k0,k1,ah⟩:∃k0 k1,n.kids=[k0,k1]:=by
    match h:n.kids,cH with
    | [a,b],_=>exact⟨a,b,rfl⟩
   rw[ah]at hV jM ht ⊢;have tZ:=pr6 (x:=ndOf n) bL (jM k0 zy1) (jM k1 zy1) ht.1;obtain⟨l5,u5⟩:=iZ cf;rw[show zaf d.nodes [k0,k1]=[ndOf (nodeK d.nodes k0),ndOf (nodeK d.nodes k1)]from rfl,evO6 bL];have v0:=hV k0 zy1;have v1:=hV k1 zy1;rcases tZ.same hA with⟨x,y,e1,e2⟩|⟨fq,s,t,e1,e2⟩
   ·rw[e1]at v0 ⊢;rw[e2]at v1 ⊢;exact mcompare_any M i n hn k0 k1 ah _ _ _ _ _ _ v0 v1 (cmpF_n x y) l5 u5 fun r hr=>cmp_num hr l5 u5
   ·rw[e1]at v0 ⊢;rw[e2]at v1 ⊢;exact mcompare_any M i n hn k0 k1 ah _ _ _ _ _ _ v0 v1 (cmpF_w s t) l5 u5 fun r hr=>cmp_word hr fq
  ·obtain rfl:_=q:=by injection (Option.some.inj hq)with e;injection e
   rw[cf]at cH;simp at cH;obtain⟨k0,k1,k2,ah⟩:∃k0 k1 k2,n.kids=[k0,k1,k2]:=by
    match h:n.kids,cH with
    | [a,b,c],_=>exact⟨a,b,c,rfl⟩
   rw[ah]at hV jM ht ⊢;have hc:=ht.1;rw[show zaf d.nodes [k0,k1,k2]=[ndOf (nodeK d.nodes k0),ndOf (nodeK d.nodes k1),ndOf (nodeK d.nodes k2)]from rfl]at hc ⊢;simp only[condB,bL,show¬((7:Nat)=6) by decide,if_true,if_false,List.all_cons,List.all_nil,Bool.and_true,Bool.and_eq_true]at hc;obtain⟨-,n1,n2,n3⟩:=hc;obtain⟨-,x,e1⟩:=num_val hA (jM k0 zy1) n1;obtain⟨-,y,e2⟩:=num_val hA (jM k1 zy1) n2;obtain⟨-,z,e3⟩:=num_val hA (jM k2 zy1) n3;have v0:=hV k0 zy1;have v1:=hV k1 zy1;have v2:=hV k2 zy1;rw[evO7 bL];rw[e1]at v0 ⊢;rw[e2]at v1 ⊢;rw[e3]at v2 ⊢;exact mbetween_any M i n hn k0 k1 k2 ah x y z v0 v1 v2
  ·obtain rfl:_=q:=by injection (Option.some.inj hq)with e;injection e
   rw[cf]at cH;simp at cH;obtain⟨k0,ks,ah⟩:∃k0 ks,n.kids=k0::ks:=by
    cases h:n.kids with
    | nil=>rw[h]at cH;simp at cH
    | cons a b=>exact⟨a,b,rfl⟩
   rw[ah]at hV jM ht cH bk ⊢;have tZ:=pr8 (x:=ndOf n) (a:=ndOf (nodeK d.nodes k0)) (r:=zaf d.nodes ks) bL (jM k0 zy1) (fun y hy=>by
    obtain⟨k,hk,rfl⟩:=List.mem_map.1 hy;exact jM k (by simp[hk])) ht.1
   have v0:=hV k0 zy1;have e9:evO (lookS S d.uses) (valF S d.uses Fs) (ndOf n) (zaf d.nodes (k0::ks)) (k0::ks).length (cnt (lookS S d.uses) (valF S d.uses Fs) (F.cat ((k0::ks).map (Pa.treeN d.nodes f))))=ks.any fun k=>cmpW 0 (valV (lookS S d.uses) (valF S d.uses Fs) (ndOf (nodeK d.nodes k0))) (valV (lookS S d.uses) (valF S d.uses Fs) (ndOf (nodeK d.nodes k))):=by
    unfold evO;simp only[bL,show¬((8:Nat)=0) by decide,show¬((8:Nat)=1) by decide,show¬((8:Nat)=2) by decide,show¬((8:Nat)=3) by decide,show¬((8:Nat)=4) by decide,show¬((8:Nat)=5) by decide,show¬((8:Nat)=6) by decide,show¬((8:Nat)=7) by decide,if_false];show(List.map _ ks).any _=_;rw[List.any_map];rfl
   rw[e9];have oC:1≤ks.length:=by simp only[List.length_cons]at cH;omega
   obtain⟨z,hz⟩:∃z,ks[0]? =some z:=⟨_,List.getElem?_eq_getElem om⟩;have hzm:=List.mem_of_getElem? hz;have dm:∀k∈ks,Pr (lookS S d.uses) 0 (ndOf (nodeK d.nodes k0)) (ndOf (nodeK d.nodes k)):=fun k hk=>tZ _ (List.mem_map_of_mem hk);cases e1:valV (lookS S d.uses) (valF S d.uses Fs) (ndOf (nodeK d.nodes k0))with
   | n x =>
     rw[e1]at v0;have eW:∀k∈ks,∃y,valV (lookS S d.uses) (valF S d.uses Fs) (ndOf (nodeK d.nodes k))=.n y:=fun k hk=>by
      rcases(dm k hk).same hA with⟨m,y,h1,h2⟩|⟨-,s,t,h1,h2⟩
      ·exact⟨y,h2⟩
      ·rw[e1]at h1;cases h1
     refine min_any M i n hn k0 ks ah (by simp only[List.length_cons]at bk;omega) oC _ _ 293 (fun k=>vlV (valV (lookS S d.uses) (valF S d.uses Fs) (ndOf (nodeK d.nodes k)))) (fun k=>CmpR (.n x) (valV (lookS S d.uses) (valF S d.uses Fs) (ndOf (nodeK d.nodes k)))) _ v0 (fun k hk=>hV k (by simp[hk])) (fun k hk=>?_) (fun k hk r hr=>?_)
     ·obtain⟨y,e2⟩:=eW k hk;simp only[e2];exact cmpF_n x y
     ·obtain⟨y,e2⟩:=eW k hk;simp only[e2]at hr ⊢;exact cmp_num (h:=0) hr zy0 zy0
   | w x =>
     rw[e1]at v0;have eW:∀k∈ks,∃y,valV (lookS S d.uses) (valF S d.uses Fs) (ndOf (nodeK d.nodes k))=.w y:=fun k hk=>by
      rcases(dm k hk).same hA with⟨m,y,h1,h2⟩|⟨-,s,t,h1,h2⟩
      ·rw[e1]at h1;cases h1
      ·exact⟨t,h2⟩
     refine min_any M i n hn k0 ks ah (by simp only[List.length_cons]at bk;omega) oC _ _ 296 (fun k=>vlV (valV (lookS S d.uses) (valF S d.uses Fs) (ndOf (nodeK d.nodes k)))) (fun k=>CmpR (.w x) (valV (lookS S d.uses) (valF S d.uses Fs) (ndOf (nodeK d.nodes k)))) _ v0 (fun k hk=>hV k (by simp[hk])) (fun k hk=>?_) (fun k hk r hr=>?_)
     ·obtain⟨y,e2⟩:=eW k hk;simp only[e2];exact cmpF_w x y
     ·obtain⟨y,e2⟩:=eW k hk;simp only[e2]at hr ⊢;exact cmp_word (h:=0) hr (.inl rfl)
end Nf
namespace Nf
open Go.RowKit Go.Shelf
open Pa (F Nd Tx)
theorem fs1 (s:ByteArray) (A:Option Addr) (n c:Nat):∀w:World,(Instr.field 53 (.agg #[.string s,.slice A n c]) 1).run prog w=.ok (.slice A n c) w:=fun w=>kr
theorem ready_use {S:List Sm} {d:Po} (hR:zah chkB S d=true) {u:Nat} {x:Bp} (hu:d.uses[u]? =some x):∃m,zaq S x.2=some m∧m∈S:=by
 unfold zah at hR;simp only[Bool.and_eq_true]at hR;have:=List.all_eq_true.1 hR.2 x (List.mem_of_getElem? hu);obtain⟨m,hm⟩:=Option.isSome_iff_exists.1 this;exact⟨m,hm,by unfold zaq at hm;exact List.mem_of_find?_eq_some hm⟩
theorem ready_fd {S:List Sm} {d:Po} (hR:zah chkB S d=true) {m:Sm} (hm:m∈S) {f:Fd} (hf:f∈m.fields):FdB f:=by
 unfold zah at hR;simp only[Bool.and_eq_true]at hR;have h2:=List.all_eq_true.1 hR.1.1.2 m hm;have h3:schemaE m.name m.fields=0:=of_decide_eq_true h2;unfold schemaE at h3;split at h3
 ·cases h3
 ·split at h3
  ·cases h3
  ·exact fdB_field (fieldsE_mem _ _ h3 f hf)
theorem admitted_any {w0:World} {d:Po} {L:Lp} {A:Option Addr} {c:Nat} {S:List Sm} {FA:Option Addr} {fc:Nat} {Fs:List (List Int)} (M:MEnv w0 d L A c S FA fc Fs) (hR:zah chkB S d=true) (w:World) (h0:Below w0.heap.size w0 w) :
 Calls prog 116 #[polV d L,.slice A S.length c,.slice FA Fs.length fc] w fun e w'=>e=.returned (.int .i64 0)∧Below w.heap.size w w':=by
 have hk:=(Hp.start w).new 29 (polcs d L);obtain⟨g,hg⟩:∃g,w.heap.size=g:=⟨_,rfl⟩;rw[hg]at hk;have aD:=M.ad.len;have hU6:=M.e.pd.ul;have dD:((Fs.length:Int) != (d.uses.length:Int))=false:=by rw[aD];simp
 have ew:=Lib.hid aD;clear aD;go_enter func116,ntmps116;go_upto_region 1 with fail;try simp only[hg]
 have ar:Hp [] w [iblk g 29 (polcs d L)] (w.alloc (.cells #[.string d.name,.slice L.ua d.uses.length L.uc,.slice L.ra d.reveal.length L.rc,.slice L.na d.nodes.length L.nc,.int .i64 d.root,.string d.scope,.int .i64 d.limit,.string d.escrow] 29)):=hk;clear hk;generalize w.alloc (.cells #[.string d.name,.slice L.ua d.uses.length L.uc,.slice L.ra d.reveal.length L.rc,.slice L.na d.nodes.length L.nc,.int .i64 d.root,.string d.scope,.int .i64 d.limit,.string d.escrow] 29)=W1 at *;have c1:W1.cell? ⟨g,1,none⟩=some (.slice L.ua d.uses.length L.uc):=(ar.blk 0 rfl).cell 1;go_upto_region 4 with fail;clear c1 dD;have dX:Fs.length≤1000000:=by rw[ew.out];exact hU6
 go_loopg [24] Fs.length (fun m9 s24 wx=>∃j:Nat,j≤Fs.length∧m9=Fs.length-j∧s24=.int .i64 (j:Int)∧Hp [] w [iblk g 29 (polcs d L)] wx);case atStart=>exact⟨0,Nat.zero_le _,rfl,rfl,ar⟩
 case round =>
  obtain⟨j,hj,rfl,rfl,hM⟩:=hrel;clear ar;by_cases aW:j<Fs.length
  ·have bX:(j:Int)<(Fs.length:Int):=om;have bT:(0:Int)≤(j:Int):=om;obtain⟨x,hx⟩:∃x,d.uses[j]? =some x:=⟨_,List.getElem?_eq_getElem (by rw[←ew.out];exact aW)⟩;obtain⟨m,hm,uN⟩:=ready_use hR hx;obtain⟨l,hl,fC,-⟩:=M.ad.row j x m hx hm;obtain⟨rad,RA,rx,rfl,cr,hI⟩:=((M.r.up h0).up hM.below0).at_ j l hl;have HC:=Lib.hid (schemaOf_any d L A c S j x hx m hm M.e.sl M.e.pd.ul w0 wr M.e.s M.e.p.us (h0.trans (hM.below0.mono h0.size)));obtain⟨c0,c1,c2,c3,c4,c5,c6,c7⟩:=(hM.blk 0 rfl).get8;have aT:((l.length:Int) != (m.fields.length:Int))=false:=by rw[fC];simp
   clear hx hm hl hI fC;go_upto_region 6 with fail;clear cr;go_wp2_with fail;refine HC.out.mono ?_;rintro e w3 ⟨⟨FB,fb,rfl,jK⟩,aJ⟩;have aR:=hM.next aJ;have eE:=fs1 m.name FB m.fields.length fb;clear HC hM aJ c0 c1 c2 c3 c4 c5 c6 c7 jK;go_wp2_with fail;go_roundg (Fs.length-(j+1));case measure=>omega
   case rel=>exact⟨j+1,aW,rfl,by first|rfl|simp,aR⟩
  ·have bX:¬(j:Int)<(Fs.length:Int):=om;go_upto_region 10 with fail;go_loopg [41] Fs.length (fun m9 ui wx=>∃j:Nat,j≤Fs.length∧m9=Fs.length-j∧ui=.int .i64 (j:Int)∧Hp [] w [iblk g 29 (polcs d L)] wx);case atStart=>exact⟨0,Nat.zero_le _,rfl,rfl,hM⟩
   case round =>
    obtain⟨j,hj,rfl,rfl,hM⟩:=hrel;by_cases aW:j<Fs.length
    ·have bX:(j:Int)<(Fs.length:Int):=om;have bT:(0:Int)≤(j:Int):=om;obtain⟨x,hx⟩:∃x,d.uses[j]? =some x:=⟨_,List.getElem?_eq_getElem (by rw[←ew.out];exact aW)⟩;obtain⟨m,hm,uN⟩:=ready_use hR hx;obtain⟨l,hl,fC,np⟩:=M.ad.row j x m hx hm;obtain⟨rad,RA,rx,rfl,cr0,hI⟩:=(M.r.up h0).at_ j l hl;have cr:=zaa cr0 hM.below0;have HC:=Lib.hid (fun W hW=>schemaOf_any d L A c S j x hx m hm M.e.sl M.e.pd.ul w0 W M.e.s M.e.p.us hW);have HI:=Lib.hid hI;have rp:=Lib.hid np;have iO:=Lib.hid fC;have oD:l.length≤1000000:=by rw[fC];exact(M.e.m m uN).len
     clear hx hm hl hI fC np cr0;go_upto_region 13 with fail;clear cr;go_loopg [48] l.length (fun m9 s48 wx=>∃k:Nat,k≤l.length∧m9=l.length-k∧s48=.int .i64 (k:Int)∧Hp [] w [iblk g 29 (polcs d L)] wx);case atStart=>exact⟨0,Nat.zero_le _,rfl,rfl,hM⟩
     case round =>
      obtain⟨k,hk,rfl,rfl,bn⟩:=hrel;by_cases bk:k<l.length
      ·have cH:(k:Int)<(l.length:Int):=om;have ar:(0:Int)≤(k:Int):=om;have dZ:(k:Int)<(m.fields.length:Int):=by rw[←iO.out];exact cH
       obtain⟨v,hv⟩:∃v,l[k]? =some v:=⟨_,List.getElem?_eq_getElem bk⟩;obtain⟨fd,bJ⟩:∃fd,m.fields[k]? =some fd:=⟨_,List.getElem?_eq_getElem om⟩;obtain⟨b1,b2⟩:=rp.out k fd v bJ hv;have hB:=ready_fd hR uN (List.mem_of_getElem? bJ);have ff:=hB.wl;have cf:=hB.kd;obtain⟨ra,rfl,cv⟩:=(HI.out.up bn.below0).at_ k v hv;have HCC:=Lib.hid (HC.out wr (h0.trans (bn.below0.mono h0.size)));obtain⟨c0,c1,c2,c3,c4,c5,c6,c7⟩:=(bn.blk 0 rfl).get8;clear hv;go_upto_region 15 with fail;clear cv;go_wp2_with fail;refine HCC.out.mono ?_;rintro e w3 ⟨⟨FB,fb,rfl,jK⟩,aJ⟩;have bE:=bn.next aJ;have eE:=fs1 m.name FB m.fields.length fb;obtain⟨fad,WA,dN,rfl,dA⟩:=jK.at_ k fd bJ;have cO:=(dA.up h0).up bE.below0;have q0:=cO.name;have q1:=cO.kind;have q2:=cO.min;have q3:=cO.max;have q4:=cO.words;have cz:=bE.new 57 (fcs fd WA dN);clear HCC bn aJ c0 c1 c2 c3 c4 c5 c6 c7 jK bJ;go_upto_region 16 with fail;have cz:Hp [] w [iblk w3.heap.size 57 (fcs fd WA dN),iblk g 29 (polcs d L)] (w3.alloc (.cells #[.string fd.name,.int .i64 fd.kind,.int .i64 fd.min,.int .i64 fd.max,.slice WA fd.words.length dN] 57)):=cz;generalize w3.alloc (.cells #[.string fd.name,.int .i64 fd.kind,.int .i64 fd.min,.int .i64 fd.max,.slice WA fd.words.length dN] 57)=W6 at *;generalize w3.heap.size=gf at *;clear bE q0 q1 q2 q3 q4 cO eE;obtain⟨q0,q1,q2,q3,q4⟩:=Blk.get5 (cz.blk 0 rfl);go_quiet (fail);have iL:=cz.drewN nq;clear cz q0 q1 q2 q3 q4;generalize W6.drewN nq=W7 at *;obtain⟨q0,q1,q2,q3,q4⟩:=Blk.get5 (iL.blk 0 rfl);by_cases an:fd.kind=1
       ·obtain⟨b3,b4⟩:=b1 an;have ej:(fd.kind==1)=true:=by simpa using an
        have jF:IntKind.i64.wrap ((fd.words.length:Int)-1)=(fd.words.length:Int)-1:=IntWalk.i64_in _ om;clear b1 b2 an cf;go_upto_region 18 with fail;go_quiet (fail);have iM:=iL.drewN nq;clear iL q0 q1 q2 q3 q4;generalize W7.drewN nq=W8 at *;have lV:¬v<0:=om;have fQ:¬((fd.words.length:Int)-1<v):=om;go_wp2_with fail;go_roundg (l.length-(k+1));case measure=>omega
        case rel=>exact⟨k+1,bk,rfl,by first|rfl|simp,iM.tail⟩
       ·obtain⟨b3,b4⟩:=b2 an;have ej:(fd.kind==1)=false:=by simpa using an
        clear b1 b2 an cf;have lV:¬v<fd.min:=om;have fQ:¬(fd.max<v):=om;go_wp2_with fail;go_roundg (l.length-(k+1));case measure=>omega
        case rel=>exact⟨k+1,bk,rfl,by first|rfl|simp,iL.tail⟩
      ·have cH:¬(k:Int)<(l.length:Int):=om;clear HC HI rp iO;go_wp2_with fail;go_roundg (Fs.length-(j+1));case measure=>omega
       case rel=>exact⟨j+1,aW,rfl,by first|rfl|simp,bn⟩
    ·have bX:¬(j:Int)<(Fs.length:Int):=om;have hb:=hM.below0;go_wp2_with fail;go_ret;exact zus
end Nf
namespace Nf
open Go.RowKit Go.Shelf
open Lib (hid)
open Pa (F Nd Tx)
theorem make_blv (n:Nat) (hn:n≤1000000):∀w,(Instr.makeSlice 134 (.int .i64 (n:Int)) (.int .i64 (n:Int))).run prog w=.ok (.slice (some ⟨w.heap.size,0,none⟩) n n) (w.alloc (.cells (List.replicate n (.bool false)).toArray 4)) :=
 run_make_cells 134 4 underlying134 (.bool false) rfl 1 kr n om om
def TruOut (n:Nat) (root:Int) (r:Bool) (e:Ending) (w':World):Prop:=∃gt T,e=.returned (.tuple #[.slice (some ⟨gt,0,none⟩) n n,.int .i64 0])∧Blk w' gt 4 (blvB T)∧T[root.toNat]? =some r
theorem typed_holds {w0:World} {d:Po} {L:Lp} {A:Option Addr} {c:Nat} {S:List Sm} {FA:Option Addr} {fc:Nat} {Fs:List (List Int)} (M:MEnv w0 d L A c S FA fc Fs) (hA:Adm (lookS S d.uses) (valF S d.uses Fs)) (hT:za4 chkB S d=true):HoldsP w0 d L A c S FA fc Fs d.root (decide (cnt (lookS S d.uses) (valF S d.uses Fs) (treeD d)=1)):=by
 unfold za4 at hT;simp only[Bool.and_eq_true]at hT;have eO:checkP d=0:=by have:=hT.1.1;unfold zah at this;simp only[Bool.and_eq_true,decide_eq_true_eq]at this;exact this.1.1.1
 exact mholds_any M hA 32 d.root (Pa.tree_vn eO) (tree_wf (za5 eO)) hT.2
theorem truths_any {w0:World} {d:Po} {L:Lp} {A:Option Addr} {c:Nat} {S:List Sm} {FA:Option Addr} {fc:Nat} {Fs:List (List Int)} (M:MEnv w0 d L A c S FA fc Fs) (E0:Env0 w0 d L A c S) (hA:Adm (lookS S d.uses) (valF S d.uses Fs)) (hT:za4 chkB S d=true) (w:World) (h0:Below w0.heap.size w0 w) :
 Calls prog 55 #[polV d L,.slice A S.length c,.slice FA Fs.length fc] w fun e w'=>TruOut d.nodes.length d.root (decide (cnt (lookS S d.uses) (valF S d.uses Fs) (treeD d)=1)) e w'∧Below w.heap.size w w':=by
 have dj:=hid (fun W hW=>tcheck_any E0 W hW);rw[hT]at dj;have hR:zah chkB S d=true:=by unfold za4 at hT;simp only[Bool.and_eq_true]at hT;exact hT.1.1
 have HH0:=hid (typed_holds M hA hT);generalize decide (cnt (lookS S d.uses) (valF S d.uses Fs) (treeD d)=1)=r at *;have HAM:=hid (fun W hW=>admitted_any M hR W hW);have gH:=M.e.pd.nl;have sT:=make_blv d.nodes.length gH;have hk:=(Hp.start w).new 29 (polcs d L);obtain⟨g,hg⟩:∃g,w.heap.size=g:=⟨_,rfl⟩;rw[hg]at hk;clear hT hR hA E0 M;go_enter func55,ntmps55;go_upto_region 1 with fail;try simp only[hg]
 have ar:Hp [] w [iblk g 29 (polcs d L)] (w.alloc (.cells #[.string d.name,.slice L.ua d.uses.length L.uc,.slice L.ra d.reveal.length L.rc,.slice L.na d.nodes.length L.nc,.int .i64 d.root,.string d.scope,.int .i64 d.limit,.string d.escrow] 29)):=hk;clear hk;generalize w.alloc (.cells #[.string d.name,.slice L.ua d.uses.length L.uc,.slice L.ra d.reveal.length L.rc,.slice L.na d.nodes.length L.nc,.int .i64 d.root,.string d.scope,.int .i64 d.limit,.string d.escrow] 29)=W1 at *;obtain⟨c0,c1,c2,c3,c4,c5,c6,c7⟩:=(ar.blk 0 rfl).get8;have HC:=hid (dj.out W1 (h0.trans (ar.below0.mono h0.size)));clear dj;go_wp2_with fail;refine HC.out.mono ?_;rintro e w2 ⟨⟨x,y,rfl,hy⟩,aG⟩;obtain rfl:y=0:=hy.2 rfl;have ah:=ar.next aG;clear HC ar aG c0 c1 c2 c3 c4 c5 c6 c7 hy;obtain⟨c0,c1,c2,c3,c4,c5,c6,c7⟩:=(ah.blk 0 rfl).get8;have HC:=hid (HAM.out w2 (h0.trans (ah.below0.mono h0.size)));clear HAM;go_wp2_with fail;refine HC.out.mono ?_;rintro e w3 ⟨rfl,aJ⟩;have aj:=ah.next aJ;clear HC ah aJ c0 c1 c2 c3 c4 c5 c6 c7;go_upto_region 7 with fail;replace aj:=aj.drew;have e8:=(aj.blk 0 rfl).get8;go_region_held3 (fun w'=>w'.cell? ⟨g,0,none⟩=some (.string d.name)∧w'.cell? ⟨g,1,none⟩=some (.slice L.ua d.uses.length L.uc)∧w'.cell? ⟨g,2,none⟩=some (.slice L.ra d.reveal.length L.rc)∧w'.cell? ⟨g,3,none⟩=some (.slice L.na d.nodes.length L.nc)∧w'.cell? ⟨g,4,none⟩=some (.int .i64 d.root)∧w'.cell? ⟨g,5,none⟩=some (.string d.scope)∧w'.cell? ⟨g,6,none⟩=some (.int .i64 d.limit)∧w'.cell? ⟨g,7,none⟩=some (.string d.escrow)) (first|exact e8|exact((aj.new 4 (List.replicate d.nodes.length (.bool false))).blk 1 rfl).get8|exact(((aj.new 4 (List.replicate d.nodes.length (.bool false))).new 203 (evC d L A S.length c FA Fs.length fc (tA w3.heap.size) d.nodes.length d.nodes.length)).blk 2 rfl).get8) (fail);have aw:Hp [] w [iblk (w3.heap.size+1) 203 (evC d L A S.length c FA Fs.length fc (tA w3.heap.size) d.nodes.length d.nodes.length),iblk w3.heap.size 4 (blvB (List.replicate d.nodes.length false)),iblk g 29 (polcs d L)] ((w3.alloc (.cells (Array.replicate d.nodes.length (.bool false)) 4)).alloc (.cells #[.string d.name,.slice L.ua d.uses.length L.uc,.slice L.ra d.reveal.length L.rc,.slice L.na d.nodes.length L.nc,.int .i64 d.root,.string d.scope,.int .i64 d.limit,.string d.escrow,.slice A S.length c,.slice FA Fs.length fc,.slice (some ⟨w3.heap.size,0,none⟩) d.nodes.length d.nodes.length] 203)).drew:=by
  have h9:=(aj.new 4 (List.replicate d.nodes.length (.bool false))).new 203 (evC d L A S.length c FA Fs.length fc (tA w3.heap.size) d.nodes.length d.nodes.length);have e1:blvB (List.replicate d.nodes.length false)=List.replicate d.nodes.length (.bool false):=by unfold blvB;rw[List.map_replicate]
  rw[e1];simp only[sizeA]at h9;have e2:(List.replicate d.nodes.length (Value.bool false)).toArray=Array.replicate d.nodes.length (.bool false):=by simp
  rw[e2]at h9;exact h9
 have gK:w0.heap.size≤w3.heap.size:=Nat.le_trans h0.size (by have:=aj.size;exact this);clear aj e8 sT;generalize ((w3.alloc (.cells (Array.replicate d.nodes.length (.bool false)) 4)).alloc (.cells #[.string d.name,.slice L.ua d.uses.length L.uc,.slice L.ra d.reveal.length L.rc,.slice L.na d.nodes.length L.nc,.int .i64 d.root,.string d.scope,.int .i64 d.limit,.string d.escrow,.slice A S.length c,.slice FA Fs.length fc,.slice (some ⟨w3.heap.size,0,none⟩) d.nodes.length d.nodes.length] 203)).drew=W5 at *;generalize w3.heap.size=gt at *;have aE:Hp [] w (mits d L A c S FA fc Fs (gt+1) gt (List.replicate d.nodes.length false)++[iblk g 29 (polcs d L)]) W5:=aw.perm (List.Perm.swap _ _ _);have bp:MAt w0 d L A c S FA fc Fs (gt+1) gt (List.replicate d.nodes.length false) W5:=⟨h0.trans (aE.below0.mono h0.size),by omega,gK,List.length_replicate,aE.sub.sep⟩;have HC:=hid (HH0.out (gt+1) gt _ W5 bp);have c4:W5.cell? ⟨g,4,none⟩=some (.int .i64 d.root):=(aw.blk 2 rfl).cell 4;obtain⟨ge,tU⟩:∃q,gt+1=q:=⟨_,rfl⟩;rw[tU]at HC aE ⊢;clear HH0 bp aw gK;go_wp2_with fail;refine HC.out.mono ?_;rintro e w7 ⟨T',h1,h2,rfl,h3⟩;have aO:Hp [] w (mits d L A c S FA fc Fs ge gt T'++[iblk g 29 (polcs d L)]) w7:=Hp.call aE h3;have HR:=hid h2;clear HC aE h1 h2 h3 c4;have dU:w7.cell? ⟨ge,10,none⟩=some (.slice (some ⟨gt,0,none⟩) d.nodes.length d.nodes.length):=(aO.blk 1 rfl).cell 10;have hb:=aO.below0;go_wp2_with fail;go_ret2;exact⟨⟨gt,T',rfl,aO.blk 0 rfl,HR.out⟩,by first|exact hb|(subst hg;exact hb)⟩
theorem holds_any {w0:World} {d:Po} {L:Lp} {A:Option Addr} {c:Nat} {S:List Sm} {FA:Option Addr} {fc:Nat} {Fs:List (List Int)} (M:MEnv w0 d L A c S FA fc Fs) (E0:Env0 w0 d L A c S) (hA:Adm (lookS S d.uses) (valF S d.uses Fs)) (hT:za4 chkB S d=true) (w:World) (h0:Below w0.heap.size w0 w) :
 Calls prog 16 #[polV d L,.slice A S.length c,.slice FA Fs.length fc] w fun e w'=>e=.returned (.tuple #[.bool (decide (cnt (lookS S d.uses) (valF S d.uses Fs) (treeD d)=1)),.int .i64 0])∧Below w.heap.size w w':=by
 have dj:=hid (fun W hW=>truths_any M E0 hA hT W hW);generalize decide (cnt (lookS S d.uses) (valF S d.uses Fs) (treeD d)=1)=r at *;have hrt:∃i:Nat,d.root=(i:Int)∧i<d.nodes.length:=by
  unfold za4 at hT;simp only[Bool.and_eq_true]at hT;have eO:checkP d=0:=by have:=hT.1.1;unfold zah at this;simp only[Bool.and_eq_true,decide_eq_true_eq]at this;exact this.1.1.1
  obtain⟨i,n,e,hn,-⟩:=vn_at (f:=31) (Pa.tree_vn eO) (tree_wf (za5 eO));exact⟨i,e,(List.getElem?_eq_some_iff.1 hn).1⟩
 obtain⟨i,hi,ay⟩:=hrt;have aM:(i:Int)<(d.nodes.length:Int):=om;have aL:(0:Int)≤(i:Int):=om;have hk:=(Hp.start w).new 29 (polcs d L);obtain⟨g,hg⟩:∃g,w.heap.size=g:=⟨_,rfl⟩;rw[hg]at hk;have HI:=hid hi;clear hi hT hA E0 M ay;go_enter func16,ntmps16;go_upto_region 1 with fail;try simp only[hg]
 have ar:Hp [] w [iblk g 29 (polcs d L)] (w.alloc (.cells #[.string d.name,.slice L.ua d.uses.length L.uc,.slice L.ra d.reveal.length L.rc,.slice L.na d.nodes.length L.nc,.int .i64 d.root,.string d.scope,.int .i64 d.limit,.string d.escrow] 29)):=hk;clear hk;generalize w.alloc (.cells #[.string d.name,.slice L.ua d.uses.length L.uc,.slice L.ra d.reveal.length L.rc,.slice L.na d.nodes.length L.nc,.int .i64 d.root,.string d.scope,.int .i64 d.limit,.string d.escrow] 29)=W1 at *;obtain⟨c0,c1,c2,c3,c4,c5,c6,c7⟩:=(ar.blk 0 rfl).get8;have HC:=hid (dj.out W1 (h0.trans (ar.below0.mono h0.size)));clear dj;go_wp2_with fail;refine HC.out.mono ?_;rintro e w2 ⟨⟨gt,T,rfl,hT,hr⟩,aG⟩;have ah:=ar.next aG;clear HC ar aG c0 c1 c2 c3 c4 c5 c6 c7;have c4:w2.cell? ⟨g,4,none⟩=some (.int .i64 (i:Int)):=by rw[←HI.out];exact(ah.blk 0 rfl).cell 4
 have ct:w2.cell? ⟨gt,i,none⟩=some (.bool r):=by
  rw[hT.cell i,blvB,List.getElem?_map];rw[HI.out,Int.toNat_natCast]at hr;rw[hr];rfl
 have hb:=ah.below0;clear hr hT;go_wp2_with fail;go_ret2;exact zus
end Nf
namespace Nf
open Pa (F Nd Tx leaf)
structure FOk (f:Fd):Prop where
 kd:(f.kind=0∧f.words=[]∧ -2147483648≤f.min∧f.max≤2147483647∧f.min≤f.max)∨(f.kind=1∧f.min=0∧f.max=0∧1≤f.words.length∧f.words.length≤64)
 nd:f.words.Nodup
theorem wordsE_nd:∀(l S:List ByteArray),zbx S l=0→S.Nodup→(S++l).Nodup
 | [],S,_,h=>by rw[List.append_nil];exact h
 | w::r,S,h,hS=>by
   rw[zbx]at h;split at h
   ·cases h
   ·split at h
    ·cases h
    ·rename_i h1 h2;have:=wordsE_nd r (S++[w]) h (by
      rw[List.nodup_append];refine⟨hS,by simp,?_⟩;intro a ha b hb;rw[List.mem_singleton]at hb;subst hb;rintro rfl;exact h2 (memD_iff.2 ha))
     rw[List.append_assoc]at this;exact this
theorem field_ok {f:Fd} (h:fieldE f=0):FOk f:=by
 unfold fieldE at h;split at h
 ·rename_i hk;unfold numE at h;split at h
  ·cases h
  ·split at h
   ·cases h
   ·rename_i h1 h2;have hw:f.words=[]:=List.eq_nil_of_length_eq_zero om;exact⟨.inl ⟨hk,hw,by omega,by omega,by omega⟩,by rw[hw];exact List.nodup_nil⟩
 ·split at h
  ·rename_i hk;unfold wrdE at h;split at h
   ·cases h
   ·rename_i h1;unfold wordsP at h;split at h
    ·cases h
    ·rename_i h2;exact⟨.inr ⟨hk,by omega,by omega,by omega,by omega⟩,wordsE_nd _ [] h List.nodup_nil⟩
  ·cases h
theorem fieldsE_ok:∀(l:List Fd) (S:List ByteArray),za7 S l=0→S.Nodup→(S++nms l).Nodup∧∀f∈l,FOk f
 | [],S,_,h=>⟨by rw[show nms []=[]from rfl,List.append_nil];exact h,fun f hf=>by cases hf⟩
 | f::r,S,h,hS=>by
   rw[za7]at h;split at h
   ·cases h
   ·split at h
    ·cases h
    ·rename_i h1 h2;split at h
     ·rename_i h3;exact absurd h h3
     ·rename_i h3;have h3:fieldE f=0:=om;have:=fieldsE_ok r (S++[f.name]) h (by
       rw[List.nodup_append];refine⟨hS,by simp,?_⟩;intro a ha b hb;rw[List.mem_singleton]at hb;subst hb;rintro rfl;exact h2 (memD_iff.2 ha))
      refine⟨?_,?_⟩
      ·have h9:=this.1;rw[List.append_assoc]at h9;exact h9
      ·intro g hg;rcases List.mem_cons.1 hg with rfl|hg
       ·exact field_ok h3
       ·exact this.2 g hg
theorem zbo {m:Sm} (h:chkB m=true):(nms m.fields).Nodup∧m.fields.length≤16∧∀f∈m.fields,FOk f:=by
 unfold chkB at h;rw[decide_eq_true_eq]at h;unfold schemaE at h;split at h
 ·cases h
 ·split at h
  ·cases h
  ·rename_i h1 h2;obtain⟨a,b⟩:=fieldsE_ok m.fields [] h List.nodup_nil;exact⟨a,by omega,b⟩
theorem zaw {S:List Sm} {d:Po} (h:zah chkB S d=true):checkP d=0∧∀m∈S,chkB m=true:=by
 unfold zah at h;simp only[Bool.and_eq_true,decide_eq_true_eq,List.all_eq_true]at h;exact⟨h.1.1.1,h.1.1.2⟩
theorem zbf {S:List Sm} {s:ByteArray} {m:Sm} (h:zaq S s=some m):m∈S:=List.mem_of_find?_eq_some h
theorem zct {S:List Sm} {d:Po} (h:zah chkB S d=true) {a t:ByteArray} {f:Fd} (hf:findS S d.uses a t=some f):FOk f:=by
 obtain⟨u,k,s,m,P⟩:=zbs hf;exact(zbo ((zaw h).2 m (zbf P.nm))).2.2 f (List.mem_of_getElem? P.at_)
theorem zfd_ok:FOk zFd:=⟨.inl ⟨rfl,rfl,by decide,by decide,by decide⟩,List.nodup_nil⟩
theorem look_ok {S:List Sm} {d:Po} (h:zah chkB S d=true) (x:Nd):FOk (fdOf (lookS S d.uses) x):=by
 unfold fdOf;cases hf:lookS S d.uses x with
 | none=>exact zfd_ok
 | some f=>exact zct h hf
theorem okl_of {S:List Sm} {d:Po} (h:zah chkB S d=true):OkL (lookS S d.uses):=fun x h0=>by
 rcases(look_ok h x).kd with q|q
 ·exact q.2.2.2.2
 ·omega
theorem okw_of {S:List Sm} {d:Po} (h:zah chkB S d=true):OkW (lookS S d.uses):=fun x=>by
 refine⟨(look_ok h x).nd,?_,?_⟩
 ·rcases(look_ok h x).kd with q|q
  ·exact .inl q.1
  ·exact .inr q.1
 ·intro h1;rcases(look_ok h x).kd with q|q
  ·omega
  ·exact q.2.1
theorem adm_of {S:List Sm} {d:Po} (h:zah chkB S d=true) {Fs:List (List Int)} (hF:AdmF S d.uses Fs):Adm (lookS S d.uses) (valF S d.uses Fs):=by
 refine⟨fun x y h1 h2=>by unfold lookS;rw[h1,h2],fun x f hf=>?_⟩;obtain⟨u,k,s,m,P⟩:=zbs hf;obtain⟨l,y,-,-,-,h4,h5,h6⟩:=P.val hF;rw[tl_bs,tl_bs]at h4;rw[h4];rcases(zct h hf).kd with q|q
 ·exact .inl ⟨q.1,h6 om⟩
 ·exact .inr ⟨q.1,h5 q.1⟩
theorem ev_mono {p q:Nd→Prop} (h:∀y,p y→q y):∀{f:F},f.Ev p→f.Ev q
 | .nil,_=>trivial
 | .cons _ _ _,he=>⟨h _ he.1,ev_mono h he.2.1,ev_mono h he.2.2⟩
def ixR (R:List Bp):Ix:=fun x=>(idxL (bs x.name,bs x.attr) R:Int)
def plS (S:List Sm) (U:List Bp) (r:Bp):Pla:=((useN U r.1:Int),(fldN S U r.1 r.2:Int)+2)
def valR (S:List Sm) (U:List Bp) (Fs:List (List Int)) (r:Bp):Int:=valF S U Fs (tl r.1) (tl r.2)-zaj ((findS S U r.1 r.2).getD zFd)
def InR (R:List Bp) (x:Nd):Prop:=x.kind=9→(bs x.name,bs x.attr)∈R
theorem ixR_at {R:List Bp} {x:Nd} (h:InR R x) (h9:x.kind=9):idxL (bs x.name,bs x.attr) R<R.length∧R[idxL (bs x.name,bs x.attr) R]? =some (bs x.name,bs x.attr):=idx_mem (h h9)
theorem vals_of {S:List Sm} {U:List Bp} {Fs:List (List Int)} {R:List Bp} {x:Nd} (h:InR R x):VS (lookS S U) (valF S U Fs) (ixR R) (R.map (valR S U Fs)) x:=by
 intro h9;obtain⟨h1,h2⟩:=ixR_at h h9;refine⟨by unfold ixR;omega,by unfold ixR;rw[List.length_map];omega,?_⟩;unfold ixR;rw[show((idxL (bs x.name,bs x.attr) R:Nat):Int).toNat=idxL (bs x.name,bs x.attr) R by omega,List.getD_eq_getElem?_getD,List.getElem?_map,h2];show valF S U Fs (tl (bs x.name)) (tl (bs x.attr))-zaj ((findS S U (bs x.name) (bs x.attr)).getD zFd)=_;rw[tl_bs,tl_bs];rfl
theorem ix_ne {R:List Bp} {a b:Nd} (ha:InR R a) (hb:InR R b) (a9:a.kind=9) (b9:b.kind=9) (ne:¬(a.name=b.name∧a.attr=b.attr)):ixR R a≠ixR R b:=by
 intro h;obtain⟨-,h1⟩:=ixR_at ha a9;obtain⟨-,h2⟩:=ixR_at hb b9;have e:idxL (bs a.name,bs a.attr) R=idxL (bs b.name,bs b.attr) R:=by unfold ixR at h;omega
 rw[e,h2]at h1;have h3:=Option.some.inj h1;injection h3 with h4 h5;refine ne ⟨?_,?_⟩
 ·rw[←tl_bs a.name,←h4,tl_bs]
 ·rw[←tl_bs a.attr,←h5,tl_bs]
theorem ixR_lt {R:List Bp} {a:Nd} (ha:InR R a) (a9:a.kind=9):0≤ixR R a∧ixR R a<R.length:=by
 have:=(ixR_at ha a9).1;unfold ixR;omega
theorem dist_mem {i j lo hi:Int} {y:At} (h:y∈dist i j lo hi):y=⟨5,i,j,lo,hi⟩∧lo≤hi:=by
 unfold dist at h;split at h
 ·rw[List.mem_singleton]at h;exact⟨h,by assumption⟩
 ·cases h
theorem okat_dist {n:Nat} {i j lo hi:Int} (aL:0≤i) (kM:i<n) (bT:0≤j) (jm:j<n) (ne:i≠j) (h:lo≤hi) (h1: -4294967295≤lo) (h2:hi≤4294967295) (h3:hi-lo≤4294967295):OkAt n ⟨5,i,j,lo,hi⟩ :=
 ⟨by simp only;omega,by simp only;omega,aL,kM,bT,jm,by simp only;omega,fun _=>ne,by simp only;omega,by simp only;omega,by simp only;omega,fun _=>⟨h1,h,h2,h3⟩⟩
theorem okat_same {n:Nat} {k i j:Int} (hk:k=3∨k=4) (aL:0≤i) (kM:i<n) (bT:0≤j) (jm:j<n) (ne:i≠j):OkAt n ⟨k,i,j,0,0⟩:=by
 refine⟨?_,?_,aL,kM,bT,jm,?_,fun _=>ne,?_,?_,fun _=>⟨rfl,rfl⟩,?_⟩;all_goals try simp only
 all_goals try intro hq
 all_goals omega
theorem okat_one {n:Nat} {k i lo:Int} (hk:k=0∨k=1) (aL:0≤i) (kM:i<n) (h0:0≤lo) (h1:lo≤4294967295):OkAt n ⟨k,i,0,lo,0⟩:=by
 have hn:(0:Int)<n:=om;have e:k≠2∧¬3≤k∧¬(k=3∨k=4)∧k≠5∧0≤k∧k≤5:=om;exact⟨e.2.2.2.2.1,e.2.2.2.2.2,aL,kM,Int.le_refl _,hn,fun _=>rfl,fun q=>absurd q e.2.1,fun _=>⟨h0,h1,rfl⟩,fun q=>absurd q e.1,fun q=>absurd q e.2.2.1,fun q=>absurd q e.2.2.2.1⟩
theorem okat_of {S:List Sm} {d:Po} (h:zah chkB S d=true) {R:List Bp} {x:Nd} {vs:List Nd} (hS:Shp (lookS S d.uses) x vs) (hR:∀a∈vs,InR R a):∀y∈atP (lookS S d.uses) (ixR R) x vs,y.hi-y.lo≤4294967295→OkAt R.length y:=by
 have hF:=look_ok h;cases hS with
 | eqn a b hk hn ha hb ty lo hi =>
   have h1:=ixR_lt (hR a zy1) ha;have h2:=(hF a).kd;have h3:=zcf ha ty;have e4:attrP (fdOf (lookS S d.uses) a) b=b.num-(fdOf (lookS S d.uses) a).min:=by unfold attrP;rw[if_neg om]
   rw[at6 hk om,e4];exact zt83
 | rng a b c hk ha hb hc ty lo le hi =>
   have h1:=ixR_lt (hR a zy1) ha;have h2:=(hF a).kd;have h3:=zcf ha ty;have e4:attrP (fdOf (lookS S d.uses) a) b=b.num-(fdOf (lookS S d.uses) a).min:=by unfold attrP;rw[if_neg om]
   have e5:attrP (fdOf (lookS S d.uses) a) c=c.num-(fdOf (lookS S d.uses) a).min:=by unfold attrP;rw[if_neg om]
   rw[at7 hk,e4,e5];intro y hy _;rw[List.mem_singleton]at hy;subst hy;refine⟨?_,?_,h1.1,h1.2,Int.le_refl _,?_,fun _=>rfl,?_,?_,?_,?_,?_⟩;all_goals try simp only
   all_goals try intro hq
   all_goals omega
 | word a b l hk hn ha hb ty hm =>
   have h1:=ixR_lt (hR a zy1) ha;have h2:=(hF a).kd;have e4:0≤attrP (fdOf (lookS S d.uses) a) b∧attrP (fdOf (lookS S d.uses) a) b≤64:=by
    unfold attrP;rw[if_pos hb];split
    ·rename_i q;have:=(idx_mem (memD_iff.1 q)).1;rcases h2 with⟨_,e,_⟩|⟨_,_,_,_,_⟩
     ·rw[e]at this;simp at this
     ·omega
    ·omega
   rw[at6 hk om];exact zt83
 | same a b l hk hn ha hb ta tb ne =>
   have h1:=ixR_lt (hR a zy1) ha;have h2:=ixR_lt (hR b zy1) hb;have h3:=ix_ne (hR a zy1) (hR b zy1) ha hb ne;have q1:(fdOf (lookS S d.uses) a).min=0:=by
    rcases(hF a).kd with q|q
    ·have:tyOf (lookS S d.uses) a=some .num∨tyOf (lookS S d.uses) a=none:=by
      rw[zb0 ha];have q0:=q.1;unfold fdOf at q0;cases hL:lookS S d.uses a with
      | none=>exact .inr rfl
      | some f=>rw[hL]at q0;simp only[Option.getD_some]at q0;simp[q0]
     rw[ta]at this;rcases this with e|e<;>cases e
    ·exact q.2.1
   have q2:(fdOf (lookS S d.uses) b).min=0:=by
    rcases(hF b).kd with q|q
    ·have:tyOf (lookS S d.uses) b=some .num∨tyOf (lookS S d.uses) b=none:=by
      rw[zb0 hb];have q0:=q.1;unfold fdOf at q0;cases hL:lookS S d.uses b with
      | none=>exact .inr rfl
      | some f=>rw[hL]at q0;simp only[Option.getD_some]at q0;simp[q0]
     rw[tb]at this;rcases this with e|e<;>cases e
    ·exact q.2.1
   rw[at9 hk hb,q1,q2];intro y hy _;unfold atR at hy;rw[if_neg om,if_neg om]at hy;split at hy
   ·simp only[Int.sub_self,if_true,List.mem_singleton]at hy;subst hy;exact okat_same (.inl rfl) h1.1 h1.2 h2.1 h2.2 h3
   ·simp only[Int.sub_self,if_true,List.mem_singleton]at hy;subst hy;exact okat_same (.inr rfl) h1.1 h1.2 h2.1 h2.2 h3
 | nums a b hk hn ha hb ta tb ne na nn =>
   have h1:=ixR_lt (hR a zy1) ha;have h2:=ixR_lt (hR b zy1) hb;have h3:=ix_ne (hR a zy1) (hR b zy1) ha hb ne;have ka:=zcf ha ta;have kb:=zcf hb tb;have fa:=(hF a).kd;have fb:=(hF b).kd;have g1:grP (fdOf (lookS S d.uses) a)=(fdOf (lookS S d.uses) a).max-(fdOf (lookS S d.uses) a).min:=by unfold grP;rw[if_neg om]
   have g2:grP (fdOf (lookS S d.uses) b)=(fdOf (lookS S d.uses) b).max-(fdOf (lookS S d.uses) b).min:=by unfold grP;rw[if_neg om]
   rw[at9 hk hb,g1,g2];generalize fdOf (lookS S d.uses) a=p at *;generalize fdOf (lookS S d.uses) b=q at *;generalize ixR R a=i at *;generalize ixR R b=j at *;intro y hy hd;unfold atR at hy;split at hy
   ·obtain⟨rfl,hl⟩:=dist_mem hy;exact zv3
   ·split at hy
    ·obtain⟨rfl,hl⟩:=dist_mem hy;exact zv3
    ·split at hy
     ·split at hy
      ·rw[List.mem_singleton]at hy;subst hy;exact okat_same (.inl rfl) h1.1 h1.2 h2.1 h2.2 h3
      ·obtain⟨rfl,hl⟩:=dist_mem hy;exact zv3
     ·split at hy
      ·rw[List.mem_singleton]at hy;subst hy;exact okat_same (.inr rfl) h1.1 h1.2 h2.1 h2.2 h3
      ·rcases List.mem_append.1 hy with hy|hy
       ·obtain⟨rfl,hl⟩:=dist_mem hy;exact zv3
       ·obtain⟨rfl,hl⟩:=dist_mem hy;exact zv3
end Nf
namespace Nf
open Pa (F Nd Tx leaf)
open Fm (G Gt gb truthP leavesP)
theorem ats_ok {S:List Sm} {d:Po} (h:zah chkB S d=true) {R:List Bp}:∀{g:F},Pf (lookS S d.uses) g→g.Ev (InR R)→∀y∈ats (lookS S d.uses) (ixR R) g,y.hi-y.lo≤4294967295→OkAt R.length y
 | .nil,_,_,y,hy=>by cases hy
 | .cons x k r,hP,hE,y,hy=>by
   rw[ats]at hy;rcases List.mem_append.1 hy with hy|hy
   ·rcases hP.1 with⟨e,-,-,hk⟩|e
    ·rw[if_pos e]at hy;exact ats_ok h hk hE.2.1 y hy
    ·have:=e.kind.1;rw[if_neg om]at hy;exact okat_of h e (evals hE.2.1) y hy
   ·exact ats_ok h hP.2 hE.2.2 y hy
theorem sq_ok {S:List Sm} {d:Po} (h:zah chkB S d=true) {R:List Bp} {x:Nd} {vs:List Nd} (hS:Shp (lookS S d.uses) x vs) (h7:x.kind=7) (hR:∀a∈vs,InR R a):∀y∈atP (lookS S d.uses) (ixR R) x vs,y.kind=2∧OkAt R.length y:=by
 intro y hy;have hO:=okat_of h hS hR y hy;cases hS with
 | rng a b c hk ha hb hc ty lo le hi =>
   have h2:=(look_ok h a).kd;have h3:=zcf ha ty;have e4:attrP (fdOf (lookS S d.uses) a) b=b.num-(fdOf (lookS S d.uses) a).min:=by unfold attrP;rw[if_neg om]
   have e5:attrP (fdOf (lookS S d.uses) a) c=c.num-(fdOf (lookS S d.uses) a).min:=by unfold attrP;rw[if_neg om]
   rw[at7 hk,e4,e5,List.mem_singleton]at hy;subst hy;exact⟨rfl,hO (by simp only;omega)⟩
 | _=>omega
theorem sqB7 {L:Look} {ix:Ix} {x:Nd} {vs:List Nd} (h:sqB L ix x vs=true):x.kind=7:=by
 unfold sqB at h;rw[Bool.and_eq_true,decide_eq_true_eq]at h;exact h.1
theorem sqs_ok {S:List Sm} {d:Po} (h:zah chkB S d=true) {R:List Bp}:∀{g:F},Pf (lookS S d.uses) g→g.Ev (InR R)→∀y∈sqs (lookS S d.uses) (ixR R) g,y.kind=2∧OkAt R.length y
 | .nil,_,_,y,hy=>by cases hy
 | .cons x k r,hP,hE,y,hy=>by
   rw[sqs]at hy;rcases List.mem_append.1 hy with hy|hy
   ·cases hq:sqB (lookS S d.uses) (ixR R) x (vals k)with
    | true =>
      rw[if_pos hq]at hy;exact sq_ok h (Pf.sq hP.1 hq) (sqB7 hq) (evals hE.2.1) y hy
    | false=>rw[hq]at hy;simp at hy
   ·exact sqs_ok h hP.2 hE.2.2 y hy
theorem top_sq {S:List Sm} {d:Po} (h:zah chkB S d=true) {R:List Bp} {x:Nd} {k:F} (hP:Pf (lookS S d.uses) (.cons x k .nil)) (hE:(F.cons x k .nil).Ev (InR R)):∀y∈(topP (lookS S d.uses) (ixR R) x k).1,y.kind=2∧OkAt R.length y:=by
 intro y hy;unfold topP at hy;split at hy
 ·rename_i hq;exact sq_ok h (Pf.sq hP.1 hq) (sqB7 hq) (evals hE.2.1) y hy
 ·split at hy
  ·rename_i h5;rcases hP.1 with⟨e,-,-,hk⟩|e
   ·exact sqs_ok h hk hE.2.1 y hy
   ·have:=e.kind;omega
  ·cases hy
def planP (S:List Sm) (U dis R:List Bp) (x:Nd) (k:F):PlD :=
 if x.kind=0 then⟨dis.map (plS S U),R.map (plS S U),[],[],[]⟩
 else⟨dis.map (plS S U),R.map (plS S U),ats (lookS S U) (ixR R) (topP (lookS S U) (ixR R) x k).2,fmP (lookS S U) (ixR R) (topP (lookS S U) (ixR R) x k).2,(topP (lookS S U) (ixR R) x k).1⟩
theorem place_inj {S:List Sm} {U:List Bp} {r q:Bp} {f g:Fd} (h1:findS S U r.1 r.2=some f) (h2:findS S U q.1 q.2=some g) (e:plS S U r=plS S U q):r=q:=by
 obtain⟨u,k,s,m,P⟩:=zbs h1;obtain⟨u2,k2,s2,m2,Q⟩:=zbs h2;obtain⟨r1,r2⟩:=r;obtain⟨q1,q2⟩:=q;unfold plS at e;injection e with e1 e2;have hu:u=u2:=by rw[P.un,Q.un];simp only at e1 ⊢;omega
 have hk:k=k2:=by rw[P.kn,Q.kn];simp only at e2 ⊢;omega
 subst hu;subst hk;have a1:=P.use;rw[Q.use]at a1;have a2:=Option.some.inj a1;injection a2 with a3 a4;simp only at a3;subst a4;have b1:=P.nm;rw[Q.nm]at b1;have b2:=Option.some.inj b1;subst b2;have nm:∀(t:ByteArray) (f:Fd),findF m2.fields t=some k→m2.fields[k]? =some f→f.name=t:=by
  intro t f hf ha;have h9:=findF_at m2.fields t;rw[hf,Option.bind_some,ha]at h9;have:=List.find?_some h9;simpa using this
 have c1:=P.at_;have c2:=Q.at_;rw[c1]at c2;have c3:=Option.some.inj c2;subst c3;have d1:=nm _ _ P.fld P.at_;have d2:=nm _ _ Q.fld Q.at_;simp only at d1 d2;rw[←d1,←d2,a3]
theorem twice_of {α:Type} [DecidableEq α]:∀(l S:List α),(S++l).Nodup→twiceP S l=false
 | [],S,_=>rfl
 | x::r,S,h=>by
   rw[twiceP,Bool.or_eq_false_iff];refine⟨?_,twice_of r (S++[x]) (by rw[List.append_assoc];exact h)⟩;rw[←Bool.not_eq_true,memD_iff];intro hx;rw[List.nodup_append]at h;exact h.2.2 x hx x (List.mem_cons_self ..) rfl
theorem nodup_twice {α:Type} [DecidableEq α]:∀(l S:List α),twiceP S l=false→S.Nodup→(S++l).Nodup
 | [],S,_,h=>by rw[List.append_nil];exact h
 | x::r,S,h,hS=>by
   rw[twiceP,Bool.or_eq_false_iff]at h;have:=nodup_twice r (S++[x]) h.2 (by
    rw[List.nodup_append];refine⟨hS,by simp,?_⟩;intro a ha b hb;rw[List.mem_singleton]at hb;subst hb;rintro rfl;have h1:=h.1;rw[memD_iff.2 ha]at h1;cases h1)
   rw[List.append_assoc]at this;exact this
theorem nodup_map {α β:Type} {f:α→β} {l:List α} (hl:l.Nodup) (hf:∀x∈l,∀y∈l,f x=f y→x=y):(l.map f).Nodup:=by
 induction l with
 | nil=>exact List.nodup_nil
 | cons x l ih =>
   rw[List.map_cons,List.nodup_cons];rw[List.nodup_cons]at hl;refine⟨fun h=>?_,ih hl.2 fun y hy z hz=>hf y (List.mem_cons_of_mem _ hy) z (List.mem_cons_of_mem _ hz)⟩;obtain⟨y,hy,e⟩:=List.mem_map.1 h;have:=hf y (List.mem_cons_of_mem _ hy) x (List.mem_cons_self ..) e;subst this;exact hl.1 hy
theorem uses_le {d:Po} (h:checkP d=0):d.uses.length≤4∧d.reveal.Nodup:=by
 unfold checkP at h
 repeat' split at h
 all_goals first|cases h|skip
 all_goals first|(exact absurd h zya)|skip
 rename_i h1 _ _ _ h2 _ _;refine⟨by omega,?_⟩;rw[not_or,Bool.not_eq_true,Bool.not_eq_true]at h2;exact nodup_twice d.reveal [] h2.2 List.nodup_nil
theorem place_rg {S:List Sm} {d:Po} (h:zah chkB S d=true) {r:Bp} {f:Fd} (hf:findS S d.uses r.1 r.2=some f):0≤(plS S d.uses r).1∧(plS S d.uses r).1<4∧2≤(plS S d.uses r).2∧(plS S d.uses r).2≤17:=by
 obtain⟨u,k,s,m,P⟩:=zbs hf;have h1:=(uses_le (zaw h).1).1;have h2:=(zbo ((zaw h).2 m (zbf P.nm))).2.1;have h3:=(List.getElem?_eq_some_iff.1 P.use).1;have h4:=(List.getElem?_eq_some_iff.1 P.at_).1;have e1:=P.un;have e2:=P.kn;unfold plS;simp only;omega
theorem plan_ok {S:List Sm} {d:Po} (h:zah chkB S d=true) {dis R:List Bp} {x:Nd} {k:F} (hP:x.kind≠0→Pf (lookS S d.uses) (.cons x k .nil)) (hE:(F.cons x k .nil).Ev (InR R)) (hs:(F.cons x k .nil).size≤250)
 (hdn:dis.Nodup) (hdl:dis.length≤64) (rP:∀r∈dis,(findS S d.uses r.1 r.2).isSome=true) (hrn:R.Nodup) (fJ:R.length≤64) (tw:∀r∈R,(findS S d.uses r.1 r.2).isSome=true)
 {Fs:List (List Int)} (hA:AdmF S d.uses Fs)
 (aH:(planP S d.uses dis R x k).ats.length≤256) (i8:(planP S d.uses dis R x k).sqs.length≤64) (hw:∀a∈(planP S d.uses dis R x k).ats,a.hi-a.lo≤4294967295):PlOk (planP S d.uses dis R x k):=by
 have ql:∀y∈dis.map (plS S d.uses)++R.map (plS S d.uses),0≤y.1∧y.1<4∧2≤y.2∧y.2≤17:=by
  intro y hy;rcases List.mem_append.1 hy with hy|hy
  ·obtain⟨r,hr,rfl⟩:=List.mem_map.1 hy;obtain⟨f,hf⟩:=Option.isSome_iff_exists.1 (rP r hr);exact place_rg h hf
  ·obtain⟨r,hr,rfl⟩:=List.mem_map.1 hy;obtain⟨f,hf⟩:=Option.isSome_iff_exists.1 (tw r hr);exact place_rg h hf
 have oK:∀(l:List Bp),l.Nodup→(∀r∈l,(findS S d.uses r.1 r.2).isSome=true)→twiceP [] (l.map (plS S d.uses))=false:=by
  intro l hn hf;refine twice_of _ [] (nodup_map hn fun r hr q hq e=>?_);obtain⟨f,h1⟩:=Option.isSome_iff_exists.1 (hf r hr);obtain⟨g,h2⟩:=Option.isSome_iff_exists.1 (hf q hq);exact place_inj h1 h2 e
 have htd:=oK dis hdn rP;have htc:=oK R hrn tw;unfold planP at aH i8 hw ⊢;by_cases h0:x.kind=0
 ·rw[if_pos h0]at aH i8 hw ⊢;have nil1:∀g∈([]:List Gt),g.kids.length≤512:=by simp
  have nil2:∀a∈([]:List At),OkAt (R.map (plS S d.uses)).length a:=by simp
  have nil3:∀a∈([]:List At),a.kind=2∧OkAt (R.map (plS S d.uses)).length a:=by simp
  exact⟨by simpa using hdl,by simpa using fJ,by simp,by simp,by simp,ql,htd,htc,nil1,by rfl,nil2,nil3⟩
 ·rw[if_neg h0]at aH i8 hw ⊢;have pO:=hP h0;simp only at aH i8 hw;obtain⟨t1,t2⟩:=top_pf (ix:=ixR R) pO;have t3:=top_ev (L:=lookS S d.uses) (ix:=ixR R) hE;have tQ:Two (lookS S d.uses) (ixR R) (topP (lookS S d.uses) (ixR R) x k).2:=by
   refine two_at (V:=R.map (valR S d.uses Fs)) (adm_of h hA) (okw_of h) t1 ?_;exact ev_mono (fun y hy=>vals_of hy) t3
  have h9:=fm_leaves t1 tQ om;have cf:∀g∈fmP (lookS S d.uses) (ixR R) (topP (lookS S d.uses) (ixR R) x k).2,g.kids.length≤512:=by
   have hz:=pf_size (ix:=ixR R) t1;intro g hg;unfold fmP at hg;split at hg
   ·cases hg
   ·split at hg
    ·have:=Fm.fl_kl _ _ _ g hg;omega
    ·have:=Fm.fl_kl _ _ _ g hg;simp only[G.size]at this;omega
  generalize hg:(topP (lookS S d.uses) (ixR R) x k).2=g at *;refine⟨by simpa using hdl,by simpa using fJ,i8,aH,(show(fmP (lookS S d.uses) (ixR R) g).length≤512 by have:=h9.2;omega),ql,htd,htc,cf,?_,?_,?_⟩
  ·show Fm.checkP (fmP (lookS S d.uses) (ixR R) g) ((ats (lookS S d.uses) (ixR R) g).length:Int)=0;unfold Fm.checkP;rw[h9.1];have:=h9.2;rw[if_neg om,if_neg zy1,if_neg zy1]
  ·intro a ha;simp only[List.length_map];exact ats_ok h t1 t3 a ha (hw a ha)
  ·intro a ha;simp only[List.length_map];exact top_sq h pO hE a ha
theorem plan_ev {S:List Sm} {d:Po} (h:zah chkB S d=true) {dis R:List Bp} {x:Nd} {k:F} (hP:x.kind≠0→Pf (lookS S d.uses) (.cons x k .nil)) (hE:(F.cons x k .nil).Ev (InR R)) {Fs:List (List Int)} (hA:AdmF S d.uses Fs) :
 planB (planP S d.uses dis R x k) (R.map (valR S d.uses Fs))=decide (cnt (lookS S d.uses) (valF S d.uses Fs) (.cons x k .nil)=1):=by
 unfold planP;by_cases h0:x.kind=0
 ·rw[if_pos h0];have:evO (lookS S d.uses) (valF S d.uses Fs) x (vals k) k.len (cnt (lookS S d.uses) (valF S d.uses Fs) k)=true:=by unfold evO;rw[if_pos h0]
  rw[cnt,this];simp[planB,cnt]
 ·rw[if_neg h0];have pO:=hP h0;have jO:=adm_of h hA;have kz:=okw_of h;have hV:(F.cons x k .nil).Ev (VS (lookS S d.uses) (valF S d.uses Fs) (ixR R) (R.map (valR S d.uses Fs))):=ev_mono (fun y hy=>vals_of hy) hE;have h1:=top_cnt jO kz pO hV;have h2:=fm_truth jO kz (top_pf (ix:=ixR R) pO).1 (top_ev (L:=lookS S d.uses) (ix:=ixR R) hV);have h3:decide (cnt (lookS S d.uses) (valF S d.uses Fs) (.cons x k .nil)=1)=(decide (cnt (lookS S d.uses) (valF S d.uses Fs) (topP (lookS S d.uses) (ixR R) x k).2=(topP (lookS S d.uses) (ixR R) x k).2.len)&&(topP (lookS S d.uses) (ixR R) x k).1.all (evA (R.map (valR S d.uses Fs)))):=by
   rw[decide_eq_decide.2 h1,Bool.decide_and,Bool.decide_eq_true,Bool.and_comm]
  rw[h3,←decide_eq_decide.2 h2];unfold planB;simp only;rw[Bool.decide_or,Bool.decide_eq_true]
end Nf
end Go.Proofs.YtekkapgknohadaaGreatDoor
