/- normal: the nodes of a condition in preorder (gate.write, atom.write). -/
import Derived.Test.YtekkapgknohadaaGreatDoorM22
set_option linter.unusedVariables false
set_option maxRecDepth 20000
set_option maxHeartbeats 16000000
open Go.Proofs.Tryz
namespace Go.Proofs.YtekkapgknohadaaGreatDoor
namespace Nf
open Go.RowKit Go.Shelf
open Lib (hid)
open Pa (F Nd)
def WrOut (w0:World) (f:F) (P:List NV) (it:List It) (e:Ending) (w':World):Prop:=∃(Q:List NV) (v':Value),Q.map Prod.fst=f.num P.length∧e=.returned v'∧Hp [] w0 (inodes v' (P++Q)::(krows Q++it)) w'
def Wr1 (w0:World) (x:Nd) (ks:F) (v:Value):Prop:=∀(T:TypeId) (pl:Value),v=.iface T pl→∀(P:List NV) (v0:Value) (it:List It) (w:World),P.length+(F.cons x ks .nil).size≤100000→Hp [] w0 (inodes v0 P::it) w →
 (x.kind=5→Calls prog 290 #[pl,v0] w (WrOut w0 (F.cons x ks .nil) P it)) ∧
 (x.kind≠5→Calls prog 289 #[pl,v0] w (WrOut w0 (F.cons x ks .nil) P it))
def WrAll (w0:World):F→List Value→Prop
 | .cons x ks r,v::us=>Wr1 w0 x ks v∧WrAll w0 r us
 | _,_=>True
structure WrI (B:Nat) (w0:World) (ks:F) (ws:List Value) (n:Nat) (a b:F) (vb:List Value) (Q:List NV):Prop where
 eq:ks=a.app b
 cb:CvM B w0 b vb
 dr:ws.drop a.len=vb
 wr:WrAll w0 b vb
 q:Q.map Prod.fst=a.num (n+1)
theorem WrI.step {B:Nat} {w0:World} {ks:F} {ws:List Value} {n:Nat} {a:F} {x:Nd} {k r:F} {v:Value} {us:List Value} {Q Q2:List NV} (h:WrI B w0 ks ws n a (.cons x k r) (v::us) Q) (hq:Q2.map Prod.fst=(F.cons x k .nil).num (n+1+Q.length)) :
 ws[a.len]? =some v∧(a.app (.cons x k .nil)).len=a.len+1∧WrI B w0 ks ws n (a.app (.cons x k .nil)) r us (Q++Q2):=by
 have hl:(a.app (.cons x k .nil)).len=a.len+1:=by rw[F.len_app];rfl
 obtain⟨v',us',e1,c1,c2⟩:=h.cb;injection e1 with e1 e2;subst e1 e2;have hQ:Q.length=a.size:=by
  have:=congrArg List.length h.q;rwa[List.length_map,F.num_len]at this
 refine⟨?_,hl,⟨by rw[F.app_assoc,h.eq];rfl,c1,?_,h.wr.2,?_⟩⟩
 ·have:=congrArg (fun l=>l[0]?) h.dr;simpa using this
 ·rw[hl,←List.drop_drop,h.dr];rfl
 ·rw[F.num_app,List.map_append,h.q,hq,hQ]
theorem nats_snoc {a:F} {x:Nd} {k:F} {n q:Nat} (hq:q=a.size):nats ((a.app (.cons x k .nil)).idx (n+1))=nats (a.idx (n+1))++[.int .i64 ((n:Int)+1+(q:Int))]:=by
 rw[F.idx_app,hq];show nats (_++[n+1+a.size])=_;simp[nats]
theorem gwrite_any (B:Nat) (w0:World) (k5:Int) (ks:F) (A:Option Addr) (c:Nat) (ws:List Value) (hV:Vls B w0 A ws) (hC:CvM B w0 ks ws) (ih:WrAll w0 ks ws) (P:List NV) (v0:Value) (it:List It) (w:World) (hb:P.length+(F.cons ⟨5,k5,[],[],0⟩ ks .nil).size≤100000) (ar:Hp [] w0 (inodes v0 P::it) w) :
 Calls prog 290 #[.agg #[.int .i64 k5,.slice A ws.length c],v0] w (WrOut w0 (F.cons ⟨5,k5,[],[],0⟩ ks .nil) P it):=by
 obtain⟨OA,oc,rfl⟩:=zab (ar.row 0 rfl);obtain⟨i0,aL,bg,aY,bh⟩:=info_parts node_info;obtain⟨j0,bT,dE,fB,dH⟩:=info_parts int_info;have ff:ws.length=ks.len:=hC.len;have jy:(F.cons (⟨5,k5,[],[],0⟩:Nd) ks .nil).size=ks.size+0+1:=rfl;have fC:=F.len_size ks;have aC:P.length≤99999:=om;have bk:ks.len≤100000:=om;have HB:=hid hb;have iI:=hid ff;have an:=ar.new 237 [.int .i64 k5,.slice A ws.length c];clear hb jy fC ff;go_enter func290,ntmps290;go_upto_region 1 with fail;generalize w.alloc (.cells #[.int .i64 k5,.slice A ws.length c] 237)=W1 at *;generalize w.heap.size=gb at *;have d0:=(an.blk 0 rfl).cell 0;have d1:=(an.blk 0 rfl).cell 1;simp only[List.getElem?_cons_zero,List.getElem?_cons_succ]at d0 d1;go_wp2_with (at_builtin;refine zac rfl _ _ 27 rfl 0 68 i0 _ 6 80 underlying27 aL bg aY bh rfl zy0 _ P.length (zag P) rfl ((an.alloc _).row 1 rfl) ⟨W1.heap.size,0,none⟩ 1 1 [.int .i64 5,.int .i64 k5,.string ⟨#[]⟩,.string ⟨#[]⟩,.slice none 0 0,.int .i64 0] rfl rfl (new6p _ _ _ _ _ _ _ _) zyd zy0 zy2 om (Nat.zero_le _) ?_;intro v' w1 af ai aH;obtain⟨A1,c1,rfl⟩:=zab af;have ah:=(an.alloc (.cells #[.int .i64 5,.int .i64 k5,.string ⟨#[]⟩,.string ⟨#[]⟩,.slice none 0 0,.int .i64 0] 68)).grown 1 rfl af ai aH;(have d0:=(ah.blk 0 rfl).cell 0);(have d1:=(ah.blk 0 rfl).cell 1);simp only[List.getElem?_cons_zero,List.getElem?_cons_succ]at d0 d1;clear af ai aH);have aj:Hp [] w0 (inodes (.slice A1 (P.length+1) c1) (P++[nv0 ⟨5,k5,[],[],0⟩])::inats (.slice none 0 0) []::(krows []++it)) w1:=by
  have h1:=ah.tail.nilrow 3 1;have e1:(P++[nv0 (⟨5,k5,[],[],0⟩:Nd)]).length=P.length+1:=by simp
  have e2:zag (P++[nv0 (⟨5,k5,[],[],0⟩:Nd)])=zag P++[.int .i64 5,.int .i64 k5,.string ⟨#[]⟩,.string ⟨#[]⟩,.slice none 0 0,.int .i64 0]:=by rw[zcr];rfl
  unfold inodes;rw[e1,e2];exact h1.perm (List.Perm.swap _ _ _)
 clear ah an ar d0 d1;go_loopg [1,6,20] (ks.len+1) (fun m s1 s6 p9 wx=>∃(a b:F) (Q:List NV) (vb:List Value) (OA VK:Option Addr) (oc vc:Nat),m=b.len+1∧s1=.slice OA (P.length+1+Q.length) oc∧s6=.slice VK a.len vc∧p9=.int .i64 (a.len:Int)∧Hid (WrI B w0 ks ws P.length a b vb Q)∧Hp [] w0 (inodes (.slice OA (P.length+1+Q.length) oc) (P++[nv0 ⟨5,k5,[],[],0⟩]++Q)::inats (.slice VK a.len vc) (a.idx (P.length+1))::(krows Q++it)) wx);case atStart=>exact⟨.nil,ks,[],ws,A1,none,c1,0,rfl,rfl,rfl,rfl,hid ⟨rfl,hC,rfl,ih,rfl⟩,by rw[List.append_nil];exact aj⟩
 case round =>
  obtain⟨a,b,Q,vb,OA,VK,oc,vc,rfl,rfl,rfl,rfl,HI,hM⟩:=hrel;clear aj hC ih;cases b with
  | nil =>
    have jt:ks=a:=by rw[HI.out.eq,F.app_nil]
    have hd:decide ((a.len:Int)<(ws.length:Int))=false:=by rw[iI.out,jt];simp
    have mO:¬(a.len:Int)<(ws.length:Int):=by simpa using hd
    have uK:=hid jt;clear jt;have aD:(P++[nv0 ⟨5,k5,[],[],0⟩]++Q).length=P.length+1+Q.length:=by simp;omega
    have cA:=zb2 (hM.row 0 rfl) aD;obtain⟨go,oc',fS,-⟩:=zak cA om;have me:OA=some ⟨go,0,none⟩:=by injection fS
    subst me;clear fS;have e:zag (P++[nv0 ⟨5,k5,[],[],0⟩]++Q)=zag P++(ncs ⟨5,k5,[],[],0⟩++zag Q):=by simp[zag]
    have lm:wr.cell? ⟨go,P.length*6+4,none⟩=some (.slice none 0 0):=zal cA (by
     rw[e,List.getElem?_append_right zu6,za0,Nat.add_sub_cancel_left];rfl)
    have oI:=zbw cA (P.length*6+4);have pp:(P.length:Int)<(P.length:Int)+1+(Q.length:Int):=om;have az:Hp [] w0 (irow 68 6 (.slice (some ⟨go,0,none⟩) (P.length+1+Q.length) oc) (P.length+1+Q.length) (zag (P++[nv0 ⟨5,k5,[],[],0⟩]++Q))::inats (.slice VK a.len vc) (a.idx (P.length+1))::(krows Q++it)) wr:=by
     have h1:=hM;unfold inodes at h1;rw[aD]at h1;exact h1
    have ay:(a.idx (P.length+1)).length=a.len:=F.idx_len a _;have HM:=hid (az.rowset 0 rfl (P.length*6+4) om (.slice VK a.len vc));have HL:=hid (And.intro aD (And.intro e ay));clear hM az cA e aD ay hd;go_wp2_with fail;go_ret;refine⟨((⟨5,k5,[],[],0⟩,a.idx (P.length+1)),(VK,vc))::Q,_,?_,rfl,?_⟩
    ·rw[List.map_cons,HI.out.q,uK.out];show _=(_,_)::(a.num (P.length+1)++[]);rw[List.append_nil]
    ·have h1:=HM.out;have e2:(P++((⟨5,k5,[],[],0⟩,a.idx (P.length+1)),(VK,vc))::Q).length=P.length+1+Q.length:=by simp;omega
     have e3:(zag (P++[nv0 ⟨5,k5,[],[],0⟩]++Q)).set (P.length*6+4) (.slice VK a.len vc)=zag (P++((⟨5,k5,[],[],0⟩,a.idx (P.length+1)),(VK,vc))::Q):=by
      rw[HL.out.2.1,List.set_append_right _ _ zu6,za0,Nat.add_sub_cancel_left];have e4:zag (P++((⟨5,k5,[],[],0⟩,a.idx (P.length+1)),(VK,vc))::Q)=zag P++(nvc ((⟨5,k5,[],[],0⟩,a.idx (P.length+1)),(VK,vc))++zag Q):=by simp[zag]
      rw[e4];show _=zag P++([_,_,_,_,.slice VK (a.idx (P.length+1)).length vc,_]++zag Q);rw[HL.out.2.2];rfl
     unfold inodes;rw[e2,←e3];refine h1.perm (List.Perm.cons _ ?_);show(inats (.slice VK a.len vc) (a.idx (P.length+1))::(krows Q++it)).Perm (inats (.slice VK (a.idx (P.length+1)).length vc) (a.idx (P.length+1))::(krows Q++it));rw[HL.out.2.2]
  | cons x2 k2 r2 =>
    obtain⟨v,us,hvb,gD,dQ⟩:=HI.out.cb;subst hvb;have fV:ws[a.len]? =some v:=by
     have:=congrArg (fun l=>l[0]?) HI.out.dr;simpa using this
    have aQ:(a.len:Int)<(ws.length:Int):=by have:=(List.getElem?_eq_some_iff.1 fV).1;omega
    have gK:(0:Int)≤(a.len:Int):=om;obtain⟨ad,hA,-,pF⟩:=hV a.len v fV;subst hA;have lK:=zaa pF hM.below0;have jh:Q.length=a.size:=by
     have:=congrArg List.length HI.out.q;rwa[List.length_map,F.num_len]at this
    have cL:ks.size=a.size+(k2.size+r2.size+1):=by rw[HI.out.eq,F.size_app];rfl
    have eQ:a.len≤a.size:=F.len_size a;have pY:(P++[nv0 (⟨5,k5,[],[],0⟩:Nd)]++Q).length+(F.cons x2 k2 .nil).size≤100000:=by
     have h1:(F.cons x2 k2 .nil).size=k2.size+0+1:=rfl;have h2:(F.cons (⟨5,k5,[],[],0⟩:Nd) ks .nil).size=ks.size+0+1:=rfl;have h3:=HB.out;exact zt78
    have hwb:ws.length≤100000:=by have:=iI.out;omega
    have hQb:Q.length≤100000:=by have:=HB.out;have h2:(F.cons (⟨5,k5,[],[],0⟩:Nd) ks .nil).size=ks.size+0+1:=rfl;omega
    have HN:=hid HI.out.wr.1;have dY:=nats_snoc (x:=x2) (k:=k2) (n:=P.length) jh;have ay:((a.app (.cons x2 k2 .nil)).idx (P.length+1)).length=a.len+1:=by rw[F.idx_len,F.len_app];rfl
    have nN:=hid (And.intro dY ay);have rX:=hid pY;clear cL eQ pY dY ay fV pF jh;have hve:(x2.kind=5∧∃pl,v=.iface 237 pl)∨(x2.kind≠5∧∃pl,v=.iface 235 pl):=by
     by_cases h5:x2.kind=5
     ·rw[if_pos h5]at dQ;obtain⟨-,A2,c2,ws2,e,-⟩:=dQ;exact .inl ⟨h5,_,e⟩
     ·rw[if_neg h5]at dQ;obtain⟨-,A2,c2,e,-⟩:=dQ;exact .inr ⟨h5,_,e⟩
    clear gD dQ;rcases hve with⟨h5,pl,rfl⟩|⟨h5,pl,rfl⟩;all_goals
     have H5:=hid h5;clear h5;go_wp2_with (at_builtin;refine zac rfl _ _ 61 rfl 0 3 j0 _ 1 8 underlying61 bT dE fB dH rfl zy0 _ a.len (nats (a.idx (P.length+1))) rfl (zb2 ((hM.alloc _).row 1 rfl) (by rw[F.idx_len])) ⟨wr.heap.size,0,none⟩ 1 1 [.int .i64 ((P.length:Int)+1+(Q.length:Int))] rfl rfl (new1p _ _ _) zy3 zy0 zy2 om (Nat.zero_le _) ?_;intro v' w3 af ai aH);obtain⟨dn,du,rfl⟩:=zab af;have az:=(hM.alloc (.cells #[.int .i64 ((P.length:Int)+1+(Q.length:Int))] 3)).grown 1 rfl af ai aH;clear af ai aH lK;have aR:Hp [] w0 (inodes (.slice OA (P.length+1+Q.length) oc) (P++[nv0 ⟨5,k5,[],[],0⟩]++Q)::(inats (.slice dn (a.len+1) du) ((a.app (.cons x2 k2 .nil)).idx (P.length+1))::(krows Q++it))) w3:=by
      unfold inats;rw[nN.out.1,nN.out.2];exact az
     have aD:(P++[nv0 (⟨5,k5,[],[],0⟩:Nd)]++Q).length=P.length+1+Q.length:=by simp;omega
     clear az hM;first
      | refine((HN.out _ _ rfl (P++[nv0 ⟨5,k5,[],[],0⟩]++Q) _ _ w3 rX.out aR).1 H5.out).mono ?_
      | refine((HN.out _ _ rfl (P++[nv0 ⟨5,k5,[],[],0⟩]++Q) _ _ w3 rX.out aR).2 H5.out).mono ?_
     rintro e w4 ⟨Q2,v2,iA,rfl,bn⟩;obtain⟨jq,iY,rfl⟩:=zab (bn.row 0 rfl);have HX:=hid (HI.out.step (Q2:=Q2) (by rw[iA,aD]));have bE:Hp [] w0 (inodes (.slice jq (P.length+1+(Q++Q2).length) iY) (P++[nv0 ⟨5,k5,[],[],0⟩]++(Q++Q2))::inats (.slice dn (a.len+1) du) ((a.app (.cons x2 k2 .nil)).idx (P.length+1))::(krows (Q++Q2)++it)) w4:=by
      have e1:(P++[nv0 (⟨5,k5,[],[],0⟩:Nd)]++Q++Q2).length=P.length+1+(Q++Q2).length:=by simp;omega
      have h1:=bn;rw[e1]at h1;rw[←List.append_assoc (P++[nv0 _]),krows_app];refine h1.perm (List.Perm.cons _ ?_);have h2:=(List.perm_append_comm (l₁:=krows Q2) (l₂:=inats (.slice dn (a.len+1) du) ((a.app (.cons x2 k2 .nil)).idx (P.length+1))::krows Q)).append_right it;simp only[List.append_assoc,List.cons_append]at h2 ⊢;exact h2
     have e1:(P++[nv0 (⟨5,k5,[],[],0⟩:Nd)]++Q++Q2).length=P.length+1+(Q++Q2).length:=by simp;omega
     rw[e1];clear bn aR e1 aD iA HI;generalize oZ:Q++Q2=Q3 at *;clear oZ;go_wp2_with fail;go_roundg (r2.len+1);case measure =>
      show r2.len+1<r2.len+1+1;omega
     case rel =>
      refine⟨a.app (.cons x2 k2 .nil),r2,Q3,us,jq,dn,iY,du,rfl,rfl,?_,?_,hid HX.out.2.2,?_⟩
      ·rw[HX.out.2.1]
      ·rw[HX.out.2.1];rfl
      ·rw[HX.out.2.1];exact bE
theorem lv_app:∀{a b:F},Lv (a.app b)→Lv a∧Lv b
 | .nil,b,h=>⟨trivial,h⟩
 | .cons x k r,b,h=>⟨⟨h.1,h.2.1,(lv_app h.2.2).1⟩,(lv_app h.2.2).2⟩
theorem lv_size:∀{a:F},Lv a→a.size=a.len
 | .nil,_=>rfl
 | .cons x k r,h=>by
   obtain⟨-,h2,h3⟩:=h;subst h2;rw[F.size,F.len,lv_size h3];show 0+_+1=_;omega
structure LvI (ks:F) (n:Nat) (a b:F) (Q:List NV):Prop where
 eq:ks=a.app b
 la:Lv a
 lb:Lv b
 q:Q.map Prod.fst=a.num (n+1)
theorem LvI.step {ks:F} {n:Nat} {a:F} {y:Nd} {k r:F} {Q:List NV} (h:LvI ks n a (.cons y k r) Q) :
 (vals ks)[a.len]? =some y∧(a.app (.cons y .nil .nil)).len=a.len+1∧Q.length=a.size∧y.at_=0∧LvI ks n (a.app (.cons y .nil .nil)) r (Q++[nv0 y]):=by
 obtain⟨h1,h2,h3⟩:=h.lb;subst h2;have hQ:Q.length=a.size:=by
  have:=congrArg List.length h.q;rwa[List.length_map,F.num_len]at this
 refine⟨?_,by rw[F.len_app];rfl,hQ,h1,⟨by rw[F.app_assoc,h.eq];rfl,?_,h3,?_⟩⟩
 ·rw[h.eq,vals_app,List.getElem?_append_right (by rw[za6];omega),za6,Nat.sub_self];rfl
 ·have:∀{a:F},Lv a→Lv (a.app (.cons y .nil .nil)):=by
   intro a
   induction a with
   | nil=>intro _;exact⟨h1,rfl,trivial⟩
   | cons z l r _ ih=>intro h;exact⟨h.1,h.2.1,ih h.2.2⟩
  exact this h.la
 ·rw[F.num_app,List.map_append,h.q];rfl
theorem awrite_any (B:Nat) (w0:World) (x:Nd) (dg:x.at_=0) (ks:F) (hL:Lv ks) (A:Option Addr) (c:Nat) (hV:Vats B w0 A (vals ks)) (P:List NV) (v0:Value) (it:List It) (w:World) (hb:P.length+(F.cons x ks .nil).size≤100000) (ar:Hp [] w0 (inodes v0 P::it) w) :
 Calls prog 289 #[.agg #[.int .i64 (x.kind:Int),.int .i64 x.num,.string (bs x.name),.string (bs x.attr),.slice none 0 0,.int .i64 0,.slice A (vals ks).length c],v0] w (WrOut w0 (F.cons x ks .nil) P it):=by
 obtain⟨OA,oc,rfl⟩:=zab (ar.row 0 rfl);obtain⟨i0,aL,bg,aY,bh⟩:=info_parts node_info;obtain⟨j0,bT,dE,fB,dH⟩:=info_parts int_info;have ff:(vals ks).length=ks.len:=za6 ks;have jy:(F.cons x ks .nil).size=ks.size+0+1:=rfl;have fC:=lv_size hL;have aC:P.length≤99999:=om;have bk:ks.len≤100000:=om;have HB:=hid hb;have iI:=hid ff;have iO:=hid fC;have HL:=hid hL;obtain⟨xk,xn,xm,xt,xa⟩:=x;simp only at dg;subst dg;have an:=ar.new 235 [.int .i64 (xk:Int),.int .i64 xn,.string (bs xm),.string (bs xt),.slice none 0 0,.int .i64 0,.slice A (vals ks).length c];clear hb jy fC ff hL;go_enter func289,ntmps289;go_upto_region 1 with fail;generalize w.alloc (.cells #[.int .i64 (xk:Int),.int .i64 xn,.string (bs xm),.string (bs xt),.slice none 0 0,.int .i64 0,.slice A (vals ks).length c] 235)=W1 at *;generalize w.heap.size=gb at *;obtain⟨d0,d1,d2,d3,d4,d5,d6⟩:=(an.blk 0 rfl).get7;go_wp2_with (at_builtin;refine zac rfl _ _ 27 rfl 0 68 i0 _ 6 80 underlying27 aL bg aY bh rfl zy0 _ P.length (zag P) rfl ((an.alloc _).row 1 rfl) ⟨W1.heap.size,0,none⟩ 1 1 [.int .i64 (xk:Int),.int .i64 xn,.string (bs xm),.string (bs xt),.slice none 0 0,.int .i64 0] rfl rfl (new6p _ _ _ _ _ _ _ _) zyd zy0 zy2 om (Nat.zero_le _) ?_;intro v' w1 af ai aH;obtain⟨A1,c1,rfl⟩:=zab af;have ah:=(an.alloc (.cells #[.int .i64 (xk:Int),.int .i64 xn,.string (bs xm),.string (bs xt),.slice none 0 0,.int .i64 0] 68)).grown 1 rfl af ai aH;obtain⟨d0,d1,d2,d3,d4,d5,d6⟩:=(ah.blk 0 rfl).get7;clear af ai aH);have aj:Hp [] w0 (inodes (.slice A1 (P.length+1) c1) (P++[((⟨xk,xn,xm,xt,0⟩,[]),(none,0))])::inats (.slice none 0 0) []::(krows []++it)) w1:=by
  have h1:=ah.tail.nilrow 3 1;have e1:(P++[(((⟨xk,xn,xm,xt,0⟩:Nd),[]),(none,0))]:List NV).length=P.length+1:=by simp
  have e2:zag (P++[(((⟨xk,xn,xm,xt,0⟩:Nd),[]),(none,0))])=zag P++[.int .i64 (xk:Int),.int .i64 xn,.string (bs xm),.string (bs xt),.slice none 0 0,.int .i64 0]:=by rw[zcr];rfl
  unfold inodes;rw[e1,e2];exact h1.perm (List.Perm.swap _ _ _)
 clear ah an ar d0 d1 d2 d3 d4 d5 d6;go_loopg [1,18] (ks.len+1) (fun m s1 kE wx=>∃(a b:F) (Q:List NV) (OA VK:Option Addr) (oc vc:Nat),m=b.len+1∧s1=.slice OA (P.length+1+Q.length) oc∧kE=.int .i64 (a.len:Int)∧Hid (LvI ks P.length a b Q)∧Hp [] w0 (inodes (.slice OA (P.length+1+Q.length) oc) (P++[((⟨xk,xn,xm,xt,0⟩,a.idx (P.length+1)),(VK,vc))]++Q)::inats (.slice VK a.len vc) (a.idx (P.length+1))::(krows Q++it)) wx);case atStart=>exact⟨.nil,ks,[],A1,none,c1,0,rfl,rfl,rfl,hid ⟨rfl,trivial,HL.out,rfl⟩,by rw[List.append_nil];exact aj⟩
 case round =>
  obtain⟨a,b,Q,OA,VK,oc,vc,rfl,rfl,rfl,HI,hM⟩:=hrel;clear aj;have ay:(a.idx (P.length+1)).length=a.len:=F.idx_len a _;have aD:(P++[(((⟨xk,xn,xm,xt,0⟩:Nd),a.idx (P.length+1)),(VK,vc))]++Q).length=P.length+1+Q.length:=by simp;omega
  cases b with
  | nil =>
    have jt:ks=a:=by rw[HI.out.eq,F.app_nil]
    have mO:¬(a.len:Int)<((vals ks).length:Int):=by rw[iI.out,jt];omega
    have uK:=hid jt;clear jt;have HM:=hid hM;have HE:=hid (And.intro ay aD);clear hM ay aD;go_wp2_with fail;go_ret;refine⟨((⟨xk,xn,xm,xt,0⟩,a.idx (P.length+1)),(VK,vc))::Q,_,?_,rfl,?_⟩
    ·rw[List.map_cons,HI.out.q,uK.out];show _=(_,_)::(a.num (P.length+1)++[]);rw[List.append_nil]
    ·have h1:=HM.out;rw[List.append_assoc]at h1;refine h1.perm (List.Perm.cons _ ?_);show(inats (.slice VK a.len vc) (a.idx (P.length+1))::(krows Q++it)).Perm (inats (.slice VK (a.idx (P.length+1)).length vc) (a.idx (P.length+1))::(krows Q++it));rw[HE.out.1]
  | cons y k r =>
    obtain⟨fV,eQ,jh,hya,cS⟩:=HI.out.step;have aQ:(a.len:Int)<((vals ks).length:Int):=by have:=(List.getElem?_eq_some_iff.1 fV).1;omega
    have gK:(0:Int)≤(a.len:Int):=om;obtain⟨ad,hA,-,hY0⟩:=hV a.len y fV;subst hA;have hY:=hY0.up hM.below0;obtain⟨y0,y1,y2,y3,⟨YA,yn,yc,y4⟩,⟨yk,y5⟩⟩:=hY;have aA:=hM.new 68 [.int .i64 (y.kind:Int),.int .i64 y.num,.string (bs y.name),.string (bs y.attr),.slice YA yn yc,.int .i64 yk];have hQb:Q.length≤100000:=by
     have h1:ks.len=a.len+(r.len+1):=by rw[HI.out.eq,F.len_app];rfl
     have:=lv_size HI.out.la;omega
    have dY:=nats_snoc (x:=y) (k:=.nil) (n:=P.length) jh;have fh:((a.app (.cons y .nil .nil)).idx (P.length+1)).length=a.len+1:=by rw[F.idx_len,F.len_app];rfl
    have nN:=hid (And.intro dY fh);have HX:=hid cS;have HAL:=hid eQ;have oR:r.len+1<(F.cons y k r).len+1:=by show r.len+1<r.len+1+1;omega
    have HLT:=hid oR;have dt:a.len≤100000:=by have:=lv_size HI.out.la;omega
    have mb:=hid jh;clear dY fh cS fV hY0 eQ oR jh;go_upto_region 6 with fail;generalize wr.alloc (.cells #[.int .i64 (y.kind:Int),.int .i64 y.num,.string (bs y.name),.string (bs y.attr),.slice YA yn yc,.int .i64 yk] 68)=W2 at *;generalize wr.heap.size=g2 at *;clear y0 y1 y2 y3 y4 y5 hM;obtain⟨go,oc',fS,-⟩:=zak (zb2 (aA.row 1 rfl) aD) om;have me:OA=some ⟨go,0,none⟩:=by injection fS
    subst me;clear fS;have he:zag (P++[((⟨xk,xn,xm,xt,0⟩,a.idx (P.length+1)),(VK,vc))]++Q)=zag P++(nvc ((⟨xk,xn,xm,xt,0⟩,a.idx (P.length+1)),(VK,vc))++zag Q):=by simp[zag]
    have h4:(zag (P++[((⟨xk,xn,xm,xt,0⟩,a.idx (P.length+1)),(VK,vc))]++Q))[P.length*6+4]? =some (.slice VK a.len vc):=by
     rw[he,List.getElem?_append_right zu6,za0,Nat.add_sub_cancel_left,←ay];rfl
    have lm:W2.cell? ⟨go,P.length*6+4,none⟩=some (.slice VK a.len vc):=zal (zb2 (aA.row 1 rfl) aD) h4;have pp:(P.length:Int)<(P.length:Int)+1+(Q.length:Int):=om;have HH4:=hid (And.intro he h4);clear he h4;go_upto_region 7 with(at_builtin;refine zac rfl _ _ 61 rfl 0 3 j0 _ 1 8 underlying61 bT dE fB dH rfl zy0 _ a.len (nats (a.idx (P.length+1))) rfl (zb2 ((aA.alloc _).row 2 rfl) ay) ⟨W2.heap.size,0,none⟩ 1 1 [.int .i64 ((P.length:Int)+1+(Q.length:Int))] rfl rfl (new1p _ _ _) zy3 zy0 zy2 om (Nat.zero_le _) ?_;intro v' w3 af ai aH;obtain⟨dn,du,rfl⟩:=zab af;have az:=(aA.alloc (.cells #[.int .i64 ((P.length:Int)+1+(Q.length:Int))] 3)).grown 2 rfl af ai aH;(have lm:=zal (zb2 (az.row 1 rfl) aD) HH4.out.2);(have oI:=zbw (zb2 (az.row 1 rfl) aD) (P.length*6+4));clear af ai aH);have je:(P++[(((⟨xk,xn,xm,xt,0⟩:Nd),(a.app (.cons y .nil .nil)).idx (P.length+1)),(dn,du))]++Q:List NV).length=P.length+1+Q.length:=by simp;omega
    have bn:Hp [] w0 (iblk g2 68 [.int .i64 (y.kind:Int),.int .i64 y.num,.string (bs y.name),.string (bs y.attr),.slice YA yn yc,.int .i64 yk]::inodes (.slice (some ⟨go,0,none⟩) (P.length+1+Q.length) oc) (P++[(((⟨xk,xn,xm,xt,0⟩:Nd),(a.app (.cons y .nil .nil)).idx (P.length+1)),(dn,du))]++Q)::inats (.slice dn (a.len+1) du) ((a.app (.cons y .nil .nil)).idx (P.length+1))::(krows Q++it)) (w3.setCell ⟨go,P.length*6+4,none⟩ (.slice dn (a.len+1) du)):=by
     have h1:=az;unfold inodes at h1;rw[aD]at h1;have h2:=h1.rowset 1 rfl (P.length*6+4) om (.slice dn (a.len+1) du);have e3:(zag (P++[((⟨xk,xn,xm,xt,0⟩,a.idx (P.length+1)),(VK,vc))]++Q)).set (P.length*6+4) (.slice dn (a.len+1) du)=zag (P++[(((⟨xk,xn,xm,xt,0⟩:Nd),(a.app (.cons y .nil .nil)).idx (P.length+1)),(dn,du))]++Q):=by
      rw[HH4.out.1,List.set_append_right _ _ zu6,za0,Nat.add_sub_cancel_left];have e4:zag (P++[(((⟨xk,xn,xm,xt,0⟩:Nd),(a.app (.cons y .nil .nil)).idx (P.length+1)),(dn,du))]++Q)=zag P++(nvc (((⟨xk,xn,xm,xt,0⟩:Nd),(a.app (.cons y .nil .nil)).idx (P.length+1)),(dn,du))++zag Q):=by simp[zag]
      rw[e4];show _=zag P++([_,_,_,_,.slice dn ((a.app (.cons y .nil .nil)).idx (P.length+1)).length du,_]++zag Q);rw[nN.out.2];rfl
     unfold inodes inats;rw[je,←e3,nN.out.1,nN.out.2];exact h2
    clear az lm oI;generalize w3.setCell ⟨go,P.length*6+4,none⟩ (.slice dn (a.len+1) du)=W5 at *;obtain⟨x0,x1,x2,x3,x4,x5⟩:=Blk.get6 (bn.blk 0 rfl);have pH:=hid je;have HL1:=hid aD;clear aD je;go_wp2_with (at_builtin;refine zac rfl _ _ 27 rfl 0 68 i0 _ 6 80 underlying27 aL bg aY bh rfl zy0 _ (P.length+1+Q.length) (zag (P++[(((⟨xk,xn,xm,xt,0⟩:Nd),(a.app (.cons y .nil .nil)).idx (P.length+1)),(dn,du))]++Q)) rfl (zb2 ((bn.alloc _).row 1 rfl) pH.out) ⟨W5.heap.size,0,none⟩ 1 1 [.int .i64 (y.kind:Int),.int .i64 y.num,.string (bs y.name),.string (bs y.attr),.slice none 0 0,.int .i64 0] rfl rfl (new6p _ _ _ _ _ _ _ _) zyd zy0 zy2 om (Nat.zero_le _) ?_;intro v' w6 af ai aH;obtain⟨OA3,oc3,rfl⟩:=zab af;have cz:=((bn.alloc (.cells #[.int .i64 (y.kind:Int),.int .i64 y.num,.string (bs y.name),.string (bs y.attr),.slice none 0 0,.int .i64 0] 68)).grown 1 rfl af ai aH).tail;clear af ai aH bn);have iL:Hp [] w0 (inodes (.slice OA3 (P.length+1+(Q++[nv0 y]).length) oc3) (P++[(((⟨xk,xn,xm,xt,0⟩:Nd),(a.app (.cons y .nil .nil)).idx (P.length+1)),(dn,du))]++(Q++[nv0 y]))::inats (.slice dn (a.len+1) du) ((a.app (.cons y .nil .nil)).idx (P.length+1))::(krows (Q++[nv0 y])++it)) w6:=by
     have h1:=cz.nilrow 3 1;have e1:(P++[(((⟨xk,xn,xm,xt,0⟩:Nd),(a.app (.cons y .nil .nil)).idx (P.length+1)),(dn,du))]++(Q++[nv0 y]):List NV).length=P.length+1+Q.length+1:=by simp;omega
     have e2:zag (P++[(((⟨xk,xn,xm,xt,0⟩:Nd),(a.app (.cons y .nil .nil)).idx (P.length+1)),(dn,du))]++(Q++[nv0 y]))=zag (P++[(((⟨xk,xn,xm,xt,0⟩:Nd),(a.app (.cons y .nil .nil)).idx (P.length+1)),(dn,du))]++Q)++[.int .i64 (y.kind:Int),.int .i64 y.num,.string (bs y.name),.string (bs y.attr),.slice none 0 0,.int .i64 0]:=by
      rw[←List.append_assoc,zcr];show _++[_,_,_,_,_,Value.int .i64 (y.at_:Int)]=_;rw[hya];rfl
     unfold inodes;rw[e1,e2,show P.length+1+(Q++[nv0 y]).length=P.length+1+Q.length+1 by simp;omega,krows_app];refine h1.perm ?_;have h9:(inats (.slice none 0 0) []::(krows Q++it)).Perm (krows Q++[inats (.slice none 0 0) []]++it):=by
      rw[List.append_assoc];exact List.perm_middle.symm
     exact((List.Perm.swap _ _ _).trans (List.Perm.cons _ ((List.Perm.swap _ _ _).trans (List.Perm.cons _ h9))))
    clear cz x0 x1 x2 x3 x4 x5;go_roundg (r.len+1);case measure=>exact HLT.out
    case rel =>
     refine⟨a.app (.cons y .nil .nil),r,Q++[nv0 y],OA3,dn,oc3,du,rfl,?_,?_,HX,?_⟩
     ·rw[List.length_append];rfl
     ·rw[HAL.out];first|rfl|simp
     ·rw[HAL.out];exact iL
theorem CvM.wr {B:Nat} {w0:World}:∀{f:F} {vs:List Value},CvM B w0 f vs→WrAll w0 f vs
 | .nil,vs,h=>by cases vs<;>trivial
 | .cons x ks r,vs,h=>by
   obtain⟨v,us,rfl,h2,h3⟩:=h;refine⟨?_,CvM.wr h2⟩;intro T pl e P v0 it w hb hk;by_cases aw:x.kind=5
   ·rw[if_pos aw]at h3;obtain⟨hx,A,c,ws,e2,-,hv,hc⟩:=h3;rw[e]at e2;injection e2 with e3 e4;subst e4;refine⟨fun _=>?_,fun h=>absurd aw h⟩;have hw:=gwrite_any B w0 x.num ks A c ws hv hc (CvM.wr hc) P v0 it w (by rw[←hx];exact hb) hk;rw[←hx]at hw;exact hw
   ·rw[if_neg aw]at h3;obtain⟨⟨hx,hl⟩,A,c,e2,hv⟩:=h3;rw[e]at e2;injection e2 with e3 e4;subst e4;exact⟨fun h=>absurd h aw,fun _=>awrite_any B w0 x hx ks hl A c hv P v0 it w hb hk⟩
end Nf
end Go.Proofs.YtekkapgknohadaaGreatDoor
