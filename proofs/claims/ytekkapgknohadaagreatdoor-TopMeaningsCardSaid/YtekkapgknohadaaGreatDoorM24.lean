/- typing: condition. -/
import Derived.Test.YtekkapgknohadaaGreatDoorM22
set_option linter.unusedVariables false
set_option maxRecDepth 20000
set_option maxHeartbeats 16000000
open Go.Proofs.Tryz
namespace Go.Proofs.YtekkapgknohadaaGreatDoor
namespace Nf
open Go.RowKit Go.Shelf
open Lib (hid)
open Pa (F Nd)
structure Vd where
 b:Bool
 A:Option Addr
 n:Nat
 c:Nat
 s:ByteArray
def Vd.cells (v:Vd):List Value:=tyC v.b v.A v.n v.c v.s
def zcm (V:List Vd):List Value:=V.flatMap Vd.cells
theorem vdcells_snoc (V:List Vd) (v:Vd):zcm (V++[v])=zcm V++v.cells:=by simp[zcm]
theorem vdcells_at {V:List Vd} {i:Nat} {v:Vd} (h:V[i]? =some v) (j:Nat) (hj:j<3):(zcm V)[i*3+j]? =v.cells[j]? :=by
 induction V generalizing i with
 | nil=>cases h
 | cons x V ih =>
   have e:zcm (x::V)=x.cells++zcm V:=rfl;rw[e];cases i with
   | zero =>
     obtain rfl:=Option.some.inj h;rw[Nat.zero_mul,Nat.zero_add,List.getElem?_append_left (by show j<3;exact hj)]
   | succ i =>
     rw[List.getElem?_append_right (by show 3≤_;omega),show(i+1)*3+j-x.cells.length=i*3+j by show(i+1)*3+j-3=_;omega];exact ih h
abbrev ivals (v:Value) (n:Nat) (V:List Vd):It:=irow 275 3 v n (zcm V)
def VTs (w0:World):List Vd→List Ty→Prop
 | [],[]=>True
 | v::V,t::T=>TyIs w0 t v.b v.A v.n v.c v.s∧VTs w0 V T
 | _,_=>False
theorem VTs.len {w0:World}:∀{V:List Vd} {T:List Ty},VTs w0 V T→V.length=T.length
 | [],[],_=>rfl
 | v::V,t::T,h=>by rw[List.length_cons,List.length_cons,VTs.len h.2]
 | [],t::T,h=>h.elim
 | v::V,[],h=>h.elim
theorem VTs.snoc {w0:World} {v:Vd} {t:Ty} (hv:TyIs w0 t v.b v.A v.n v.c v.s):∀{V:List Vd} {T:List Ty},VTs w0 V T→VTs w0 (V++[v]) (T++[t])
 | [],[],_=>⟨hv,trivial⟩
 | u::V,s::T,h=>⟨h.1,VTs.snoc hv h.2⟩
 | [],t::T,h=>h.elim
 | v::V,[],h=>h.elim
theorem VTs.at_ {w0:World}:∀{V:List Vd} {T:List Ty},VTs w0 V T→∀(i:Nat) (t:Ty),T[i]? =some t→∃v:Vd,V[i]? =some v∧TyIs w0 t v.b v.A v.n v.c v.s
 | [],[],_,i,t,ht=>by cases i<;>cases ht
 | u::V,s::T,h,0,t,ht=>by obtain rfl:=Option.some.inj ht;exact⟨u,rfl,h.1⟩
 | u::V,s::T,h,i+1,t,ht=>VTs.at_ h.2 i t ht
 | [],t::T,h,_,_,_=>h.elim
 | v::V,[],h,_,_,_=>h.elim
theorem VTs.tys {w0 W:World} {A:Option Addr} {n c:Nat} {V:List Vd} {T:List Ty} (h:VTs w0 V T) (hr:W.ownsRow 0 275 3 (.slice A n c) n (zcm V)) (hn:V.length=n):Tys w0 W A T:=⟨fun i t ht=>by
 obtain⟨v,hv,ht2⟩:=h.at_ i t ht;have hi:=(List.getElem?_eq_some_iff.1 hv).1;obtain⟨g,cap,e,-⟩:=zak hr om;injection e with e1 e2 e3;subst e1;have key:∀j,j<3→∀u,v.cells[j]? =some u→W.cell? ⟨g,i*3+j,none⟩=some u:=fun j hj u hu=>zal hr ((vdcells_at hv j hj).trans hu);refine⟨⟨g,0,none⟩,v.b,v.A,v.n,v.c,v.s,rfl,?_,?_,?_,ht2⟩
 ·rw[zce];exact key 0 om _ rfl
 ·rw[zce];exact key 1 om _ rfl
 ·rw[zce];exact key 2 om _ rfl⟩
theorem value_info:(prog.info? 275).map (fun i=>(i.zero,i.size,i.bytes))=some (some (.agg (tyC false none 0 0 ⟨#[]⟩).toArray),3,48):=kr
theorem new3p (w:World) (t:TypeId) (a b c:Value):∀(j:Nat) u,[a,b,c][j]? =some u→(w.alloc (.cells #[a,b,c] t)).cell? ((⟨w.heap.size,0,none⟩:Addr).add j)=some u:=by
 intro j u hu;rw[zce,(show Blk (w.alloc (.cells #[a,b,c] t)) w.heap.size t [a,b,c]from Blk.new w t [a,b,c]).cell j];exact hu
abbrev zchks:List Value:=[.nilFunc,.nilFunc,.nilFunc,.nilFunc,.nilFunc,.nilFunc,.nilFunc,.nilFunc,.nilFunc,.nilFunc,.nilFunc,.nilFunc]
abbrev chks:List Value:=[.nilFunc,.nilFunc,.nilFunc,.nilFunc,.nilFunc,.nilFunc,.func (.func 204) #[] #[],.func (.func 207) #[] #[],.func (.func 208) #[] #[],.nilFunc,.nilFunc,.nilFunc]
theorem built_chks:prog.built 273 [(6,.func (.func 204) #[] #[]),(7,.func (.func 207) #[] #[]),(8,.func (.func 208) #[] #[])]=some #[.nilFunc,.nilFunc,.nilFunc,.nilFunc,.nilFunc,.nilFunc,.func (.func 204) #[] #[],.func (.func 207) #[] #[],.func (.func 208) #[] #[],.nilFunc,.nilFunc,.nilFunc]:=kr
theorem eq_chk0:∀W,(binOp .eql 272 (.nilFunc) .nilFunc).run prog W=.ok (.bool true) W:=fun W=>kr
theorem eq_chk1:∀W,(binOp .eql 272 (.func (.func 204) #[] #[]) .nilFunc).run prog W=.ok (.bool false) W:=fun W=>kr
theorem eq_chk2:∀W,(binOp .eql 272 (.func (.func 207) #[] #[]) .nilFunc).run prog W=.ok (.bool false) W:=fun W=>kr
theorem eq_chk3:∀W,(binOp .eql 272 (.func (.func 208) #[] #[]) .nilFunc).run prog W=.ok (.bool false) W:=fun W=>kr
theorem keyX {W:World} {p q:Nat} {s t:TypeId} {a0 a1 a2 a3 a4 a5 b0 b1 b2 b3 b4 b5 b6 b7 b8 b9 kS b11:Value} (h1:Blk W p s [a0,a1,a2,a3,a4,a5]) (h2:Blk W q t [b0,b1,b2,b3,b4,b5,b6,b7,b8,b9,kS,b11]) :
 W.cell? ⟨p,0,none⟩=some a0∧W.cell? ⟨p,1,none⟩=some a1∧W.cell? ⟨p,2,none⟩=some a2∧W.cell? ⟨p,3,none⟩=some a3∧W.cell? ⟨p,4,none⟩=some a4∧W.cell? ⟨p,5,none⟩=some a5∧W.cell? ⟨q,6,none⟩=some b6∧W.cell? ⟨q,7,none⟩=some b7∧W.cell? ⟨q,8,none⟩=some b8:=by
 obtain⟨y0,y1,y2,y3,y4,y5⟩:=Blk.get6 h1;exact⟨y0,y1,y2,y3,y4,y5,h2.cell 6,h2.cell 7,h2.cell 8⟩
def PairOut (R:Bool) (e:Ending):Prop:=∃x y:Int,e=.returned (.tuple #[.int .i64 x,.int .i64 y])∧(y=0↔R=true)
def KidsIn (ns:List Nk) (l:List Int):Prop:=∀k∈l,∃(j:Nat) (m:Nk),k=(j:Int)∧ns[j]? =some m∧0≤m.kind∧m.kind<12
abbrev zaf (ns:List Nk) (l:List Int):List Nd:=l.map fun k=>ndOf (nodeK ns k)
theorem tcond_any {d:Po} {L:Lp} {A:Option Addr} {c:Nat} {S:List Sm} {w0:World} (E:Env w0 d L A c S) (i:Nat) (n:Nk) (hn:d.nodes[i]? =some n) (fi:0≤n.kind) (nH:n.kind<12) (bL:n.kind=6∨n.kind=7∨n.kind=8→2≤n.kids.length) (bk:n.kids.length≤1000000) (bz:KidsIn d.nodes n.kids) (w:World) (h0:Below w0.heap.size w0 w) :
 Calls prog 156 #[fitV d L A S.length c,.int .i64 (i:Int)] w fun e w'=>PairOut (condB (lookS S d.uses) (ndOf n) (zaf d.nodes n.kids)) e∧Below w.heap.size w w':=by
 obtain⟨R,hR⟩:∃R,condB (lookS S d.uses) (ndOf n) (zaf d.nodes n.kids)=R:=⟨_,rfl⟩;rw[hR];have HR:=hid hR;clear hR;have HE:=hid E;obtain⟨ua,uc,ra,rc,na,nc⟩:=L;obtain⟨ad,KA,kc,hA,aP⟩:=E.p.ns.at_ i n hn;change na=some ad at hA;subst hA;have ay:=(List.getElem?_eq_some_iff.1 hn).1;have aM:(i:Int)<(d.nodes.length:Int):=om;have aL:(0:Int)≤(i:Int):=om;have hk:=((Hp.start w).new 172 (fitC d ⟨ua,uc,ra,rc,some ad,nc⟩ A S.length c)).new 273 zchks;obtain⟨g,hg⟩:∃g,w.heap.size=g:=⟨_,rfl⟩;simp only[sizeA,hg]at hk;obtain⟨q,hq⟩:∃f,g+1=f:=⟨_,rfl⟩;have cV:=built_chks;have tF:=hid bz;have cT:=hid (aP.up h0);clear hn aP ay E bz;go_enter func156,ntmps156;go_upto_region 1 with fail;try simp only[hg]
 simp only[hq]at hk ⊢;go_upto_region 2 with(refine wpList_store_row rfl 273 (.tmp 6) (.tmp 14) rfl q chks.toArray rfl rfl 273 zchks.toArray (hk.blk 0 rfl) kr kr kr ?_);have ah:Hp [] w [iblk q 273 chks,iblk g 172 (fitC d ⟨ua,uc,ra,rc,some ad,nc⟩ A S.length c)] (((w.alloc (.cells (fitC d ⟨ua,uc,ra,rc,some ad,nc⟩ A S.length c).toArray 172)).alloc (.cells zchks.toArray 273)).setRow q chks.toArray):=hk.rowAt 0 rfl chks;obtain⟨W2,ij⟩:∃W,(((w.alloc (.cells (fitC d ⟨ua,uc,ra,rc,some ad,nc⟩ A S.length c).toArray 172)).alloc (.cells zchks.toArray 273)).setRow q chks.toArray)=W:=⟨_,rfl⟩;rw[ij]at ah;change Code.wp _ _ _ _ (((w.alloc (.cells (fitC d ⟨ua,uc,ra,rc,some ad,nc⟩ A S.length c).toArray 172)).alloc (.cells zchks.toArray 273)).setRow q chks.toArray);rw[ij];clear hk ij cV;have hN:=cT.out.up ah.below0;have d0:=hN.kind;have d1:=hN.num;have d2:=hN.name;have d3:=hN.attr;have d4:=hN.kids;have d5:=hN.at_;obtain⟨c0,c1,c2,c3,c4,c5,c6,c7,c8⟩:=blk9 (ah.blk 1 rfl);have aj:=ah.new 68 (nkcs n KA kc);clear hN;go_upto_region 3 with fail;have aj:Hp [] w [iblk W2.heap.size 68 (nkcs n KA kc),iblk q 273 chks,iblk g 172 (fitC d ⟨ua,uc,ra,rc,some ad,nc⟩ A S.length c)] (W2.alloc (.cells #[.int .i64 n.kind,.int .i64 n.num,.string n.name,.string n.attr,.slice KA n.kids.length kc,.int .i64 n.at_] 68)):=aj;generalize W2.alloc (.cells #[.int .i64 n.kind,.int .i64 n.num,.string n.name,.string n.attr,.slice KA n.kids.length kc,.int .i64 n.at_] 68)=W3 at *;generalize W2.heap.size=p at *;clear ah c0 c1 c2 c3 c4 c5 c6 c7 c8 d0 d1 d2 d3 d4 d5;obtain⟨nk,nn,nm,nt,nks,bI⟩:=n;simp only at *;by_cases ik:nk=6∨nk=7∨nk=8
 ·have wR:2≤nks.length:=bL ik;have hkl3:nks.length≤1000000:=bk;have pT:=ik;obtain⟨i0,aL,bg,aY,bh⟩:=info_parts value_info;have gR:Hid ((∀(k:Int),k∈nks→tyOf (lookS S d.uses) (ndOf (nodeK d.nodes k))=none→R=false)∧(∀t r,(zaf d.nodes nks).map (tyOf (lookS S d.uses))=(t::r:List Ty).map some→R=fitsK nk nn t r)):=hid ⟨fun k hk e=>by
   rw[←HR.out];exact cond_none (List.mem_map_of_mem hk) e (by show nk.toNat=6∨nk.toNat=7∨nk.toNat=8;omega),fun t r e=>by
   rw[←HR.out];obtain⟨x0,xs,hx⟩:∃x0 xs,zaf d.nodes nks=x0::xs:=by
    cases hk:zaf d.nodes nks with
    | nil=>rw[hk]at e;cases e
    | cons x0 xs=>exact⟨x0,xs,rfl⟩
   show condB (lookS S d.uses) ⟨nk.toNat,nn,tl nm,tl nt,0⟩ (zaf d.nodes nks)=_;rw[hx]at e ⊢;rw[cond_fits e (by show nk.toNat=6∨nk.toNat=7∨nk.toNat=8;omega)];show fitsK (nk.toNat:Int) nn t r=_;rw[Int.toNat_of_nonneg fi]⟩
  clear pT HR bL bk nH fi;rcases ik with rfl|rfl|rfl;all_goals
   obtain⟨d0,d1,d2,d3,d4,d5⟩:=Blk.get6 (aj.blk 0 rfl);have e6:=(aj.blk 1 rfl).cell 6;have e7:=(aj.blk 1 rfl).cell 7;have e8:=(aj.blk 1 rfl).cell 8;simp only[List.getElem?_cons_zero,List.getElem?_cons_succ]at e6 e7 e8;have hf1:=eq_chk1;have sM:=eq_chk2;have hf3:=eq_chk3;go_upto_region 7 with fail;clear d0 d1 d2 d3 d4 d5 e6 e7 e8 hf1 sM hf3;have aq:=aj.nilrow 275 3;clear aj;go_loopg [8,29] nks.length (fun m s8 s29 wx=>∃(j:Nat) (V:List Vd) (T:List Ty) (OA:Option Addr) (oc:Nat),j≤nks.length∧m=nks.length-j∧s8=.slice OA j oc∧s29=.int .i64 (j:Int)∧Hid (V.length=j∧VTs w0 V T∧((zaf d.nodes nks).take j).map (tyOf (lookS S d.uses))=T.map some)∧Hp [] w [ivals (.slice OA j oc) j V,iblk p 68 [.int .i64 _,.int .i64 nn,.string nm,.string nt,.slice KA nks.length kc,.int .i64 bI],iblk q 273 chks,iblk g 172 (fitC d ⟨ua,uc,ra,rc,some ad,nc⟩ A S.length c)] wx);case atStart=>exact⟨0,[],[],none,0,Nat.zero_le _,rfl,rfl,rfl,hid ⟨rfl,trivial,rfl⟩,aq⟩
   case round =>
    obtain⟨j,V,T,OA,oc,hj,rfl,rfl,rfl,HJ,hM⟩:=hrel;clear aq;by_cases aW:j<nks.length
    ·have bX:(j:Int)<(nks.length:Int):=om;have bT:(0:Int)≤(j:Int):=om;obtain⟨k,cU⟩:∃k,nks[j]? =some k:=⟨_,List.getElem?_eq_getElem aW⟩;have dZ:=List.mem_of_getElem? cU;obtain⟨i2,m2,p',dG,qu,uz⟩:=tF.out k dZ;obtain⟨ka,cM,ck⟩:=(cT.out.up hM.below0).ints.at_ j k cU;subst cM;obtain⟨c0,c1,c2,c3,c4,c5,c6,c7,c8⟩:=blk9 (hM.blk 3 rfl);have lE:tyOf (lookS S d.uses) (ndOf (nodeK d.nodes k))=tyK S d.uses m2:=by rw[p',zcg dG,tyOf_nd _ _ _ qu]
     subst p';have HC:=hid (value_any HE.out i2 m2 dG wr (h0.trans (hM.below0.mono h0.size)));have ep:Hid (tyK S d.uses m2=none→R=false):=hid fun e=>gR.out.1 _ dZ (lE.trans e);have nO:Hid (∀t,tyK S d.uses m2=some t→((zaf d.nodes nks).take (j+1)).map (tyOf (lookS S d.uses))=(T++[t]).map some):=hid fun t e=>by
      rw[zan (x:=ndOf (nodeK d.nodes (i2:Int))) (by rw[List.getElem?_map,cU];rfl),List.map_append,HJ.out.2.2,List.map_append,List.map_cons,lE,e];rfl
     generalize tyK S d.uses m2=O at *;clear cU dZ dG qu uz lE;go_wp2_with fail;refine HC.out.mono ?_;rintro e w4 ⟨ho,aK⟩;have bn:=hM.next aK;clear HC hM aK ck c0 c1 c2 c3 c4 c5 c6 c7 c8;cases O with
     | none =>
       obtain⟨vb,WA,vn,vc,vs,rfl⟩:=ho;have HF:=hid (ep.out rfl);clear ep nO;have hb:=(bn.alloc (.cells #[.bool vb,.slice WA vn vc,.string vs] 275)).below0;go_wp2_with fail;go_ret2;exact⟨⟨_,9,rfl,by rw[HF.out];simp⟩,by first|exact hb|(subst hg;exact hb)⟩
     | some t =>
       obtain⟨vb,WA,vn,vc,vs,rfl,hT⟩:=ho;have HT4:=hid (nO.out t rfl);have HTY:=hid hT;clear ep nO hT;have bE:=bn.new 275 (tyC vb WA vn vc vs);go_upto_region 12 with fail;generalize w4.alloc (.cells #[.bool vb,.slice WA vn vc,.string vs] 275)=W5 at *;generalize w4.heap.size=g5 at *;clear bn;have x0:=(bE.blk 0 rfl).cell 0;have x1:=(bE.blk 0 rfl).cell 1;have x2:=(bE.blk 0 rfl).cell 2;simp only[List.getElem?_cons_zero,List.getElem?_cons_succ]at x0 x1 x2;go_wp2_with (at_builtin;refine zac rfl _ _ 269 rfl 0 275 i0 _ 3 48 underlying269 aL bg aY bh rfl zy0 _ j (zcm V) rfl ((bE.alloc _).row 1 rfl) ⟨W5.heap.size,0,none⟩ 1 1 (tyC vb WA vn vc vs) rfl rfl (new3p _ _ _ _ _) zyq zy0 zy2 om (Nat.zero_le _) ?_;intro v' w6 af ai aH;obtain⟨jq,iY,rfl⟩:=zab af;have cz:=((bE.alloc (.cells #[.bool vb,.slice WA vn vc,.string vs] 275)).grown 1 rfl af ai aH).tail;clear af ai aH x0 x1 x2 bE);have HJ2:Hid ((V++[(⟨vb,WA,vn,vc,vs⟩:Vd)]).length=j+1∧VTs w0 (V++[⟨vb,WA,vn,vc,vs⟩]) (T++[t])∧((zaf d.nodes nks).take (j+1)).map (tyOf (lookS S d.uses))=(T++[t]).map some):=hid ⟨by rw[List.length_append,HJ.out.1];rfl,VTs.snoc (v:=⟨vb,WA,vn,vc,vs⟩) HTY.out HJ.out.2.1,HT4.out⟩;go_roundg (nks.length-(j+1));case measure=>omega
       case rel =>
        refine⟨j+1,V++[⟨vb,WA,vn,vc,vs⟩],T++[t],jq,iY,aW,rfl,rfl,by first|rfl|simp,HJ2,?_⟩;unfold ivals;rw[vdcells_snoc];exact cz
    ·have bX:¬(j:Int)<(nks.length:Int):=om;have hje:j=nks.length:=om;subst hje;have pQ:T.length=nks.length:=by rw[←HJ.out.2.1.len];exact HJ.out.1
     obtain⟨t,r,rfl⟩:∃t r,T=t::r:=by
      cases T with
      | nil=>simp only[List.length_nil]at pQ;omega
      | cons t r=>exact⟨t,r,rfl⟩
     have wv:0<r.length:=by simp only[List.length_cons]at pQ;omega
     have ez:nks.length≤oc:=row_cap (hM.row 0 rfl);have rM:=HJ.out.2.1.tys (hM.row 0 rfl) HJ.out.1;have hF:=gR.out.2 t r (by have:=HJ.out.2.2;rwa[List.take_of_length_le (by rw[List.length_map];exact Nat.le_refl _)]at this);have df:=hM.drew;have ig:=hid (fun kk=>c1_any w0 ⟨kk,nn,nm,nt,nks,bI⟩ KA kc OA oc t r om om wv _ (h0.trans (df.below0.mono h0.size)) (rM.up (Below.refl _ _).drew));have fI:=hid (fun kk=>c2_any w0 ⟨kk,nn,nm,nt,nks,bI⟩ KA kc OA oc (t::r) om _ (rM.up (Below.refl _ _).drew));have n9:=hid (fun kk=>c3_any w0 ⟨kk,nn,nm,nt,nks,bI⟩ KA kc OA oc t r om om wv _ (h0.trans (df.below0.mono h0.size)) (rM.up (Below.refl _ _).drew));rw[pQ]at ig fI n9;unfold fitsK at hF;simp only[show¬((7:Int)=6) by decide,show¬((8:Int)=6) by decide,show¬((8:Int)=7) by decide,if_true,if_false]at hF;have sC:=hid hF;obtain⟨d0,d1,d2,d3,d4,d5⟩:=Blk.get6 (df.blk 1 rfl);have e6:=(df.blk 2 rfl).cell 6;have e7:=(df.blk 2 rfl).cell 7;have e8:=(df.blk 2 rfl).cell 8;simp only[List.getElem?_cons_zero,List.getElem?_cons_succ]at e6 e7 e8;clear rM pQ wv ez hF HJ gR tF cT HE;go_upto_region 14 with fail;first
      | (have z:wr.drew.cell? ⟨p,0,none⟩=some (.int .i64 6):=d0;clear z;go_region_held3 (fun w'=>w'.cell? ⟨p,0,none⟩=some (.int .i64 6)∧w'.cell? ⟨p,1,none⟩=some (.int .i64 nn)∧w'.cell? ⟨p,2,none⟩=some (.string nm)∧w'.cell? ⟨p,3,none⟩=some (.string nt)∧w'.cell? ⟨p,4,none⟩=some (.slice KA nks.length kc)∧w'.cell? ⟨p,5,none⟩=some (.int .i64 bI)∧w'.cell? ⟨q,6,none⟩=some (.func (.func 204) #[] #[])∧w'.cell? ⟨q,7,none⟩=some (.func (.func 207) #[] #[])∧w'.cell? ⟨q,8,none⟩=some (.func (.func 208) #[] #[])) (first|exact⟨d0,d1,d2,d3,d4,d5,e6,e7,e8⟩|exact keyX (jU.blk 1 rfl) (jU.blk 2 rfl)) (first|(go_at_call 204;refine(ig.out _).mono ?_;rintro e w5 ⟨⟨y,rfl,hy⟩,aS⟩;have jU:=df.next aS)))
      | (have z:wr.drew.cell? ⟨p,0,none⟩=some (.int .i64 7):=d0;clear z;go_region_held3 (fun w'=>w'.cell? ⟨p,0,none⟩=some (.int .i64 7)∧w'.cell? ⟨p,1,none⟩=some (.int .i64 nn)∧w'.cell? ⟨p,2,none⟩=some (.string nm)∧w'.cell? ⟨p,3,none⟩=some (.string nt)∧w'.cell? ⟨p,4,none⟩=some (.slice KA nks.length kc)∧w'.cell? ⟨p,5,none⟩=some (.int .i64 bI)∧w'.cell? ⟨q,6,none⟩=some (.func (.func 204) #[] #[])∧w'.cell? ⟨q,7,none⟩=some (.func (.func 207) #[] #[])∧w'.cell? ⟨q,8,none⟩=some (.func (.func 208) #[] #[])) (first|exact⟨d0,d1,d2,d3,d4,d5,e6,e7,e8⟩|exact keyX (jU.blk 1 rfl) (jU.blk 2 rfl)) (first|(go_at_call 207;refine(fI.out _).mono ?_;rintro e w5 ⟨⟨y,rfl,hy⟩,aS⟩;have jU:=df.next aS)))
      | (have z:wr.drew.cell? ⟨p,0,none⟩=some (.int .i64 8):=d0;clear z;go_region_held3 (fun w'=>w'.cell? ⟨p,0,none⟩=some (.int .i64 8)∧w'.cell? ⟨p,1,none⟩=some (.int .i64 nn)∧w'.cell? ⟨p,2,none⟩=some (.string nm)∧w'.cell? ⟨p,3,none⟩=some (.string nt)∧w'.cell? ⟨p,4,none⟩=some (.slice KA nks.length kc)∧w'.cell? ⟨p,5,none⟩=some (.int .i64 bI)∧w'.cell? ⟨q,6,none⟩=some (.func (.func 204) #[] #[])∧w'.cell? ⟨q,7,none⟩=some (.func (.func 207) #[] #[])∧w'.cell? ⟨q,8,none⟩=some (.func (.func 208) #[] #[])) (first|exact⟨d0,d1,d2,d3,d4,d5,e6,e7,e8⟩|exact keyX (jU.blk 1 rfl) (jU.blk 2 rfl)) (first|(go_at_call 208;refine(n9.out _).mono ?_;rintro e w5 ⟨⟨y,rfl,hy⟩,aS⟩;have jU:=df.next aS)))
     all_goals
      clear d0 d1 d2 d3 d4 d5 e6 e7 e8 ig fI n9 hM df;have hb:=jU.below0;replace hy:y=0↔R=true:=by rw[sC.out];exact hy
      clear sC;cases R with
      | true =>
        obtain rfl:y=0:=hy.2 rfl;clear hy;go_wp2_with fail;go_ret2;exact⟨⟨0,0,rfl,by simp⟩,by first|exact hb|(subst hg;exact hb)⟩
      | false =>
        have dE:(y != 0)=true:=by simpa using fun e=>by simpa using hy.1 e
        have HY:=hid hy;clear hy;go_wp2_with fail;go_ret2;exact⟨⟨_,y,rfl,HY.out⟩,by first|exact hb|(subst hg;exact hb)⟩
 ·have HT:Hid (R=true):=hid (by rw[←HR.out];exact cond_other (by show¬(nk.toNat=6∨nk.toNat=7∨nk.toNat=8);omega));have gJ:nk=0∨nk=1∨nk=2∨nk=3∨nk=4∨nk=5∨nk=9∨nk=10∨nk=11:=om;clear HR ik fi nH bL tF cT;have ki:=eq_chk0;rcases gJ with rfl|rfl|rfl|rfl|rfl|rfl|rfl|rfl|rfl;all_goals
   have d0:=(aj.blk 0 rfl).cell 0;simp only[List.getElem?_cons_zero]at d0
   (first|have e0:=(aj.blk 1 rfl).cell 0|skip)
   have e1:=(aj.blk 1 rfl).cell 1;have e2:=(aj.blk 1 rfl).cell 2;have e3:=(aj.blk 1 rfl).cell 3;have e4:=(aj.blk 1 rfl).cell 4;have e5:=(aj.blk 1 rfl).cell 5;have e9:=(aj.blk 1 rfl).cell 9;have wi:=(aj.blk 1 rfl).cell 10;have uy:=(aj.blk 1 rfl).cell 11;simp only[List.getElem?_cons_zero,List.getElem?_cons_succ]at e0 e1 e2 e3 e4 e5 e9 wi uy;go_wp2_with fail;go_ret2;refine⟨⟨0,0,rfl,by rw[HT.out];simp⟩,by have hb:=aj.below0;first|exact hb|(subst hg;exact hb)⟩
end Nf
namespace Nf
open Go.RowKit Go.Shelf
open Lib (hid)
open Pa (F Nd)
theorem kids_in {ns:List Nk} {f:Nat} {c:Bool} {l:List Int} (h:∀k∈l,Pa.VN ns f c k∧WfP ns f k):KidsIn ns l:=by
 intro k hk;obtain⟨hv,hw⟩:=h k hk;cases f with
 | zero=>exact hv.elim
 | succ f =>
   obtain⟨j,m,e,hm,hF,-⟩:=vn_at hv hw;exact⟨j,m,e,hm,hF.lo,hF.hi⟩
theorem kids_two {n:Nk} {c:Bool} (h:Pa.Fm n c) (hk:n.kind=6∨n.kind=7∨n.kind=8):2≤n.kids.length:=by
 have:=h.kids;unfold kidsP at this;rcases hk with e|e|e<;>rw[e]at this<;>simp at this<;>omega
theorem ty_node {ns:List Nk} {Lk:Look} {f:Nat} {i:Nat} {n:Nk} (hn:ns[i]? =some n) {c:Bool} (hk:∀k∈n.kids,Pa.VN ns f c k):tyF Lk (Pa.treeN ns (f+1) (i:Int))=(condB Lk (ndOf n) (zaf ns n.kids)&&n.kids.all fun k=>tyF Lk (Pa.treeN ns f k)):=by
 rw[Pa.treeN_in zy5,tyF,zcb hk,tyF_cat,List.all_map,show tyF Lk .nil=true from rfl,Bool.and_true];rfl
theorem tvisit_any {d:Po} {L:Lp} {A:Option Addr} {c:Nat} {S:List Sm} {w0:World} (E:Env w0 d L A c S):∀(f:Nat) (c9:Bool) (a:Int),Pa.VN d.nodes f c9 a→WfP d.nodes f a→∀(w:World),Below w0.heap.size w0 w →
 Calls prog 89 #[fitV d L A S.length c,.int .i64 a] w fun e w'=>PairOut (tyF (lookS S d.uses) (Pa.treeN d.nodes f a)) e∧Below w.heap.size w w':=by
 intro f
 induction f with
 | zero=>intro c9 a h _ w h0;exact h.elim
 | succ f ih =>
 intro c9 a hv hw w h0;obtain⟨i,n,rfl,hn,hF,bz⟩:=vn_at hv hw;obtain⟨ua,uc,ra,rc,na,nc⟩:=L;obtain⟨ad,KA,kc,hA,aP⟩:=E.p.ns.at_ i n hn;change na=some ad at hA;subst hA;have bk:n.kids.length≤1000000:=(E.pd.ns n (List.mem_of_getElem? hn)).kids;have dj:=hid (fun W hW=>tcond_any E i n hn hF.lo hF.hi (kids_two hF) bk (kids_in bz) W hW);have lf:=hid (fun k (hk:k∈n.kids) W hW=>ih _ k (bz k hk).1 (bz k hk).2 W hW);rw[ty_node hn (fun k hk=>(bz k hk).1)];obtain⟨RC,hRC⟩:∃R,condB (lookS S d.uses) (ndOf n) (zaf d.nodes n.kids)=R:=⟨_,rfl⟩;rw[hRC]at dj ⊢;clear hRC;obtain⟨p,hp⟩:∃p:Int→Bool,(fun k=>tyF (lookS S d.uses) (Pa.treeN d.nodes f k))=p:=⟨_,rfl⟩;have HP:=hid (fun k=>congrFun hp k);rw[hp];clear hp;have ay:=(List.getElem?_eq_some_iff.1 hn).1;have aM:(i:Int)<(d.nodes.length:Int):=om;have aL:(0:Int)≤(i:Int):=om;have hk:=(Hp.start w).new 172 (fitC d ⟨ua,uc,ra,rc,some ad,nc⟩ A S.length c);have HN:=hid (aP.up h0);obtain⟨g,hg⟩:∃g,w.heap.size=g:=⟨_,rfl⟩;rw[hg]at hk;clear hn aP ay hF bz hv hw ih E;go_enter func89,ntmps89;go_upto_region 1 with fail;try simp only[hg]
 have ar:Hp [] w [iblk g 172 (fitC d ⟨ua,uc,ra,rc,some ad,nc⟩ A S.length c)] (w.alloc (.cells #[.string d.name,.slice ua d.uses.length uc,.slice ra d.reveal.length rc,.slice (some ad) d.nodes.length nc,.int .i64 d.root,.string d.scope,.int .i64 d.limit,.string d.escrow,.slice A S.length c] 172)):=hk;clear hk;generalize w.alloc (.cells #[.string d.name,.slice ua d.uses.length uc,.slice ra d.reveal.length rc,.slice (some ad) d.nodes.length nc,.int .i64 d.root,.string d.scope,.int .i64 d.limit,.string d.escrow,.slice A S.length c] 172)=W1 at *;obtain⟨c0,c1,c2,c3,c4,c5,c6,c7,c8⟩:=blk9 (ar.blk 0 rfl);have HC:=hid (dj.out W1 (h0.trans (ar.below0.mono h0.size)));clear dj;go_wp2_with fail;refine HC.out.mono ?_;rintro e w2 ⟨⟨x,y,rfl,hy⟩,aG⟩;have ah:=ar.next aG;clear HC ar aG c0 c1 c2 c3 c4 c5 c6 c7 c8;cases RC with
 | false =>
   have dE:(y != 0)=true:=by simpa using fun e=>by simpa using hy.1 e
   have HY:=hid hy;clear hy;go_wp2_with fail;go_ret2;refine⟨⟨x,y,rfl,?_⟩,by have hb:=ah.below0;first|exact hb|(subst hg;exact hb)⟩;rw[Bool.false_and];exact HY.out
 | true =>
   obtain rfl:y=0:=hy.2 rfl;clear hy;obtain⟨c0,c1,c2,c3,c4,c5,c6,c7,c8⟩:=blk9 (ah.blk 0 rfl);have hN:=HN.out.up ah.below0;have d4:=hN.kids;go_upto_region 5 with fail;clear d4 hN c0 c1 c2 c3 c4 c5 c6 c7 c8;go_loopg [30] n.kids.length (fun m uW wx=>∃j:Nat,j≤n.kids.length∧m=n.kids.length-j∧uW=.int .i64 (j:Int)∧Hp [] w [iblk g 172 (fitC d ⟨ua,uc,ra,rc,some ad,nc⟩ A S.length c)] wx∧Hid ((n.kids.take j).all p=true));case atStart=>exact⟨0,Nat.zero_le _,rfl,rfl,ah,hid rfl⟩
   case round =>
    obtain⟨j,hj,rfl,rfl,hM,HA⟩:=hrel;clear ah;by_cases aW:j<n.kids.length
    ·have bX:(j:Int)<(n.kids.length:Int):=om;have bT:(0:Int)≤(j:Int):=om;obtain⟨k,cU⟩:∃k,n.kids[j]? =some k:=⟨_,List.getElem?_eq_getElem aW⟩;obtain⟨ka,cM,ck⟩:=(HN.out.up hM.below0).ints.at_ j k cU;subst cM;obtain⟨c0,c1,c2,c3,c4,c5,c6,c7,c8⟩:=blk9 (hM.blk 0 rfl);have HC:=hid (lf.out k (List.mem_of_getElem? cU) wr (h0.trans (hM.below0.mono h0.size)));have ti:=hid (HP.out k);obtain⟨Q,hQ⟩:∃Q,tyF (lookS S d.uses) (Pa.treeN d.nodes f k)=Q:=⟨_,rfl⟩;rw[hQ]at HC ti;have eh:=hid (all_take (p:=p) cU);have mY:=hid (fun h=>all_bad (p:=p) cU h);clear cU hQ;go_wp2_with fail;refine HC.out.mono ?_;rintro e w3 ⟨⟨x2,y2,rfl,dH⟩,aJ⟩;have aR:=hM.next aJ;clear HC hM aJ ck c0 c1 c2 c3 c4 c5 c6 c7 c8;cases Q with
     | false =>
       have dE:(y2 != 0)=true:=by simpa using fun e=>by simpa using dH.1 e
       have HR:Hid (n.kids.all p=false):=hid (mY.out ti.out.symm);have HY:=hid dH;clear dH;go_wp2_with fail;go_ret2;refine⟨⟨x2,y2,rfl,?_⟩,by have hb:=aR.below0;first|exact hb|(subst hg;exact hb)⟩;rw[HR.out,Bool.and_false];exact HY.out
     | true =>
       obtain rfl:y2=0:=dH.2 rfl;have jV:Hid ((n.kids.take (j+1)).all p=true):=hid (by rw[eh.out,HA.out,←ti.out];rfl);clear dH;go_wp2_with fail;go_roundg (n.kids.length-(j+1));case measure=>omega
       case rel=>exact⟨j+1,aW,rfl,by first|rfl|simp,aR,jV⟩
    ·have bX:¬(j:Int)<(n.kids.length:Int):=om;have HR:Hid (n.kids.all p=true):=hid (by rw[←HA.out,List.take_of_length_le om]);go_wp2_with fail;go_ret2;refine⟨⟨0,0,rfl,?_⟩,by have hb:=hM.below0;first|exact hb|(subst hg;exact hb)⟩;rw[HR.out];simp
structure Env0 (w0:World) (d:Po) (L:Lp) (A:Option Addr) (c:Nat) (S:List Sm):Prop where
 s:Schs w0 A S
 p:PolM w0 d L
 sl:S.length≤1000000
 cap:S.length≤c
 m:∀m∈S,MBd m
 pd:PBd d
theorem Env0.env {w0:World} {d:Po} {L:Lp} {A:Option Addr} {c:Nat} {S:List Sm} (E:Env0 w0 d L A c S) (hR:zah chkB S d=true):Env w0 d L A c S :=
 ⟨E.s,E.p,E.sl,E.cap,E.m,E.pd,fun a t fd hf hk=>by
  have h:=fdB_of hR hf;rcases h.kd with e|⟨-,e⟩
  ·exact absurd e hk
  ·exact⟨e,h.wl⟩⟩
theorem tcheck_any {d:Po} {L:Lp} {A:Option Addr} {c:Nat} {S:List Sm} {w0:World} (E:Env0 w0 d L A c S) (w:World) (h0:Below w0.heap.size w0 w) :
 Calls prog 27 #[polV d L,.slice A S.length c] w fun e w'=>PairOut (za4 chkB S d) e∧Below w.heap.size w w':=by
 obtain⟨ua,uc,ra,rc,na,nc⟩:=L;have fJ:d.reveal.length≤1000000:=E.pd.rl;have HE:=hid E;have hk:=(Hp.start w).new 29 (polcs d ⟨ua,uc,ra,rc,na,nc⟩);obtain⟨g,hg⟩:∃g,w.heap.size=g:=⟨_,rfl⟩;rw[hg]at hk;obtain⟨T,hT⟩:∃T,za4 chkB S d=T:=⟨_,rfl⟩;rw[hT];have HT:=hid hT;clear hT;have ud:=hid (fun W hW=>ready_any d ⟨ua,uc,ra,rc,na,nc⟩ A c S E.sl E.cap E.m E.pd w0 W E.s E.p hW);obtain⟨R,hR⟩:∃R,zah chkB S d=R:=⟨_,rfl⟩;rw[hR]at ud;have HR:=hid hR;clear hR E;go_enter func27,ntmps27;go_upto_region 1 with fail;try simp only[hg]
 have ar:Hp [] w [iblk g 29 (polcs d ⟨ua,uc,ra,rc,na,nc⟩)] (w.alloc (.cells #[.string d.name,.slice ua d.uses.length uc,.slice ra d.reveal.length rc,.slice na d.nodes.length nc,.int .i64 d.root,.string d.scope,.int .i64 d.limit,.string d.escrow] 29)):=hk;clear hk;generalize w.alloc (.cells #[.string d.name,.slice ua d.uses.length uc,.slice ra d.reveal.length rc,.slice na d.nodes.length nc,.int .i64 d.root,.string d.scope,.int .i64 d.limit,.string d.escrow] 29)=W1 at *;obtain⟨c0,c1,c2,c3,c4,c5,c6,c7⟩:=(ar.blk 0 rfl).get8;have HC:=hid (ud.out W1 (h0.trans (ar.below0.mono h0.size)));clear ud;go_wp2_with fail;refine HC.out.mono ?_;rintro e w2 ⟨⟨y,rfl,hy⟩,aG⟩;have ah:=(ar.next aG).new 172 (fitC d ⟨ua,uc,ra,rc,na,nc⟩ A S.length c);clear HC ar aG c0 c1 c2 c3 c4 c5 c6 c7;go_upto_region 2 with fail;generalize w2.alloc (.cells #[.string d.name,.slice ua d.uses.length uc,.slice ra d.reveal.length rc,.slice na d.nodes.length nc,.int .i64 d.root,.string d.scope,.int .i64 d.limit,.string d.escrow,.slice A S.length c] 172)=W3 at *;generalize w2.heap.size=gf at *;cases R with
 | false =>
   have dE:(y != 0)=true:=by simpa using fun e=>by simpa using hy.1 e
   have HY:=hid hy;have HF:Hid (T=false):=hid (by rw[←HT.out];unfold za4;rw[HR.out];rfl);clear hy;go_wp2_with fail;go_ret2;refine⟨⟨0,y,rfl,?_⟩,by have hb:=ah.below0;first|exact hb|(subst hg;exact hb)⟩;rw[HF.out];exact HY.out
 | true =>
   obtain rfl:y=0:=hy.2 rfl;clear hy;have oq:=hid (HE.out.env HR.out);have HV:=hid (fun W hW=>tvisit_any oq.out 32 true d.root (Pa.tree_vn zys) (tree_wf (za5 zys)) W hW);have ep:Hid (T=(d.reveal.all (fun r=>(findS S d.uses r.1 r.2).isSome)&&tyF (lookS S d.uses) (Pa.treeN d.nodes 32 d.root))):=hid (by rw[←HT.out];unfold za4;rw[HR.out,Bool.true_and];rfl);have sv:=hid (fun(r:Bp) W hW=>find_fit d ⟨ua,uc,ra,rc,na,nc⟩ A c S r.1 r.2 HE.out.sl (fun m hm=>(HE.out.m m hm).len) HE.out.pd.ul w0 W HE.out.s HE.out.p.us hW);have th:=hid HE.out.p.rv;obtain⟨p,hp⟩:∃p:Bp→Bool,(fun r=>(findS S d.uses r.1 r.2).isSome)=p:=⟨_,rfl⟩;have HP:=hid (fun k=>congrFun hp k);rw[hp]at ep;generalize tyF (lookS S d.uses) (Pa.treeN d.nodes 32 d.root)=V at *;clear hp HT HR HE oq;obtain⟨c0,c1,c2,c3,c4,c5,c6,c7,c8⟩:=blk9 (ah.blk 0 rfl);go_upto_region 5 with fail;clear c0 c1 c2 c3 c4 c5 c6 c7 c8;go_loopg [26] d.reveal.length (fun m vO wx=>∃j:Nat,j≤d.reveal.length∧m=d.reveal.length-j∧vO=.int .i64 (j:Int)∧Hp [] w [iblk gf 172 (fitC d ⟨ua,uc,ra,rc,na,nc⟩ A S.length c)] wx∧Hid ((d.reveal.take j).all p=true));case atStart=>exact⟨0,Nat.zero_le _,rfl,rfl,ah.sub (r:=[_]),hid rfl⟩
   case round =>
    obtain⟨j,hj,rfl,rfl,hM,HA⟩:=hrel;clear ah;by_cases aW:j<d.reveal.length
    ·have bX:(j:Int)<(d.reveal.length:Int):=om;have bT:(0:Int)≤(j:Int):=om;obtain⟨r,sh⟩:∃r,d.reveal[j]? =some r:=⟨_,List.getElem?_eq_getElem aW⟩;obtain⟨rad,pV,r0,r1⟩:=((th.out.up h0).up hM.below0).at_ j r sh;change ra=some rad at pV;subst pV;have aA:=hM.new 89 [.string r.1,.string r.2];have eh:=hid (all_take (p:=p) sh);have mY:=hid (fun h=>all_bad (p:=p) sh h);have tH:=hid (HP.out r);clear sh;go_upto_region 7 with fail;generalize wr.alloc (.cells #[.string r.1,.string r.2] 89)=W4 at *;generalize wr.heap.size=g4 at *;clear r0 r1 hM;obtain⟨c0,c1,c2,c3,c4,c5,c6,c7,c8⟩:=blk9 (aA.blk 1 rfl);have r0:=(aA.blk 0 rfl).cell 0;have r1:=(aA.blk 0 rfl).cell 1;simp only[List.getElem?_cons_zero,List.getElem?_cons_succ]at r0 r1;have HC:=hid (sv.out r W4 (h0.trans (aA.below0.mono h0.size)));obtain⟨O,hO⟩:∃O,findS S d.uses r.1 r.2=O:=⟨_,rfl⟩;rw[hO]at HC tH;clear hO;go_wp2_with fail;refine HC.out.mono ?_;rintro e w5 ⟨ho,aS⟩;have bE:=aA.next aS;clear HC aA aS c0 c1 c2 c3 c4 c5 c6 c7 c8 r0 r1;cases O with
     | none =>
       have h1:e=.returned (.tuple #[plV 0 0,.agg zFl.toArray,.bool false]):=ho;subst h1;have HF:Hid (T=false):=hid (by rw[ep.out,mY.out tH.out.symm];rfl);clear ho;have hb:=bE.below0;go_wp2_with fail;go_ret2;refine⟨⟨0,9,rfl,?_⟩,?_⟩
       ·rw[HF.out];simp
       ·have h9:=((bE.alloc (.cells #[.int .i64 0,.int .i64 0] 122)).alloc (.cells #[.string ⟨#[]⟩,.int .i64 0,.int .i64 0,.int .i64 0,.slice none 0 0] 57)).below0;first|exact h9|(subst hg;exact h9)
     | some fd =>
       obtain⟨WA,wc,x,y,h1,-⟩:=ho;subst h1;have jV:Hid ((d.reveal.take (j+1)).all p=true):=hid (by rw[eh.out,HA.out,←tH.out];rfl);have cz:=(bE.alloc (.cells #[.int .i64 x,.int .i64 y] 122)).alloc (.cells #[.string fd.name,.int .i64 fd.kind,.int .i64 fd.min,.int .i64 fd.max,.slice WA fd.words.length wc] 57);go_wp2_with fail;go_roundg (d.reveal.length-(j+1));case measure=>omega
       case rel=>exact⟨j+1,aW,rfl,by first|rfl|simp,cz.tail,jV⟩
    ·have bX:¬(j:Int)<(d.reveal.length:Int):=om;have ma:Hid (d.reveal.all p=true):=hid (by rw[←HA.out,List.take_of_length_le om]);obtain⟨c0,c1,c2,c3,c4,c5,c6,c7,c8⟩:=blk9 (hM.blk 0 rfl);have HC:=hid (HV.out wr (h0.trans (hM.below0.mono h0.size)));go_wp2_with fail;refine HC.out.mono ?_;rintro e w5 ⟨⟨x,y,rfl,hy⟩,aS⟩;have bE:=hM.next aS;have HY:=hid hy;clear hy;go_wp2_with fail;go_ret2;refine⟨⟨x,y,rfl,?_⟩,by have hb:=bE.below0;first|exact hb|(subst hg;exact hb)⟩;rw[ep.out,ma.out,Bool.true_and];exact HY.out
end Nf
end Go.Proofs.YtekkapgknohadaaGreatDoor
