/- typing.numbers, first. -/
import Derived.Test.YtekkapgknohadaaGreatDoorM20
set_option linter.unusedVariables false
set_option maxRecDepth 20000
set_option maxHeartbeats 8000000
open Go.Proofs.Tryz
namespace Go.Proofs.YtekkapgknohadaaGreatDoor
namespace Nf
open Go.RowKit Go.Shelf
open Lib (hid)
structure Tys (w0 W:World) (A:Option Addr) (l:List Ty):Prop where
 at_:∀i t,l[i]? =some t→∃ad b WA n c s,A=some ad∧W.cell? (ad.add (i*3))=some (.bool b)∧W.cell? ⟨(ad.add (i*3)).block,(ad.add (i*3)).off+1,none⟩=some (.slice WA n c)∧W.cell? ⟨(ad.add (i*3)).block,(ad.add (i*3)).off+2,none⟩=some (.string s)∧TyIs w0 t b WA n c s
theorem Tys.up {w0 W W':World} {A:Option Addr} {l:List Ty} (h:Tys w0 W A l) (hb:Below W.heap.size W W'):Tys w0 W' A l:=⟨fun i t ht=>by
 obtain⟨ad,b,WA,n,c,s,h1,h2,h3,h4,h5⟩:=h.at_ i t ht;exact⟨ad,b,WA,n,c,s,h1,zaa h2 hb,zaa h3 hb,zaa h4 hb,h5⟩⟩
theorem TyIs.b {w0:World} {t:Ty} {b:Bool} {A:Option Addr} {n c:Nat} {s:ByteArray} (h:TyIs w0 t b A n c s):b=t.isN:=by cases h<;>rfl
theorem enters_num1:∀args w,(callFunc 246 args).run prog w=.ok (.enter 246 args) w:=enters_of func246 kr rfl
theorem num1_any (b:Bool) (A:Option Addr) (n c:Nat) (s:ByteArray) (w:World) :
 Calls prog 246 #[.agg (tyC b A n c s).toArray] w fun e w'=>e=.returned (.bool !b)∧Below w.heap.size w w':=by
 have hk:=(Hp.start w).new 275 (tyC b A n c s);have hb:=hk.below0;have d0:=(hk.blk 0 rfl).cell 0;simp only[List.getElem?_cons_zero]at d0;go_enter func246,ntmps246;go_wp2_with fail;go_ret;exact zvl
theorem indexV_any (w0:World) (A:Option Addr) (c:Nat) (l:List Ty) (hl:l.length≤1000000) (W:World) (hx:Tys w0 W A l) :
 Calls prog 263 #[.slice A l.length c,.func (.func 246) #[] #[]] W fun e w'=>(∃y:Int,e=.returned (.int .i64 y)∧(0≤y↔l.all Ty.isN=false))∧Below W.heap.size W w':=by
 have gU:=enters_num1;obtain⟨R,hR⟩:∃R,l.all Ty.isN=R:=⟨_,rfl⟩;rw[hR];have HR:=hid hR;clear hR;go_enter func263,ntmps263;go_upto_region 2 with fail;go_loopg [8] l.length (fun m s8 wx=>∃i:Nat,i≤l.length∧m=l.length-i∧s8=.int .i64 (i:Int)∧Below W.heap.size W wx∧Hid ((l.take i).all Ty.isN=true));case atStart=>exact⟨0,Nat.zero_le _,rfl,rfl,Below.refl _ _,hid rfl⟩
 case round =>
  obtain⟨i,hi,rfl,rfl,hb,HI⟩:=hrel;by_cases ay:i<l.length
  ·have aM:(i:Int)<(l.length:Int):=om;have aL:(0:Int)≤(i:Int):=om;obtain⟨t,ht⟩:∃t,l[i]? =some t:=⟨_,List.getElem?_eq_getElem ay⟩;obtain⟨ad,b,WA,n,tc,s,rfl,c0,c1,c2,hT⟩:=(hx.up hb).at_ i t ht;have HC:=hid (num1_any b WA n tc s wr);have sn:=hT.b;cases b with
   | false =>
     have HM:Hid (R=false):=hid (by rw[←HR.out];exact all_bad ht sn.symm);clear ht hT sn;exact zt45
   | true =>
     have ed:Hid ((l.take (i+1)).all Ty.isN=true):=hid (by rw[all_take ht,HI.out,←sn];rfl);clear ht hT sn;exact zt18
  ·have aM:¬(i:Int)<(l.length:Int):=om;have HM:Hid (R=true):=hid zyi;go_wp2_with fail;go_ret;exact⟨⟨_,rfl,by rw[HM.out];decide⟩,hb⟩
theorem containsV_any (w0:World) (A:Option Addr) (c:Nat) (l:List Ty) (hl:l.length≤1000000) (W:World) (hx:Tys w0 W A l) :
 Calls prog 245 #[.slice A l.length c,.func (.func 246) #[] #[]] W fun e w'=>e=.returned (.bool !(l.all Ty.isN))∧Below W.heap.size W w':=by
 have HC:=hid (indexV_any w0 A c l hl W hx);obtain⟨R,hR⟩:∃R,l.all Ty.isN=R:=⟨_,rfl⟩;rw[hR]at HC ⊢;clear hR;go_enter func245,ntmps245;go_wp2_with fail;refine HC.out.mono ?_;rintro e w1 ⟨⟨y,rfl,hy⟩,hb⟩;by_cases h:0≤y
 ·exact zt49
 ·have HY:Hid (R=true):=hid (by rw[←Bool.not_eq_false];exact fun e=>h (hy.2 e));clear hy;go_wp2_with fail;go_ret;exact⟨by rw[HY.out];simp;omega,hb⟩
theorem tnumbers_any (w0:World) (A:Option Addr) (c:Nat) (l:List Ty) (hl:l.length≤1000000) (W:World) (hx:Tys w0 W A l) :
 Calls prog 205 #[.slice A l.length c] W fun e w'=>e=.returned (.bool (l.all Ty.isN))∧Below W.heap.size W w':=by
 have HC:=hid (containsV_any w0 A c l hl W hx);go_enter func205,ntmps205;go_wp2_with fail;refine HC.out.mono ?_;rintro e w1 ⟨rfl,hb⟩;go_wp2_with fail;go_ret;exact⟨by simp,hb⟩
theorem first_any (w0:World) (A:Option Addr) (c:Nat) (a:Ty) (r:List Ty) (hl:(a::r).length≤1000000) (hc:(a::r).length≤c) (hr:0<r.length) (W:World) (h0:Below w0.heap.size w0 W) (hx:Tys w0 W A (a::r)) :
 Calls prog 206 #[.slice A (a::r).length c] W fun e w'=>(∃y:Int,e=.returned (.int .i64 y)∧(y=0↔r.all (agree a)=true))∧Below W.heap.size W w':=by
 obtain⟨R,hR⟩:∃R,r.all (agree a)=R:=⟨_,rfl⟩;rw[hR];have HR:=hid hR;clear hR;obtain⟨ad,b,WA,n,tc,s,rfl,c0,c1,c2,hT⟩:=hx.at_ 0 a rfl;simp only[List.length_cons]at hl hc ⊢;have gD:¬c=1:=om;have ad0:ad.add (0*3)=ad:=rfl;rw[ad0]at c0 c1 c2;have dD:(1:Int)≤((r.length+1:Nat):Int):=om;go_enter func206,ntmps206;go_upto_region 2 with fail;clear dD gD;go_loopg [9] r.length (fun m s9 wx=>∃i:Nat,i≤r.length∧m=r.length-i∧s9=.int .i64 (i:Int)∧Hp [] W [] wx∧Hid ((r.take i).all (agree a)=true));case atStart=>exact⟨0,Nat.zero_le _,rfl,rfl,Hp.start W,hid rfl⟩
 case round =>
  obtain⟨i,hi,rfl,rfl,hM,HI⟩:=hrel;have hb:=hM.below0;by_cases ay:i<r.length
  ·have aM:(i:Int)<(r.length:Int):=om;have aL:(0:Int)≤(i:Int):=om;obtain⟨t,ht⟩:∃t,r[i]? =some t:=⟨_,List.getElem?_eq_getElem ay⟩;obtain⟨ad',b',WA',n',tc',s',hA,d0,d1,d2,pU⟩:=(hx.up hb).at_ (i+1) t (by rw[List.getElem?_cons_succ];exact ht);cases hA;have ha2:ad.add ((i+1)*3)=⟨ad.block,ad.off+3+i*3,none⟩:=by
    unfold Addr.add;rw[if_neg om,show ad.off+(i+1)*3=ad.off+3+i*3 by omega]
   rw[ha2]at d0 d1 d2;simp only at d1 d2;have e0:=zaa c0 hb;have e1:=zaa c1 hb;have e2:=zaa c2 hb;have HT:=hid (all_take (p:=agree a) ht);have HB:=hid (fun h=>all_bad (p:=agree a) ht h);clear ha2 ht;have aA:=hM.new 275 (tyC b' WA' n' tc' s');go_upto_region 4 with fail;generalize wr.alloc (.cells #[.bool b',.slice WA' n' tc',.string s'] 275)=W2 at *;generalize wr.heap.size=g2 at *;have k0:=zaa c0 aA.below0;have k1:=zaa c1 aA.below0;have k2:=zaa c2 aA.below0;have f0:=(aA.blk 0 rfl).cell 0;have f1:=(aA.blk 0 rfl).cell 1;have f2:=(aA.blk 0 rfl).cell 2;simp only[List.getElem?_cons_zero,List.getElem?_cons_succ]at f0 f1 f2;have HC:=hid (agree_any w0 W2.drew ((h0.trans (aA.below0.mono h0.size)).trans (Below.refl _ _).drew) hT pU);obtain⟨Q,hQ⟩:∃Q,agree a t=Q:=⟨_,rfl⟩;rw[hQ]at HC HT HB;clear hQ d0 d1 d2 e0 e1 e2 hM;go_region_held3 (fun w'=>w'.cell? ad=some (.bool b)∧w'.cell? ⟨ad.block,ad.off+1,none⟩=some (.slice WA n tc)∧w'.cell? ⟨ad.block,ad.off+2,none⟩=some (.string s)∧w'.cell? ⟨g2,0,none⟩=some (.bool b')∧w'.cell? ⟨g2,1,none⟩=some (.slice WA' n' tc')∧w'.cell? ⟨g2,2,none⟩=some (.string s')) (first|exact⟨k0,k1,k2,f0,f1,f2⟩|exact⟨m0,m1,m2,m3,m4,m5⟩) (first|(go_at_call 247;refine HC.out.mono ?_;rintro e w4 ⟨⟨y,rfl,hy⟩,aK⟩;have bn:=aA.drew.next aK;have m0:=zaa c0 bn.below0;have m1:=zaa c1 bn.below0;have m2:=zaa c2 bn.below0;have m3:=(bn.blk 0 rfl).cell 0;have m4:=(bn.blk 0 rfl).cell 1;have m5:=(bn.blk 0 rfl).cell 2));all_goals
    clear m0 m1 m2 m3 m4 m5 k0 k1 k2 f0 f1 f2 HC aA;cases Q with
    | true =>
      have dE:y=0:=hy.2 rfl;subst dE;have ed:Hid ((r.take (i+1)).all (agree a)=true):=hid (by rw[HT.out,HI.out];rfl);clear HT HB HI hy;go_wp2_with fail;go_roundg (r.length-(i+1));case measure=>omega
      case rel=>exact⟨i+1,ay,rfl,by first|rfl|simp,bn.tail,ed⟩
    | false =>
      have dE:(y==0)=false:=by simpa using fun e=>by simpa using hy.1 e
      have fB:(y != 0)=true:=by simpa using dE
      have HM:Hid (R=false):=hid (by rw[←HR.out];exact HB.out rfl);have HY:=hid hy;clear HT HB HI hy;go_wp2_with fail;go_ret;exact⟨⟨y,rfl,by rw[HM.out];exact HY.out⟩,bn.below0⟩
  ·have aM:¬(i:Int)<(r.length:Int):=om;have HM:Hid (R=true):=hid zyi;go_wp2_with fail;go_ret;exact⟨⟨_,rfl,by rw[HM.out];simp⟩,hb⟩
end Nf
namespace Nf
open Go.RowKit Go.Shelf
open Lib (hid)
def fitsK (kind num:Int) (a:Ty) (r:List Ty):Bool :=
 if kind=6 then(decide (num=0)||decide (num=1)||(a::r).all Ty.isN)&&r.all (agree a)
 else if kind=7 then(a::r).all Ty.isN
 else r.all (agree a)
def YOut (R:Bool) (e:Ending):Prop:=∃y:Int,e=.returned (.int .i64 y)∧(y=0↔R=true)
theorem c3_any (w0:World) (n:Nk) (KA:Option Addr) (kc:Nat) (A:Option Addr) (c:Nat) (a:Ty) (r:List Ty) (hl:(a::r).length≤1000000) (hc:(a::r).length≤c) (hr:0<r.length) (W:World) (h0:Below w0.heap.size w0 W) (hx:Tys w0 W A (a::r)) :
 Calls prog 208 #[nkV n KA kc,.slice A (a::r).length c] W fun e w'=>YOut (r.all (agree a)) e∧Below W.heap.size W w':=by
 have hk:=(Hp.start W).new 68 (nkcs n KA kc);have hb:=hk.below0;have HC:=hid (first_any w0 A c a r hl hc hr _ (h0.trans (hb.mono h0.size)) (hx.up hb));obtain⟨R,hR⟩:∃R,r.all (agree a)=R:=⟨_,rfl⟩;rw[hR]at HC ⊢;clear hR hk;generalize (a::r).length=ln at *;go_enter func208,ntmps208;go_wp2_with fail;refine HC.out.mono ?_;rintro e w1 ⟨⟨y,rfl,hy⟩,aC⟩;have HY:=hid hy;clear hy;go_wp2_with fail;go_ret;exact⟨⟨y,rfl,HY.out⟩,hb.trans (aC.mono hb.size)⟩
theorem c2_any (w0:World) (n:Nk) (KA:Option Addr) (kc:Nat) (A:Option Addr) (c:Nat) (l:List Ty) (hl:l.length≤1000000) (W:World) (hx:Tys w0 W A l) :
 Calls prog 207 #[nkV n KA kc,.slice A l.length c] W fun e w'=>YOut (l.all Ty.isN) e∧Below W.heap.size W w':=by
 have hk:=(Hp.start W).new 68 (nkcs n KA kc);have hb:=hk.below0;have HC:=hid (tnumbers_any w0 A c l hl _ (hx.up hb));obtain⟨R,hR⟩:∃R,l.all Ty.isN=R:=⟨_,rfl⟩;rw[hR]at HC ⊢;clear hR hk;cases R;all_goals
  go_enter func207,ntmps207;go_wp2_with fail;refine HC.out.mono ?_;rintro e w1 ⟨rfl,aC⟩;go_wp2_with fail;go_ret;exact⟨⟨_,rfl,by simp⟩,hb.trans (aC.mono hb.size)⟩
theorem c1_any (w0:World) (n:Nk) (KA:Option Addr) (kc:Nat) (A:Option Addr) (c:Nat) (a:Ty) (r:List Ty) (hl:(a::r).length≤1000000) (hc:(a::r).length≤c) (hr:0<r.length) (W:World) (h0:Below w0.heap.size w0 W) (hx:Tys w0 W A (a::r)) :
 Calls prog 204 #[nkV n KA kc,.slice A (a::r).length c] W fun e w'=>YOut ((decide (n.num=0)||decide (n.num=1)||(a::r).all Ty.isN)&&r.all (agree a)) e∧Below W.heap.size W w':=by
 have hk:=(Hp.start W).new 68 (nkcs n KA kc);have hb:=hk.below0;have d1:=(hk.blk 0 rfl).cell 1;simp only[List.getElem?_cons_zero,List.getElem?_cons_succ]at d1;have HC:=hid (fun W' (h:Below W.heap.size W W')=>first_any w0 A c a r hl hc hr W' (h0.trans (h.mono h0.size)) (hx.up h));have HN:=hid (tnumbers_any w0 A c (a::r) hl _ (hx.up hb));obtain⟨Q,hQ⟩:∃Q,(a::r).all Ty.isN=Q:=⟨_,rfl⟩;obtain⟨R,hR⟩:∃R,r.all (agree a)=R:=⟨_,rfl⟩;rw[hR]at HC ⊢;rw[hQ]at HN ⊢;clear hR hQ hk hx;generalize (a::r).length=ln at *;cases h1:(n.num==0)with
 | true =>
   have e1:n.num=0:=by simpa using h1
   have HD:Hid (decide (n.num=0)=true):=hid (decide_eq_true e1);have h2:(n.num != 0)=false:=by simpa using h1
   clear e1;go_enter func204,ntmps204;go_wp2_with fail;refine(HC.out _ hb).mono ?_;rintro e w1 ⟨⟨y,rfl,hy⟩,aC⟩;have HY:=hid hy;clear hy;go_wp2_with fail;go_ret;exact⟨⟨y,rfl,by rw[HD.out];simpa using HY.out⟩,hb.trans (aC.mono hb.size)⟩
 | false =>
   have h2:(n.num != 0)=true:=by simpa using h1
   have HD:Hid (decide (n.num=0)=false):=hid (decide_eq_false (by simpa using h1));cases h3:(n.num==1)with
   | true =>
     have e1:n.num=1:=by simpa using h3
     have jB:Hid (decide (n.num=1)=true):=hid (decide_eq_true e1);have h4:(n.num != 1)=false:=by simpa using h3
     clear e1;go_enter func204,ntmps204;go_wp2_with fail;refine(HC.out _ hb).mono ?_;rintro e w1 ⟨⟨y,rfl,hy⟩,aC⟩;have HY:=hid hy;clear hy;go_wp2_with fail;go_ret;exact⟨⟨y,rfl,by rw[HD.out,jB.out];simpa using HY.out⟩,hb.trans (aC.mono hb.size)⟩
   | false =>
     have jB:Hid (decide (n.num=1)=false):=hid (decide_eq_false (by simpa using h3));have h4:(n.num != 1)=true:=by simpa using h3
     cases Q with
     | false =>
       go_enter func204,ntmps204;go_wp2_with fail;refine HN.out.mono ?_;rintro e w1 ⟨rfl,aC⟩;go_wp2_with fail;go_ret;exact⟨⟨_,rfl,by rw[HD.out,jB.out];simp⟩,hb.trans (aC.mono hb.size)⟩
     | true =>
       go_enter func204,ntmps204;go_wp2_with fail;refine HN.out.mono ?_;rintro e w1 ⟨rfl,aC⟩;go_wp2_with fail;refine(HC.out _ (hb.trans (aC.mono hb.size))).mono ?_;rintro e w2 ⟨⟨y,rfl,hy⟩,aG⟩;have HY:=hid hy;clear hy;go_wp2_with fail;go_ret;exact⟨⟨y,rfl,by rw[HD.out,jB.out];simpa using HY.out⟩,(hb.trans (aC.mono hb.size)).trans (aG.mono (hb.trans (aC.mono hb.size)).size)⟩
end Nf
section
open Go.RowKit Go.Shelf
abbrev zas (l:List Bp):List Value:=l.flatMap fun x=>[.string x.1,.string x.2]
theorem bcells_len (l:List Bp):(zas l).length=l.length*2:=by
 induction l with
 | nil=>rfl
 | cons a l ih =>
  have e:zas (a::l)=.string a.1:: .string a.2::zas l:=rfl;rw[e];simp only[List.length_cons,ih];omega
theorem bcells_at {l:List Bp} {i:Nat} {x:Bp} (h:l[i]? =some x):(zas l)[i*2]? =some (.string x.1)∧(zas l)[i*2+1]? =some (.string x.2):=by
 induction l generalizing i with
 | nil=>simp at h
 | cons y l ih =>
  have e:zas (y::l)=.string y.1:: .string y.2::zas l:=rfl;cases i with
  | zero =>
   have:y=x:=by simpa using h
   subst this;exact zv6
  | succ i =>
   have h1:=ih zyc;rw[e,show(i+1)*2=i*2+1+1 by omega];simpa using h1
theorem bcells_of {W:World} {ad:Addr} {l:List Bp} (h:Prs W (some ad) l):∀j u,(zas l)[j]? =some u→W.cell? (ad.add j)=some u:=by
 intro j u hu;have hj:=(List.getElem?_eq_some_iff.1 hu).1;rw[bcells_len]at hj;obtain⟨x,hx⟩:∃x,l[j/2]? =some x:=⟨_,List.getElem?_eq_getElem om⟩;obtain⟨ad',e,h1,h2⟩:=h.at_ _ _ hx;cases e;obtain⟨b1,b2⟩:=bcells_at hx;rcases(by omega:j=j/2*2∨j=j/2*2+1)with jT|jT
 ·rw[jT]at hu ⊢;rw[b1]at hu;rw[←hu];exact h1
 ·rw[jT]at hu ⊢;rw[b2]at hu;rw[←hu,←h2];congr 1;unfold Addr.add;split
  ·omega
  ·split
   ·rename_i h9;rw[h9]
   ·rfl
theorem bprs_row {e:TypeId} {W:World} {A:Option Addr} {n c:Nat} {l:List Bp} (h:W.ownsRow 0 e 2 (.slice A n c) l.length (zas l)):Prs W A l:=by
 refine⟨fun i s hs=>?_⟩;have hi:=(List.getElem?_eq_some_iff.1 hs).1;obtain⟨g,cap,hv,-⟩:=zak h om;injection hv with hA hn hc;subst hA;rw[hn]at h;refine⟨_,rfl,?_⟩;rw[zce];exact⟨zal h (bcells_at hs).1,zal h (bcells_at hs).2⟩
theorem Hp.emptyrow {o:List Nat} {w W:World} {it:List It} (h:Hp o w it W) (e:TypeId) (size:Nat):Hp o w (irow e size (.slice (some ⟨W.heap.size,0,none⟩) 0 0) 0 []::it) (W.alloc (.cells #[] e)):=by
 have cA:(W.alloc (.cells #[] e)).ownsRow 0 e size (.slice (some ⟨W.heap.size,0,none⟩) 0 0) 0 []:=by
  refine⟨by simp,.inr ⟨W.heap.size,0,#[],rfl,Nat.zero_le _,Blk.new W e [],Nat.le_refl _,by unfold maxLen;omega,by simp,by simp⟩⟩
 have h1:Hp (ow []) W [irow e size (.slice (some ⟨W.heap.size,0,none⟩) 0 0) 0 []] (W.alloc (.cells #[] e)):=by
  refine⟨⟨fun x hx=>?_,by simp[irow,Value.ownBlock]⟩,⟨(Below.refl _ _).alloc (Nat.zero_le _) _,fun k hk _=>Below.heap_alloc _ _ _ hk,fun b hb=>.inr ?_⟩⟩
  ·rw[List.mem_singleton.1 hx];exact cA
  ·simp[irow,Value.ownBlock]at hb;omega
 exact zvg
theorem cluse_info:(prog.info? 50).map (fun i=>(i.zero,i.size,i.bytes))=some (some (.agg #[.string ⟨#[]⟩,.string ⟨#[]⟩]),2,32):=kr
theorem clone_use (A:Option Addr) (c:Nat) (x:List Bp) (W:World) (hx:Prs W A x) (gu:x.length≤1000000) :
 Calls prog 28 #[.slice A x.length c] W fun e w'=>∃A' c',e=.returned (.slice A' x.length c')∧Hp [] W [irow 50 2 (.slice A' x.length c') x.length (zas x)] w':=by
 obtain⟨j0,bT,dE,fB,dH⟩:=info3 cluse_info;cases A with
 | none =>
  have dg:x=[]:=by
   cases x with
   | nil=>rfl
   | cons a l =>
    obtain⟨ad,e,-⟩:=hx.at_ 0 a rfl;cases e
  subst dg;have hq:∀w,(binOp .eql 25 (.slice none 0 c) (.slice none 0 0)).run prog w=.ok (.bool true) w:=fun w=>kr;go_enter func28,ntmps28;go_wp2_with fail;go_ret;exact⟨none,0,rfl,(Hp.start W).nilrow 50 2⟩
 | some ad =>
  have hq:∀(n:Nat) w,(binOp .eql 25 (.slice (some ad) n c) (.slice none 0 0)).run prog w=.ok (.bool false) w:=fun n w=>kr;cases kX:decide (x=[])with
  | true =>
   obtain rfl:x=[]:=of_decide_eq_true kX;have rk:∀(g:Nat) (w:World),(Builtin.append_ #[25,25] 25 #[.slice (some ⟨g,0,none⟩) 0 0,.slice (some ad) 0 c]).run prog w=.ok (.slice (some ⟨g,0,none⟩) 0 0) w:=fun g w=>by
    have:=run_append_room_cells (P:=prog) (w:=w) 25 25 50 j0 underlying25 bT g 0 0 0 ad 0 c [] zy1 zy1 zy1 zy1 zy1 zy1;exact this
   go_enter func28,ntmps28;go_wp2_with fail;go_ret;exact⟨_,_,rfl,(Hp.start W).emptyrow 50 2⟩
  | false =>
   have bq:0<x.length:=by
    cases x with
    | nil=>simp at kX
    | cons a l=>simp
   have ar:=(Hp.start W).emptyrow 50 2;have cG:=bcells_of (hx.up ((Below.refl W.heap.size W).alloc (Nat.le_refl _) (.cells #[] 50)));go_enter func28,ntmps28;go_wp2_with (first|(at_builtin;refine zac rfl _ _ 25 rfl 0 50 j0 _ 2 32 underlying25 bT dE fB dH rfl zy0 _ 0 [] rfl (ar.row 0 rfl) ad x.length c (zas x) rfl (bcells_len x) cG zyv bq zy2 om (Nat.zero_le _) ?_;intro v' w2 af ai aH;obtain⟨A2,dh,rfl⟩:=zab af));exact zt50
theorem clref_info:(prog.info? 89).map (fun i=>(i.zero,i.size,i.bytes))=some (some (.agg #[.string ⟨#[]⟩,.string ⟨#[]⟩]),2,32):=kr
theorem clone_ref (A:Option Addr) (c:Nat) (x:List Bp) (W:World) (hx:Prs W A x) (gu:x.length≤1000000) :
 Calls prog 29 #[.slice A x.length c] W fun e w'=>∃A' c',e=.returned (.slice A' x.length c')∧Hp [] W [irow 89 2 (.slice A' x.length c') x.length (zas x)] w':=by
 obtain⟨j0,bT,dE,fB,dH⟩:=info3 clref_info;cases A with
 | none =>
  have dg:x=[]:=by
   cases x with
   | nil=>rfl
   | cons a l =>
    obtain⟨ad,e,-⟩:=hx.at_ 0 a rfl;cases e
  subst dg;have hq:∀w,(binOp .eql 26 (.slice none 0 c) (.slice none 0 0)).run prog w=.ok (.bool true) w:=fun w=>kr;go_enter func29,ntmps29;go_wp2_with fail;go_ret;exact⟨none,0,rfl,(Hp.start W).nilrow 89 2⟩
 | some ad =>
  have hq:∀(n:Nat) w,(binOp .eql 26 (.slice (some ad) n c) (.slice none 0 0)).run prog w=.ok (.bool false) w:=fun n w=>kr;cases kX:decide (x=[])with
  | true =>
   obtain rfl:x=[]:=of_decide_eq_true kX;have rk:∀(g:Nat) (w:World),(Builtin.append_ #[26,26] 26 #[.slice (some ⟨g,0,none⟩) 0 0,.slice (some ad) 0 c]).run prog w=.ok (.slice (some ⟨g,0,none⟩) 0 0) w:=fun g w=>by
    have:=run_append_room_cells (P:=prog) (w:=w) 26 26 89 j0 underlying26 bT g 0 0 0 ad 0 c [] zy1 zy1 zy1 zy1 zy1 zy1;exact this
   go_enter func29,ntmps29;go_wp2_with fail;go_ret;exact⟨_,_,rfl,(Hp.start W).emptyrow 89 2⟩
  | false =>
   have bq:0<x.length:=by
    cases x with
    | nil=>simp at kX
    | cons a l=>simp
   have ar:=(Hp.start W).emptyrow 89 2;have cG:=bcells_of (hx.up ((Below.refl W.heap.size W).alloc (Nat.le_refl _) (.cells #[] 89)));go_enter func29,ntmps29;go_wp2_with (first|(at_builtin;refine zac rfl _ _ 26 rfl 0 89 j0 _ 2 32 underlying26 bT dE fB dH rfl zy0 _ 0 [] rfl (ar.row 0 rfl) ad x.length c (zas x) rfl (bcells_len x) cG zyv bq zy2 om (Nat.zero_le _) ?_;intro v' w2 af ai aH;obtain⟨A2,dh,rfl⟩:=zab af));exact zt50
theorem svals_len (l:List ByteArray):(svals l).length=l.length*1:=by simp[svals]
theorem svals_of {W:World} {ad:Addr} {l:List ByteArray} (h:Strs W (some ad) l):∀j u,(svals l)[j]? =some u→W.cell? (ad.add j)=some u:=by
 intro j u hu;rw[List.getElem?_map,Option.map_eq_some_iff]at hu;obtain⟨s,hs,rfl⟩:=hu;obtain⟨ad',e,h1⟩:=h.at_ j s hs;cases e;exact h1
theorem clstr_info:(prog.info? 9).map (fun i=>(i.zero,i.size,i.bytes))=some (some (.string ⟨#[]⟩),1,16):=kr
theorem clone_str (A:Option Addr) (c:Nat) (x:List ByteArray) (W:World) (hx:Strs W A x) (gu:x.length≤1000000) :
 Calls prog 110 #[.slice A x.length c] W fun e w'=>∃A' c',e=.returned (.slice A' x.length c')∧Hp [] W [irow 9 1 (.slice A' x.length c') x.length (svals x)] w':=by
 obtain⟨j0,bT,dE,fB,dH⟩:=info3 clstr_info;cases A with
 | none =>
  have dg:x=[]:=by
   cases x with
   | nil=>rfl
   | cons a l =>
    obtain⟨ad,e,-⟩:=hx.at_ 0 a rfl;cases e
  subst dg;have hq:∀w,(binOp .eql 55 (.slice none 0 c) (.slice none 0 0)).run prog w=.ok (.bool true) w:=fun w=>kr;go_enter func110,ntmps110;go_wp2_with fail;go_ret;exact⟨none,0,rfl,(Hp.start W).nilrow 9 1⟩
 | some ad =>
  have hq:∀(n:Nat) w,(binOp .eql 55 (.slice (some ad) n c) (.slice none 0 0)).run prog w=.ok (.bool false) w:=fun n w=>kr;cases kX:decide (x=[])with
  | true =>
   obtain rfl:x=[]:=of_decide_eq_true kX;have rk:∀(g:Nat) (w:World),(Builtin.append_ #[55,55] 55 #[.slice (some ⟨g,0,none⟩) 0 0,.slice (some ad) 0 c]).run prog w=.ok (.slice (some ⟨g,0,none⟩) 0 0) w:=fun g w=>by
    have:=run_append_room_cells (P:=prog) (w:=w) 55 55 9 j0 underlying55 bT g 0 0 0 ad 0 c [] zy1 zy1 zy1 zy1 zy1 zy1;exact this
   go_enter func110,ntmps110;go_wp2_with fail;go_ret;exact⟨_,_,rfl,(Hp.start W).emptyrow 9 1⟩
  | false =>
   have bq:0<x.length:=by
    cases x with
    | nil=>simp at kX
    | cons a l=>simp
   have ar:=(Hp.start W).emptyrow 9 1;have cG:=svals_of (hx.up ((Below.refl W.heap.size W).alloc (Nat.le_refl _) (.cells #[] 9)));go_enter func110,ntmps110;go_wp2_with (first|(at_builtin;refine zac rfl _ _ 55 rfl 0 9 j0 _ 1 16 underlying55 bT dE fB dH rfl zy0 _ 0 [] rfl (ar.row 0 rfl) ad x.length c (svals x) rfl (svals_len x) cG (by intro u hu;obtain⟨y,_,rfl⟩:=List.mem_map.1 hu;rfl) bq zy2 om (Nat.zero_le _) ?_;intro v' w2 af ai aH;obtain⟨A2,dh,rfl⟩:=zab af));exact zt50
end
namespace Nf
open Go.RowKit Go.Shelf
theorem strs_row {W:World} {A:Option Addr} {n c:Nat} {l:List ByteArray} (h:W.ownsRow 0 9 1 (.slice A n c) l.length (svals l)):Strs W A l:=⟨fun i s hs=>by
 have hl:=(List.getElem?_eq_some_iff.1 hs).1;obtain⟨g,cap,hv,-⟩:=zak h om;injection hv with hA hn hc;subst hA;exact⟨_,rfl,h.cells rfl i _ (by rw[List.getElem?_map,hs];rfl)⟩⟩
theorem tfieldP_any {d:Po} {L:Lp} {A:Option Addr} {c:Nat} {S:List Sm} {w0:World} (E:Env w0 d L A c S) (hR:zah chkB S d=true) (a t:ByteArray) (fd:Fd) (hf:findS S d.uses a t=some fd) (ff:fd.words.length≤1000000) (w:World) (h0:Below w0.heap.size w0 w) :
 Calls prog 52 #[polV d L,.slice A S.length c,.agg #[.string a,.string t]] w fun e w'=>(∃CA cc,∃u k:Nat,AtF S d.uses a t u k∧e=.returned (.tuple #[plV (u:Int) ((k:Int)+2),.agg (fcs fd CA cc).toArray,.int .i64 0])∧Hp [] w [irow 9 1 (.slice CA fd.words.length cc) fd.words.length (svals fd.words)] w'):=by
 have hk:=(((((Hp.start w).new 29 (polcs d L)).new 89 [.string a,.string t]).new 122 [.int .i64 0,.int .i64 0]).new 57 zFl);obtain⟨g,hg⟩:∃g,w.heap.size=g:=⟨_,rfl⟩;simp only[sizeA,hg]at hk;go_enter func52,ntmps52;go_upto_region 1 with fail;obtain⟨q,hq⟩:∃f,g+1=f:=⟨_,rfl⟩;obtain⟨h,hh⟩:∃f,q+1=f:=⟨_,rfl⟩;obtain⟨o,ho⟩:∃f,h+1=f:=⟨_,rfl⟩;simp only[hq,hh,ho]at hk ⊢;generalize hW:(((w.alloc (.cells #[.string d.name,.slice L.ua d.uses.length L.uc,.slice L.ra d.reveal.length L.rc,.slice L.na d.nodes.length L.nc,.int .i64 d.root,.string d.scope,.int .i64 d.limit,.string d.escrow] 29)).alloc (.cells #[.string a,.string t] 89)).alloc (.cells #[.int .i64 0,.int .i64 0] 122)).alloc (.cells #[.string ⟨#[]⟩,.int .i64 0,.int .i64 0,.int .i64 0,.slice none 0 0] 57)=W1 at *;have ar:Hp [] w [iblk o 57 zFl,iblk h 122 [.int .i64 0,.int .i64 0],iblk q 89 [.string a,.string t],iblk g 29 (polcs d L)] W1:=hk;clear hk hW hq hh ho;obtain⟨c0,c1,c2,c3,c4,c5,c6,c7⟩:=(ar.blk 3 rfl).get8;have HC:=Lib.hid (ready_any d L A c S E.sl E.cap E.m E.pd w0 W1 E.s E.p (h0.trans (ar.below0.mono h0.size)));rw[hR]at HC;have HF:=Lib.hid (fun W (hb:Below w.heap.size w W)=>find_fitP d L A c S a t E.sl (fun m hm=>(E.m m hm).len) E.pd.ul w0 W E.s E.p.us (h0.trans (hb.mono h0.size)));rw[hf]at HF;clear E hR hf;go_wp2_with fail;refine HC.out.mono ?_;rintro e w2 ⟨⟨y,rfl,hy⟩,aG⟩;obtain rfl:y=0:=hy.2 rfl;have ah:=(ar.next aG).new 172 (fitC d L A S.length c);clear HC ar aG c0 c1 c2 c3 c4 c5 c6 c7 hy;go_upto_region 4 with fail;generalize w2.alloc (.cells #[.string d.name,.slice L.ua d.uses.length L.uc,.slice L.ra d.reveal.length L.rc,.slice L.na d.nodes.length L.nc,.int .i64 d.root,.string d.scope,.int .i64 d.limit,.string d.escrow,.slice A S.length c] 172)=W3 at *;generalize w2.heap.size=gf at *;obtain⟨c0,c1,c2,c3,c4,c5,c6,c7,c8⟩:=blk9 (ah.blk 0 rfl);have r0:=(ah.blk 3 rfl).cell 0;have r1:=(ah.blk 3 rfl).cell 1;simp only[List.getElem?_cons_zero,List.getElem?_cons_succ]at r0 r1;go_wp2_with fail;refine(HF.out _ ah.below0).mono ?_;rintro e w4 ⟨⟨WA,wc,u,k,aH,h1,hs⟩,aK⟩;have eh:=Lib.hid aH;obtain⟨x,hx⟩:∃x:Int,(u:Int)=x:=⟨_,rfl⟩;obtain⟨y,hy⟩:∃y:Int,(k:Int)+2=y:=⟨_,rfl⟩;have HXY:=Lib.hid (And.intro hx hy);rw[hx,hy]at h1;subst h1;clear hx hy aH;have aq:=((ah.next aK).new 122 [.int .i64 x,.int .i64 y]).new 57 (fcs fd WA wc);simp only[sizeA]at aq;clear ah aK c0 c1 c2 c3 c4 c5 c6 c7 c8 r0 r1 HF;go_upto_region 7 with fail;generalize (w4.alloc (.cells #[.int .i64 x,.int .i64 y] 122)).alloc (.cells #[.string fd.name,.int .i64 fd.kind,.int .i64 fd.min,.int .i64 fd.max,.slice WA fd.words.length wc] 57)=W5 at *;obtain⟨fb,eb⟩:∃f,w4.heap.size+1=f:=⟨_,rfl⟩;simp only[eb]at aq ⊢;clear eb;generalize w4.heap.size=pb at *;have f4:=(aq.blk 0 rfl).cell 4;simp only[List.getElem?_cons_zero,List.getElem?_cons_succ]at f4;have HX:=Lib.hid (clone_str WA wc fd.words W5 ((hs.up h0).up aq.below0) ff);go_wp2_with fail;refine HX.out.mono ?_;rintro e w6 ⟨CA,cc,rfl,hH⟩;have aw:=(Hp.call (a:=[]) aq hH).perm (List.perm_append_comm (l₁:=[_]) (l₂:=[_,_,_,_,_,_,_]))
 have f5:=(aw.blk 0 rfl).cell 4;have z5:=(aw.blk 0 rfl).frozen 4;simp only[List.getElem?_cons_zero,List.getElem?_cons_succ]at f5;have aE:=aw.set 0 rfl 4 (.slice CA fd.words.length cc);clear HX hH aq f4;go_upto_region 8 with fail;generalize w6.setCell ⟨fb,4,none⟩ (.slice CA fd.words.length cc)=W7 at *;have aE:Hp [] w [iblk fb 57 (fcs fd CA cc),iblk pb 122 [.int .i64 x,.int .i64 y],iblk gf 172 (fitC d L A S.length c),iblk o 57 zFl,iblk h 122 [.int .i64 0,.int .i64 0],iblk q 89 [.string a,.string t],iblk g 29 (polcs d L),irow 9 1 (.slice CA fd.words.length cc) fd.words.length (svals fd.words)] W7:=aE;obtain⟨d0,d1,d2,d3,d4⟩:=Blk.get5 (aE.blk 0 rfl);have p0:=(aE.blk 1 rfl).cell 0;have p1:=(aE.blk 1 rfl).cell 1;simp only[List.getElem?_cons_zero,List.getElem?_cons_succ]at p0 p1;have hD:=aE.drew;clear aw f5 z5;refine wp_region_held_drew (S:=(fun w'=>w'.cell? ⟨fb,0,none⟩=some (.string fd.name)∧w'.cell? ⟨fb,1,none⟩=some (.int .i64 fd.kind)∧w'.cell? ⟨fb,2,none⟩=some (.int .i64 fd.min)∧w'.cell? ⟨fb,3,none⟩=some (.int .i64 fd.max)∧w'.cell? ⟨fb,4,none⟩=some (.slice CA fd.words.length cc)∧w'.cell? ⟨pb,0,none⟩=some (.int .i64 x)∧w'.cell? ⟨pb,1,none⟩=some (.int .i64 y))) kr ?_ (fun ae=>?_)
 ·exact⟨d0,d1,d2,d3,d4,p0,p1⟩
 refine tkW 0 (v:=?_) rfl (Or.inl ⟨by rfl,?_⟩) ?_;rotate_left
 ·(intro w bf;(try dsimp only at bf);(obtain⟨q0,q1,q2,q3,q4,q5,q6⟩:=bf);go_simp;(try with_reducible rfl))
 refine zvr ?_;refine tkW 1 (v:=?_) rfl (Or.inl ⟨by rfl,?_⟩) ?_;rotate_left
 ·(intro w bf;(try dsimp only at bf);(obtain⟨q0,q1,q2,q3,q4,q5,q6⟩:=bf);go_simp;(try with_reducible rfl))
 refine zvq ?_;refine tkO 2 rfl fun K hK=>?_;rw[if_pos rr];refine wp_store_row 122 (.tmp 6) (.tmp 40) rr h [.int .i64 x,.int .i64 y].toArray rr rr 122 [.int .i64 0,.int .i64 0].toArray (hD.blk 4 rfl) kr kr kr ?_;have eN:=hD.rowAt 4 rfl [.int .i64 x,.int .i64 y];refine hK.out _ _ ⟨(eN.blk 0 rfl).cell 0,(eN.blk 0 rfl).cell 1,(eN.blk 0 rfl).cell 2,(eN.blk 0 rfl).cell 3,(eN.blk 0 rfl).cell 4,(eN.blk 1 rfl).cell 0,(eN.blk 1 rfl).cell 1⟩ fun ae=>?_;clear hK K;refine tkO 3 rfl fun K hK=>?_;rw[if_pos rr];refine wp_store_row 57 (.tmp 7) (.tmp 41) rr o (fcs fd CA cc).toArray rr rr 57 zFl.toArray (eN.blk 3 rfl) kr kr kr ?_;have eG:=eN.rowAt 3 rfl (fcs fd CA cc);refine hK.out _ _ ⟨(eG.blk 0 rfl).cell 0,(eG.blk 0 rfl).cell 1,(eG.blk 0 rfl).cell 2,(eG.blk 0 rfl).cell 3,(eG.blk 0 rfl).cell 4,(eG.blk 1 rfl).cell 0,(eG.blk 1 rfl).cell 1⟩ fun ae=>?_;clear hK K;refine tkW 4 (v:=?_) rfl (Or.inl ⟨by rfl,?_⟩) ?_;rotate_left
 ·(intro w bf;(try dsimp only at bf);(obtain⟨q0,q1,q2,q3,q4,q5,q6⟩:=bf);go_simp;(try with_reducible rfl))
 refine zvq ?_;refine wpAnyH_done kr ?_ _;go_wp2_with fail;have e0:=(eG.blk 4 rfl).cell 0;have e1:=(eG.blk 4 rfl).cell 1;obtain⟨m0,m1,m2,m3,m4⟩:=Blk.get5 (eG.blk 3 rfl);simp only[List.getElem?_cons_zero,List.getElem?_cons_succ]at e0 e1;refine bodyPost_ret (v:=.tuple #[plV x y,.agg (fcs fd CA cc).toArray,.int .i64 0]) (by simp[results,results52,go_sem,e0,e1,m0,m1,m2,m3,m4]) rfl ?_;have hb:Below w.heap.size w _:=eG.below0;exact⟨CA,cc,u,k,eh.out,by rw[HXY.out.1,HXY.out.2],Hp.sub (it:=[_]) (eG.pull 7 rfl)⟩
theorem tfield_any {d:Po} {L:Lp} {A:Option Addr} {c:Nat} {S:List Sm} {w0:World} (E:Env w0 d L A c S) (hR:zah chkB S d=true) (a t:ByteArray) (fd:Fd) (hf:findS S d.uses a t=some fd) (ff:fd.words.length≤1000000) (w:World) (h0:Below w0.heap.size w0 w) :
 Calls prog 52 #[polV d L,.slice A S.length c,.agg #[.string a,.string t]] w fun e w'=>(∃x y CA cc,e=.returned (.tuple #[plV x y,.agg (fcs fd CA cc).toArray,.int .i64 0]))∧Below w.heap.size w w' :=
 (tfieldP_any E hR a t fd hf ff w h0).mono fun _ _ h=>by obtain⟨CA,cc,u,k,-,h1,h2⟩:=h;exact⟨⟨_,_,CA,cc,h1⟩,h2.below0⟩
end Nf
namespace Nf
open Go.RowKit Go.Shelf
abbrev atV (k n:Int) (s t:ByteArray) (KA:Option Addr) (kn kc:Nat) (at_:Int) (VA:Option Addr) (vn vc:Nat):Value:=.iface 235 (.agg #[.int .i64 k,.int .i64 n,.string s,.string t,.slice KA kn kc,.int .i64 at_,.slice VA vn vc])
theorem truth_any (b:Bool) (w:World):Calls prog 95 #[.bool b] w fun e w'=>e=.returned (atV (if b then 0 else 1) 0 ⟨#[]⟩ ⟨#[]⟩ none 0 0 0 none 0 0)∧Below w.heap.size w w':=by
 cases b;all_goals
  go_enter func95,ntmps95;go_wp2_with fail;go_ret;exact zv0
theorem compare_any (h a b:Int) (h0:0≤h) (h5:h≤5) (w:World):Calls prog 158 #[.int .i64 h,.int .i64 a,.int .i64 b] w fun e w'=>e=.returned (.bool (cmpB h a b))∧Below w.heap.size w w':=by
 rcases(by omega:h=0∨h=1∨h=2∨h=3∨h=4∨h=5)with rfl|rfl|rfl|rfl|rfl|rfl;all_goals
  go_enter func158,ntmps158;go_wp2_with fail;go_ret;exact⟨zao (by rw[Bool.eq_iff_iff];simp[cmpB]),Below.refl _ _⟩
end Nf
namespace Nf
open Go.RowKit Go.Shelf
theorem zck {d:Po} {L:Lp} {A:Option Addr} {c:Nat} {S:List Sm} {w0:World} (E:Env w0 d L A c S) (hR:zah chkB S d=true) (n:Nk) (KA:Option Addr) (kc:Nat) (fd:Fd) (hf:findS S d.uses n.name n.attr=some fd) (ff:fd.words.length≤1000000) (w:World) (h0:Below w0.heap.size w0 w) :
 Calls prog 160 #[fitV d L A S.length c,nkV n KA kc] w fun e w'=>(∃CA cc,e=.returned (.agg (fcs fd CA cc).toArray))∧Below w.heap.size w w':=by
 have hk:=(((Hp.start w).new 93 (fitC d L A S.length c)).new 68 (nkcs n KA kc)).new 57 zFl;obtain⟨g,hg⟩:∃g,w.heap.size=g:=⟨_,rfl⟩;simp only[sizeA,hg]at hk;go_enter func160,ntmps160;go_upto_region 1 with fail;obtain⟨q,hq⟩:∃f,g+1=f:=⟨_,rfl⟩;obtain⟨h,hh⟩:∃f,q+1=f:=⟨_,rfl⟩;simp only[hq,hh]at hk ⊢;generalize hW:((w.alloc (.cells #[.string d.name,.slice L.ua d.uses.length L.uc,.slice L.ra d.reveal.length L.rc,.slice L.na d.nodes.length L.nc,.int .i64 d.root,.string d.scope,.int .i64 d.limit,.string d.escrow,.slice A S.length c] 93)).alloc (.cells #[.int .i64 n.kind,.int .i64 n.num,.string n.name,.string n.attr,.slice KA n.kids.length kc,.int .i64 n.at_] 68)).alloc (.cells #[.string ⟨#[]⟩,.int .i64 0,.int .i64 0,.int .i64 0,.slice none 0 0] 57)=W1 at *;have ar:Hp [] w [iblk h 57 zFl,iblk q 68 (nkcs n KA kc),iblk g 93 (fitC d L A S.length c)] W1:=hk;clear hk hW hq hh;obtain⟨c0,c1,c2,c3,c4,c5,c6,c7,c8⟩:=blk9 (ar.blk 2 rfl);obtain⟨d0,d1,d2,d3,d4,d5⟩:=Blk.get6 (ar.blk 1 rfl);have HF:=Lib.hid (tfield_any E hR n.name n.attr fd hf ff W1 (h0.trans (ar.below0.mono h0.size)));clear E hR hf;go_wp2_with fail;refine HF.out.mono ?_;rintro e w2 ⟨⟨x,y,CA,cc,rfl⟩,aG⟩;have ah:=((ar.next aG).new 122 [.int .i64 x,.int .i64 y]).new 57 (fcs fd CA cc);simp only[sizeA]at ah;clear HF ar aG c0 c1 c2 c3 c4 c5 c6 c7 c8 d0 d1 d2 d3 d4 d5;obtain⟨d0,d1,d2,d3,d4⟩:=Blk.get5 (ah.blk 0 rfl);go_wp2_with (refine wpList_store_row rfl 57 (.tmp 4) (.tmp 22) rfl h (fcs fd CA cc).toArray rfl rfl 57 zFl.toArray (ah.blk 2 rfl) kr kr kr ?_);have aj:=ah.rowAt 2 rfl (fcs fd CA cc);obtain⟨m0,m1,m2,m3,m4⟩:=Blk.get5 (aj.blk 2 rfl);refine bodyPost_ret (v:=.agg (fcs fd CA cc).toArray) (by simp[results,results160,go_sem,m0,m1,m2,m3,m4]) rfl ?_;have hb:Below w.heap.size w _:=aj.below0;exact⟨⟨CA,cc,rfl⟩,by first|exact hb|(subst hg;exact hb)⟩
end Nf
namespace Nf
open Go.RowKit Go.Shelf
theorem complement_any (h:Int) (h0:0≤h) (h5:h≤5) (w:World):Calls prog 91 #[.int .i64 h] w fun e w'=>e=.returned (.int .i64 (compl h))∧Below w.heap.size w w':=by
 have cV:prog.built 230 [(0,.int .i64 1),(1,.int .i64 0),(2,.int .i64 5),(3,.int .i64 4),(4,.int .i64 3),(5,.int .i64 2)]=some #[.int .i64 1,.int .i64 0,.int .i64 5,.int .i64 4,.int .i64 3,.int .i64 2]:=kr;have bZ:∀w,(Instr.index 230 (.agg #[.int .i64 1,.int .i64 0,.int .i64 5,.int .i64 4,.int .i64 3,.int .i64 2]) (.int .i64 h)).run prog w=.ok (.int .i64 (compl h)) w:=by
  exact zt42
 generalize compl h=r at *;clear h0 h5;go_enter func91,ntmps91;go_wp2_with fail;go_ret;exact zv0
end Nf
namespace Nf
open Go.RowKit Go.Shelf
open Pa (F Nd)
def Vls (B:Nat) (W:World) (A:Option Addr) (vs:List Value):Prop:=∀(i:Nat) (u:Value),vs[i]? =some u→∃ad,A=some ad∧B≤ad.block∧W.cell? (ad.add i)=some u
theorem Vls.up {B:Nat} {W W':World} {A:Option Addr} {vs:List Value} (h:Vls B W A vs) (hb:Below W.heap.size W W'):Vls B W' A vs:=fun i u hu=>by
 obtain⟨ad,h1,h2,h3⟩:=h i u hu;exact⟨ad,h1,h2,zaa h3 hb⟩
structure VAt (W:World) (ad:Addr) (x:Nd):Prop where
 kind:W.cell? ad=some (.int .i64 (x.kind:Int))
 num:W.cell? ⟨ad.block,ad.off+1,none⟩=some (.int .i64 x.num)
 name:W.cell? ⟨ad.block,ad.off+2,none⟩=some (.string (bs x.name))
 attr:W.cell? ⟨ad.block,ad.off+3,none⟩=some (.string (bs x.attr))
 kids:∃KA kn kc,W.cell? ⟨ad.block,ad.off+4,none⟩=some (.slice KA kn kc)
 at_:∃k,W.cell? ⟨ad.block,ad.off+5,none⟩=some (.int .i64 k)
theorem VAt.up {W W':World} {ad:Addr} {x:Nd} (h:VAt W ad x) (hb:Below W.heap.size W W'):VAt W' ad x :=
 ⟨zaa h.kind hb,zaa h.num hb,zaa h.name hb,zaa h.attr hb,by obtain⟨a,b,c,e⟩:=h.kids;exact⟨a,b,c,zaa e hb⟩,by obtain⟨k,e⟩:=h.at_;exact⟨k,zaa e hb⟩⟩
def Vats (B:Nat) (W:World) (A:Option Addr) (l:List Nd):Prop:=∀(i:Nat) (x:Nd),l[i]? =some x→∃ad,A=some ad∧B≤ad.block∧VAt W (ad.add (i*6)) x
theorem Vats.up {B:Nat} {W W':World} {A:Option Addr} {l:List Nd} (h:Vats B W A l) (hb:Below W.heap.size W W'):Vats B W' A l:=fun i x hx=>by
 obtain⟨ad,h1,h2,h3⟩:=h i x hx;exact⟨ad,h1,h2,h3.up hb⟩
abbrev gtV (k:Int) (A:Option Addr) (n c:Nat):Value:=.iface 237 (.agg #[.int .i64 k,.slice A n c])
def Lv:F→Prop
 | .nil=>True
 | .cons x k r=>x.at_=0∧k=.nil∧Lv r
def CvM (B:Nat) (W:World):F→List Value→Prop
 | .nil,vs=>vs=[]
 | .cons x ks r,vs=>∃v us,vs=v::us∧CvM B W r us ∧
   (if x.kind=5 then x=⟨5,x.num,[],[],0⟩∧∃A c ws,v=gtV x.num A ws.length c∧0<ws.length∧Vls B W A ws∧CvM B W ks ws
    else(x.at_=0∧Lv ks)∧∃A c,v=atV (x.kind:Int) x.num (bs x.name) (bs x.attr) none 0 0 0 A (vals ks).length c∧Vats B W A (vals ks))
theorem CvM.up {B:Nat} {W W':World} (hb:Below W.heap.size W W'):∀{f:F} {vs:List Value},CvM B W f vs→CvM B W' f vs
 | .nil,vs,h=>h
 | .cons x ks r,vs,h=>by
   obtain⟨v,us,h1,h2,h3⟩:=h;refine⟨v,us,h1,CvM.up hb h2,?_⟩;by_cases hk:x.kind=5
   ·rw[if_pos hk]at h3 ⊢;obtain⟨h6,A,c,ws,e,hp,h4,h5⟩:=h3;exact⟨h6,A,c,ws,e,hp,h4.up hb,CvM.up hb h5⟩
   ·rw[if_neg hk]at h3 ⊢;obtain⟨h6,A,c,e,h4⟩:=h3;exact⟨h6,A,c,e,h4.up hb⟩
theorem CvM.len {B:Nat} {W:World}:∀{f:F} {vs:List Value},CvM B W f vs→vs.length=f.len
 | .nil,vs,h=>by rw[show vs=[]from h];rfl
 | .cons x ks r,vs,h=>by
   obtain⟨v,us,rfl,h2,-⟩:=h;rw[List.length_cons,CvM.len h2];rfl
theorem CvM.app {B:Nat} {W:World}:∀{f g:F} {us vs:List Value},CvM B W f us→CvM B W g vs→CvM B W (f.app g) (us++vs)
 | .nil,g,us,vs,h,k=>by rw[show us=[]from h];exact k
 | .cons x ks r,g,us,vs,h,k=>by
   obtain⟨v,us,rfl,h2,h3⟩:=h;exact⟨v,us++vs,rfl,CvM.app h2 k,h3⟩
theorem Vls.low {B B':Nat} {W:World} {A:Option Addr} {vs:List Value} (h:Vls B W A vs) (hb:B'≤B):Vls B' W A vs:=fun i u hu=>by
 obtain⟨ad,h1,h2,h3⟩:=h i u hu;exact⟨ad,h1,Nat.le_trans hb h2,h3⟩
theorem Vats.low {B B':Nat} {W:World} {A:Option Addr} {l:List Nd} (h:Vats B W A l) (hb:B'≤B):Vats B' W A l:=fun i u hu=>by
 obtain⟨ad,h1,h2,h3⟩:=h i u hu;exact⟨ad,h1,Nat.le_trans hb h2,h3⟩
theorem CvM.low {B B':Nat} {W:World} (hb:B'≤B):∀{f:F} {vs:List Value},CvM B W f vs→CvM B' W f vs
 | .nil,vs,h=>h
 | .cons x ks r,vs,h=>by
   obtain⟨v,us,h1,h2,h3⟩:=h;refine⟨v,us,h1,CvM.low hb h2,?_⟩;by_cases hk:x.kind=5
   ·rw[if_pos hk]at h3 ⊢;obtain⟨h6,A,c,ws,e,hp,h4,h5⟩:=h3;exact⟨h6,A,c,ws,e,hp,h4.low hb,CvM.low hb h5⟩
   ·rw[if_neg hk]at h3 ⊢;obtain⟨h6,A,c,e,h4⟩:=h3;exact⟨h6,A,c,e,h4.low hb⟩
theorem zbk {B:Nat} {W W':World} (h:∀b,B≤b→b<W.heap.size→W'.heap[b]? =W.heap[b]?) {ad:Addr} {v:Value} (hB:B≤ad.block) (hc:W.cell? ad=some v):W'.cell? ad=some v:=by
 have hl:=scell_lt hc;have:=h ad.block hB hl;unfold World.cell? at hc ⊢;rw[this];exact hc
theorem CvM.agree {B:Nat} {W W':World} (h:∀b,B≤b→b<W.heap.size→W'.heap[b]? =W.heap[b]?):∀{f:F} {vs:List Value},CvM B W f vs→CvM B W' f vs
 | .nil,vs,h=>h
 | .cons x ks r,vs,h9=>by
   obtain⟨v,us,h1,h2,h3⟩:=h9;refine⟨v,us,h1,CvM.agree h h2,?_⟩;by_cases hk:x.kind=5
   ·rw[if_pos hk]at h3 ⊢;obtain⟨h6,A,c,ws,e,hp,h4,h5⟩:=h3;refine⟨h6,A,c,ws,e,hp,fun i u hu=>?_,CvM.agree h h5⟩;obtain⟨ad,e1,e2,e3⟩:=h4 i u hu;exact⟨ad,e1,e2,zbk h (by rw[sadd_block];exact e2) e3⟩
   ·rw[if_neg hk]at h3 ⊢;obtain⟨h6,A,c,e,h4⟩:=h3;refine⟨h6,A,c,e,fun i u hu=>?_⟩;obtain⟨ad,e1,e2,e3⟩:=h4 i u hu;have hb:B≤(ad.add (i*6)).block:=by rw[sadd_block];exact e2
    exact⟨ad,e1,e2,zbk h hb e3.kind,zbk h hb e3.num,zbk h hb e3.name,zbk h hb e3.attr,by obtain⟨a,b,c,e⟩:=e3.kids;exact⟨a,b,c,zbk h hb e⟩,by obtain⟨k,e⟩:=e3.at_;exact⟨k,zbk h hb e⟩⟩
def icv (lo:Nat) (W1:World) (f:F) (vs:List Value):It:=⟨List.range' lo (W1.heap.size-lo),fun W=>CvM lo W1 f vs∧∀b,lo≤b→b<W1.heap.size→W.heap[b]? =W1.heap[b]?,
 fun W W' h hp=>⟨hp.1,fun b h1 h2=>(h b (by rw[List.mem_range'_1];omega)).trans (hp.2 b h1 h2)⟩,
 fun W hp b hb=>by
  rw[List.mem_range'_1]at hb;have h1:=hp.2 b hb.1 om;rw[Array.getElem?_eq_getElem (show b<W1.heap.size by omega)]at h1;exact(Array.getElem?_eq_some_iff.1 h1).1⟩
theorem Hp.cv {o:List Nat} {w W W1:World} {it:List It} {f:F} {vs:List Value} (h:Hp o w it W) (hb:Below W.heap.size W W1) (hc:CvM W.heap.size W1 f vs):Hp o w (icv W.heap.size W1 f vs::it) W1:=by
 have h1:Hp (ow []) W [icv W.heap.size W1 f vs] W1:=by
  refine⟨⟨fun x hx=>?_,?_⟩,⟨hb.mono (Nat.zero_le _),fun k hk _=>hb.block k hk,fun b aX=>.inr ?_⟩⟩
  ·rw[List.mem_singleton.1 hx];exact⟨hc,fun _ _ _=>rfl⟩
  ·simp only[ow,List.flatMap_cons,List.flatMap_nil,List.append_nil,icv];exact List.nodup_range'
  ·simp only[ow,List.flatMap_cons,List.flatMap_nil,List.append_nil,icv,List.mem_range'_1]at aX;exact aX.1
 exact zvg
theorem Hp.cvm {o:List Nat} {w W W1:World} {it:List It} {lo:Nat} {f:F} {vs:List Value} (h:Hp o w it W) (i:Nat) (hx:it[i]? =some (icv lo W1 f vs)):CvM lo W f vs:=by
 have h1:(icv lo W1 f vs).P W:=h.sep.ok _ (List.mem_of_getElem? hx);exact h1.1.agree h1.2
theorem za8 (b:Bool) (w:World) (B:Nat):Calls prog 95 #[.bool b] w fun e w'=>(∃v,e=.returned v∧CvM B w' (tru b) [v])∧Below w.heap.size w w' :=
 (truth_any b w).mono fun e w' h=>⟨⟨_,h.1,⟨_,[],rfl,rfl,by
  cases b<;>exact⟨⟨rfl,trivial⟩,none,0,rfl,fun i x hx=>by cases i<;>cases hx⟩⟩⟩,h.2⟩
end Nf
namespace Nf
open Go.RowKit Go.Shelf
open Pa (F Nd)
def ndOf (n:Nk):Nd:=⟨n.kind.toNat,n.num,tl n.name,tl n.attr,0⟩
theorem vat_of {W:World} {g o:Nat} {t:TypeId} {cs:List Value} (h:Blk W g t cs) {n:Nk} {KA:Option Addr} {kc:Nat} (hk:0≤n.kind) (hc:∀(j:Nat) (u:Value),(nkcs n KA kc)[j]? =some u→cs[o+j]? =some u):VAt W ⟨g,o,none⟩ (ndOf n):=by
 have key:∀(j:Nat) (u:Value),(nkcs n KA kc)[j]? =some u→W.cell? ⟨g,o+j,none⟩=some u:=fun j u hu=>(h.cell (o+j)).trans (hc j u hu);refine⟨?_,key 1 _ rfl,?_,?_,⟨_,_,_,key 4 _ rfl⟩,⟨_,key 5 _ rfl⟩⟩
 ·rw[show((ndOf n).kind:Int)=n.kind from Int.toNat_of_nonneg hk];exact key 0 _ rfl
 ·show _=some (Value.string (bs (tl n.name)));rw[bs_tl];exact key 2 _ rfl
 ·show _=some (Value.string (bs (tl n.attr)));rw[bs_tl];exact key 3 _ rfl
theorem zcd (how:Int) (a b:Nk) (KA KB:Option Addr) (ka kb:Nat) (ha:0≤a.kind) (cW:0≤b.kind) (w:World) (B:Nat) (bM:B≤w.heap.size):Calls prog 162 #[.int .i64 how,nkV a KA ka,nkV b KB kb] w fun e w'=>(∃v,e=.returned v∧CvM B w' (rel how (ndOf a) (ndOf b)) [v])∧Below w.heap.size w w':=by
 have hk:=(((Hp.start w).new 68 (nkcs a KA ka)).new 68 (nkcs b KB kb)).new 68 (nkcs a KA ka++nkcs b KB kb);have ej:=hk.below0;obtain⟨g,hg⟩:∃g,w.heap.size=g:=⟨_,rfl⟩;simp only[sizeA,hg]at hk;have hr:=hk.blk 0 rfl;have hx:=(((Hp.start w).new 68 (nkcs a KA ka)).new 68 (nkcs b KB kb));simp only[sizeA,hg]at hx;obtain⟨c0,c1,c2,c3,c4,c5⟩:=Blk.get6 (hx.blk 1 rfl);obtain⟨d0,d1,d2,d3,d4,d5⟩:=Blk.get6 (hx.blk 0 rfl);clear hk hx;go_enter func162,ntmps162;go_wp2_with fail;go_ret;refine⟨⟨_,rfl,⟨_,[],rfl,rfl,?_⟩⟩,by first|exact ej|(subst hg;exact ej)⟩;rw[if_neg (show¬(6:Nat)=5 by decide)];refine⟨⟨rfl,rfl,rfl,rfl,rfl,trivial⟩,some ⟨g+1+1,0,none⟩,2,rfl,fun i x hx=>⟨_,rfl,(by show B≤g+1+1;omega),?_⟩⟩;rw[zce]
 match i,hx with
 | 0,hx =>
   obtain rfl:ndOf a=x:=by simpa[two,vals]using hx
   exact vat_of (o:=0) hr ha (fun j u hu=>by rw[Nat.zero_add,List.getElem?_append_left zyr];exact hu)
 | 1,hx =>
   obtain rfl:ndOf b=x:=by simpa[two,vals]using hx
   exact vat_of (o:=6) hr cW (fun j u hu=>by rw[List.getElem?_append_right (by show 6≤_;omega),show 6+j-(nkcs a KA ka).length=j by show 6+j-6=j;omega];exact hu)
 | i+2,hx=>simp[two,vals]at hx
def nbK (n:Int):Nk:=⟨10,n,⟨#[]⟩,⟨#[]⟩,[],0⟩
theorem number_any (n:Int) (w:World):Calls prog 163 #[.int .i64 n] w fun e w'=>e=.returned (nkV (nbK n) none 0)∧Below w.heap.size w w':=by
 have hk:=(Hp.start w).new 68 (nkcs ⟨0,0,⟨#[]⟩,⟨#[]⟩,[],0⟩ none 0);obtain⟨g,hg⟩:∃g,w.heap.size=g:=⟨_,rfl⟩;rw[hg]at hk;go_enter func163,ntmps163;go_upto_region 1 with fail;try simp only[hg]
 have ar:Hp [] w [iblk g 68 (nkcs ⟨0,0,⟨#[]⟩,⟨#[]⟩,[],0⟩ none 0)] (w.alloc (.cells #[.int .i64 0,.int .i64 0,.string ⟨#[]⟩,.string ⟨#[]⟩,.slice none 0 0,.int .i64 0] 68)):=hk;clear hk;generalize w.alloc (.cells #[.int .i64 0,.int .i64 0,.string ⟨#[]⟩,.string ⟨#[]⟩,.slice none 0 0,.int .i64 0] 68)=W1 at *;go_wp2_with (refine wpList_store_row rfl 68 (.tmp 2) (.tmp 4) rfl g (nkcs (nbK n) none 0).toArray rfl rfl 68 (nkcs ⟨0,0,⟨#[]⟩,⟨#[]⟩,[],0⟩ none 0).toArray (ar.blk 0 rfl) kr kr kr ?_);have aj:=ar.rowAt 0 rfl (nkcs (nbK n) none 0);obtain⟨m0,m1,m2,m3,m4,m5⟩:=Blk.get6 (aj.blk 0 rfl);refine bodyPost_ret (v:=nkV (nbK n) none 0) (by simp[results,results163,go_sem,m0,m1,m2,m3,m4,m5]) rfl ?_;have hb:Below w.heap.size w _:=aj.below0;exact zus
end Nf
end Go.Proofs.YtekkapgknohadaaGreatDoor
