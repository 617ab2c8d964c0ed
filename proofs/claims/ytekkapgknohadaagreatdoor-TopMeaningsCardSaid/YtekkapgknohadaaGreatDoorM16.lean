/- Normal forms of conditions, as forests. No program in sight. -/
import Derived.Test.YtekkapgknohadaaGreatDoorM15
set_option linter.unusedVariables false
set_option maxRecDepth 100000
set_option maxHeartbeats 16000000
open Go.Proofs.Tryz
namespace Go.Proofs.YtekkapgknohadaaGreatDoor
namespace Nf
open Pa (F Nd Tx leaf)
structure Fd where
 name:ByteArray
 kind:Int
 min:Int
 max:Int
 words:List ByteArray
abbrev Look:=Nd→Option Fd
def zFd:Fd:=⟨⟨#[]⟩,0,0,0,[]⟩
def fdOf (L:Look) (x:Nd):Fd:=(L x).getD zFd
inductive Ty where
 | num
 | word (s:ByteArray)
 | ref (l:List ByteArray)
def tyOf (L:Look) (x:Nd):Option Ty:=if x.kind=10 then some .num else if x.kind=11 then some (.word (bs x.name))else(L x).map fun f=>if f.kind=0 then .num else .ref f.words
def agree:Ty→Ty→Bool
 | .num,.num=>true
 | .num,_=>false
 | _,.num=>false
 | .ref l,.ref m=>decide (l=m)
 | .ref l,.word s=>memD s l
 | .word s,.ref l=>memD s l
 | .word _,.word _=>true
def Ty.isN:Ty→Bool
 | .num=>true
 | _=>false
def zbd (L:Look) (x:Nd):Bool:=(tyOf L x).isSome
def numTy (L:Look) (x:Nd):Bool:=match tyOf L x with|some t=>t.isN|none=>false
def agr (L:Look) (a b:Nd):Bool:=match tyOf L a,tyOf L b with|some t,some u=>agree t u|_,_=>false
def vals:F→List Nd
 | .nil=>[]
 | .cons x _ r=>x::vals r
def zb6 (L:Look):List Nd→Bool
 | []=>true
 | a::r=>r.all (agr L a)
def condB (L:Look) (x:Nd) (vs:List Nd):Bool :=
 if x.kind=6 then vs.all (zbd L)&&(decide (x.num=0∨x.num=1)||vs.all (numTy L))&&zb6 L vs
 else if x.kind=7 then vs.all (zbd L)&&vs.all (numTy L)
 else if x.kind=8 then vs.all (zbd L)&&zb6 L vs
 else true
def tyF (L:Look):F→Bool
 | .nil=>true
 | .cons x k r=>condB L x (vals k)&&tyF L k&&tyF L r
def tru (b:Bool):F:=leaf ⟨if b then 0 else 1,0,[],[],0⟩
def two (a b:Nd):F:=.cons a .nil (.cons b .nil .nil)
def rel (how:Int) (a b:Nd):F:=.cons ⟨6,how,[],[],0⟩ (two a b) .nil
def nbr (n:Int):Nd:=⟨10,n,[],[],0⟩
def compl (h:Int):Int:=if h=0 then 1 else if h=1 then 0 else if h=2 then 5 else if h=3 then 4 else if h=4 then 3 else 2
def mirr (h:Int):Int:=if h=0 then 0 else if h=1 then 1 else if h=2 then 4 else if h=3 then 5 else if h=4 then 2 else 3
def cmpB (h a b:Int):Bool:=if h=0 then decide (a=b)else if h=1 then decide (a≠b)else if h=2 then decide (a<b)else if h=3 then decide (a≤b)else if h=4 then decide (b<a)else decide (b≤a)
def withB (f:Fd) (x:Nd) (lo hi:Int):F :=
 if hi<lo then tru false else if lo=f.min∧hi=f.max then tru true else if lo=hi then rel 0 x (nbr lo)else .cons ⟨7,0,[],[],0⟩ (.cons x .nil (two (nbr lo) (nbr hi))) .nil
def within (L:Look) (x:Nd) (lo hi:Int):F:=withB (fdOf L x) x (max lo (fdOf L x).min) (min hi (fdOf L x).max)
def boundB (L:Look) (f:Fd) (how:Int) (x:Nd) (c:Int):F :=
 if how=0 then within L x c c
 else if how=2 then within L x f.min (c-1)
 else if how=3 then within L x f.min c
 else if how=4 then within L x (c+1) f.max
 else if how=5 then within L x c f.max
 else if c<f.min∨f.max<c then tru true
 else if f.min=f.max then tru false
 else rel 1 x (nbr c)
def bounded (L:Look) (how:Int) (x:Nd) (c:Int):F:=boundB L (fdOf L x) how x c
def always (how low high:Int):Bool:=if how=0 then decide (low=0∧high=0)else if how=1 then decide (0<low∨high<0)else if how=2 then decide (high<0)else decide (high≤0)
def never (how low high:Int):Bool:=if how=0 then decide (0<low∨high<0)else if how=1 then decide (low=0∧high=0)else if how=2 then decide (0≤low)else decide (0<low)
def numB (how:Int) (a b:Nd) (x y:Fd):F :=
 if always how (x.min-y.max) (x.max-y.min)||never how (x.min-y.max) (x.max-y.min)then tru (always how (x.min-y.max) (x.max-y.min))else rel how a b
def numbers (L:Look) (how:Int) (a b:Nd):F :=
 if how=4∨how=5 then numB (mirr how) b a (fdOf L b) (fdOf L a)else numB how a b (fdOf L a) (fdOf L b)
def valB (L:Look) (how:Int) (a b:Nd):F :=
 if a.kind=10 then tru (cmpB how a.num b.num)
 else if a.kind=11 then tru (decide (a.name=b.name)==decide (how=0))
 else if b.kind=10 then bounded L how a b.num
 else if b.kind=9∧a.name=b.name∧a.attr=b.attr then tru (cmpB how 0 0)
 else if(fdOf L a).kind=0 then numbers L how a b
 else if(fdOf L a).words.length=1 then tru (decide (how=0))
 else rel how a b
def values (L:Look) (how:Int) (a b:Nd):F:=if a.kind≠9∧b.kind=9 then valB L (mirr how) b a else valB L how a b
def trues:F→Int
 | .nil=>0
 | .cons x _ r=>(if x.kind=0 then 1 else 0)+trues r
def rest:F→F
 | .nil=>.nil
 | .cons x k r=>if x.kind=0∨x.kind=1 then rest r else .cons x k (rest r)
def opens (whole:Bool) (k:Int) (x:Nd) (ks:F):Bool:=decide (x.kind=5)&&(whole&&decide (x.num=ks.len)|| !whole&&decide (k=1)&&decide (x.num=1))
def flat (whole:Bool) (k:Int):F→F
 | .nil=>.nil
 | .cons x ks r=>if opens whole k x ks then ks.app (flat whole k r)else .cons x ks (flat whole k r)
def gate (k:Int) (l:F):F:=.cons ⟨5,k,[],[],0⟩ l .nil
def thrB (k:Int) (l:F):F :=
 if k≤0 then tru true else if(l.len:Int)<k then tru false else if l.len=1 then l
 else gate (if k=l.len then((flat (decide (k=l.len)) k l).len:Int)else k) (flat (decide (k=l.len)) k l)
def thr (k:Int) (l:F):F:=thrB (k-trues l) (rest l)
def ofT (g:Bool) (k:Int) (l:F):F:=thr (if g then l.len-k+1 else k) l
def cmpd (L:Look) (g:Bool) (how:Int) (a b:Nd):F:=values L (if g then compl how else how) a b
def one (L:Look) (x:Nd) (vs:List Nd) (kg kn:F) (g:Bool):F :=
 if x.kind=0∨x.kind=1 then tru (decide (x.kind=0) != g)
 else if x.kind=2 then kn
 else if x.kind=6 then(match vs with|a::b::_=>cmpd L g x.num a b|_=>.nil)
 else if x.kind=7 then(match vs with
  | a::b::c::_=>if g=false∧a.kind=9∧b.kind=10∧c.kind=10 then within L a b.num c.num else ofT g 2 ((cmpd L g 5 a b).app (cmpd L g 3 a c))
  | _=>.nil)
 else if x.kind=8 then(match vs with|a::r=>ofT g 1 (F.cat (r.map (cmpd L g 0 a)))|_=>.nil)
 else if x.kind=3 then ofT g kg.len kg
 else if x.kind=4 then ofT g 1 kg
 else ofT g x.num kg
def nrm (L:Look):F→Bool→F
 | .nil,_=>.nil
 | .cons x k r,g=>(one L x (vals k) (nrm L k g) (nrm L k !g) g).app (nrm L r g)
def arity (k n:Nat):Bool:=if k≤1 then n==0 else if k=2 then n==1 else if k≤5 then decide (1≤n)else if k=6 then n==2 else if k=7 then n==3 else if k=8 then decide (2≤n)else n==0
def Wf:Bool→F→Prop
 | _,.nil=>True
 | c,.cons x k r=>(x.at_=0∧x.kind<12∧decide (x.kind≤8)=c∧arity x.kind k.len=true∧Wf (decide (x.kind≤5)) k)∧Wf c r
def isC (x:Nd):Prop:=x.kind=0∨x.kind=1
def NC:F→Prop
 | .nil=>True
 | .cons x _ r=>¬isC x∧NC r
def NO (w:Bool) (k:Int):F→Prop
 | .nil=>True
 | .cons x ks r=>opens w k x ks=false∧NO w k r
structure Atom (L:Look) (x:Nd) (ks:F):Prop where
 kind:x.kind=6∨x.kind=7
 fix:one L x (vals ks) .nil .nil false=.cons x ks .nil
 cond:condB L x (vals ks)=true
 ty:tyF L ks=true
 z:F.er (.cons x ks .nil)=.cons x ks .nil
structure Gate (x:Nd) (ks:F):Prop where
 eq:x=⟨5,x.num,[],[],0⟩
 lo:1≤x.num
 hi:x.num≤ks.len
 two:2≤ks.len
 nc:NC ks
 no:NO (decide (x.num=ks.len)) x.num ks
def NF (L:Look):F→Prop
 | .nil=>True
 | .cons x k r=>((∃b,F.cons x k .nil=tru b)∨Atom L x k∨(Gate x k∧NF L k))∧NF L r
theorem nf_app {L:Look}:∀{f g:F},NF L f→NF L g→NF L (f.app g)
 | .nil,g,_,h=>h
 | .cons x k r,g,h1,h2=>⟨h1.1,nf_app h1.2 h2⟩
theorem nc_app:∀{f g:F},NC f→NC g→NC (f.app g)
 | .nil,g,_,h=>h
 | .cons x k r,g,h1,h2=>⟨h1.1,nc_app h1.2 h2⟩
theorem no_app {w:Bool} {k:Int}:∀{f g:F},NO w k f→NO w k g→NO w k (f.app g)
 | .nil,g,_,h=>h
 | .cons x ks r,g,h1,h2=>⟨h1.1,no_app h1.2 h2⟩
theorem ty_app {L:Look}:∀{f g:F},tyF L (f.app g)=(tyF L f&&tyF L g)
 | .nil,g=>by simp[F.app,tyF]
 | .cons x k r,g=>by rw[F.app,tyF,tyF,ty_app];simp only[Bool.and_assoc]
theorem tru_nf {L:Look} (b:Bool):NF L (tru b):=⟨.inl ⟨b,rfl⟩,trivial⟩
theorem rest_nf {L:Look}:∀{l:F},NF L l→NF L (rest l)∧NC (rest l)
 | .nil,_=>⟨trivial,trivial⟩
 | .cons x k r,h=>by
   obtain⟨h1,h2⟩:=rest_nf h.2;rw[rest];split
   ·exact⟨h1,h2⟩
   ·rename_i h3;exact⟨⟨h.1,h1⟩,h3,h2⟩
theorem rest_nc:∀{l:F},NC l→rest l=l∧trues l=0
 | .nil,_=>⟨rfl,rfl⟩
 | .cons x k r,h=>by
   obtain⟨h1,h2⟩:=rest_nc h.2;have h3:¬(x.kind=0∨x.kind=1):=h.1;rw[rest,if_neg h3,h1,trues,if_neg (fun e=>h3 (.inl e)),h2];exact zv6
theorem flat_no {w:Bool} {k:Int}:∀{l:F},NO w k l→flat w k l=l
 | .nil,_=>rfl
 | .cons x ks r,h=>by rw[flat,h.1,flat_no h.2];rfl
theorem gate_fix {x:Nd} {ks:F} (h:Gate x ks):thr x.num ks=.cons x ks .nil:=by
 obtain⟨h1,h2⟩:=rest_nc h.nc;have:=h.lo;have:=h.hi;have:=h.two;rw[thr,h1,h2,Int.sub_zero,thrB,if_neg om,if_neg om,if_neg om,flat_no h.no,gate];split
 ·rename_i e;rw[←e,←h.eq]
 ·rw[←h.eq]
theorem nf_fix {L:Look}:∀{f:F},NF L f→nrm L f false=f
 | .nil,_=>rfl
 | .cons x k r,h=>by
   rw[nrm,nf_fix h.2];suffices hs:one L x (vals k) (nrm L k false) (nrm L k !false) false=.cons x k .nil by rw[hs];rfl
   rcases h.1 with⟨b,e⟩|h1|⟨h1,h2⟩
   ·injection e with e1 e2 _;subst e1 e2;cases b<;>rfl
   ·rw[←h1.fix];unfold one;rcases h1.kind with e|e<;>simp[e]
   ·have ek:x.kind=5:=by rw[h1.eq]
    rw[nf_fix h2];unfold one;simp only[ek];exact gate_fix h1
theorem nf_ty {L:Look}:∀{f:F},NF L f→tyF L f=true
 | .nil,_=>rfl
 | .cons x k r,h=>by
   rw[tyF,nf_ty h.2,Bool.and_true];rcases h.1 with⟨b,e⟩|h1|⟨h1,h2⟩
   ·injection e with e1 e2 _;subst e1 e2;cases b<;>rfl
   ·rw[h1.cond,h1.ty];rfl
   ·have ek:x.kind=5:=by rw[h1.eq]
    rw[nf_ty h2,Bool.and_true];unfold condB;simp[ek]
theorem no_true {a b:Int}:∀{f:F},NO true a f→NO true b f
 | .nil,_=>trivial
 | .cons x ks r,h=>⟨by have:=h.1;simpa[opens]using this,no_true h.2⟩
theorem flat_out {L:Look} (w:Bool) (k:Int):∀{l:F},NF L l→NC l→NF L (flat w k l)∧NC (flat w k l)∧NO w k (flat w k l)∧l.len≤(flat w k l).len
 | .nil,_,_=>⟨trivial,trivial,trivial,Nat.le_refl _⟩
 | .cons x ks r,h,hc=>by
   obtain⟨h1,h2,h3,h4⟩:=flat_out w k h.2 hc.2;rw[flat];cases ho:opens w k x ks with
   | false=>exact⟨⟨h.1,h1⟩,⟨hc.1,h2⟩,⟨ho,h3⟩,by show r.len+1≤(flat w k r).len+1;omega⟩
   | true =>
     have hx:=ho;simp only[opens,Bool.and_eq_true,Bool.or_eq_true,decide_eq_true_eq,Bool.not_eq_true']at hx;rcases h.1 with⟨b,e⟩|h5|⟨h5,h6⟩
     ·injection e with e1 _ _;subst e1;cases b<;>simp at hx
     ·rcases h5.kind with e|e<;>simp[e]at hx
     ·have eP:NO w k ks:=by
       have:=h5.no;rcases hx.2 with⟨a,b⟩|⟨⟨a,b⟩,c⟩
       ·rw[a];rw[decide_eq_true b]at this;exact no_true this
       ·have h7:=h5.two;rw[a,b];rw[decide_eq_false om,c]at this;exact this
      have h7:=h5.two;exact⟨nf_app h6 h1,nc_app h5.nc h2,no_app eP h3,by show _≤(ks.app (flat w k r)).len;rw[F.len_app];simp only[F.len];omega⟩
theorem thr_nf {L:Look} (k:Int) {l:F} (h:NF L l):NF L (thr k l)∧(thr k l).len=1:=by
 obtain⟨h1,h2⟩:=rest_nf h;unfold thr;generalize k-trues l=k at *;generalize rest l=l at *;unfold thrB;split
 ·exact zvj
 ·rename_i a1;split
  ·exact zvj
  ·rename_i a2;split
   ·rename_i a3;exact⟨h1,a3⟩
   ·rename_i a3;obtain⟨b1,b2,b3,b4⟩:=flat_out (decide (k=l.len)) k h1 h2;refine⟨⟨.inr (.inr ⟨?_,b1⟩),trivial⟩,rfl⟩;by_cases hw:k=l.len
    ·have e:(if k=l.len then((flat (decide (k=l.len)) k l).len:Int)else k)=((flat (decide (k=l.len)) k l).len:Int):=if_pos hw;refine⟨rfl,?_,?_,by omega,b2,?_⟩
     ·show 1≤(if k=l.len then((flat (decide (k=l.len)) k l).len:Int)else k);rw[e];omega
     ·show(if k=l.len then((flat (decide (k=l.len)) k l).len:Int)else k)≤_;rw[e];exact Int.le_refl _
     ·show NO (decide ((if k=l.len then((flat (decide (k=l.len)) k l).len:Int)else k)=_)) (if k=l.len then((flat (decide (k=l.len)) k l).len:Int)else k) _;rw[e,decide_eq_true rfl];rw[decide_eq_true hw]at b3 ⊢;exact no_true b3
    ·have e:(if k=l.len then((flat (decide (k=l.len)) k l).len:Int)else k)=k:=if_neg hw;refine⟨rfl,?_,?_,by omega,b2,?_⟩
     ·show 1≤(if k=l.len then((flat (decide (k=l.len)) k l).len:Int)else k);rw[e];omega
     ·show(if k=l.len then((flat (decide (k=l.len)) k l).len:Int)else k)≤_;rw[e];omega
     ·show NO (decide ((if k=l.len then((flat (decide (k=l.len)) k l).len:Int)else k)=_)) (if k=l.len then((flat (decide (k=l.len)) k l).len:Int)else k) _;rw[e];rw[decide_eq_false om];rw[decide_eq_false hw]at b3 ⊢;exact b3
def isV (x:Nd):Prop:=x.at_=0∧(x.kind=9∨x.kind=10∨x.kind=11)
structure Pr (L:Look) (how:Int) (a b:Nd):Prop where
 ka:isV a
 kb:isV b
 agr:agr L a b=true
 how:how=0∨how=1∨(numTy L a=true∧numTy L b=true)
theorem agree_symm (t u:Ty):agree t u=agree u t:=by
 cases t<;>cases u<;>simp[agree,eq_comm]
theorem agr_symm {L:Look} (a b:Nd):agr L a b=agr L b a:=by
 unfold agr;cases tyOf L a<;>cases tyOf L b<;>simp[agree_symm]
theorem Pr.mirr {L:Look} {how:Int} {a b:Nd} (h:Pr L how a b):Pr L (mirr how) b a:=⟨h.kb,h.ka,by rw[agr_symm];exact h.agr,by
 rcases h.how with e|e|⟨e1,e2⟩
 ·exact .inl (by rw[e];rfl)
 ·exact .inr (.inl (by rw[e];rfl))
 ·exact .inr (.inr ⟨e2,e1⟩)⟩
theorem Pr.compl {L:Look} {how:Int} {a b:Nd} (h:Pr L how a b) (g:Bool):Pr L (if g then compl how else how) a b:=⟨h.ka,h.kb,h.agr,by
 cases g with
 | false=>exact h.how
 | true =>
   rcases h.how with e|e|e
   ·exact .inr (.inl (by rw[e];rfl))
   ·exact .inl (by rw[e];rfl)
   ·exact .inr (.inr e)⟩
theorem ty_nbr (L:Look) (c:Int):tyOf L (nbr c)=some .num:=rfl
theorem zb0 {L:Look} {x:Nd} (h:x.kind=9):tyOf L x=(L x).map fun f=>if f.kind=0 then .num else .ref f.words:=by
 unfold tyOf;rw[if_neg om,if_neg om]
structure NumRef (L:Look) (x:Nd):Prop where
 at0:x.at_=0
 kind:x.kind=9
 ty:tyOf L x=some .num
theorem er_at {x:Nd} (h:x.at_=0):x.er=x:=by unfold Pa.Nd.er;rw[←h]
theorem er_two {n:Int} {a b:Nd} (ha:a.at_=0) (hb:b.at_=0) {k:Nat}:F.er (.cons ⟨k,n,[],[],0⟩ (two a b) .nil)=.cons ⟨k,n,[],[],0⟩ (two a b) .nil:=by
 simp only[F.er,two,er_at ha,er_at hb];rfl
theorem leaf_ty (L:Look) (x:Nd) (h:isV x):condB L x []=true:=by
 unfold condB isV at *;rw[if_neg om,if_neg om,if_neg om]
theorem two_ty {L:Look} {a b:Nd} (ha:isV a) (hb:isV b):tyF L (two a b)=true:=by
 simp only[two,tyF,vals,leaf_ty L a ha,leaf_ty L b hb,Bool.and_self]
theorem within_nf {L:Look} {x:Nd} (h:NumRef L x) (lo hi:Int):NF L (within L x lo hi)∧(within L x lo hi).len=1:=by
 have hx:isV x:=⟨h.at0,.inl h.kind⟩;have h9:tyF L (.cons x .nil .nil)=true:=by simp only[tyF,vals,leaf_ty L x hx,Bool.and_self]
 unfold within withB;generalize ef:fdOf L x=f;split
 ·exact zvj
 ·split
  ·exact zvj
  ·split
   ·rename_i a1 a2 a3;refine⟨⟨.inr (.inl ⟨.inl rfl,?_,?_,two_ty hx ⟨rfl,.inr (.inl rfl)⟩,er_two h.at0 rfl⟩),trivial⟩,rfl⟩
    ·show values L 0 x (nbr (max lo f.min))=_;unfold values;rw[if_neg (by rw[h.kind];simp),valB,if_neg (by rw[h.kind];decide),if_neg (by rw[h.kind];decide),if_pos (show(nbr _).kind=10 from rfl)];show within L x (max lo f.min) (max lo f.min)=_;unfold within withB;rw[ef,show max (max lo f.min) f.min=max lo f.min by omega,show min (max lo f.min) f.max=max lo f.min by omega,if_neg om,if_neg om,if_pos rfl];rfl
    ·show condB L ⟨6,0,[],[],0⟩ [x,nbr (max lo f.min)]=true;simp[condB,zbd,h.ty,ty_nbr,zb6,agr,agree]
   ·rename_i a1 a2 a3;refine⟨⟨.inr (.inl ⟨.inr rfl,?_,?_,?_,by simp only[F.er,two,er_at h.at0];rfl⟩),trivial⟩,rfl⟩
    ·show(if false=false∧x.kind=9∧(nbr (max lo f.min)).kind=10∧(nbr (min hi f.max)).kind=10 then within L x (nbr (max lo f.min)).num (nbr (min hi f.max)).num else _)=_;rw[if_pos ⟨rfl,h.kind,rfl,rfl⟩];show within L x (max lo f.min) (min hi f.max)=_;unfold within withB;rw[ef,show max (max lo f.min) f.min=max lo f.min by omega,show min (min hi f.max) f.max=min hi f.max by omega,if_neg om,if_neg om,if_neg om]
    ·show condB L ⟨7,0,[],[],0⟩ [x,nbr (max lo f.min),nbr (min hi f.max)]=true;simp[condB,zbd,numTy,Ty.isN,h.ty,ty_nbr]
    ·show(condB L x []&&tyF L .nil&&tyF L (two _ _))=true;rw[two_ty ⟨rfl,.inr (.inl rfl)⟩ ⟨rfl,.inr (.inl rfl)⟩,leaf_ty L x hx];rfl
theorem bounded_nf {L:Look} {x:Nd} (h:NumRef L x) (how c:Int):NF L (bounded L how x c)∧(bounded L how x c).len=1:=by
 unfold bounded boundB
 repeat' split
 all_goals first|exact within_nf h _ _|exact⟨tru_nf _,rfl⟩|skip
 rename_i a0 a2 a3 a4 a5 a6 a7;refine⟨⟨.inr (.inl ⟨.inl rfl,?_,?_,two_ty ⟨h.at0,.inl h.kind⟩ ⟨rfl,.inr (.inl rfl)⟩,er_two h.at0 rfl⟩),trivial⟩,rfl⟩
 ·show values L 1 x (nbr c)=_;unfold values;rw[if_neg (by rw[h.kind];simp),valB,if_neg (by rw[h.kind];decide),if_neg (by rw[h.kind];decide),if_pos (show(nbr _).kind=10 from rfl)];show bounded L 1 x c=_;unfold bounded boundB;rw[if_neg zy0,if_neg zy0,if_neg zy0,if_neg zy0,if_neg zy0,if_neg a6,if_neg a7];rfl
 ·show condB L ⟨6,1,[],[],0⟩ [x,nbr c]=true;simp[condB,zbd,h.ty,ty_nbr,zb6,agr,agree]
theorem numB_nf {L:Look} {a b:Nd} (ha:NumRef L a) (hb:NumRef L b) (hs:¬(a.name=b.name∧a.attr=b.attr)) (hk:(fdOf L a).kind=0) (how:Int) (hh:how≠4∧how≠5):NF L (numB how a b (fdOf L a) (fdOf L b))∧(numB how a b (fdOf L a) (fdOf L b)).len=1:=by
 unfold numB;split
 ·exact zvj
 ·rename_i a1;refine⟨⟨.inr (.inl ⟨.inl rfl,?_,?_,two_ty ⟨ha.at0,.inl ha.kind⟩ ⟨hb.at0,.inl hb.kind⟩,er_two ha.at0 hb.at0⟩),trivial⟩,rfl⟩
  ·show values L how a b=_;unfold values;rw[if_neg (by rw[ha.kind];simp),valB,if_neg (by rw[ha.kind];decide),if_neg (by rw[ha.kind];decide),if_neg (by rw[hb.kind];decide),if_neg (fun e=>hs e.2),if_pos hk,numbers,if_neg om,numB,if_neg a1];rfl
  ·show condB L ⟨6,how,[],[],0⟩ [a,b]=true;simp[condB,zbd,numTy,Ty.isN,ha.ty,hb.ty,zb6,agr,agree]
theorem zcf {L:Look} {x:Nd} (h:x.kind=9) (ht:tyOf L x=some .num):(fdOf L x).kind=0:=by
 rw[zb0 h]at ht;unfold fdOf;cases hL:L x with
 | none=>rw[hL]at ht;cases ht
 | some f =>
   rw[hL]at ht;simp only[Option.map_some,Option.some.injEq]at ht;split at ht
   ·assumption
   ·cases ht
theorem valB_nf {L:Look} {how:Int} {a b:Nd} (h:Pr L how a b) (h9:a.kind=9∨b.kind≠9):NF L (valB L how a b)∧(valB L how a b).len=1:=by
 have hr:=h.agr;unfold agr at hr;rw[valB];split
 ·exact zvj
 ·rename_i a1;split
  ·exact zvj
  ·rename_i a2;have hk:a.kind=9:=by have:=h.ka;unfold isV at this;omega
   split
   ·rename_i a3;refine bounded_nf ⟨h.ka.1,hk,?_⟩ _ _;have hb:tyOf L b=some .num:=by unfold tyOf;rw[if_pos a3]
    rw[hb]at hr;cases ha:tyOf L a with
    | none=>rw[ha]at hr;cases hr
    | some t=>rw[ha]at hr;cases t<;>first|rfl|cases hr
   ·rename_i a3;split
    ·exact zvj
    ·rename_i a4;split
     ·rename_i a5;have ha:tyOf L a=some .num:=by
       rw[zb0 hk]at hr ⊢;unfold fdOf at a5;cases hL:L a with
       | none=>rw[hL]at hr;cases hr
       | some f=>rw[hL]at a5;simp only[Option.getD_some]at a5;simp[a5]
      rw[ha]at hr;have hb:tyOf L b=some .num:=by
       cases hb:tyOf L b with
       | none=>rw[hb]at hr;cases hr
       | some t=>rw[hb]at hr;cases t<;>first|rfl|cases hr
      have dR:b.kind=9:=by
       exact zt73
      have hs:¬(a.name=b.name∧a.attr=b.attr):=fun e=>a4 ⟨dR,e⟩;unfold numbers;split
      ·rename_i a6;refine numB_nf ⟨h.kb.1,dR,hb⟩ ⟨h.ka.1,hk,ha⟩ (fun e=>hs ⟨e.1.symm,e.2.symm⟩) (zcf dR hb) _ ?_;rcases a6 with rfl|rfl<;>decide
      ·exact numB_nf ⟨h.ka.1,hk,ha⟩ ⟨h.kb.1,dR,hb⟩ hs a5 _ om
     ·rename_i a5;split
      ·exact zvj
      ·rename_i a6;have hn:numTy L a=false:=by
        unfold numTy;rw[zb0 hk];unfold fdOf at a5;cases hL:L a with
        | none=>rfl
        | some f =>
          rw[hL]at a5;simp only[Option.getD_some]at a5;simp[a5,Ty.isN]
       have hw:how=0∨how=1:=by
        rcases h.how with e|e|⟨e,_⟩
        ·exact .inl e
        ·exact .inr e
        ·rw[hn]at e;cases e
       refine⟨⟨.inr (.inl ⟨.inl rfl,?_,?_,two_ty h.ka h.kb,er_two h.ka.1 h.kb.1⟩),trivial⟩,rfl⟩
       ·show values L how a b=_;unfold values;rw[if_neg (by rw[hk];simp),valB,if_neg a1,if_neg a2,if_neg a3,if_neg a4,if_neg a5,if_neg a6];rfl
       ·show condB L ⟨6,how,[],[],0⟩ [a,b]=true;have hg:=h.agr;have h1:zbd L a=true∧zbd L b=true:=by
         unfold agr at hg;unfold zbd;cases e1:tyOf L a<;>cases e2:tyOf L b<;>simp_all
        simp[condB,h1.1,h1.2,zb6,hg,hw]
theorem values_nf {L:Look} {how:Int} {a b:Nd} (h:Pr L how a b):NF L (values L how a b)∧(values L how a b).len=1:=by
 unfold values;split
 ·rename_i e;exact valB_nf h.mirr (.inl e.2)
 ·rename_i e;refine valB_nf h ?_;exact zt64
theorem cmpd_nf {L:Look} {g:Bool} {how:Int} {a b:Nd} (h:Pr L how a b):NF L (cmpd L g how a b)∧(cmpd L g how a b).len=1:=values_nf (h.compl g)
theorem ofT_nf {L:Look} (g:Bool) (k:Int) {l:F} (h:NF L l):NF L (ofT g k l)∧(ofT g k l).len=1:=thr_nf _ h
theorem cat_nf {L:Look} {t:Nd→F}:∀{l:List Nd},(∀x∈l,NF L (t x))→NF L (F.cat (l.map t))
 | [],_=>trivial
 | x::l,h=>nf_app (h x (List.mem_cons_self ..)) (cat_nf fun y hy=>h y (List.mem_cons_of_mem _ hy))
theorem zby:∀{f:F},Wf false f→∀x∈vals f,isV x
 | .nil,_,x,h=>by cases h
 | .cons y k r,hw,x,h=>by
   rcases List.mem_cons.1 h with rfl|h
   ·have h0:=hw.1.1;have h1:=hw.1.2.1;have h2:=hw.1.2.2.1;simp only[decide_eq_false_iff_not]at h2;unfold isV;omega
   ·exact zby hw.2 x h
theorem za6:∀(f:F),(vals f).length=f.len
 | .nil=>rfl
 | .cons x k r=>by rw[vals,List.length_cons,za6 r];rfl
theorem pr_num {L:Look} {a b:Nd} (ha:isV a) (hb:isV b) (h1:numTy L a=true) (h2:numTy L b=true) (how:Int):Pr L how a b:=⟨ha,hb,(by
 unfold numTy at h1 h2;unfold agr;cases e1:tyOf L a with
 | none=>rw[e1]at h1;cases h1
 | some t =>
   cases e2:tyOf L b with
   | none=>rw[e2]at h2;cases h2
   | some u =>
     rw[e1]at h1;rw[e2]at h2;cases t<;>cases u<;>first|rfl|(cases h1;done)|(cases h2;done)),.inr (.inr ⟨h1,h2⟩)⟩
theorem one_nf {L:Look} {x:Nd} {k:F} {g:Bool} (hx:x.kind≤8) (ha:arity x.kind k.len=true) (hv:6≤x.kind→Wf false k) (hc:condB L x (vals k)=true) {kg kn:F} (h1:x.kind≤5→NF L kg) (h2:x.kind≤5→NF L kn∧kn.len=k.len):NF L (one L x (vals k) kg kn g)∧(one L x (vals k) kg kn g).len=1:=by
 unfold one;split
 ·exact zvj
 ·rename_i a0;split
  ·rename_i a2;refine⟨(h2 om).1,?_⟩;rw[(h2 om).2];rw[a2]at ha;simpa[arity]using ha
  ·rename_i a2;split
   ·rename_i a6;have hw:=zby (hv om);have hl:=za6 k;rw[a6]at ha;simp only[arity]at ha;simp at ha;rw[ha]at hl;revert hc hw;obtain⟨a,b,e⟩:∃a b,vals k=[a,b]:=by
     match h:vals k,hl with
     | [a,b],_=>exact⟨a,b,rfl⟩
    rw[e];intro hc hw;have ia:=hw a zy1;have ib:=hw b zy1;simp only[condB,if_pos a6,List.all_cons,List.all_nil,zb6,Bool.and_true,Bool.and_eq_true,Bool.or_eq_true,decide_eq_true_eq]at hc;refine cmpd_nf ⟨ia,ib,hc.2,?_⟩;exact zt27
   ·rename_i a6;split
    ·rename_i a7;have hw:=zby (hv om);have hl:=za6 k;rw[a7]at ha;simp only[arity]at ha;simp at ha;rw[ha]at hl;revert hc hw;obtain⟨a,b,c,e⟩:∃a b c,vals k=[a,b,c]:=by
      match h:vals k,hl with
      | [a,b,c],_=>exact⟨a,b,c,rfl⟩
     rw[e];intro hc hw;have ia:=hw a zy1;have ib:=hw b zy1;have ic:=hw c zy1;simp only[condB,if_neg a6,if_pos a7,List.all_cons,List.all_nil,Bool.and_true,Bool.and_eq_true]at hc;obtain⟨_,n1,n2,n3⟩:=hc;show NF L (if g=false∧a.kind=9∧b.kind=10∧c.kind=10 then within L a b.num c.num else ofT g 2 ((cmpd L g 5 a b).app (cmpd L g 3 a c)))∧(if g=false∧a.kind=9∧b.kind=10∧c.kind=10 then within L a b.num c.num else ofT g 2 ((cmpd L g 5 a b).app (cmpd L g 3 a c))).len=1;split
     ·rename_i e2;refine within_nf ⟨ia.1,e2.2.1,?_⟩ _ _;unfold numTy at n1;cases e1:tyOf L a with
      | none=>rw[e1]at n1;cases n1
      | some t=>rw[e1]at n1;cases t<;>first|rfl|cases n1
     ·exact ofT_nf _ _ (nf_app (cmpd_nf (pr_num ia ib n1 n2 5)).1 (cmpd_nf (pr_num ia ic n1 n3 3)).1)
    ·rename_i a7;split
     ·rename_i a8;have hw:=zby (hv om);have hl:=za6 k;rw[a8]at ha;simp only[arity]at ha;simp at ha;revert hc hw;cases e:vals k with
      | nil=>rw[e]at hl;simp at hl;omega
      | cons a r =>
        intro hc hw;simp only[condB,if_neg a6,if_neg a7,if_pos a8,zb6,Bool.and_eq_true]at hc;refine ofT_nf _ _ (cat_nf fun y hy=>(cmpd_nf ⟨hw a zy1,hw y (by simp[hy]),?_,.inl rfl⟩).1);exact List.all_eq_true.1 hc.2 y hy
     ·rename_i a8;split
      ·exact ofT_nf _ _ (h1 om)
      ·split
       ·exact ofT_nf _ _ (h1 om)
       ·exact ofT_nf _ _ (h1 om)
theorem nrm_nf {L:Look}:∀{f:F} (g:Bool),tyF L f=true→Wf true f→NF L (nrm L f g)∧(nrm L f g).len=f.len
 | .nil,g,_,_=>⟨trivial,rfl⟩
 | .cons x k r,g,ht,hw=>by
   rw[tyF,Bool.and_eq_true,Bool.and_eq_true]at ht;obtain⟨⟨-,w1,w2,w3,w4⟩,w5⟩:=hw;have hx:x.kind≤8:=by simpa using w2
   obtain⟨r1,r2⟩:=nrm_nf (f:=r) g ht.2 w5;have hk:x.kind≤5→∀g,NF L (nrm L k g)∧(nrm L k g).len=k.len:=fun h g=>nrm_nf (f:=k) g ht.1.2 (by rw[decide_eq_true h]at w4;exact w4);obtain⟨o1,o2⟩:=one_nf (g:=g) hx w3 (fun h=>by rw[decide_eq_false om]at w4;exact w4) ht.1.1 (fun h=>(hk h g).1) (fun h=>hk h !g);rw[nrm];exact⟨nf_app o1 r1,by rw[F.len_app,o2,r2];simp only[F.len];omega⟩
theorem nf_er {L:Look}:∀{f:F},NF L f→f.er=f
 | .nil,_=>rfl
 | .cons x k r,h=>by
   suffices hs:F.er (.cons x k .nil)=.cons x k .nil by
    injection hs with e1 e2 _;rw[F.er,e1,e2,nf_er h.2]
   rcases h.1 with⟨b,e⟩|h1|⟨h1,h2⟩
   ·rw[e];cases b<;>rfl
   ·exact h1.z
   ·rw[F.er,nf_er h2,h1.eq];rfl
theorem nrm_twice {L:Look} {f:F} {g:Bool} (ht:tyF L f=true) (hw:Wf true f):nrm L (nrm L f g) false=nrm L f g∧tyF L (nrm L f g)=true:=⟨nf_fix (nrm_nf g ht hw).1,nf_ty (nrm_nf g ht hw).1⟩
structure Sm where
 name:ByteArray
 fields:List Fd
def zaq (S:List Sm) (s:ByteArray):Option Sm:=S.find? fun m=>decide (m.name=s)
def findS (S:List Sm) (U:List Bp) (a t:ByteArray):Option Fd:=match U.find? (fun u=>decide (u.1=a))with
 | none=>none
 | some u=>match zaq S u.2 with
   | none=>none
   | some m=>m.fields.find? fun f=>decide (f.name=t)
def lookS (S:List Sm) (U:List Bp):Look:=fun x=>findS S U (bs x.name) (bs x.attr)
def distL:List Sm→List Sm→Bool
 | _,[]=>true
 | P,m::r=>(zaq P m.name).isNone&&distL (P++[m]) r
def zah (C:Sm→Bool) (S:List Sm) (d:Po):Bool:=decide (checkP d=0)&&S.all C&&distL [] S&&d.uses.all fun u=>(zaq S u.2).isSome
def treeD (d:Po):F:=Pa.treeN d.nodes 32 d.root
def za4 (C:Sm→Bool) (S:List Sm) (d:Po):Bool:=zah C S d&&d.reveal.all (fun r=>(findS S d.uses r.1 r.2).isSome)&&tyF (lookS S d.uses) (treeD d)
def outP (S:List Sm) (d:Po):Po:=⟨d.name,d.uses,d.reveal,((nrm (lookS S d.uses) (treeD d) false).num 0).map nkOf,0,d.scope,d.limit,d.escrow⟩
def ofP (C:Sm→Bool) (S:List Sm) (d:Po):Option Po:=if za4 C S d=true∧checkP (outP S d)=0 then some (outP S d)else none
theorem arity_of {n:Nk} {m:Nat} (h0:0≤n.kind) (h:kidsP n.kind m=true):arity n.kind.toNat m=true:=by
 unfold kidsP at h;unfold arity
 repeat' split at h
 all_goals repeat' split
 all_goals first|omega|(simp only[beq_iff_eq]at *;omega)|cases h
theorem wf_app {c:Bool}:∀{f g:F},Wf c f→Wf c g→Wf c (f.app g)
 | .nil,g,_,h=>h
 | .cons x k r,g,h1,h2=>⟨h1.1,wf_app h1.2 h2⟩
theorem wf_cat {c:Bool} {t:Int→F}:∀{l:List Int},(∀x∈l,Wf c (t x))→Wf c (F.cat (l.map t))
 | [],_=>trivial
 | x::l,h=>wf_app (h x (List.mem_cons_self ..)) (wf_cat fun y hy=>h y (List.mem_cons_of_mem _ hy))
theorem zco (ns:List Nk):∀(f:Nat) (c:Bool) (a:Int),Pa.VN ns f c a→Wf c (Pa.treeN ns f a)
 | 0,c,a,h=>h.elim
 | f+1,c,a,h=>by
   obtain⟨n,hn,hf,hk⟩:=h;have hF:=Pa.form_fm hf;have h0:=hF.lo;have h1:=hF.hi;have hl:=cat_len (fun x hx=>hk x hx);rw[Pa.treeN_in hn];refine⟨⟨rfl,?_,?_,?_,?_⟩,trivial⟩
   ·show n.kind.toNat<12;omega
   ·rw[←hF.ctx];show decide (n.kind.toNat≤8)=_;rw[decide_eq_decide];omega
   ·show arity n.kind.toNat _=true;rw[hl];exact arity_of h0 hF.kids
   ·show Wf (decide (n.kind.toNat≤5)) _;rw[show decide (n.kind.toNat≤5)=decide (n.kind≤5) by rw[decide_eq_decide];omega];exact wf_cat fun x hx=>zco ns f _ x (hk x hx)
theorem tree_num (ms:List Nk):∀(f:Nat) (g:F) (c:Bool) (k:Nat),Holds ms g k→(∀x∈g.idx k,Pa.VN ms f c (x:Int))→F.cat ((g.idx k).map fun(x:Nat)=>Pa.treeN ms f (x:Int))=g.er:=by
 intro f g
 induction g generalizing f with
 | nil=>intro c k _ _;rfl
 | cons n k1 r fU fH =>
   intro c k hH hv;obtain⟨h0,h1,h2⟩:=hH.cons;rw[F.idx,List.map_cons,F.cat,fH f c _ h2 (fun x hx=>hv x (List.mem_cons_of_mem _ hx))];cases f with
   | zero=>exact(hv k (List.mem_cons_self ..)).elim
   | succ f =>
     obtain⟨m,hm,-,hk⟩:=hv k (List.mem_cons_self ..);have dG:ms[((k:Nat):Int).toNat]? =some m:=hm;rw[Int.toNat_natCast,h0]at dG;obtain rfl:=Option.some.inj dG;have e:=fU f _ _ h1 (fun x hx=>hk _ (List.mem_map.2 ⟨x,hx,rfl⟩));rw[Pa.treeN_in hm];show F.cons ⟨n.kind,n.num,tl (bs n.name),tl (bs n.attr),0⟩ (F.cat (((k1.idx (k+1)).map fun(n:Nat)=>(n:Int)).map (Pa.treeN ms f))) r.er=F.cons n.er k1.er r.er;rw[List.map_map,tl_bs,tl_bs,←e];rfl
theorem out_tree {C:Sm→Bool} {S:List Sm} {d:Po} (ht:za4 C S d=true) (ho:checkP (outP S d)=0):treeD (outP S d)=nrm (lookS S d.uses) (treeD d) false∧tyF (lookS S d.uses) (treeD (outP S d))=true∧nrm (lookS S d.uses) (treeD (outP S d)) false=nrm (lookS S d.uses) (treeD d) false:=by
 unfold za4 zah at ht;simp only[Bool.and_eq_true,decide_eq_true_eq]at ht;have hv:=Pa.tree_vn ht.1.1.1.1.1;have hw:=zco _ _ _ _ hv;have hN:=nrm_nf (L:=lookS S d.uses) false ht.2 hw;obtain⟨a1,a2⟩:=nrm_twice (L:=lookS S d.uses) (g:=false) ht.2 hw;have hl:(treeD d).len=1:=by
  exact zt37
 have fR:=Pa.tree_vn ho;have e:treeD (outP S d)=nrm (lookS S d.uses) (treeD d) false:=by
  have hH:Holds (outP S d).nodes (nrm (lookS S d.uses) (treeD d) false) 0:=fun i x hx=>by
   show(List.map nkOf _)[0+i]? =_;rw[Nat.zero_add,List.getElem?_map,hx];rfl
  have fQ:=hN.2.trans hl;have bZ:=F.idx_len (nrm (lookS S d.uses) (treeD d) false) 0;have eX:=nf_er hN.1;show Pa.treeN (outP S d).nodes 32 0=_;generalize hg:nrm (lookS S d.uses) (treeD d) false=g at *;cases g with
  | nil=>cases fQ
  | cons n k r =>
    cases r with
    | cons _ _ _=>simp[F.len]at fQ
    | nil =>
      have:=tree_num (outP S d).nodes 32 _ true 0 hH (fun x hx=>by
       simp only[F.idx,List.mem_singleton]at hx;subst hx;exact fR)
      simp only[F.idx,List.map_cons,List.map_nil,F.cat,F.app_nil]at this;exact this.trans eX
 exact⟨e,by rw[e];exact a2,by rw[e];exact a1⟩
theorem of_twice {C:Sm→Bool} {S:List Sm} {d n:Po} (h:ofP C S d=some n):ofP C S n=some n∧checkP n=0:=by
 unfold ofP at h;split at h
 ·rename_i hc;obtain rfl:=Option.some.inj h;obtain⟨e1,e2,e3⟩:=out_tree hc.1 hc.2;have ht:=hc.1;unfold za4 zah at ht;simp only[Bool.and_eq_true,decide_eq_true_eq]at ht;have ho:outP S (outP S d)=outP S d:=by
   unfold outP at e3 ⊢;rw[e3]
  refine⟨?_,hc.2⟩;have h2:za4 C S (outP S d)=true:=by
   unfold za4 zah;simp only[Bool.and_eq_true,decide_eq_true_eq];exact⟨⟨⟨⟨⟨hc.2,ht.1.1.1.1.2⟩,ht.1.1.1.2⟩,ht.1.1.2⟩,ht.1.2⟩,e2⟩
  unfold ofP;rw[h2,ho,if_pos ⟨rfl,hc.2⟩]
 ·cases h
end Nf
namespace Nf
open Pa (F Nd Tx leaf)
theorem zcn (b:Bool):(tru b).size=1:=rfl
theorem rel_size (h:Int) (a b:Nd):(rel h a b).size=3:=rfl
theorem withB_size (f:Fd) (x:Nd) (lo hi:Int):(withB f x lo hi).size≤4:=by
 unfold withB
 repeat' split
 all_goals first|(rw[zcn];omega)|(rw[rel_size];omega)|exact Nat.le_refl 4
theorem within_size (L:Look) (x:Nd) (lo hi:Int):(within L x lo hi).size≤4:=withB_size _ _ _ _
theorem bounded_size (L:Look) (h:Int) (x:Nd) (c:Int):(bounded L h x c).size≤4:=by
 unfold bounded boundB
 repeat' split
 all_goals first|exact within_size _ _ _ _|(rw[zcn];omega)|(rw[rel_size];omega)
theorem numB_size (h:Int) (a b:Nd) (x y:Fd):(numB h a b x y).size≤4:=by
 unfold numB;split
 ·rw[zcn];omega
 ·rw[rel_size];omega
theorem numbers_size (L:Look) (h:Int) (a b:Nd):(numbers L h a b).size≤4:=by
 unfold numbers;split<;>exact numB_size _ _ _ _ _
theorem valB_size (L:Look) (h:Int) (a b:Nd):(valB L h a b).size≤4:=by
 unfold valB
 repeat' split
 all_goals first|exact bounded_size _ _ _ _|exact numbers_size _ _ _ _|(rw[zcn];omega)|(rw[rel_size];omega)
theorem values_size (L:Look) (h:Int) (a b:Nd):(values L h a b).size≤4:=by
 unfold values;split<;>exact valB_size _ _ _ _
theorem zb8 (L:Look) (g:Bool) (h:Int) (a b:Nd):(cmpd L g h a b).size≤4:=values_size _ _ _ _
theorem rest_size:∀(l:F),(rest l).size≤l.size
 | .nil=>Nat.le_refl _
 | .cons x k r=>by
   have:=rest_size r;rw[rest];split
   ·simp only[F.size];omega
   ·simp only[F.size];omega
theorem flat_size (w:Bool) (k:Int):∀(l:F),(flat w k l).size≤l.size
 | .nil=>Nat.le_refl _
 | .cons x ks r=>by
   have:=flat_size w k r;rw[flat];split
   ·rw[F.size_app];simp only[F.size];omega
   ·simp only[F.size];omega
theorem thr_size (k:Int) (l:F):(thr k l).size≤l.size+1:=by
 have h1:=rest_size l;unfold thr;generalize k-trues l=k at *;generalize rest l=r at *;unfold thrB;split
 ·rw[zcn];omega
 ·split
  ·rw[zcn];omega
  ·split
   ·omega
   ·have h2:=flat_size (decide (k=r.len)) k r;unfold gate;simp only[F.size];omega
theorem cat_size {t:Nd→F} (h:∀x,(t x).size≤4):∀(l:List Nd),(F.cat (l.map t)).size≤4*l.length
 | []=>Nat.le_refl _
 | x::l=>by
   have h1:=cat_size h l;have h2:=h x;rw[List.map_cons,F.cat,F.size_app,List.length_cons];omega
theorem one_size (L:Look) (x:Nd) (vs:List Nd) (kg kn:F) (g:Bool) (m:Nat) (h1:kg.size≤4*m) (h2:kn.size≤4*m) (h3:vs.length≤m):(one L x vs kg kn g).size≤4*(m+1):=by
 unfold one;split
 ·rw[zcn];omega
 ·split
  ·omega
  ·split
   ·split
    ·rename_i a b t;have:=zb8 L g x.num a b;omega
    ·simp only[F.size];omega
   ·split
    ·split
     ·rename_i a b c t;split
      ·have:=within_size L a b.num c.num;omega
      ·have e1:=zb8 L g 5 a b;have e2:=zb8 L g 3 a c;have e3:=thr_size (if g then(((cmpd L g 5 a b).app (cmpd L g 3 a c)).len:Int)-2+1 else 2) ((cmpd L g 5 a b).app (cmpd L g 3 a c));rw[F.size_app]at e3;simp only[List.length_cons]at h3;unfold ofT;omega
     ·simp only[F.size];omega
    ·split
     ·split
      ·rename_i a r;have e1:=cat_size (t:=cmpd L g 0 a) (fun y=>zb8 L g 0 a y) r;have e3:=thr_size (if g then((F.cat (r.map (cmpd L g 0 a))).len:Int)-1+1 else 1) (F.cat (r.map (cmpd L g 0 a)));simp only[List.length_cons]at h3;unfold ofT;omega
      ·simp only[F.size];omega
     ·repeat' split
      all_goals
       unfold ofT;refine Nat.le_trans (thr_size _ _) ?_;omega
theorem zcq (L:Look):∀(f:F) (g:Bool),(nrm L f g).size≤4*f.size
 | .nil,g=>Nat.le_refl _
 | .cons x k r,g=>by
   have h1:=zcq L r g;have h2:=one_size L x (vals k) (nrm L k g) (nrm L k !g) g k.size (zcq L k g) (zcq L k !g) (by rw[za6];exact Pa.F.len_size k);rw[nrm,F.size_app];simp only[F.size];omega
end Nf
namespace Nf
open Pa (F Nd Tx leaf)
section
variable {p:Nd→Prop} (hz:∀k n,p ⟨k,n,[],[],0⟩)
include hz
theorem tru_ev (b:Bool):(tru b).Ev p:=⟨hz _ _,trivial,trivial⟩
theorem rel_ev {h:Int} {a b:Nd} (ha:p a) (hb:p b):(rel h a b).Ev p:=⟨hz _ _,⟨ha,trivial,hb,trivial,trivial⟩,trivial⟩
theorem nbr_ev (n:Int):p (nbr n):=hz _ _
theorem withB_ev {f:Fd} {x:Nd} (hx:p x) (lo hi:Int):(withB f x lo hi).Ev p:=by
 unfold withB
 repeat' split
 all_goals first|exact tru_ev hz _|exact rel_ev hz hx (nbr_ev hz _)|exact⟨hz _ _,⟨hx,trivial,nbr_ev hz _,trivial,nbr_ev hz _,trivial,trivial⟩,trivial⟩
theorem bounded_ev {L:Look} {x:Nd} (hx:p x) (h c:Int):(bounded L h x c).Ev p:=by
 unfold bounded boundB
 repeat' split
 all_goals first|exact withB_ev hz hx _ _|exact tru_ev hz _|exact rel_ev hz hx (nbr_ev hz _)
theorem numbers_ev {L:Look} {a b:Nd} (ha:p a) (hb:p b) (h:Int):(numbers L h a b).Ev p:=by
 unfold numbers numB
 repeat' split
 all_goals first|exact tru_ev hz _|exact rel_ev hz ha hb|exact rel_ev hz hb ha
theorem valB_ev {L:Look} {a b:Nd} (ha:p a) (hb:p b) (h:Int):(valB L h a b).Ev p:=by
 unfold valB
 repeat' split
 all_goals first|exact bounded_ev hz ha _ _|exact numbers_ev hz ha hb _|exact tru_ev hz _|exact rel_ev hz ha hb
theorem values_ev {L:Look} {a b:Nd} (ha:p a) (hb:p b) (h:Int):(values L h a b).Ev p:=by
 unfold values;split
 ·exact valB_ev hz hb ha _
 ·exact valB_ev hz ha hb _
omit hz in
theorem rest_ev:∀{l:F},l.Ev p→(rest l).Ev p
 | .nil,_=>trivial
 | .cons x k r,h=>by
   rw[rest];split
   ·exact rest_ev h.2.2
   ·exact⟨h.1,h.2.1,rest_ev h.2.2⟩
omit hz in
theorem flat_ev (w:Bool) (k:Int):∀{l:F},l.Ev p→(flat w k l).Ev p
 | .nil,_=>trivial
 | .cons x ks r,h=>by
   rw[flat];split
   ·exact F.ev_app h.2.1 (flat_ev w k h.2.2)
   ·exact⟨h.1,h.2.1,flat_ev w k h.2.2⟩
theorem thr_ev (k:Int) {l:F} (h:l.Ev p):(thr k l).Ev p:=by
 have h1:=rest_ev h;unfold thr;generalize k-trues l=k at *;generalize rest l=r at *;unfold thrB
 repeat' split
 all_goals first|exact tru_ev hz _|exact h1|exact⟨hz _ _,flat_ev _ _ h1,trivial⟩
omit hz in
theorem vals_ev:∀{f:F},f.Ev p→∀x∈vals f,p x
 | .nil,_,x,h=>by cases h
 | .cons y k r,hf,x,h=>by
   rcases List.mem_cons.1 h with rfl|h
   ·exact hf.1
   ·exact vals_ev hf.2.2 x h
theorem one_ev {L:Look} {x:Nd} {vs:List Nd} {kg kn:F} {g:Bool} (hv:∀x∈vs,p x) (h1:kg.Ev p) (h2:kn.Ev p):(one L x vs kg kn g).Ev p:=by
 unfold one;split
 ·exact tru_ev hz _
 ·split
  ·exact h2
  ·split
   ·split
    ·exact values_ev hz (hv _ zy1) (hv _ zy1) _
    ·trivial
   ·split
    ·split
     ·split
      ·exact withB_ev hz (hv _ zy1) _ _
      ·exact thr_ev hz _ (F.ev_app (values_ev hz (hv _ zy1) (hv _ zy1) _) (values_ev hz (hv _ zy1) (hv _ zy1) _))
     ·trivial
    ·split
     ·split
      ·rename_i a r;refine thr_ev hz _ (F.ev_cat fun f hf=>?_);obtain⟨y,hy,rfl⟩:=List.mem_map.1 hf;exact values_ev hz (hv _ zy1) (hv _ (by simp[hy])) _
      ·trivial
     ·repeat' split
      all_goals exact thr_ev hz _ h1
theorem nrm_ev {L:Look}:∀{f:F} (g:Bool),f.Ev p→(nrm L f g).Ev p
 | .nil,_,_=>trivial
 | .cons x k r,g,h=>by
   rw[nrm];exact F.ev_app (one_ev hz (vals_ev h.2.1) (nrm_ev g h.2.1) (nrm_ev (!g) h.2.1)) (nrm_ev g h.2.2)
end
end Nf
namespace Nf
open Pa (F Nd Tx leaf)
inductive Vl where
 | n (x:Int)
 | w (s:ByteArray)
abbrev Val:=Tx→Tx→Int
def valV (L:Look) (v:Val) (x:Nd):Vl :=
 if x.kind=10 then .n x.num else if x.kind=11 then .w (bs x.name)
 else if(fdOf L x).kind=1 then .w ((fdOf L x).words.getD (v x.name x.attr).toNat ⟨#[]⟩)else .n (v x.name x.attr)
def cmpW (h:Int):Vl→Vl→Bool
 | .n a,.n b=>cmpB h a b
 | .w s,.w t=>if h=0 then decide (s=t)else decide (s≠t)
 | _,_=>false
def evO (L:Look) (v:Val) (x:Nd) (vs:List Nd) (n c:Nat):Bool :=
 if x.kind=0 then true else if x.kind=1 then false else if x.kind=2 then decide (c=0)
 else if x.kind=3 then decide (c=n)else if x.kind=4 then decide (0<c)else if x.kind=5 then decide (x.num≤(c:Int))
 else if x.kind=6 then(match vs with|a::b::_=>cmpW x.num (valV L v a) (valV L v b)|_=>false)
 else if x.kind=7 then(match vs with|a::b::c::_=>cmpW 5 (valV L v a) (valV L v b)&&cmpW 3 (valV L v a) (valV L v c)|_=>false)
 else match vs with|a::r=>r.any fun b=>cmpW 0 (valV L v a) (valV L v b)|_=>false
def cnt (L:Look) (v:Val):F→Nat
 | .nil=>0
 | .cons x k r=>(evO L v x (vals k) k.len (cnt L v k)).toNat+cnt L v r
structure Adm (L:Look) (v:Val):Prop where
 ext:∀x y:Nd,x.name=y.name→x.attr=y.attr→L x=L y
 rg:∀x f,L x=some f→(f.kind=0∧f.min≤v x.name x.attr∧v x.name x.attr≤f.max)∨(f.kind=1∧0≤v x.name x.attr∧v x.name x.attr<f.words.length)
theorem cnt_app (L:Look) (v:Val):∀(f g:F),cnt L v (f.app g)=cnt L v f+cnt L v g
 | .nil,g=>by simp[F.app,cnt]
 | .cons x k r,g=>by rw[F.app,cnt,cnt,cnt_app L v r g];omega
theorem zcl (L:Look) (v:Val):∀(f:F),cnt L v f≤f.len
 | .nil=>Nat.le_refl _
 | .cons x k r=>by
   have:=zcl L v r;rw[cnt,F.len];cases evO L v x (vals k) k.len (cnt L v k)<;>simp<;>omega
theorem zb7 (L:Look) (v:Val) (b:Bool):cnt L v (tru b)=b.toNat:=by cases b<;>rfl
theorem cnt_rel (L:Look) (v:Val) (h:Int) (a b:Nd):cnt L v (rel h a b)=(cmpW h (valV L v a) (valV L v b)).toNat:=by
 show(cmpW h (valV L v a) (valV L v b)).toNat+0=_;simp
theorem valV_nbr (L:Look) (v:Val) (c:Int):valV L v (nbr c)=.n c:=rfl
theorem zbj {L:Look} {v:Val} {x:Nd} (hA:Adm L v) (h:x.kind=9) (ht:tyOf L x=some .num):valV L v x=.n (v x.name x.attr)∧(fdOf L x).min≤v x.name x.attr∧v x.name x.attr≤(fdOf L x).max:=by
 have hk:=zcf h ht;unfold valV;rw[if_neg zyu,if_neg zyu,if_neg (by rw[hk];decide)];rw[zb0 h]at ht;unfold fdOf at hk ⊢;cases hL:L x with
 | none=>rw[hL]at ht;cases ht
 | some f =>
   rw[hL]at hk;rcases hA.rg x f hL with⟨_,h1,h2⟩|⟨h1,_⟩
   ·exact⟨rfl,h1,h2⟩
   ·simp only[Option.getD_some]at hk;omega
theorem cnt_within {L:Look} {v:Val} {x:Nd} (hA:Adm L v) (h:x.kind=9) (ht:tyOf L x=some .num) (lo hi:Int):cnt L v (within L x lo hi)=(decide (lo≤v x.name x.attr)&&decide (v x.name x.attr≤hi)).toNat:=by
 obtain⟨e,h1,h2⟩:=zbj hA h ht;unfold within withB;generalize fdOf L x=f at *;split
 ·rw[zb7];congr 1;symm;rw[Bool.and_eq_false_iff,decide_eq_false_iff_not,decide_eq_false_iff_not];omega
 ·split
  ·rw[zb7];congr 1;symm;rw[Bool.and_eq_true,decide_eq_true_eq,decide_eq_true_eq];omega
  ·split
   ·rw[cnt_rel,e,valV_nbr];congr 1;show decide (_=_)=_;rw[←Bool.decide_and,decide_eq_decide];omega
   ·show(cmpW 5 (valV L v x) (valV L v (nbr _))&&cmpW 3 (valV L v x) (valV L v (nbr _))).toNat+0=_;rw[e,valV_nbr,valV_nbr];show(decide (_≤_)&&decide (_≤_)).toNat+0=_;rw[Nat.add_zero,←Bool.decide_and,←Bool.decide_and];congr 1;rw[decide_eq_decide];omega
theorem cnt_bounded {L:Look} {v:Val} {x:Nd} (hA:Adm L v) (h:x.kind=9) (ht:tyOf L x=some .num) {how:Int} (hh:0≤how∧how≤5) (c:Int):cnt L v (bounded L how x c)=(cmpB how (v x.name x.attr) c).toNat:=by
 obtain⟨e,h1,h2⟩:=zbj hA h ht;unfold bounded boundB cmpB
 repeat' split
 all_goals first|omega|skip
 all_goals first|rw[cnt_within hA h ht]|rw[zb7]|rw[cnt_rel,e,valV_nbr]
 all_goals congr 1
 all_goals first
  | rfl
  | (rw[←Bool.decide_and,decide_eq_decide];omega)
  | (symm;rw[decide_eq_true_eq];omega)
  | (symm;rw[decide_eq_false_iff_not];omega)
theorem cnt_numB {L:Look} {v:Val} {a b:Nd} (hA:Adm L v) (ha:a.kind=9) (hb:b.kind=9) (ta:tyOf L a=some .num) (tb:tyOf L b=some .num) {how:Int} (hh:0≤how∧how≤3):cnt L v (numB how a b (fdOf L a) (fdOf L b))=(cmpB how (v a.name a.attr) (v b.name b.attr)).toNat:=by
 obtain⟨e,h1,h2⟩:=zbj hA ha ta;obtain⟨f,h3,h4⟩:=zbj hA hb tb;unfold numB;split
 ·rename_i h5;rw[zb7];congr 1;generalize v a.name a.attr=p at *;generalize v b.name b.attr=q at *;generalize (fdOf L a).min=am at *;generalize (fdOf L a).max=ax at *;generalize (fdOf L b).min=bm at *;generalize (fdOf L b).max=bx at *;cases eQ:always how (am-bx) (ax-bm)with
  | true =>
    clear h5;unfold always at eQ;unfold cmpB;obtain h9|h9|h9|h9:how=0∨how=1∨how=2∨how=3:=om;all_goals subst h9
    all_goals simp at eQ ⊢
    all_goals omega
  | false =>
    rw[eQ,Bool.false_or]at h5;clear eQ;unfold never at h5;unfold cmpB;obtain h9|h9|h9|h9:how=0∨how=1∨how=2∨how=3:=om;all_goals subst h9
    all_goals simp at h5 ⊢
    all_goals omega
 ·rw[cnt_rel,e,f];rfl
theorem cmpB_mirr {h a b:Int} (hh:0≤h∧h≤5):cmpB (mirr h) b a=cmpB h a b:=by
 obtain h9|h9|h9|h9|h9|h9:h=0∨h=1∨h=2∨h=3∨h=4∨h=5:=om;all_goals subst h9
 all_goals simp[cmpB,mirr,eq_comm]
theorem mirr_rg {h:Int} (hh:0≤h∧h≤5):0≤mirr h∧mirr h≤5:=by
 unfold mirr;repeat' split
 all_goals omega
theorem compl_rg {h:Int} (hh:0≤h∧h≤5):0≤compl h∧compl h≤5:=by
 unfold compl;repeat' split
 all_goals omega
theorem cmpW_mirr {h:Int} (hh:0≤h∧h≤5) (a b:Vl):cmpW (mirr h) b a=cmpW h a b:=by
 cases a<;>cases b<;>simp only[cmpW]
 ·exact cmpB_mirr hh
 ·rename_i s t;by_cases h0:h=0
  ·subst h0;simp[mirr,eq_comm]
  ·have:mirr h≠0:=by unfold mirr;repeat' split
                     all_goals omega
   simp[h0,this,eq_comm]
theorem cnt_numbers {L:Look} {v:Val} {a b:Nd} (hA:Adm L v) (ha:a.kind=9) (hb:b.kind=9) (ta:tyOf L a=some .num) (tb:tyOf L b=some .num) {how:Int} (hh:0≤how∧how≤5):cnt L v (numbers L how a b)=(cmpB how (v a.name a.attr) (v b.name b.attr)).toNat:=by
 unfold numbers;split
 ·rename_i h5;rw[cnt_numB hA hb ha tb ta (by rcases h5 with rfl|rfl<;>decide),cmpB_mirr hh]
 ·exact cnt_numB hA ha hb ta tb om
theorem ref_word {L:Look} {v:Val} {x:Nd} (hA:Adm L v) (h:x.kind=9) {l:List ByteArray} (ht:tyOf L x=some (.ref l)):(fdOf L x).words=l∧(fdOf L x).kind=1∧∃s,s∈l∧valV L v x=.w s:=by
 rw[zb0 h]at ht;cases hL:L x with
 | none=>rw[hL]at ht;cases ht
 | some f =>
   have hf:fdOf L x=f:=by unfold fdOf;rw[hL];rfl
   rw[hL,Option.map_some,Option.some.injEq]at ht;split at ht
   ·cases ht
   ·rename_i hk;injection ht with ht;subst ht;rcases hA.rg x f hL with⟨h1,_⟩|⟨h1,h2,h3⟩
    ·exact absurd h1 hk
    ·refine⟨by rw[hf],by rw[hf];exact h1,f.words.getD (v x.name x.attr).toNat ⟨#[]⟩,?_,?_⟩
     ·rw[List.getD_eq_getElem?_getD,List.getElem?_eq_getElem om];exact List.getElem_mem _
     ·unfold valV;rw[if_neg zyu,if_neg zyu,hf,if_pos h1]
theorem ty_kind {L:Look} {v:Val} {x:Nd} (hA:Adm L v) (hx:isV x):(∀t,tyOf L x=some t→match t with
 | .num=>∃n,valV L v x=.n n
 | .word s=>x.kind=11∧s=bs x.name∧valV L v x=.w s
 | .ref l=>x.kind=9∧∃s,s∈l∧valV L v x=.w s):=by
 intro t ht;rcases hx.2 with h|h|h
 ·cases t with
  | num=>exact⟨_,(zbj hA h ht).1⟩
  | word s =>
    rw[zb0 h]at ht;cases hL:L x with
    | none=>rw[hL]at ht;cases ht
    | some f=>rw[hL,Option.map_some,Option.some.injEq]at ht;split at ht<;>cases ht
  | ref l=>exact⟨h,(ref_word hA h ht).2.2⟩
 ·have:tyOf L x=some .num:=by unfold tyOf;rw[if_pos h]
  rw[this]at ht;injection ht with ht;subst ht;exact⟨x.num,by unfold valV;rw[if_pos h]⟩
 ·have:tyOf L x=some (.word (bs x.name)):=by unfold tyOf;rw[if_neg zyu,if_pos h]
  rw[this]at ht;injection ht with ht;subst ht;exact⟨h,rfl,by unfold valV;rw[if_neg zyu,if_pos h]⟩
theorem num_val {L:Look} {v:Val} {x:Nd} (hA:Adm L v) (hx:isV x) (hn:numTy L x=true):tyOf L x=some .num∧∃n,valV L v x=.n n:=by
 unfold numTy at hn;cases ht:tyOf L x with
 | none=>rw[ht]at hn;cases hn
 | some t =>
   rw[ht]at hn;cases t with
   | num=>exact⟨rfl,ty_kind hA hx _ ht⟩
   | word s=>cases hn
   | ref l=>cases hn
theorem cnt_valB {L:Look} {v:Val} {how:Int} {a b:Nd} (hA:Adm L v) (h:Pr L how a b) (h9:a.kind=9∨b.kind≠9) (hh:0≤how∧how≤5):cnt L v (valB L how a b)=(cmpW how (valV L v a) (valV L v b)).toNat:=by
 have hr:=h.agr;unfold agr at hr;cases ta:tyOf L a with
 | none=>rw[ta]at hr;cases hr
 | some t =>
   cases tb:tyOf L b with
   | none=>rw[ta,tb]at hr;cases hr
   | some u =>
     rw[ta,tb]at hr;simp only at hr;have ka:=ty_kind hA h.ka _ ta;have kb:=ty_kind hA h.kb _ tb;have hw:t.isN=false→how=0∨how=1:=by
      exact zt62
     rw[valB];split
     ·rename_i a1;have e1:t=.num:=by unfold tyOf at ta;rw[if_pos a1]at ta;injection ta with ta;exact ta.symm
      subst e1;cases u with
      | word s=>cases hr
      | ref l=>cases hr
      | num =>
        have rF:b.kind=10:=by
         rcases h.kb.2 with e|e|e
         ·rcases h9 with h9|h9
          ·omega
          ·exact absurd e h9
         ·exact e
         ·unfold tyOf at tb;rw[if_neg (by rw[e];decide),if_pos e]at tb;cases tb
        rw[zb7];unfold valV;rw[if_pos a1,if_pos rF];rfl
     ·rename_i a1;split
      ·rename_i a2;have e1:t=.word (bs a.name):=by unfold tyOf at ta;rw[if_neg a1,if_pos a2]at ta;injection ta with ta;exact ta.symm
       subst e1;have rF:b.kind=11:=by
        rcases h.kb.2 with e|e|e
        ·rcases h9 with h9|h9
         ·omega
         ·exact absurd e h9
        ·unfold tyOf at tb;rw[if_pos e]at tb;injection tb with tb;rw[←tb]at hr;cases hr
        ·exact e
       rw[zb7];unfold valV;rw[if_neg a1,if_pos a2,if_neg (by rw[rF];decide),if_pos rF];congr 1;have e2:(a.name=b.name)↔(bs a.name=bs b.name):=⟨fun e=>by rw[e],fun e=>by rw[←tl_bs a.name,e,tl_bs]⟩;rcases hw rfl with e|e
       ·subst e;simp[cmpW,e2]
       ·subst e;simp[cmpW,e2]
      ·rename_i a2;have hk:a.kind=9:=by have:=h.ka;unfold isV at this;omega
       split
       ·rename_i a3;have e1:u=.num:=by unfold tyOf at tb;rw[if_pos a3]at tb;injection tb with tb;exact tb.symm
        subst e1;cases t with
        | word s=>cases hr
        | ref l=>cases hr
        | num =>
          rw[cnt_bounded hA hk ta hh,(zbj hA hk ta).1];unfold valV;rw[if_pos a3];rfl
       ·rename_i a3;split
        ·rename_i a4;have e1:valV L v a=valV L v b:=by
          unfold valV fdOf;rw[if_neg a1,if_neg a2,if_neg a3,if_neg (show¬b.kind=11 by rw[a4.1];decide),hA.ext a b a4.2.1 a4.2.2,a4.2.1,a4.2.2]
         rw[zb7,e1];congr 1;cases t with
         | num =>
           obtain⟨n,en⟩:=ka;rw[←e1,en];show _=cmpB how n n;unfold cmpB;simp
         | word s=>exact absurd ka.1 a2
         | ref l =>
           obtain⟨-,s,-,en⟩:=ka;rw[←e1,en];rcases hw rfl with e|e
           ·subst e;simp[cmpW,cmpB]
           ·subst e;simp[cmpW,cmpB]
        ·rename_i a4;split
         ·rename_i a5;have e1:t=.num:=by
           rw[zb0 hk]at ta;cases hL:L a with
           | none=>rw[hL]at ta;cases ta
           | some f =>
             have hf:fdOf L a=f:=by unfold fdOf;rw[hL];rfl
             rw[hf]at a5;rw[hL,Option.map_some,Option.some.injEq,if_pos a5]at ta;exact ta.symm
          subst e1;cases u with
          | word s=>cases hr
          | ref l=>cases hr
          | num =>
            have dR:b.kind=9:=by
             rcases h.kb.2 with e|e|e
             ·exact e
             ·exact absurd e a3
             ·unfold tyOf at tb;rw[if_neg a3,if_pos e]at tb;cases tb
            rw[cnt_numbers hA hk dR ta tb hh,(zbj hA hk ta).1,(zbj hA dR tb).1];rfl
         ·rename_i a5;cases t with
          | num=>exact absurd (zcf hk ta) a5
          | word s=>exact absurd ka.1 a2
          | ref l =>
            obtain⟨b1,b2,s,b3,b4⟩:=ref_word hA hk ta;split
            ·rename_i a6;rw[zb7];rw[b1]at a6;obtain⟨s1,dC⟩:∃s1,l=[s1]:=by
              match l,a6 with
              | [s1],_=>exact⟨s1,rfl⟩
             subst dC;have e2:∃s2,valV L v b=.w s2∧s2=s1:=by
              cases u with
              | num=>cases hr
              | word s9 =>
                obtain⟨-,-,e⟩:=kb;refine⟨_,e,?_⟩;have:=memD_iff.1 (show memD s9 [s1]=true from hr);simpa using this
              | ref m =>
                have e5:[s1]=m:=by simpa[agree]using hr
                subst e5;obtain⟨-,s2,e3,e4⟩:=kb;exact⟨s2,e4,by simpa using e3⟩
             obtain⟨s2,e3,e4⟩:=e2;rw[b4,e3,e4];have e5:s=s1:=by simpa using b3
             rw[e5];congr 1;rcases hw rfl with e|e
             ·subst e;simp[cmpW]
             ·subst e;simp[cmpW]
            ·exact cnt_rel L v how a b
theorem cnt_values {L:Look} {v:Val} {how:Int} {a b:Nd} (hA:Adm L v) (h:Pr L how a b) (hh:0≤how∧how≤5):cnt L v (values L how a b)=(cmpW how (valV L v a) (valV L v b)).toNat:=by
 unfold values;split
 ·rename_i e;rw[cnt_valB hA h.mirr (.inl e.2) (mirr_rg hh),cmpW_mirr hh]
 ·rename_i e;refine cnt_valB hA h ?_ hh;exact zt64
theorem Pr.same {L:Look} {v:Val} {how:Int} {a b:Nd} (hA:Adm L v) (h:Pr L how a b):(∃m n,valV L v a=.n m∧valV L v b=.n n)∨((how=0∨how=1)∧∃s t,valV L v a=.w s∧valV L v b=.w t):=by
 have hr:=h.agr;unfold Nf.agr at hr;cases ta:tyOf L a with
 | none=>rw[ta]at hr;cases hr
 | some t =>
   cases tb:tyOf L b with
   | none=>rw[ta,tb]at hr;cases hr
   | some u =>
     rw[ta,tb]at hr;simp only at hr;have ka:=ty_kind hA h.ka _ ta;have kb:=ty_kind hA h.kb _ tb;have hw:t.isN=false→how=0∨how=1:=by
      exact zt62
     cases t<;>cases u<;>first|cases hr|skip
     ·obtain⟨m,hm⟩:=ka;obtain⟨n,hn⟩:=kb;exact .inl ⟨m,n,hm,hn⟩
     ·exact .inr ⟨hw rfl,_,_,ka.2.2,kb.2.2⟩
     ·obtain⟨-,s,-,hs⟩:=kb;exact .inr ⟨hw rfl,_,_,ka.2.2,hs⟩
     ·obtain⟨-,s,-,hs⟩:=ka;exact .inr ⟨hw rfl,_,_,hs,kb.2.2⟩
     ·obtain⟨-,s,-,hs⟩:=ka;obtain⟨-,s2,-,iu⟩:=kb;exact .inr ⟨hw rfl,_,_,hs,iu⟩
theorem cmpB_compl {h a b:Int} (hh:0≤h∧h≤5):cmpB (compl h) a b= !cmpB h a b:=by
 obtain h9|h9|h9|h9|h9|h9:h=0∨h=1∨h=2∨h=3∨h=4∨h=5:=om;all_goals subst h9
 all_goals simp only[cmpB,compl]
 all_goals simp
 all_goals first|rfl|(rw[decide_eq_decide];omega)|(symm;rw[←decide_not,decide_eq_decide];omega)|(rw[←decide_not,decide_eq_decide];omega)
theorem cnt_cmpd {L:Look} {v:Val} {g:Bool} {how:Int} {a b:Nd} (hA:Adm L v) (h:Pr L how a b) (hh:0≤how∧how≤5):cnt L v (cmpd L g how a b)=(cmpW how (valV L v a) (valV L v b) != g).toNat:=by
 unfold cmpd;rw[cnt_values hA (h.compl g) (by cases g;exact hh;exact compl_rg hh)];cases g with
 | false=>simp
 | true =>
   congr 1;simp only[if_true,Bool.bne_true];rcases h.same hA with⟨m,n,e1,e2⟩|⟨hw,s,t,e1,e2⟩
   ·rw[e1,e2];exact cmpB_compl hh
   ·rw[e1,e2];rcases hw with e|e
    ·subst e;simp[cmpW,compl]
    ·subst e;simp[cmpW,compl]
theorem cnt_rest (L:Look) (v:Val):∀(l:F),(cnt L v l:Int)=trues l+cnt L v (rest l)
 | .nil=>rfl
 | .cons x k r=>by
   have:=cnt_rest L v r;rw[cnt,trues,rest];by_cases h0:x.kind=0
   ·rw[if_pos h0,if_pos (.inl h0)];have:evO L v x (vals k) k.len (cnt L v k)=true:=by unfold evO;rw[if_pos h0]
    rw[this];simp;omega
   ·rw[if_neg h0];by_cases h1:x.kind=1
    ·rw[if_pos (.inr h1)];have:evO L v x (vals k) k.len (cnt L v k)=false:=by unfold evO;rw[if_neg h0,if_pos h1]
     rw[this];simp;omega
    ·rw[if_neg om,cnt];omega
theorem evO_gate (L:Look) (v:Val) {x:Nd} (h:x.kind=5) (vs:List Nd) (n c:Nat):evO L v x vs n c=decide (x.num≤(c:Int)):=by
 unfold evO;rw[if_neg om,if_neg om,if_neg om,if_neg om,if_neg om,if_pos h]
theorem cnt_gate (L:Look) (v:Val) (k:Int) (l:F):cnt L v (gate k l)=(decide (k≤(cnt L v l:Int))).toNat:=by
 unfold gate;rw[cnt,evO_gate L v rfl];simp[cnt]
theorem flat_whole (L:Look) (v:Val) (k:Int):∀(l:F),cnt L v (flat true k l)=(flat true k l).len↔cnt L v l=l.len
 | .nil=>Iff.rfl
 | .cons x ks r=>by
   have h2:=flat_whole L v k r;have b1:=zcl L v r;have b2:=zcl L v (flat true k r);have b3:=zcl L v ks;rw[flat];split
   ·rename_i ho;have jE:x.kind=5∧x.num=ks.len:=by simpa[opens]using ho
    rw[cnt_app,F.len_app,cnt,evO_gate L v jE.1,F.len,jE.2];by_cases h3:(ks.len:Int)≤(cnt L v ks:Int)
    ·rw[decide_eq_true h3,Bool.toNat_true];omega
    ·rw[decide_eq_false h3,Bool.toNat_false];omega
   ·rw[cnt,cnt,F.len,F.len];cases evO L v x (vals ks) ks.len (cnt L v ks)
    ·rw[Bool.toNat_false];omega
    ·rw[Bool.toNat_true];omega
theorem flat_one (L:Look) (v:Val):∀(l:F),1≤cnt L v (flat false 1 l)↔1≤cnt L v l
 | .nil=>Iff.rfl
 | .cons x ks r=>by
   have h2:=flat_one L v r;rw[flat];split
   ·rename_i ho;have jE:x.kind=5∧x.num=1:=by simpa[opens]using ho
    rw[cnt_app,cnt,evO_gate L v jE.1,jE.2];by_cases h3:(1:Int)≤(cnt L v ks:Int)
    ·rw[decide_eq_true h3,Bool.toNat_true];omega
    ·rw[decide_eq_false h3,Bool.toNat_false];omega
   ·rw[cnt,cnt];omega
theorem flat_same {k:Int} (hk:k≠1):∀(l:F),flat false k l=l
 | .nil=>rfl
 | .cons x ks r=>by
   rw[flat,flat_same hk r,if_neg];simp[opens,hk]
theorem cnt_thr (L:Look) (v:Val) (k:Int) (l:F):cnt L v (thr k l)=(decide (k≤(cnt L v l:Int))).toNat:=by
 have h1:=cnt_rest L v l;have h2:=zcl L v (rest l);unfold thr;generalize hj:k-trues l=j at *;generalize rest l=q at *;have e:decide (k≤(cnt L v l:Int))=decide (j≤(cnt L v q:Int)):=by rw[decide_eq_decide];omega
 rw[e];clear e h1 hj;unfold thrB;split
 ·rw[zb7];congr 1;symm;rw[decide_eq_true_eq];omega
 ·split
  ·rw[zb7];congr 1;symm;rw[decide_eq_false_iff_not];omega
  ·split
   ·have:cnt L v q=0∨cnt L v q=1:=om;rcases this with h|h
    ·rw[h,decide_eq_false om];rfl
    ·rw[h,decide_eq_true om];rfl
   ·rw[cnt_gate];congr 1;rw[decide_eq_decide];by_cases hw:j=q.len
    ·rw[if_pos hw,decide_eq_true hw];have h3:=flat_whole L v j q;have h4:=zcl L v (flat true j q);omega
    ·rw[if_neg hw,decide_eq_false hw];by_cases h3:j=1
     ·rw[h3];have:=flat_one L v q;omega
     ·rw[flat_same h3]
theorem cnt_ofT (L:Look) (v:Val) (g:Bool) (k:Int) (l:F):cnt L v (ofT g k l)=(decide ((if g then l.len-k+1 else k)≤(cnt L v l:Int))).toNat:=cnt_thr L v _ l
theorem cnt_cat {L:Look} {v:Val} {t:Nd→F} {p:Nd→Bool}:∀{l:List Nd},(∀x∈l,cnt L v (t x)=(p x).toNat∧(t x).len=1)→cnt L v (F.cat (l.map t))=(l.filter p).length∧(F.cat (l.map t)).len=l.length
 | [],_=>⟨rfl,rfl⟩
 | x::l,h=>by
   obtain⟨h1,h2⟩:=cnt_cat (l:=l) fun y hy=>h y (List.mem_cons_of_mem _ hy);obtain⟨h3,h4⟩:=h x (List.mem_cons_self ..);rw[List.map_cons,F.cat,cnt_app,F.len_app,h1,h2,h3,h4,List.filter_cons,List.length_cons];cases p x<;>simp<;>omega
def okN (x:Nd):Prop:=x.kind=6→0≤x.num∧x.num≤5
theorem cnt_one {L:Look} {v:Val} {x:Nd} {k:F} {g:Bool} (hA:Adm L v) (hx:x.kind≤8) (hO:okN x) (ha:arity x.kind k.len=true) (hv:6≤x.kind→Wf false k) (hc:condB L x (vals k)=true) {kg kn:F}
 (h1:x.kind≤5→kg.len=k.len∧cnt L v kg=if g then k.len-cnt L v k else cnt L v k) (h2:x.kind≤5→cnt L v kn=if g then cnt L v k else k.len-cnt L v k) :
 cnt L v (one L x (vals k) kg kn g)=(evO L v x (vals k) k.len (cnt L v k) != g).toNat:=by
 have dD:=zcl L v k;unfold one evO;by_cases a0:x.kind=0∨x.kind=1
 ·rw[if_pos a0,zb7];rcases a0 with e|e
  ·rw[if_pos e,decide_eq_true e]
  ·rw[if_neg om,if_pos e,decide_eq_false om]
 have n0:¬x.kind=0:=fun e=>a0 (.inl e);have n1:¬x.kind=1:=fun e=>a0 (.inr e);by_cases a2:x.kind=2
 ·simp only[n0,n1,eq_true a2,or_self,if_true,if_false];rw[h2 om];rw[a2]at ha;have hl:k.len=1:=by simpa[arity]using ha
  cases g
  ·simp only[Bool.false_eq_true,if_false,Bool.bne_false];by_cases h:cnt L v k=0
   ·rw[h,hl,decide_eq_true rfl];rfl
   ·rw[decide_eq_false h,hl];have:cnt L v k=1:=om;rw[this];rfl
  ·simp only[if_true,Bool.bne_true];by_cases h:cnt L v k=0
   ·rw[h,decide_eq_true rfl];rfl
   ·rw[decide_eq_false h];have:cnt L v k=1:=om;rw[this];rfl
 by_cases a6:x.kind=6
 ·have hw:=zby (hv om);have hl:=za6 k;rw[a6]at ha;simp only[arity]at ha;simp at ha;rw[ha]at hl;have n3:¬x.kind=3:=om;have n4:¬x.kind=4:=om;have n5:¬x.kind=5:=om;simp only[n0,n1,n3,n4,n5,a2,eq_true a6,or_self,if_true,if_false];revert hc hw;obtain⟨a,b,e⟩:∃a b,vals k=[a,b]:=by
   match h:vals k,hl with
   | [a,b],_=>exact⟨a,b,rfl⟩
  rw[e];intro hc hw;have ia:=hw a zy1;have ib:=hw b zy1;simp only[condB,if_pos a6,List.all_cons,List.all_nil,zb6,Bool.and_true,Bool.and_eq_true,Bool.or_eq_true,decide_eq_true_eq]at hc;refine cnt_cmpd hA ⟨ia,ib,hc.2,?_⟩ (hO a6);exact zt27
 by_cases a7:x.kind=7
 ·have hw:=zby (hv om);have hl:=za6 k;rw[a7]at ha;simp only[arity]at ha;simp at ha;rw[ha]at hl;have n3:¬x.kind=3:=om;have n4:¬x.kind=4:=om;have n5:¬x.kind=5:=om;simp only[n0,n1,n3,n4,n5,a2,a6,eq_true a7,or_self,if_true,if_false];revert hc hw;obtain⟨a,b,c,e⟩:∃a b c,vals k=[a,b,c]:=by
   match h:vals k,hl with
   | [a,b,c],_=>exact⟨a,b,c,rfl⟩
  rw[e];intro hc hw;have ia:=hw a zy1;have ib:=hw b zy1;have ic:=hw c zy1;simp only[condB,if_neg a6,if_pos a7,List.all_cons,List.all_nil,Bool.and_true,Bool.and_eq_true]at hc;obtain⟨_,m1,m2,m3⟩:=hc;show cnt L v (if g=false∧a.kind=9∧b.kind=10∧c.kind=10 then within L a b.num c.num else ofT g 2 ((cmpd L g 5 a b).app (cmpd L g 3 a c)))=_;split
  ·rename_i e2;obtain⟨rfl,e3,e4,e5⟩:=e2;obtain⟨t1,m,hm⟩:=num_val hA ia m1;rw[cnt_within hA e3 t1];simp only[(zbj hA e3 t1).1,Bool.bne_false];unfold valV;rw[if_pos e4,if_pos e5];rfl
  ·have c1:=cnt_cmpd (g:=g) hA (pr_num ia ib m1 m2 5) zy0;have c2:=cnt_cmpd (g:=g) hA (pr_num ia ic m1 m3 3) zy0;have l1:=(cmpd_nf (g:=g) (pr_num ia ib m1 m2 5)).2;have l2:=(cmpd_nf (g:=g) (pr_num ia ic m1 m3 3)).2;rw[cnt_ofT,cnt_app,F.len_app,c1,c2,l1,l2];show _=((cmpW 5 (valV L v a) (valV L v b)&&cmpW 3 (valV L v a) (valV L v c)) != g).toNat;cases g<;>cases cmpW 5 (valV L v a) (valV L v b)<;>cases cmpW 3 (valV L v a) (valV L v c)<;>rfl
 by_cases a8:x.kind=8
 ·have hw:=zby (hv om);have hl:=za6 k;rw[a8]at ha;simp only[arity]at ha;simp at ha;have n3:¬x.kind=3:=om;have n4:¬x.kind=4:=om;have n5:¬x.kind=5:=om;simp only[n0,n1,n3,n4,n5,a2,a6,a7,eq_true a8,or_self,if_true,if_false];revert hc hw;cases e:vals k with
  | nil=>rw[e]at hl;simp at hl;omega
  | cons a r =>
    intro hc hw;simp only[condB,if_neg a6,if_neg a7,if_pos a8,zb6,Bool.and_eq_true]at hc;have hp:∀y∈r,Pr L 0 a y:=fun y hy=>⟨hw a zy1,hw y (by simp[hy]),List.all_eq_true.1 hc.2 y hy,.inl rfl⟩;obtain⟨c1,c2⟩:=cnt_cat (L:=L) (v:=v) (t:=cmpd L g 0 a) (p:=fun y=>cmpW 0 (valV L v a) (valV L v y) != g) (l:=r) (fun y hy=>⟨cnt_cmpd hA (hp y hy) zy0,(cmpd_nf (hp y hy)).2⟩);show cnt L v (ofT g 1 (F.cat (r.map (cmpd L g 0 a))))=((r.any fun y=>cmpW 0 (valV L v a) (valV L v y)) != g).toNat;rw[cnt_ofT,c1,c2];congr 1;cases g
    ·simp only[Bool.bne_false,Bool.false_eq_true,if_false];cases hy:r.any fun y=>cmpW 0 (valV L v a) (valV L v y)with
     | false =>
       rw[decide_eq_false_iff_not];have:r.filter (fun y=>cmpW 0 (valV L v a) (valV L v y))=[]:=by
        rw[List.filter_eq_nil_iff];intro y h3 h4;rw[List.any_eq_false]at hy;exact hy y h3 h4
       rw[this];simp
     | true =>
       rw[decide_eq_true_eq];obtain⟨y,h3,h4⟩:=List.any_eq_true.1 hy;have:=List.length_pos_of_mem (List.mem_filter (p:=fun y=>cmpW 0 (valV L v a) (valV L v y)).2 ⟨h3,h4⟩);omega
    ·simp only[Bool.bne_true,if_true];cases hy:r.any fun y=>cmpW 0 (valV L v a) (valV L v y)with
     | false =>
       rw[Bool.not_false,decide_eq_true_eq];have:r.filter (fun y=> !cmpW 0 (valV L v a) (valV L v y))=r:=by
        rw[List.filter_eq_self];intro y h3;rw[List.any_eq_false]at hy;simpa using hy y h3
       rw[this];omega
     | true =>
       rw[Bool.not_true,decide_eq_false_iff_not];obtain⟨y,h3,h4⟩:=List.any_eq_true.1 hy;have h5:=List.length_filter_lt_length_iff_exists (p:=fun y=> !cmpW 0 (valV L v a) (valV L v y)) (l:=r);have:=h5.2 ⟨y,h3,by simp[h4]⟩;omega
 have h5:x.kind≤5:=om;obtain⟨e1,e2⟩:=h1 h5;by_cases a3:x.kind=3
 ·simp only[n0,n1,a2,a6,a7,a8,eq_true a3,or_self,if_true,if_false];exact zt39
 by_cases a4:x.kind=4
 ·simp only[n0,n1,a2,a3,a6,a7,a8,eq_true a4,or_self,if_true,if_false];exact zt39
 have a5:x.kind=5:=om;simp only[n0,n1,a2,a3,a4,a6,a7,a8,eq_true a5,or_self,if_true,if_false];rw[cnt_ofT,e1,e2];congr 1;cases g
 ·simp only[Bool.bne_false,Bool.false_eq_true,if_false]
 ·simp only[Bool.bne_true,if_true];rw[←decide_not,decide_eq_decide];omega
theorem cnt_nrm {L:Look} {v:Val} (hA:Adm L v):∀{f:F} (g:Bool),tyF L f=true→Wf true f→f.Ev okN→cnt L v (nrm L f g)=if g then f.len-cnt L v f else cnt L v f
 | .nil,g,_,_,_=>by cases g<;>rfl
 | .cons x k r,g,ht,hw,ho=>by
   rw[tyF,Bool.and_eq_true,Bool.and_eq_true]at ht;obtain⟨⟨-,w1,w2,w3,w4⟩,w5⟩:=hw;obtain⟨o1,o2,o3⟩:=ho;have hx:x.kind≤8:=by simpa using w2
   have hr:=cnt_nrm hA (f:=r) g ht.2 w5 o3;have hk:x.kind≤5→∀g,(nrm L k g).len=k.len∧cnt L v (nrm L k g)=if g then k.len-cnt L v k else cnt L v k:=fun h g=>by
    rw[decide_eq_true h]at w4;exact⟨(nrm_nf g ht.1.2 w4).2,cnt_nrm hA (f:=k) g ht.1.2 w4 o2⟩
   have h1:=cnt_one (kg:=nrm L k g) (kn:=nrm L k !g) (g:=g) hA hx o1 w3 (fun h=>by rw[decide_eq_false om]at w4;exact w4) ht.1.1 (fun h=>hk h g) (fun h=>by rw[(hk h !g).2];cases g<;>rfl);have b1:=zcl L v r;rw[nrm,cnt_app,h1,hr,cnt,F.len];cases g
   ·simp
   ·cases evO L v x (vals k) k.len (cnt L v k)
    ·simp;omega
    ·simp;omega
end Nf
namespace Nf
open Pa (F Nd Tx leaf)
open Fm (G)
inductive Shp (L:Look) (x:Nd):List Nd→Prop where
 | eqn (a b:Nd) (hk:x.kind=6) (hn:x.num=0∨x.num=1) (ha:a.kind=9) (hb:b.kind=10) (ty:tyOf L a=some .num) (lo:(fdOf L a).min≤b.num) (hi:b.num≤(fdOf L a).max):Shp L x [a,b]
 | rng (a b c:Nd) (hk:x.kind=7) (ha:a.kind=9) (hb:b.kind=10) (hc:c.kind=10) (ty:tyOf L a=some .num) (lo:(fdOf L a).min≤b.num) (le:b.num≤c.num) (hi:c.num≤(fdOf L a).max):Shp L x [a,b,c]
 | word (a b:Nd) (l:List ByteArray) (hk:x.kind=6) (hn:x.num=0∨x.num=1) (ha:a.kind=9) (hb:b.kind=11) (ty:tyOf L a=some (.ref l)) (hm:bs b.name∈l):Shp L x [a,b]
 | same (a b:Nd) (l:List ByteArray) (hk:x.kind=6) (hn:x.num=0∨x.num=1) (ha:a.kind=9) (hb:b.kind=9) (ta:tyOf L a=some (.ref l)) (tb:tyOf L b=some (.ref l)) (ne:¬(a.name=b.name∧a.attr=b.attr)):Shp L x [a,b]
 | nums (a b:Nd) (hk:x.kind=6) (hn:0≤x.num∧x.num≤3) (ha:a.kind=9) (hb:b.kind=9) (ta:tyOf L a=some .num) (tb:tyOf L b=some .num) (ne:¬(a.name=b.name∧a.attr=b.attr)) (na:always x.num ((fdOf L a).min-(fdOf L b).max) ((fdOf L a).max-(fdOf L b).min)=false) (nn:never x.num ((fdOf L a).min-(fdOf L b).max) ((fdOf L a).max-(fdOf L b).min)=false):Shp L x [a,b]
theorem Shp.kind {L:Look} {x:Nd} {vs:List Nd} (h:Shp L x vs):(x.kind=6∨x.kind=7)∧2≤vs.length:=by cases h<;>exact⟨by omega,by simp⟩
def AS (L:Look):F→Prop
 | .nil=>True
 | .cons x k r=>((x.kind=0∨x.kind=1)∨(x.kind=5∧AS L k)∨Shp L x (vals k))∧AS L r
theorem as_app {L:Look}:∀{f g:F},AS L f→AS L g→AS L (f.app g)
 | .nil,g,_,h=>h
 | .cons x k r,g,h1,h2=>⟨h1.1,as_app h1.2 h2⟩
theorem as_cat {L:Look} {t:Nd→F}:∀{l:List Nd},(∀x∈l,AS L (t x))→AS L (F.cat (l.map t))
 | [],_=>trivial
 | x::l,h=>as_app (h x (List.mem_cons_self ..)) (as_cat fun y hy=>h y (List.mem_cons_of_mem _ hy))
theorem as_tru (L:Look) (b:Bool):AS L (tru b):=by cases b<;>exact⟨.inl zy0,trivial⟩
theorem as_rest {L:Look}:∀{l:F},AS L l→AS L (rest l)
 | .nil,_=>trivial
 | .cons x k r,h=>by
   rw[rest];split
   ·exact as_rest h.2
   ·exact⟨h.1,as_rest h.2⟩
theorem as_flat {L:Look} (w:Bool) (k:Int):∀{l:F},AS L l→AS L (flat w k l)
 | .nil,_=>trivial
 | .cons x ks r,h=>by
   rw[flat];split
   ·rename_i ho;have h5:x.kind=5:=by simp only[opens,Bool.and_eq_true,decide_eq_true_eq]at ho;exact ho.1
    refine as_app ?_ (as_flat w k h.2);rcases h.1 with h1|h1|h1
    ·omega
    ·exact h1.2
    ·have h6:=h1.kind;omega
   ·exact⟨h.1,as_flat w k h.2⟩
theorem as_thr {L:Look} (k:Int) {l:F} (h:AS L l):AS L (thr k l):=by
 have h1:=as_rest h;unfold thr;generalize k-trues l=k at *;generalize rest l=l at *;unfold thrB;split
 ·exact as_tru _ _
 ·split
  ·exact as_tru _ _
  ·split
   ·exact h1
   ·exact⟨.inr (.inl ⟨rfl,as_flat _ _ h1⟩),trivial⟩
theorem as_within {L:Look} {x:Nd} (h:x.kind=9) (ht:tyOf L x=some .num) (di:(fdOf L x).min≤(fdOf L x).max) (lo hi:Int):AS L (within L x lo hi):=by
 unfold within withB;split
 ·exact as_tru _ _
 ·split
  ·exact as_tru _ _
  ·split
   ·exact⟨.inr (.inr (.eqn x (nbr _) rfl (.inl rfl) h rfl ht (by show _≤max lo _;omega) (by show max lo _≤_;omega))),trivial⟩
   ·exact⟨.inr (.inr (.rng x (nbr _) (nbr _) rfl h rfl rfl ht (by show _≤max lo _;omega) (by show max lo _≤min hi _;omega) (by show min hi _≤_;omega))),trivial⟩
theorem as_bounded {L:Look} {x:Nd} (h:x.kind=9) (ht:tyOf L x=some .num) (di:(fdOf L x).min≤(fdOf L x).max) (how c:Int):AS L (bounded L how x c):=by
 unfold bounded boundB
 repeat' split
 all_goals first|exact as_within h ht di _ _|exact as_tru _ _|skip
 exact⟨.inr (.inr (.eqn x (nbr _) rfl (.inr rfl) h rfl ht (by show _≤c;omega) (by show c≤_;omega))),trivial⟩
theorem as_numB {L:Look} {a b:Nd} (ha:a.kind=9) (hb:b.kind=9) (ta:tyOf L a=some .num) (tb:tyOf L b=some .num) (ne:¬(a.name=b.name∧a.attr=b.attr)) {how:Int} (hh:0≤how∧how≤3):AS L (numB how a b (fdOf L a) (fdOf L b)):=by
 unfold numB;split
 ·exact as_tru _ _
 ·rename_i h;rw[Bool.or_eq_true,not_or,Bool.not_eq_true,Bool.not_eq_true]at h;exact⟨.inr (.inr (.nums a b rfl hh ha hb ta tb ne h.1 h.2)),trivial⟩
def OkL (L:Look):Prop:=∀x,(fdOf L x).kind=0→(fdOf L x).min≤(fdOf L x).max
theorem as_valB {L:Look} (hO:OkL L) {how:Int} {a b:Nd} (h:Pr L how a b) (h9:a.kind=9∨b.kind≠9) (hh:0≤how∧how≤5):AS L (valB L how a b):=by
 have hr:=h.agr;unfold agr at hr;rw[valB];split
 ·exact as_tru _ _
 ·rename_i a1;split
  ·exact as_tru _ _
  ·rename_i a2;have hk:a.kind=9:=by have:=h.ka;unfold isV at this;omega
   split
   ·rename_i a3;have hb:tyOf L b=some .num:=by unfold tyOf;rw[if_pos a3]
    rw[hb]at hr;have ha:tyOf L a=some .num:=by
     cases ha:tyOf L a with
     | none=>rw[ha]at hr;cases hr
     | some t=>rw[ha]at hr;cases t<;>first|rfl|cases hr
    exact as_bounded hk ha (hO a (zcf hk ha)) _ _
   ·rename_i a3;split
    ·exact as_tru _ _
    ·rename_i a4;split
     ·rename_i a5;have ha:tyOf L a=some .num:=by
       rw[zb0 hk]at hr ⊢;unfold fdOf at a5;cases hL:L a with
       | none=>rw[hL]at hr;cases hr
       | some f=>rw[hL]at a5;simp only[Option.getD_some]at a5;simp[a5]
      rw[ha]at hr;have hb:tyOf L b=some .num:=by
       cases hb:tyOf L b with
       | none=>rw[hb]at hr;cases hr
       | some t=>rw[hb]at hr;cases t<;>first|rfl|cases hr
      have dR:b.kind=9:=by
       exact zt73
      have hs:¬(a.name=b.name∧a.attr=b.attr):=fun e=>a4 ⟨dR,e⟩;unfold numbers;split
      ·rename_i a6;exact as_numB dR hk hb ha (fun e=>hs ⟨e.1.symm,e.2.symm⟩) (by rcases a6 with rfl|rfl<;>decide)
      ·exact as_numB hk dR ha hb hs om
     ·rename_i a5;split
      ·exact as_tru _ _
      ·rename_i a6;have ha:∃l,tyOf L a=some (.ref l):=by
        rw[zb0 hk]at hr ⊢;unfold fdOf at a5;cases hL:L a with
        | none=>rw[hL]at hr;cases hr
        | some f=>rw[hL]at a5;simp only[Option.getD_some]at a5;exact⟨f.words,by simp[a5]⟩
       obtain⟨l,ha⟩:=ha;have hw:how=0∨how=1:=by
        rcases h.how with e|e|⟨e,_⟩
        ·exact .inl e
        ·exact .inr e
        ·unfold numTy at e;rw[ha]at e;cases e
       rw[ha]at hr;refine⟨.inr (.inr ?_),trivial⟩;rcases h.kb.2 with e|e|e
       ·have hb:tyOf L b=some (.ref l):=by
         cases hb:tyOf L b with
         | none=>rw[hb]at hr;cases hr
         | some t =>
           rw[hb]at hr;cases t with
           | num=>cases hr
           | word s =>
             rw[zb0 e]at hb;cases hL:L b with
             | none=>rw[hL]at hb;cases hb
             | some f=>rw[hL,Option.map_some,Option.some.injEq]at hb;split at hb<;>cases hb
           | ref m =>
             have:l=m:=by simpa[agree]using hr
             rw[this]
        exact .same a b l rfl hw hk e ha hb (fun q=>a4 ⟨e,q⟩)
       ·exact absurd e a3
       ·have hb:tyOf L b=some (.word (bs b.name)):=by unfold tyOf;rw[if_neg a3,if_pos e]
        rw[hb]at hr;exact .word a b l rfl hw hk e ha (memD_iff.1 hr)
theorem as_cmpd {L:Look} (hO:OkL L) {g:Bool} {how:Int} {a b:Nd} (h:Pr L how a b) (hh:0≤how∧how≤5):AS L (cmpd L g how a b):=by
 have key:∀{how:Int},Pr L how a b→0≤how∧how≤5→AS L (values L how a b):=fun{how} h hh=>by
  unfold values;split
  ·rename_i e;exact as_valB hO h.mirr (.inl e.2) (mirr_rg hh)
  ·rename_i e;refine as_valB hO h ?_ hh;exact zt64
 exact key (h.compl g) (by cases g;exact hh;exact compl_rg hh)
theorem as_one {L:Look} (hO:OkL L) {x:Nd} {k:F} {g:Bool} (hx:x.kind≤8) (hN:okN x) (ha:arity x.kind k.len=true) (hv:6≤x.kind→Wf false k) (hc:condB L x (vals k)=true) {kg kn:F} (h1:x.kind≤5→AS L kg) (h2:x.kind≤5→AS L kn):AS L (one L x (vals k) kg kn g):=by
 unfold one;split
 ·exact as_tru _ _
 ·rename_i a0;split
  ·rename_i a2;exact h2 om
  ·rename_i a2;split
   ·rename_i a6;have hw:=zby (hv om);have hl:=za6 k;rw[a6]at ha;simp only[arity]at ha;simp at ha;rw[ha]at hl;revert hc hw;obtain⟨a,b,e⟩:∃a b,vals k=[a,b]:=by
     match h:vals k,hl with
     | [a,b],_=>exact⟨a,b,rfl⟩
    rw[e];intro hc hw;simp only[condB,if_pos a6,List.all_cons,List.all_nil,zb6,Bool.and_true,Bool.and_eq_true,Bool.or_eq_true,decide_eq_true_eq]at hc;refine as_cmpd hO ⟨hw a zy1,hw b zy1,hc.2,?_⟩ (hN a6);exact zt27
   ·rename_i a6;split
    ·rename_i a7;have hw:=zby (hv om);have hl:=za6 k;rw[a7]at ha;simp only[arity]at ha;simp at ha;rw[ha]at hl;revert hc hw;obtain⟨a,b,c,e⟩:∃a b c,vals k=[a,b,c]:=by
      match h:vals k,hl with
      | [a,b,c],_=>exact⟨a,b,c,rfl⟩
     rw[e];intro hc hw;have ia:=hw a zy1;have ib:=hw b zy1;have ic:=hw c zy1;simp only[condB,if_neg a6,if_pos a7,List.all_cons,List.all_nil,Bool.and_true,Bool.and_eq_true]at hc;obtain⟨_,n1,n2,n3⟩:=hc;show AS L (if g=false∧a.kind=9∧b.kind=10∧c.kind=10 then within L a b.num c.num else ofT g 2 ((cmpd L g 5 a b).app (cmpd L g 3 a c)));split
     ·rename_i e2;have t1:tyOf L a=some .num:=by
       unfold numTy at n1;cases e1:tyOf L a with
       | none=>rw[e1]at n1;cases n1
       | some t=>rw[e1]at n1;cases t<;>first|rfl|cases n1
      exact as_within e2.2.1 t1 (hO a (zcf e2.2.1 t1)) _ _
     ·exact as_thr _ (as_app (as_cmpd hO (pr_num ia ib n1 n2 5) zy0) (as_cmpd hO (pr_num ia ic n1 n3 3) zy0))
    ·rename_i a7;split
     ·rename_i a8;have hw:=zby (hv om);have hl:=za6 k;rw[a8]at ha;simp only[arity]at ha;simp at ha;revert hc hw;cases e:vals k with
      | nil=>rw[e]at hl;simp at hl;omega
      | cons a r =>
        intro hc hw;simp only[condB,if_neg a6,if_neg a7,if_pos a8,zb6,Bool.and_eq_true]at hc;exact as_thr _ (as_cat fun y hy=>as_cmpd hO ⟨hw a zy1,hw y (by simp[hy]),List.all_eq_true.1 hc.2 y hy,.inl rfl⟩ zy0)
     ·rename_i a8;split
      ·exact as_thr _ (h1 om)
      ·split
       ·exact as_thr _ (h1 om)
       ·exact as_thr _ (h1 om)
theorem as_nrm {L:Look} (hO:OkL L):∀{f:F} (g:Bool),tyF L f=true→Wf true f→f.Ev okN→AS L (nrm L f g)
 | .nil,g,_,_,_=>trivial
 | .cons x k r,g,ht,hw,ho=>by
   rw[tyF,Bool.and_eq_true,Bool.and_eq_true]at ht;obtain⟨⟨-,w1,w2,w3,w4⟩,w5⟩:=hw;have hx:x.kind≤8:=by simpa using w2
   have hk:x.kind≤5→∀g,AS L (nrm L k g):=fun h g=>as_nrm hO (f:=k) g ht.1.2 (by rw[decide_eq_true h]at w4;exact w4) ho.2.1;rw[nrm];exact as_app (as_one hO hx ho.1 w3 (fun h=>by rw[decide_eq_false om]at w4;exact w4) ht.1.1 (fun h=>hk h g) (fun h=>hk h _)) (as_nrm hO (f:=r) g ht.2 w5 ho.2.2)
structure At where
 kind:Int
 a:Int
 b:Int
 lo:Int
 hi:Int
def idxL {α:Type} [DecidableEq α] (x:α):List α→Nat
 | []=>0
 | y::r=>if y=x then 0 else idxL x r+1
def attrP (f:Fd) (n:Nd):Int:=if n.kind=11 then(if memD (bs n.name) f.words then(idxL (bs n.name) f.words:Int)else 0)else n.num-f.min
def grP (f:Fd):Int:=if f.kind=1 then(f.words.length:Int)-1 else f.max-f.min
def dist (i j lo hi:Int):List At:=if lo≤hi then[⟨5,i,j,lo,hi⟩]else[]
abbrev Ix:=Nd→Int
def atR (num i j am ga bm gb:Int):List At :=
 if num=2 then dist i j (-gb) (bm-am-1)
 else if num=3 then dist i j (-gb) (bm-am)
 else if num=0 then(if bm-am=0 then[⟨3,i,j,0,0⟩]else dist i j (bm-am) (bm-am))
 else if bm-am=0 then[⟨4,i,j,0,0⟩]
 else dist i j (-gb) (bm-am-1)++dist i j (bm-am+1) ga
def atP (L:Look) (ix:Ix) (x:Nd):List Nd→List At
 | a::b::r =>
   if x.kind=7 then(match r with|c::_=>[⟨2,ix a,0,attrP (fdOf L a) b,attrP (fdOf L a) c⟩]|[]=>[])
   else if b.kind≠9 then[⟨if x.num=1 then 1 else 0,ix a,0,attrP (fdOf L a) b,0⟩]
   else atR x.num (ix a) (ix b) (fdOf L a).min (grP (fdOf L a)) (fdOf L b).min (grP (fdOf L b))
 | _=>[]
theorem at7 {L:Look} {ix:Ix} {x a b c:Nd} {r:List Nd} (h:x.kind=7):atP L ix x (a::b::c::r)=[⟨2,ix a,0,attrP (fdOf L a) b,attrP (fdOf L a) c⟩]:=by
 unfold atP;exact if_pos h
theorem at6 {L:Look} {ix:Ix} {x a b:Nd} {r:List Nd} (h:x.kind=6) (hb:b.kind≠9):atP L ix x (a::b::r)=[⟨if x.num=1 then 1 else 0,ix a,0,attrP (fdOf L a) b,0⟩]:=by
 unfold atP;exact(if_neg om).trans (if_pos hb)
theorem at9 {L:Look} {ix:Ix} {x a b:Nd} {r:List Nd} (h:x.kind=6) (hb:b.kind=9):atP L ix x (a::b::r)=atR x.num (ix a) (ix b) (fdOf L a).min (grP (fdOf L a)) (fdOf L b).min (grP (fdOf L b)):=by
 unfold atP;exact(if_neg om).trans (if_neg (fun e=>e hb))
theorem evO6 {L:Look} {v:Val} {x a b:Nd} {r:List Nd} (h:x.kind=6) (n c:Nat):evO L v x (a::b::r) n c=cmpW x.num (valV L v a) (valV L v b):=by
 unfold evO;rw[if_neg om,if_neg om,if_neg om,if_neg om,if_neg om,if_neg om,if_pos h]
theorem evO7 {L:Look} {v:Val} {x a b d:Nd} {r:List Nd} (h:x.kind=7) (n c:Nat):evO L v x (a::b::d::r) n c=(cmpW 5 (valV L v a) (valV L v b)&&cmpW 3 (valV L v a) (valV L v d)):=by
 unfold evO;rw[if_neg om,if_neg om,if_neg om,if_neg om,if_neg om,if_neg om,if_neg om,if_pos h]
def evA (V:List Int) (a:At):Bool :=
 if a.kind=0 then decide (V.getD a.a.toNat 0=a.lo)else if a.kind=1 then decide (V.getD a.a.toNat 0≠a.lo)
 else if a.kind=2 then decide (a.lo≤V.getD a.a.toNat 0∧V.getD a.a.toNat 0≤a.hi)
 else if a.kind=3 then decide (V.getD a.a.toNat 0=V.getD a.b.toNat 0)else if a.kind=4 then decide (V.getD a.a.toNat 0≠V.getD a.b.toNat 0)
 else decide (a.lo≤V.getD a.a.toNat 0-V.getD a.b.toNat 0∧V.getD a.a.toNat 0-V.getD a.b.toNat 0≤a.hi)
def zaj (f:Fd):Int:=if f.kind=1 then 0 else f.min
structure Vals (L:Look) (v:Val) (ix:Ix) (V:List Int) (x:Nd):Prop where
 lo:0≤ix x
 hi:ix x<V.length
 val:V.getD (ix x).toNat 0=v x.name x.attr-zaj (fdOf L x)
theorem idx_mem {α:Type} [DecidableEq α] {x:α}:∀{l:List α},x∈l→idxL x l<l.length∧l[idxL x l]? =some x
 | [],h=>by cases h
 | y::r,h=>by
   rw[idxL];by_cases e:y=x
   ·rw[if_pos e];exact⟨by simp,by simp[e]⟩
   ·rw[if_neg e];rcases List.mem_cons.1 h with h|h
    ·exact absurd h.symm e
    ·obtain⟨h1,h2⟩:=idx_mem h;exact⟨by simp;omega,by simpa using h2⟩
theorem nodup_at {α:Type} {l:List α} (hn:l.Nodup) {i j:Nat} {x:α} (hi:l[i]? =some x) (hj:l[j]? =some x):i=j:=by
 obtain⟨a,ha⟩:=List.getElem?_eq_some_iff.1 hi;obtain⟨b,hb⟩:=List.getElem?_eq_some_iff.1 hj;exact(List.getElem_inj hn).1 (ha.trans hb.symm)
theorem wat {L:Look} {v:Val} {a:Nd} (hA:Adm L v) (h:a.kind=9) {l:List ByteArray} (ht:tyOf L a=some (.ref l)):∃k:Nat,v a.name a.attr=(k:Int)∧k<l.length∧∃s,l[k]? =some s∧valV L v a=.w s:=by
 rw[zb0 h]at ht;cases hL:L a with
 | none=>rw[hL]at ht;cases ht
 | some f =>
   have hf:fdOf L a=f:=by unfold fdOf;rw[hL];rfl
   rw[hL,Option.map_some,Option.some.injEq]at ht;split at ht
   ·cases ht
   ·rename_i hk;injection ht with ht;subst ht;rcases hA.rg a f hL with⟨h1,_⟩|⟨h1,h2,h3⟩
    ·exact absurd h1 hk
    ·refine⟨(v a.name a.attr).toNat,by omega,by omega,_,List.getElem?_eq_getElem om,?_⟩;unfold valV;rw[if_neg zyu,if_neg zyu,hf,if_pos h1,List.getD_eq_getElem?_getD,List.getElem?_eq_getElem om];rfl
def OkW (L:Look):Prop:=∀x,(fdOf L x).words.Nodup∧((fdOf L x).kind=0∨(fdOf L x).kind=1)∧((fdOf L x).kind=1→(fdOf L x).min=0)
theorem at_ev {L:Look} {v:Val} {ix:Ix} {V:List Int} {x:Nd} {vs:List Nd} (hA:Adm L v) (hW:OkW L) (hS:Shp L x vs) (hV:∀a∈vs,a.kind=9→Vals L v ix V a) (n c:Nat) :
 ((atP L ix x vs).length=1∨(atP L ix x vs).length=2)∧(atP L ix x vs).any (evA V)=evO L v x vs n c:=by
 cases hS with
 | eqn a b hk hn ha hb ty lo hi =>
   obtain⟨w1,w2,w3⟩:=hV a zy1 ha;obtain⟨e,-,-⟩:=zbj hA ha ty;have hf:=zcf ha ty;have e2:valV L v b=.n b.num:=by unfold valV;rw[if_pos hb]
   have e3:zaj (fdOf L a)=(fdOf L a).min:=by unfold zaj;rw[if_neg om]
   have e4:attrP (fdOf L a) b=b.num-(fdOf L a).min:=by unfold attrP;rw[if_neg om]
   rw[e3]at w3;rw[at6 hk om,evO6 hk,e,e2,e4];refine⟨.inl rfl,?_⟩;rcases hn with h|h
   ·rw[h];simp only[List.any_cons,List.any_nil,Bool.or_false,evA,cmpW,cmpB,w3,show¬((0:Int)=1) by decide,if_true,if_false];rw[decide_eq_decide];omega
   ·rw[h];simp only[List.any_cons,List.any_nil,Bool.or_false,evA,cmpW,cmpB,w3,show¬((1:Int)=0) by decide,if_true,if_false];rw[decide_eq_decide];omega
 | rng a b d hk ha hb hc ty lo le hi =>
   obtain⟨w1,w2,w3⟩:=hV a zy1 ha;obtain⟨e,-,-⟩:=zbj hA ha ty;have hf:=zcf ha ty;have e2:valV L v b=.n b.num:=by unfold valV;rw[if_pos hb]
   have e5:valV L v d=.n d.num:=by unfold valV;rw[if_pos hc]
   have e3:zaj (fdOf L a)=(fdOf L a).min:=by unfold zaj;rw[if_neg om]
   have e4:attrP (fdOf L a) b=b.num-(fdOf L a).min:=by unfold attrP;rw[if_neg om]
   have e6:attrP (fdOf L a) d=d.num-(fdOf L a).min:=by unfold attrP;rw[if_neg om]
   rw[e3]at w3;rw[at7 hk,evO7 hk,e,e2,e5,e4,e6];refine⟨.inl rfl,?_⟩;simp only[List.any_cons,List.any_nil,Bool.or_false,evA,cmpW,cmpB,w3];simp only[show¬((2:Int)=0) by decide,show¬((2:Int)=1) by decide,show¬((5:Int)=0) by decide,show¬((5:Int)=1) by decide,show¬((5:Int)=2) by decide,show¬((5:Int)=3) by decide,show¬((5:Int)=4) by decide,show¬((3:Int)=0) by decide,show¬((3:Int)=1) by decide,show¬((3:Int)=2) by decide,if_true,if_false];rw[←Bool.decide_and,decide_eq_decide];omega
 | word a b l hk hn ha hb ty hm =>
   obtain⟨w1,w2,w3⟩:=hV a zy1 ha;obtain⟨q1,q2,-⟩:=ref_word hA ha ty;obtain⟨k,hv,bk,s,hs,e⟩:=wat hA ha ty;obtain⟨nd,-,hz⟩:=hW a;rw[q1]at nd;have e2:valV L v b=.w (bs b.name):=by unfold valV;rw[if_neg om,if_pos hb]
   have e3:zaj (fdOf L a)=0:=by unfold zaj;rw[if_pos q2]
   rw[e3,Int.sub_zero,hv]at w3;obtain⟨i1,i2⟩:=idx_mem hm;have e4:attrP (fdOf L a) b=(idxL (bs b.name) l:Int):=by unfold attrP;rw[if_pos hb,q1,if_pos (memD_iff.2 hm)]
   have jr:((k:Int)=(idxL (bs b.name) l:Int))↔s=bs b.name:=by
    constructor
    ·intro h;have:k=idxL (bs b.name) l:=om;rw[←this,hs]at i2;exact Option.some.inj i2
    ·intro h;rw[h]at hs;rw[nodup_at nd hs i2]
   rw[at6 hk om,evO6 hk,e,e2,e4];refine⟨.inl rfl,?_⟩;rcases hn with h|h
   ·rw[h];simp only[List.any_cons,List.any_nil,Bool.or_false,evA,cmpW,w3,show¬((0:Int)=1) by decide,if_true,if_false];rw[decide_eq_decide];exact jr
   ·rw[h];simp only[List.any_cons,List.any_nil,Bool.or_false,evA,cmpW,w3,show¬((1:Int)=0) by decide,if_true,if_false];rw[decide_eq_decide];exact not_congr jr
 | same a b l hk hn ha hb ta tb ne =>
   obtain⟨w1,w2,w3⟩:=hV a zy1 ha;obtain⟨u1,u2,u3⟩:=hV b zy1 hb;obtain⟨q1,q2,-⟩:=ref_word hA ha ta;obtain⟨r1,r2,-⟩:=ref_word hA hb tb;obtain⟨k,hv,bk,s,hs,e⟩:=wat hA ha ta;obtain⟨m,fR,oD,t,ht,e2⟩:=wat hA hb tb;have za:=(hW a).2.2 q2;have zb:=(hW b).2.2 r2;have nd:=(hW a).1;rw[q1]at nd;have e3:zaj (fdOf L a)=0:=by unfold zaj;rw[if_pos q2]
   have e4:zaj (fdOf L b)=0:=by unfold zaj;rw[if_pos r2]
   rw[e3,Int.sub_zero,hv]at w3;rw[e4,Int.sub_zero,fR]at u3;have jr:((k:Int)=(m:Int))↔s=t:=by
    constructor
    ·intro h;have:k=m:=om;rw[this,ht]at hs;exact(Option.some.inj hs).symm
    ·intro h;rw[h]at hs;rw[nodup_at nd hs ht]
   rw[at9 hk hb,evO6 hk,e,e2,za,zb];unfold atR;rcases hn with h|h
   ·rw[h,if_neg zy0,if_neg zy0,if_pos rfl,if_pos zy0];refine⟨.inl rfl,?_⟩;simp only[List.any_cons,List.any_nil,Bool.or_false,evA,cmpW,w3,u3,show¬((3:Int)=0) by decide,show¬((3:Int)=1) by decide,show¬((3:Int)=2) by decide,if_true,if_false];rw[decide_eq_decide];exact jr
   ·rw[h,if_neg zy0,if_neg zy0,if_neg zy0,if_pos zy0];refine⟨.inl rfl,?_⟩;simp only[List.any_cons,List.any_nil,Bool.or_false,evA,cmpW,w3,u3,show¬((1:Int)=0) by decide,show¬((4:Int)=0) by decide,show¬((4:Int)=1) by decide,show¬((4:Int)=2) by decide,show¬((4:Int)=3) by decide,if_true,if_false];rw[decide_eq_decide];exact not_congr jr
 | nums a b hk hn ha hb ta tb ne na nn =>
   obtain⟨w1,w2,w3⟩:=hV a zy1 ha;obtain⟨u1,u2,u3⟩:=hV b zy1 hb;obtain⟨e,l1,l2⟩:=zbj hA ha ta;obtain⟨e2,m1,m2⟩:=zbj hA hb tb;have fa:=zcf ha ta;have fb:=zcf hb tb;have e3:zaj (fdOf L a)=(fdOf L a).min:=by unfold zaj;rw[if_neg om]
   have e4:zaj (fdOf L b)=(fdOf L b).min:=by unfold zaj;rw[if_neg om]
   have g3:grP (fdOf L a)=(fdOf L a).max-(fdOf L a).min:=by unfold grP;rw[if_neg om]
   have g4:grP (fdOf L b)=(fdOf L b).max-(fdOf L b).min:=by unfold grP;rw[if_neg om]
   rw[e3]at w3;rw[e4]at u3;rw[at9 hk hb,evO6 hk,e,e2,g3,g4];generalize v a.name a.attr=p at *;generalize v b.name b.attr=q at *;generalize (fdOf L a).min=am at *;generalize (fdOf L a).max=ax at *;generalize (fdOf L b).min=bm at *;generalize (fdOf L b).max=bx at *;unfold always at na;unfold never at nn;have mz:∀lo hi:Int,evA V ⟨5,ix a,ix b,lo,hi⟩=decide (lo≤p-am-(q-bm)∧p-am-(q-bm)≤hi):=fun lo hi=>by
    simp only[evA,w3,u3,show¬((5:Int)=0) by decide,show¬((5:Int)=1) by decide,show¬((5:Int)=2) by decide,show¬((5:Int)=3) by decide,show¬((5:Int)=4) by decide,if_false]
   have ev3:evA V ⟨3,ix a,ix b,0,0⟩=decide (p-am=q-bm):=by
    simp only[evA,w3,u3,show¬((3:Int)=0) by decide,show¬((3:Int)=1) by decide,show¬((3:Int)=2) by decide,if_true,if_false]
   have ev4:evA V ⟨4,ix a,ix b,0,0⟩=decide (p-am≠q-bm):=by
    simp only[evA,w3,u3,show¬((4:Int)=0) by decide,show¬((4:Int)=1) by decide,show¬((4:Int)=2) by decide,show¬((4:Int)=3) by decide,if_true,if_false]
   unfold atR dist;obtain h|h|h|h:x.num=0∨x.num=1∨x.num=2∨x.num=3:=om
   ·rw[h]at na nn ⊢;simp at na nn;rw[if_neg zy0,if_neg zy0,if_pos rfl];show _∧_=decide (p=q);by_cases hd:bm-am=0
    ·rw[if_pos hd];refine⟨.inl rfl,?_⟩;rw[List.any_cons,ev3,List.any_nil,Bool.or_false,decide_eq_decide];omega
    ·rw[if_neg hd,if_pos (Int.le_refl _)];refine⟨.inl rfl,?_⟩;rw[List.any_cons,mz,List.any_nil,Bool.or_false,decide_eq_decide];omega
   ·rw[h]at na nn ⊢;simp at na nn;rw[if_neg zy0,if_neg zy0,if_neg zy0];show _∧_=decide (p≠q);by_cases hd:bm-am=0
    ·rw[if_pos hd];refine⟨.inl rfl,?_⟩;rw[List.any_cons,ev4,List.any_nil,Bool.or_false,decide_eq_decide];omega
    ·rw[if_neg hd];by_cases h1: -(bx-bm)≤bm-am-1
     ·by_cases h2:bm-am+1≤ax-am
      ·rw[if_pos h1,if_pos h2];refine⟨.inr rfl,?_⟩;show(evA V _||(evA V _||false))=_;rw[mz,mz,Bool.or_false,←Bool.decide_or,decide_eq_decide];omega
      ·rw[if_pos h1,if_neg h2];refine⟨.inl rfl,?_⟩;show(evA V _||false)=_;rw[mz,Bool.or_false,decide_eq_decide];omega
     ·by_cases h2:bm-am+1≤ax-am
      ·rw[if_neg h1,if_pos h2];refine⟨.inl rfl,?_⟩;show(evA V _||false)=_;rw[mz,Bool.or_false,decide_eq_decide];omega
      ·omega
   ·rw[h]at na nn ⊢;simp at na nn;rw[if_pos rfl,if_pos om];refine⟨.inl rfl,?_⟩;show(evA V _||false)=decide (p<q);rw[mz,Bool.or_false,decide_eq_decide];omega
   ·rw[h]at na nn ⊢;simp at na nn;rw[if_neg zy0,if_pos rfl,if_pos om];refine⟨.inl rfl,?_⟩;show(evA V _||false)=decide (p≤q);rw[mz,Bool.or_false,decide_eq_decide];omega
end Nf
namespace Nf
open Pa (F Nd Tx leaf)
open Fm (G Gt gb truthP Seg truth_root leavesP leaves_fl)
def Pf (L:Look):F→Prop
 | .nil=>True
 | .cons x k r=>((x.kind=5∧1≤x.num∧x.num≤k.len∧Pf L k)∨Shp L x (vals k))∧Pf L r
theorem pf_of {L:Look}:∀{f:F},NF L f→AS L f→NC f→Pf L f
 | .nil,_,_,_=>trivial
 | .cons x k r,h1,h2,h3=>by
   refine⟨?_,pf_of h1.2 h2.2 h3.2⟩;rcases h2.1 with e|e|e
   ·exact absurd e h3.1
   ·rcases h1.1 with⟨b,q⟩|q|⟨q,n⟩
    ·injection q with q1 q2 _;subst q1;cases b<;>simp at e
    ·rcases q.kind with q|q<;>omega
    ·exact .inl ⟨e.1,q.lo,q.hi,pf_of n e.2 q.nc⟩
   ·exact .inr e
def frm (L:Look) (ix:Ix):F→G
 | .nil=>.nil
 | .cons x k r =>
   if x.kind=5 then .cons x.num (frm L ix k) (frm L ix r)
   else if(atP L ix x (vals k)).length=1 then .cons 0 .nil (frm L ix r)
   else .cons 1 (.cons 0 .nil (.cons 0 .nil .nil)) (frm L ix r)
def ats (L:Look) (ix:Ix):F→List At
 | .nil=>[]
 | .cons x k r=>(if x.kind=5 then ats L ix k else atP L ix x (vals k))++ats L ix r
def VS (L:Look) (v:Val) (ix:Ix) (V:List Int) (x:Nd):Prop:=x.kind=9→Vals L v ix V x
theorem evals {p:Nd→Prop}:∀{f:F},f.Ev p→∀x∈vals f,p x
 | .nil,_,x,h=>by cases h
 | .cons y k r,he,x,h=>by
   rcases List.mem_cons.1 h with rfl|h
   ·exact he.1
   ·exact evals he.2.2 x h
theorem zch {L:Look} {ix:Ix}:∀(f:F),(frm L ix f).len=f.len
 | .nil=>rfl
 | .cons x k r=>by
   rw[frm];split
   ·rw[G.len,zch r,F.len]
   ·split<;>rw[G.len,zch r,F.len]
theorem pf_size {L:Look} {ix:Ix}:∀{f:F},Pf L f→(frm L ix f).size≤f.size
 | .nil,_=>Nat.le_refl _
 | .cons x k r,h=>by
   have h2:=pf_size (ix:=ix) h.2;rw[frm,F.size];rcases h.1 with⟨e,-,-,hk⟩|e
   ·have:=pf_size (ix:=ix) hk;rw[if_pos e,G.size];omega
   ·obtain⟨hk,hl⟩:=e.kind;rw[za6]at hl;have:=F.len_size k;rw[if_neg om];split
    ·simp only[G.size];omega
    ·simp only[G.size];omega
def Two (L:Look) (ix:Ix):F→Prop
 | .nil=>True
 | .cons x k r=>(x.kind=5∧Two L ix k∨x.kind≠5∧((atP L ix x (vals k)).length=1∨(atP L ix x (vals k)).length=2))∧Two L ix r
theorem two_at {L:Look} {v:Val} {ix:Ix} {V:List Int} (hA:Adm L v) (hW:OkW L):∀{f:F},Pf L f→f.Ev (VS L v ix V)→Two L ix f
 | .nil,_,_=>trivial
 | .cons x k r,h,he=>by
   refine⟨?_,two_at hA hW h.2 he.2.2⟩;rcases h.1 with⟨e,-,-,hk⟩|e
   ·exact .inl ⟨e,two_at hA hW hk he.2.1⟩
   ·refine .inr ⟨by have:=e.kind;omega,?_⟩;exact(at_ev hA hW e (fun a ha h9=>evals he.2.1 a ha h9) 0 0).1
theorem frm_ok {L:Look} {ix:Ix}:∀{f:F},Pf L f→Two L ix f→(frm L ix f).Ok∧(frm L ix f).lv=(ats L ix f).length
 | .nil,_,_=>⟨trivial,rfl⟩
 | .cons x k r,h,ht=>by
   obtain⟨r1,r2⟩:=frm_ok h.2 ht.2;rw[frm,ats,List.length_append];rcases h.1 with⟨e,h1,h2,hk⟩|e
   ·have cZ:Two L ix k:=by
     rcases ht.1 with q|q
     ·exact q.2
     ·exact absurd e q.1
    obtain⟨k1,k2⟩:=frm_ok hk cZ;have hl:=zch (L:=L) (ix:=ix) k;have hn:(frm L ix k).none=false:=by
     cases hq:frm L ix k with
     | nil=>rw[hq]at hl;simp only[G.len]at hl;omega
     | cons _ _ _=>rfl
    rw[if_pos e,if_pos e];refine⟨⟨fun q=>(by rw[hn]at q;cases q),fun _=>⟨h1,by rw[hl];exact h2⟩,k1,r1⟩,?_⟩;rw[G.lv,hn,k2,r2];rfl
   ·have hk:=e.kind.1;have lg:(atP L ix x (vals k)).length=1∨(atP L ix x (vals k)).length=2:=by
     rcases ht.1 with q|q
     ·omega
     ·exact q.2
    have h5:¬x.kind=5:=om;simp only[h5,if_false];split
    ·rename_i h9;refine⟨⟨fun _=>rfl,fun q=>(by cases q),trivial,r1⟩,?_⟩;rw[G.lv,r2,h9];rfl
    ·refine⟨⟨fun q=>(by cases q),fun _=>⟨by decide,by decide⟩,⟨fun _=>rfl,fun q=>(by cases q),trivial,fun _=>rfl,fun q=>(by cases q),trivial,trivial⟩,r1⟩,?_⟩;rw[G.lv,r2];show 2+_=_;omega
theorem seg_at {LL:List Bool} {c:Nat} {b:Bool} {l:List Bool} (h:Seg LL c (b::l)):LL.getD c false=b:=by
 rw[List.getD_eq_getElem?_getD,h.head];rfl
theorem frm_cnt {L:Look} {v:Val} {ix:Ix} {V:List Int} (hA:Adm L v) (hW:OkW L) {LL:List Bool}:∀{f:F} (c:Nat),Pf L f→f.Ev (VS L v ix V)→Seg LL c ((ats L ix f).map (evA V))→(frm L ix f).cnt LL c=cnt L v f
 | .nil,c,_,_,_=>rfl
 | .cons x k r,c,h,he,hs=>by
   have ht:=two_at hA hW h he;rw[ats,List.map_append]at hs;have h1:=hs.right;rw[List.length_map]at h1;have h2:=hs.left;rw[cnt,frm];rcases h.1 with⟨e,e1,e2,hk⟩|e
   ·rw[if_pos e]at h1 h2 ⊢;have cZ:Two L ix k:=by
     rcases ht.1 with q|q
     ·exact q.2
     ·exact absurd e q.1
    have hl:=zch (L:=L) (ix:=ix) k;have hn:(frm L ix k).none=false:=by
     cases hq:frm L ix k with
     | nil=>rw[hq]at hl;simp only[G.len]at hl;omega
     | cons _ _ _=>rfl
    rw[G.cnt,hn];simp only[Bool.false_eq_true,if_false];rw[(frm_ok hk cZ).2,frm_cnt hA hW _ h.2 he.2.2 h1,frm_cnt hA hW _ hk he.2.1 h2,evO_gate L v e]
   ·have hk:=e.kind.1;rw[if_neg om]at h1 h2 ⊢;obtain⟨lg,ut⟩:=at_ev hA hW e (fun a ha h9=>evals he.2.1 a ha h9) k.len (cnt L v k);rw[←ut];split
    ·rename_i h9;rw[h9]at h1;obtain⟨a,ha⟩:∃a,atP L ix x (vals k)=[a]:=List.length_eq_one_iff.1 h9;rw[ha]at h2 ⊢;rw[G.cnt];simp only[G.none,if_true];rw[frm_cnt hA hW _ h.2 he.2.2 h1,seg_at h2];simp
    ·rename_i h9;have h9:(atP L ix x (vals k)).length=2:=om;rw[h9]at h1;obtain⟨a,b,ha⟩:∃a b,atP L ix x (vals k)=[a,b]:=by
      match q:atP L ix x (vals k),h9 with
      | [a,b],_=>exact⟨a,b,rfl⟩
     rw[ha]at h2 ⊢;have g1:=seg_at h2;have g2:=seg_at h2.tail;show(decide ((1:Int)≤(((LL.getD c false).toNat+((LL.getD (c+1) false).toNat+0):Nat):Int))).toNat+(frm L ix r).cnt LL (c+2)=_;rw[frm_cnt hA hW _ h.2 he.2.2 h1,g1,g2];simp only[List.any_cons,List.any_nil,Bool.or_false];cases evA V a<;>cases evA V b<;>rfl
def sqB (L:Look) (ix:Ix) (x:Nd) (vs:List Nd):Bool:=decide (x.kind=7)&&(match atP L ix x vs with|a::_=>decide (64≤a.hi-a.lo)|[]=>false)
def sqs (L:Look) (ix:Ix):F→List At
 | .nil=>[]
 | .cons x k r=>(if sqB L ix x (vals k)then atP L ix x (vals k)else[])++sqs L ix r
def nsq (L:Look) (ix:Ix):F→F
 | .nil=>.nil
 | .cons x k r=>if sqB L ix x (vals k)then nsq L ix r else .cons x k (nsq L ix r)
def topP (L:Look) (ix:Ix) (x:Nd) (k:F):List At×F :=
 if sqB L ix x (vals k)then(atP L ix x (vals k),.nil)
 else if x.kind=5∧x.num=k.len then(sqs L ix k,nsq L ix k)
 else([],.cons x k .nil)
def fmP (L:Look) (ix:Ix) (g:F):List Gt:=if g.len=0 then[]else if g.len=1 then(frm L ix g).fl 0 0 else(G.cons (g.len:Int) (frm L ix g) .nil).fl 0 0
theorem sq_ev {L:Look} {v:Val} {ix:Ix} {V:List Int} {x:Nd} {vs:List Nd} (hA:Adm L v) (hW:OkW L) (hS:Shp L x vs) (hV:∀a∈vs,a.kind=9→Vals L v ix V a) (hq:sqB L ix x vs=true) (n c:Nat):(atP L ix x vs).all (evA V)=evO L v x vs n c:=by
 have hk:x.kind=7:=by unfold sqB at hq;rw[Bool.and_eq_true,decide_eq_true_eq]at hq;exact hq.1
 rw[←(at_ev hA hW hS hV n c).2];cases hS with
 | rng a b c hk ha hb hc ty lo le hi=>rw[at7 hk];simp
 | _=>omega
theorem Pf.sq {L:Look} {ix:Ix} {x:Nd} {k:F} (h:(x.kind=5∧1≤x.num∧x.num≤k.len∧Pf L k)∨Shp L x (vals k)) (hq:sqB L ix x (vals k)=true):Shp L x (vals k):=by
 rcases h with h|h
 ·unfold sqB at hq;rw[Bool.and_eq_true,decide_eq_true_eq]at hq;omega
 ·exact h
theorem sqs_cnt {L:Look} {v:Val} {ix:Ix} {V:List Int} (hA:Adm L v) (hW:OkW L):∀{f:F},Pf L f→f.Ev (VS L v ix V)→(cnt L v f=f.len↔(sqs L ix f).all (evA V)=true∧cnt L v (nsq L ix f)=(nsq L ix f).len)
 | .nil,_,_=>by simp[sqs,nsq,cnt,F.len]
 | .cons x k r,h,he=>by
   have ih:=sqs_cnt hA hW h.2 he.2.2;have b1:=zcl L v r;have b2:=zcl L v (nsq L ix r);rw[sqs,nsq,cnt,F.len,List.all_append,Bool.and_eq_true];cases hq:sqB L ix x (vals k)with
   | true =>
     have h9:=sq_ev hA hW (Pf.sq h.1 hq) (fun a ha h9=>evals he.2.1 a ha h9) hq k.len (cnt L v k);rw[if_pos rfl,if_pos rfl,h9];cases evO L v x (vals k) k.len (cnt L v k)
     ·rw[Bool.toNat_false];exact⟨fun q=>om,fun q=>by cases q.1.1⟩
     ·rw[Bool.toNat_true];simp only[true_and];rw[←ih];omega
   | false =>
     rw[if_neg zy0,if_neg zy0,cnt,F.len];simp only[List.all_nil,true_and];cases evO L v x (vals k) k.len (cnt L v k)
     ·rw[Bool.toNat_false];exact⟨fun q=>om,fun q=>om⟩
     ·rw[Bool.toNat_true];have e:(1+cnt L v r=r.len+1)↔cnt L v r=r.len:=om;rw[e,ih];have e2:(1+cnt L v (nsq L ix r)=(nsq L ix r).len+1)↔cnt L v (nsq L ix r)=(nsq L ix r).len:=om;rw[e2]
theorem nsq_pf {L:Look} {ix:Ix}:∀{f:F},Pf L f→Pf L (nsq L ix f)
 | .nil,_=>trivial
 | .cons x k r,h=>by
   rw[nsq];split
   ·exact nsq_pf h.2
   ·exact⟨h.1,nsq_pf h.2⟩
theorem nsq_ev {L:Look} {ix:Ix} {p:Nd→Prop}:∀{f:F},f.Ev p→(nsq L ix f).Ev p
 | .nil,_=>trivial
 | .cons x k r,h=>by
   rw[nsq];split
   ·exact nsq_ev h.2.2
   ·exact⟨h.1,h.2.1,nsq_ev h.2.2⟩
theorem nsq_size {L:Look} {ix:Ix}:∀(f:F),(nsq L ix f).size≤f.size∧(nsq L ix f).len≤f.len
 | .nil=>⟨Nat.le_refl _,Nat.le_refl _⟩
 | .cons x k r=>by
   obtain⟨h1,h2⟩:=nsq_size (L:=L) (ix:=ix) r;rw[nsq];split
   ·simp only[F.size,F.len];omega
   ·simp only[F.size,F.len];omega
theorem top_pf {L:Look} {ix:Ix} {x:Nd} {k:F} (h:Pf L (.cons x k .nil)):Pf L (topP L ix x k).2∧(topP L ix x k).2.size≤(F.cons x k .nil).size:=by
 unfold topP;split
 ·exact⟨trivial,by simp[F.size]⟩
 ·split
  ·rename_i h5;rcases h.1 with⟨e,-,-,hk⟩|e
   ·have:=(nsq_size (L:=L) (ix:=ix) k).1;exact⟨nsq_pf hk,by simp only[F.size];omega⟩
   ·have:=e.kind;omega
  ·exact⟨h,Nat.le_refl _⟩
theorem top_ev {L:Look} {ix:Ix} {p:Nd→Prop} {x:Nd} {k:F} (h:(F.cons x k .nil).Ev p):(topP L ix x k).2.Ev p:=by
 unfold topP;split
 ·trivial
 ·split
  ·exact nsq_ev h.2.1
  ·exact h
theorem top_cnt {L:Look} {v:Val} {ix:Ix} {V:List Int} (hA:Adm L v) (hW:OkW L) {x:Nd} {k:F} (h:Pf L (.cons x k .nil)) (he:(F.cons x k .nil).Ev (VS L v ix V)) :
 cnt L v (.cons x k .nil)=1↔(topP L ix x k).1.all (evA V)=true∧cnt L v (topP L ix x k).2=(topP L ix x k).2.len:=by
 unfold topP;cases hq:sqB L ix x (vals k)with
 | true =>
   rw[if_pos rfl];have h9:=sq_ev hA hW (Pf.sq h.1 hq) (fun a ha h9=>evals he.2.1 a ha h9) hq k.len (cnt L v k);simp only[cnt,F.len,h9];cases evO L v x (vals k) k.len (cnt L v k)<;>simp
 | false =>
   rw[if_neg zy0];split
   ·rename_i h5;rcases h.1 with⟨e,-,-,hk⟩|e
    ·have h1:=sqs_cnt (ix:=ix) hA hW hk he.2.1;have h2:=zcl L v k;simp only;rw[←h1,cnt,cnt,evO_gate L v e,h5.2];by_cases h3:(k.len:Int)≤(cnt L v k:Int)
     ·rw[decide_eq_true h3,Bool.toNat_true];omega
     ·rw[decide_eq_false h3,Bool.toNat_false];omega
    ·have:=e.kind;omega
   ·simp[F.len]
theorem fm_truth {L:Look} {v:Val} {ix:Ix} {V:List Int} (hA:Adm L v) (hW:OkW L) {g:F} (h:Pf L g) (he:g.Ev (VS L v ix V)):(fmP L ix g=[]∨gb (truthP (fmP L ix g) ((ats L ix g).map (evA V))) 0=true)↔cnt L v g=g.len:=by
 have hc:=frm_cnt hA hW (LL:=(ats L ix g).map (evA V)) 0 h he (fun i x hx=>by rw[Nat.zero_add];exact hx);have hl:=zch (L:=L) (ix:=ix) g;have hb:=zcl L v g;unfold fmP;by_cases h0:g.len=0
 ·rw[if_pos h0];simp;omega
 ·rw[if_neg h0];by_cases h1:g.len=1
  ·rw[if_pos h1,truth_root om,hc,h1,decide_eq_true_eq];refine⟨fun q=>?_,.inr⟩;rcases q with q|q
   ·have:=G.fl_len (frm L ix g) 0 0;rw[q]at this;have h9:=G.len_size (frm L ix g);simp at this;omega
   ·exact q
  ·have hn:(frm L ix g).none=false:=by
    cases hq:frm L ix g with
    | nil=>rw[hq]at hl;simp only[G.len]at hl;omega
    | cons _ _ _=>rfl
   rw[if_neg h1,truth_root rfl,G.cnt,hn];simp only[Bool.false_eq_true,if_false,hc,G.cnt,Nat.add_zero];refine⟨fun q=>?_,fun q=>.inr ?_⟩
   ·rcases q with q|q
    ·simp[G.fl]at q
    ·by_cases h3:(g.len:Int)≤(cnt L v g:Int)
     ·omega
     ·rw[decide_eq_false h3]at q;simp at q
   ·rw[q];simp
theorem fm_leaves {L:Look} {ix:Ix} {g:F} (h:Pf L g) (ht:Two L ix g) (hs:g.size≤250):leavesP (fmP L ix g)=(((ats L ix g).length:Int),true)∧(fmP L ix g).length≤251:=by
 obtain⟨o1,o2⟩:=frm_ok h ht;have h1:=pf_size (ix:=ix) h;have h2:=G.lv_size (frm L ix g);have hl:=zch (L:=L) (ix:=ix) g;unfold fmP;by_cases h0:g.len=0
 ·rw[if_pos h0];have:g=.nil:=by cases g with
   | nil=>rfl
   | cons _ _ _=>simp[F.len]at h0
  subst this;exact⟨rfl,by simp⟩
 ·rw[if_neg h0];by_cases h1:g.len=1
  ·rw[if_pos h1,leaves_fl o1 om om,o2,G.fl_len];exact⟨rfl,by omega⟩
  ·have hn:(frm L ix g).none=false:=by
    cases hq:frm L ix g with
    | nil=>rw[hq]at hl;simp only[G.len]at hl;omega
    | cons _ _ _=>rfl
   have e:(G.cons (g.len:Int) (frm L ix g) .nil).lv=(frm L ix g).lv:=by rw[G.lv,hn];rfl
   rw[if_neg h1,leaves_fl (g:=.cons (g.len:Int) (frm L ix g) .nil) ⟨fun q=>(by rw[hn]at q;cases q),fun _=>⟨by omega,by omega⟩,o1,trivial⟩ rfl om,e,o2,G.fl_len];exact⟨rfl,by simp only[G.size];omega⟩
end Nf
namespace Nf
open Go.RowKit Go.Shelf Go.Maps
abbrev Pla:=Int×Int
abbrev plaV (x:Pla):Value:=.agg #[.int .i64 x.1,.int .i64 x.2]
abbrev wf1 (n:Int):Prop:=(Lit.int .i64 n).wf=true
structure Plas (W:World) (A:Option Addr) (l:List Pla):Prop where
 at_:∀i x,l[i]? =some x→∃ad,A=some ad∧W.cell? (ad.add (i*2))=some (.int .i64 x.1)∧W.cell? ⟨(ad.add (i*2)).block,(ad.add (i*2)).off+1,none⟩=some (.int .i64 x.2)
theorem Plas.up {W W':World} {A:Option Addr} {l:List Pla} (h:Plas W A l) (hb:Below W.heap.size W W'):Plas W' A l:=⟨fun i s hs=>by
 obtain⟨ad,h1,h2,h3⟩:=h.at_ i s hs;exact⟨ad,h1,zaa h2 hb,zaa h3 hb⟩⟩
theorem plaRow:(122:TypeId)<prog.types.size:=of_decide_eq_true kr
theorem plaKt:prog.keyTypeAt 3 122=true:=kr
theorem plaKt2:prog.keyType 122=true:=kr
theorem plaLaw:Keyed prog 122:=Keyed.of_law (deep_law_laid laidOut (m:=3) om plaRow plaKt (by rw[underlying122]))
theorem key_twoI {P:Program} {t s:TypeId} {f0 f1:Field} (hu:P.underlying t=some (.struct #[f0,f1])) (h1:P.keyType t=true) (h2:P.cellsOf t=2) (h3:P.cellsOf s=1) (e0:f0.type=s) (e1:f1.type=s) (o0:f0.offset=0) (o1:f1.offset=1) (n0:(f0.name != "_")=true) (n1:(f1.name != "_")=true)
 (hs:P.underlying s=some (.int .i64)) (hm:0<P.types.size) (a b:Int) (h4:wf1 a) (h5:wf1 b):keyOf P t (.agg #[.int .i64 a,.int .i64 b])=some (.string (keyBytes [.int .i64 a,.int .i64 b])):=by
 obtain⟨m,hm⟩:∃m,P.types.size=m+1:=⟨P.types.size-1,by omega⟩;simp[keyOf,hu,h1,Value.formed,h2,Program.keyLits,hm,Value.cells,e0,e1,o0,o1,h3,hs,h4,h5,n0,n1]
theorem plaKey (x:Pla) (h:wf1 x.1∧wf1 x.2):keyOf prog 122 (plaV x)=some (.string (keyBytes [.int .i64 x.1,.int .i64 x.2])) :=
 key_twoI underlying122 plaKt2 kr (s:=3) kr rfl rfl rfl rfl zy0 zy0 underlying3 refPos x.1 x.2 h.1 h.2
def plaK:KeyD Pla where
 t:=122
 mt:=253
 law:=plaLaw
 und:=underlying253
 val x:=plaV x
 kl x:=.string (keyBytes [.int .i64 x.1,.int .i64 x.2])
 ok x:=wf1 x.1∧wf1 x.2
 key x h:=plaKey x h
 inj x y hx hy h:=by
  have h2:=plaLaw.inj (h▸plaKey x hx) (plaKey y hy);injection h2 with h2;simp at h2;exact Prod.ext h2.1 h2.2
theorem ptwice_any (A:Option Addr) (c:Nat) (l:List Pla) (hl:l.length≤1000000) (hs:∀x∈l,wf1 x.1∧wf1 x.2) (w:World) (hS:Plas w A l) :
 Calls prog 119 #[.slice A l.length c] w fun e w'=>e=.returned (.bool (twiceP [] l))∧Below w.heap.size w w':=by
 have di:=@run_makeMap prog;have cY:=(Hp.start w).setNew plaK;obtain⟨gm,dk⟩:∃g,w.heap.size=g:=⟨_,rfl⟩;rw[dk]at cY;go_enter func119,ntmps119;go_upto_region 2 with fail;clear di;try simp only[dk]
 generalize w.alloc (.map #[] 0)=W at *;go_upto_region 3 with fail;go_loopg [9] l.length (fun m s9 wx=>∃i:Nat,i≤l.length∧m=l.length-i∧s9=.int .i64 (i:Int)∧Hp [] w [iset plaK gm (l.take i)] wx∧Hid (twiceP [] l=twiceP (l.take i) (l.drop i)));case atStart=>exact⟨0,Nat.zero_le _,rfl,rfl,cY,Lib.hid rfl⟩
 case round =>
  obtain⟨i,hi,rfl,rfl,hM,HE⟩:=hrel;clear cY;by_cases ay:i<l.length
  ·have aM:(i:Int)<(l.length:Int):=om;have aL:(0:Int)≤(i:Int):=om;obtain⟨x,hx⟩:∃x,l[i]? =some x:=⟨_,List.getElem?_eq_getElem ay⟩;have fP:=hs x (List.mem_of_getElem? hx);obtain⟨ad,rfl,ca,cb⟩:=(hS.up hM.below0).at_ i x hx;have HT:=Lib.hid (zan hx);have cg:Hid (twiceP [] l=(memD x (l.take i)||twiceP (l.take (i+1)) (l.drop (i+1)))):=Lib.hid (by
    rw[HE.out,zcu hx,twiceP,HT.out])
   have iJ:(l.take i).length≤1000000:=by rw[List.length_take];omega
   clear hx HE;have aA:=(hM.new 122 [.int .i64 x.1,.int .i64 x.2]).perm (List.Perm.swap _ _ _);obtain⟨gx,cX⟩:∃y,wr.heap.size=y:=⟨_,rfl⟩;rw[cX]at aA;go_upto_region 5 with fail;try simp only[cX]
   have aA:Hp [] w [iset plaK gm (l.take i),iblk gx 122 [.int .i64 x.1,.int .i64 x.2]] (wr.alloc (.cells #[.int .i64 x.1,.int .i64 x.2] 122)):=aA;clear ca cb hM;generalize wr.alloc (.cells #[.int .i64 x.1,.int .i64 x.2] 122)=wa at *;clear cX;have hM:=aA;clear aA;obtain⟨c0,c1⟩:=(hM.blk 1 rfl).get2;have dw:=zb4 plaK (hM.sep.ok _ (List.mem_cons_self ..)) x fP;have dw:(Instr.lookup 253 (.map (some gm)) (plaV x) false).run prog wa=.ok (.bool (memD x (l.take i))) wa:=dw;generalize memD x (l.take i)=r at *;cases r with
   | true =>
    go_wp2_with fail;go_ret;rw[cg.out];exact zur
   | false =>
    have af:=iset_own plaK (hM.sep.ok _ (List.mem_cons_self ..));go_wp2_with (first|(at_mapUpdate;refine wpList_mapUpdate_own _ rfl _ _ _ 253 rfl 122 4 plaK.law underlying253 (plainElem (H:=Unit) prog 4) gm (l.take i).length (plaK.setD (l.take i)) rfl af zy2 _ _ (plaK.kl x) rfl rfl (plaK.key x fP) _ [] (plainElem_bool underlying4 true) ?_;intro w2 br aV));have az:=hM.setPut plaK 0 rfl fP br aV;rw[←HT.out]at az;have az:Hp [] w ([iset plaK gm (l.take (i+1))]++[iblk gx 122 [.int .i64 x.1,.int .i64 x.2]]) w2:=az;have jz:Hid (twiceP [] l=twiceP (l.take (i+1)) (l.drop (i+1))):=Lib.hid zuf;exact zt65
  ·have aM:¬(i:Int)<(l.length:Int):=om;have HR:Hid (twiceP [] l=false):=Lib.hid zyx;go_wp2_with fail;go_ret;rw[HR.out];exact zur
end Nf
namespace Nf
open Go.RowKit Go.Shelf
def placs (l:List Pla):List Value:=l.flatMap fun x=>[.int .i64 x.1,.int .i64 x.2]
theorem placs_len (l:List Pla):(placs l).length=l.length*2:=by
 induction l with
 | nil=>rfl
 | cons x l ih =>
   have e:placs (x::l)=[.int .i64 x.1,.int .i64 x.2]++placs l:=rfl;exact zt82
theorem placs_app (l m:List Pla):placs (l++m)=placs l++placs m:=List.flatMap_append
theorem placs_at:∀{l:List Pla} {i:Nat} {x:Pla},l[i]? =some x→(placs l)[i*2]? =some (.int .i64 x.1)∧(placs l)[i*2+1]? =some (.int .i64 x.2)
 | y::l,0,x,h=>by
   cases h;exact zv6
 | y::l,i+1,x,h=>by
   obtain⟨a,b⟩:=placs_at (l:=l) (i:=i) (x:=x) zyc;have e:placs (y::l)=[.int .i64 y.1,.int .i64 y.2]++placs l:=rfl;have q:∀j,(placs (y::l))[2+j]? =(placs l)[j]? :=fun j=>by
    rw[e,List.getElem?_append_right zy1];simp
   refine⟨?_,?_⟩
   ·rw[show(i+1)*2=2+i*2 by omega,q];exact a
   ·rw[show(i+1)*2+1=2+(i*2+1) by omega,q];exact b
theorem Plas.cells {W:World} {A:Option Addr} {l:List Pla} (h:Plas W A l):∀ad,A=some ad→∀j u,(placs l)[j]? =some u→W.cell? (ad.add j)=some u:=by
 intro ad ha j u hu;have hj:j<l.length*2:=by
  have:=(List.getElem?_eq_some_iff.1 hu).1;rwa[placs_len]at this
 obtain⟨x,hx⟩:∃x,l[j/2]? =some x:=⟨_,List.getElem?_eq_getElem om⟩;obtain⟨ng,h1,h2,h3⟩:=h.at_ _ _ hx;rw[ha]at h1;cases h1;obtain⟨a,b⟩:=placs_at hx;rcases(by omega:j=j/2*2∨j=j/2*2+1)with e|e
 ·rw[e]at hu ⊢;rw[a]at hu;rw[←hu];exact h2
 ·rw[e]at hu ⊢;rw[b]at hu;rw[←hu];have e2:ad.add (j/2*2+1)=⟨(ad.add (j/2*2)).block,(ad.add (j/2*2)).off+1,none⟩:=by
   have q:∀(a:Addr) (k:Nat),a.add (k+1)=⟨(a.add k).block,(a.add k).off+1,none⟩:=fun a k=>by
    rcases k with _|k
    ·rfl
    ·show(⟨a.block,a.off+(k+1+1),none⟩:Addr)=⟨a.block,a.off+(k+1)+1,none⟩;exact congrArg (fun n=>(⟨a.block,n,none⟩:Addr)) om
   exact q _ _
  rw[e2];exact h3
theorem place_info:(prog.info? 122).map (fun i=>(i.zero,i.size,i.bytes))=some (some (.agg #[.int .i64 0,.int .i64 0]),2,16):=kr
theorem pgrow_any (n:Nat) (hn:n≤1000000) (w:World):Calls prog 175 #[.slice none 0 0,.int .i64 (n:Int)] w fun e w'=>∃v,e=.returned v∧Hp [] w [irow 122 2 v 0 []] w':=by
 obtain⟨i0,aL,bg,aY,bh⟩:=info_parts place_info;have q0:¬(n:Int)<0:=om;by_cases hz:n=0
 ·subst hz;go_enter func175,ntmps175;go_wp2_with fail;go_ret;exact⟨_,rfl,(Hp.start w).nilrow 122 2⟩
 ·have bq:(0:Int)<(n:Int):=om;have hr:=Lib.run_append_nil_zeros (P:=prog) w 40 3 40 122 i0 _ .i64 .i64 underlying40 underlying3 aL bg n om om om (by rw[bh];omega);have gK:=grownCap_ge w n 0 122;have nX:=grownCap_le_maxLen w n 0 122 zy2;have e0:(Builtin.zeroCells #[.int .i64 0,.int .i64 0] n++Builtin.zeroCells #[.int .i64 0,.int .i64 0] (grownCap w n 0 122-n)).size=grownCap w n 0 122*2:=by
   rw[Array.size_append,size_zeroCells,size_zeroCells];simp;omega
  have dO:(Builtin.append_ #[40,3] 40 #[.slice none 0 0,.int .i64 (n:Int)]).run prog w=.ok (.slice (some ⟨w.heap.size,0,none⟩) n (grownCap w n 0 122)) (w.drew.alloc (.cells (Builtin.zeroCells #[.int .i64 0,.int .i64 0] n++Builtin.zeroCells #[.int .i64 0,.int .i64 0] (grownCap w n 0 122-n)) 122)):=hr;clear hr;generalize Builtin.zeroCells #[.int .i64 0,.int .i64 0] n++Builtin.zeroCells #[.int .i64 0,.int .i64 0] (grownCap w n 0 122-n)=Z at *;generalize grownCap w n 0 122=cp at *;have af:(w.drew.alloc (.cells Z 122)).ownsRow 0 122 2 (.slice (some ⟨w.heap.size,0,none⟩) 0 cp) 0 []:=⟨rfl,.inr ⟨w.heap.size,cp,Z,rfl,Nat.zero_le _,by
   have:=Blk.new w.drew 122 Z.toList;simpa[Blk]using this,Nat.zero_le _,nX,e0,by simp⟩⟩
  have hk:Hp [] w [irow 122 2 (.slice (some ⟨w.heap.size,0,none⟩) 0 cp) 0 []] (w.drew.alloc (.cells Z 122)):=Fm.newrowF (Hp.start w) rfl af (((Below.refl _ _).drew).alloc (Nat.le_refl _) _);have hcp:(cp:Int)≤9223372036854775807:=by unfold maxLen at nX;omega
  clear e0 aL bg aY bh af;go_enter func175,ntmps175;go_wp2_with (at_builtin;refine Lib.wpList_append_run _ rfl _ _ _ _ rfl _ _ rfl rfl _ _ dO ?_);go_ret;exact⟨_,rfl,hk⟩
abbrev Pq:=Option Addr×List Pla×Nat
structure Plq (W:World) (ad:Addr) (q:List Pq):Prop where
 at_:∀i x,q[i]? =some x→W.cell? (ad.add i)=some (.slice x.1 x.2.1.length x.2.2)∧Plas W x.1 x.2.1
theorem Plq.up {W W':World} {ad:Addr} {q:List Pq} (h:Plq W ad q) (hb:Below W.heap.size W W'):Plq W' ad q:=⟨fun i s hs=>⟨zaa (h.at_ i s hs).1 hb,(h.at_ i s hs).2.up hb⟩⟩
def plAll (q:List Pq):List Pla:=q.flatMap fun x=>x.2.1
theorem plAll_le:∀{q:List Pq},(∀x∈q,x.2.1.length≤64)→(plAll q).length≤64*q.length
 | [],_=>Nat.le_refl _
 | x::q,h=>by
   have h1:=plAll_le (q:=q) fun y hy=>h y (List.mem_cons_of_mem _ hy);have h2:=h x (List.mem_cons_self ..);have e:plAll (x::q)=x.2.1++plAll q:=rfl;rw[e,List.length_append,List.length_cons];omega
theorem row_cap {W:World} {base:Nat} {e:TypeId} {size n vc:Nat} {VA:Option Addr} {xs:List Value} (h:W.ownsRow base e size (.slice VA n vc) n xs):n≤vc:=by
 rcases h.2 with⟨h1,-⟩|⟨g,cap,cur,h1,-,-,h2,-⟩
 ·injection h1 with _ h1 h3;omega
 ·injection h1 with _ h1 h3;omega
theorem plAll_take {q:List Pq} {i:Nat} {x:Pq} (h:q[i]? =some x):plAll (q.take (i+1))=plAll (q.take i)++x.2.1:=by
 rw[zan h];unfold plAll;rw[List.flatMap_append];simp
theorem pconcat_any (ad:Addr) (c:Nat) (q:List Pq) (hq8:q.length≤8) (hq:∀x∈q,x.2.1.length≤64) (w:World) (hP:Plq w ad q) :
 Calls prog 118 #[.slice (some ad) q.length c] w fun e w'=>∃v,e=.returned v∧Hp [] w [irow 122 2 v (plAll q).length (placs (plAll q))] w':=by
 have aQ:∀i,(plAll (q.take i)).length≤512:=fun i=>by
  have h1:=plAll_le (q:=q.take i) fun y hy=>hq y (List.mem_of_mem_take hy);have h2:(q.take i).length≤8:=by rw[List.length_take];omega
  omega
 obtain⟨i0,aL,bg,aY,bh⟩:=info_parts place_info;go_enter func118,ntmps118;go_upto_region 3 with fail;go_loopg [3,11] q.length (fun m s3 pC wx=>∃i:Nat,i≤q.length∧m=q.length-i∧pC=.int .i64 (i:Int)∧s3=.int .i64 ((plAll (q.take i)).length:Int)∧wx=w);case atStart=>exact⟨0,Nat.zero_le _,rfl,rfl,rfl,rfl⟩
 case round =>
  obtain⟨i,hi,rfl,rfl,rfl,rfl⟩:=hrel;have hli:=aQ i;by_cases ay:i<q.length
  ·have aM:(i:Int)<(q.length:Int):=om;have cC:(0:Int)≤(i:Int):=om;obtain⟨x,hx⟩:∃x,q[i]? =some x:=⟨_,List.getElem?_eq_getElem ay⟩;have gu:=hq x (List.mem_of_getElem? hx);obtain⟨cx,-⟩:=hP.at_ i x hx;obtain⟨xa,xl,xc⟩:=x;simp only at cx gu;have HT:=Lib.hid (plAll_take hx);clear hx;have q0:¬((plAll (q.take i)).length:Int)+(xl.length:Int)<0:=om;go_wp2_with fail;go_roundg (q.length-(i+1));case measure=>omega
   case rel=>exact⟨i+1,ay,rfl,by first|rfl|simp,by rw[HT.out,List.length_append];rfl,rfl⟩
  ·have aM:¬(i:Int)<(q.length:Int):=om;have hiq:q.take i=q:=List.take_of_length_le om;rw[hiq]at hli ⊢;clear hiq;obtain⟨wz,hwz⟩:∃wz,wz=wr:=⟨_,rfl⟩;subst hwz;have HG:=Lib.hid (pgrow_any (plAll q).length om wz);go_wp2_with fail;refine HG.out.mono ?_;rintro e w1 ⟨v,rfl,hk⟩;have jF:=hk.below0;clear HG;go_upto_region 11 with fail;go_loopg [6,27] q.length (fun m s6 tV wx=>∃i:Nat,i≤q.length∧m=q.length-i∧tV=.int .i64 (i:Int)∧Hp [] wz [irow 122 2 s6 (plAll (q.take i)).length (placs (plAll (q.take i)))] wx);case atStart=>exact⟨0,Nat.zero_le _,rfl,rfl,hk⟩
   case round =>
    obtain⟨j,hj,rfl,rfl,hS⟩:=hrel;clear hk jF;have hlj:=aQ j;by_cases aW:j<q.length
    ·have bX:(j:Int)<(q.length:Int):=om;have tC:(0:Int)≤(j:Int):=om;obtain⟨x,hx⟩:∃x,q[j]? =some x:=⟨_,List.getElem?_eq_getElem aW⟩;have gu:=hq x (List.mem_of_getElem? hx);obtain⟨cx,fP⟩:=(hP.up hS.below0).at_ j x hx;obtain⟨xa,xl,xc⟩:=x;simp only at cx gu fP;have HT:=Lib.hid (plAll_take hx);clear hx;obtain⟨VA,vc,rfl⟩:=zab (hS.row 0 rfl);by_cases dg:xl=[]
     ·subst dg;have hr0:(Builtin.append_ #[40,40] 40 #[.slice VA (plAll (q.take j)).length vc,.slice xa 0 xc]).run prog wr=.ok (.slice VA (plAll (q.take j)).length vc) wr:=by
       refine Go.run_append_nothing wr _ _ _ _ i0 underlying40 aL _ _ _ (row_cap (hS.row 0 rfl)) _ ?_;cases xa with
       | none=>exact Go.Src.ofNil wr underlying40 xc
       | some a=>exact Go.Src.ofSlice wr underlying40 a 0 xc [] zy1 zy1 zy1
      go_upto_region 13 with fail;go_wp2_with (at_builtin;refine Lib.wpList_append_run _ rfl _ _ _ _ rfl _ _ rfl rfl _ _ hr0 ?_);go_roundg (q.length-(j+1));case measure=>omega
      case rel=>exact⟨j+1,aW,rfl,by first|rfl|simp,by rw[HT.out,List.append_nil];exact hS⟩
     ·obtain⟨x0,iw⟩:∃x0,xl[0]? =some x0:=⟨_,List.getElem?_eq_getElem (List.length_pos_iff.2 dg)⟩;obtain⟨aa,rfl,-,-⟩:=fP.at_ 0 x0 iw;have bY:=fP.cells aa rfl;have hm:=List.length_pos_iff.2 dg;have nD:∀u∈placs xl,u.oneCell'=true:=by
       intro u hu;obtain⟨y,-,hy⟩:=List.mem_flatMap.1 hu;simp at hy;rcases hy with rfl|rfl<;>rfl
      clear dg iw;go_wp2_with (at_builtin;refine zac rfl _ _ 40 rfl 0 122 i0 _ 2 16 underlying40 aL bg aY bh rfl zy0 _ (plAll (q.take j)).length (placs (plAll (q.take j))) rfl (hS.row 0 rfl) aa xl.length xc (placs xl) rfl (placs_len xl) bY nD hm zy2 om (Nat.zero_le _) ?_;intro v' w4 af ai aH);have cu:=hS.grown 0 rfl af ai aH;clear af ai aH bY nD;go_roundg (q.length-(j+1));case measure=>omega
      case rel=>exact⟨j+1,aW,rfl,by first|rfl|simp,by rw[HT.out,placs_app,List.length_append];exact cu⟩
    ·have bX:¬(j:Int)<(q.length:Int):=om;have hjq:q.take j=q:=List.take_of_length_le om;rw[hjq]at hS;clear hjq;go_wp2_with fail;go_ret;exact⟨_,rfl,hS⟩
end Nf
end Go.Proofs.YtekkapgknohadaaGreatDoor
