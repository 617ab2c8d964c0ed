/- normal: norm is nrm. -/
import Derived.Test.YtekkapgknohadaaGreatDoorM36
import Derived.Test.YtekkapgknohadaaGreatDoorM35
import Derived.Test.YtekkapgknohadaaGreatDoorM23
set_option linter.unusedVariables false
set_option maxRecDepth 20000
set_option maxHeartbeats 16000000
open Go.Proofs.Tryz
namespace Go.Proofs.YtekkapgknohadaaGreatDoor
namespace Nf
open Go.RowKit Go.Shelf
open Lib (hid)
open Pa (F Nd)
theorem nrm_node {ns:List Nk} {Lk:Look} {f i:Nat} {n:Nk} {c:Bool} (hn:ns[i]? =some n) (hk:∀k∈n.kids,Pa.VN ns f c k) (g:Bool):nrm Lk (Pa.treeN ns (f+1) (i:Int)) g=one Lk (ndOf n) (zaf ns n.kids) (nrm Lk (F.cat (n.kids.map (Pa.treeN ns f))) g) (nrm Lk (F.cat (n.kids.map (Pa.treeN ns f))) !g) g:=by
 rw[Pa.treeN_in zy5,nrm,zcb hk,show nrm Lk .nil g=.nil from rfl,F.app_nil];rfl
theorem tree_size {ns:List Nk} {f i:Nat} {n:Nk} (hn:ns[i]? =some n):(Pa.treeN ns (f+1) (i:Int)).size=(F.cat (n.kids.map (Pa.treeN ns f))).size+1:=by
 rw[Pa.treeN_in zy5];show _+0+1=_;omega
theorem kids_le {ns:List Nk} {f:Nat} {c:Bool} {l:List Int} (hk:∀k∈l,Pa.VN ns f c k):l.length≤(F.cat (l.map (Pa.treeN ns f))).size:=by
 have h1:=cat_len hk;have h2:=F.len_size (F.cat (l.map (Pa.treeN ns f)));omega
theorem size_mem {t:Int→F}:∀{l:List Int} {k:Int},k∈l→(t k).size≤(F.cat (l.map t)).size
 | x::l,k,h=>by
   rw[List.map_cons,F.cat,F.size_app];rcases List.mem_cons.1 h with rfl|h
   ·omega
   ·have:=size_mem (t:=t) h;omega
theorem one_const {L:Look} {x:Nd} {vs:List Nd} {kg kn:F} {g:Bool} (h:x.kind=0∨x.kind=1):one L x vs kg kn g=tru (decide (x.kind=0) != g):=by unfold one;rw[if_pos h]
theorem one_not {L:Look} {x:Nd} {vs:List Nd} {kg kn:F} {g:Bool} (h:x.kind=2):one L x vs kg kn g=kn:=by unfold one;rw[if_neg om,if_pos h]
theorem one_cmp {L:Look} {x a b:Nd} {kg kn:F} {g:Bool} (h:x.kind=6):one L x [a,b] kg kn g=cmpd L g x.num a b:=by unfold one;rw[if_neg om,if_neg om,if_pos h]
theorem one_btw {L:Look} {x a b z:Nd} {kg kn:F} {g:Bool} (h:x.kind=7):one L x [a,b,z] kg kn g=btwF L g a b z:=by unfold one;rw[if_neg om,if_neg om,if_neg om,if_pos h];rfl
theorem one_in {L:Look} {x a:Nd} {r:List Nd} {kg kn:F} {g:Bool} (h:x.kind=8):one L x (a::r) kg kn g=ofT g 1 (F.cat (r.map (cmpd L g 0 a))):=by unfold one;rw[if_neg om,if_neg om,if_neg om,if_neg om,if_pos h]
theorem one_all {L:Look} {x:Nd} {vs:List Nd} {kg kn:F} {g:Bool} (h:x.kind=3):one L x vs kg kn g=ofT g kg.len kg:=by unfold one;rw[if_neg om,if_neg om,if_neg om,if_neg om,if_neg om,if_pos h]
theorem one_any {L:Look} {x:Nd} {vs:List Nd} {kg kn:F} {g:Bool} (h:x.kind=4):one L x vs kg kn g=ofT g 1 kg:=by unfold one;rw[if_neg om,if_neg om,if_neg om,if_neg om,if_neg om,if_neg om,if_pos h]
theorem one_least {L:Look} {x:Nd} {vs:List Nd} {kg kn:F} {g:Bool} (h:x.kind=5):one L x vs kg kn g=ofT g x.num kg:=by unfold one;rw[if_neg om,if_neg om,if_neg om,if_neg om,if_neg om,if_neg om,if_neg om]
theorem mnorm_any {d:Po} {L:Lp} {A:Option Addr} {c:Nat} {S:List Sm} {w0:World} (E:Env w0 d L A c S) (hR:zah chkB S d=true):∀(f:Nat) (a:Int),Pa.VN d.nodes f true a→WfP d.nodes f a→tyF (lookS S d.uses) (Pa.treeN d.nodes f a)=true→(Pa.treeN d.nodes f a).size≤2000→∀(g:Bool) (w:World),Below w0.heap.size w0 w→∀B,B≤w.heap.size →
 Calls prog 30 #[fitV d L A S.length c,.int .i64 a,.bool g] w fun e w'=>(∃v,e=.returned v∧CvM B w' (nrm (lookS S d.uses) (Pa.treeN d.nodes f a) g) [v])∧Below w.heap.size w w':=by
 intro f
 induction f with
 | zero=>intro a h;exact h.elim
 | succ f ih =>
 intro a hv hw hT hs g w h0 B bM;obtain⟨i,n,rfl,hn,hF,bz⟩:=vn_at hv hw;have iR:∀k∈n.kids,Pa.VN d.nodes f (decide (n.kind≤5)) k:=fun k hk=>(bz k hk).1;rw[ty_node hn iR,Bool.and_eq_true]at hT;obtain⟨hc,ht⟩:=hT;have hkt:=List.all_eq_true.1 ht;rw[tree_size hn]at hs;have bk:=kids_le iR;have j8:=fun k (hk:k∈n.kids)=>size_mem (t:=Pa.treeN d.nodes f) hk;have fi:=hF.lo;have h8:n.kind≤8:=by have:=hF.ctx;simpa using this
 have cf:=hF.kids;have ey:=hF.low;have db:=hF.high;rw[nrm_node hn iR g];have bL:∀m:Nat,n.kind=(m:Int)→(ndOf n).kind=m:=fun m h=>(zau fi m).2 h;have gO:n.kind≤5→∀k∈n.kids,∀g W,Below w0.heap.size w0 W→∀B,B≤W.heap.size→Calls prog 30 #[fitV d L A S.length c,.int .i64 k,.bool g] W fun e w'=>(∃v,e=.returned v∧CvM B w' (nrm (lookS S d.uses) (Pa.treeN d.nodes f k) g) [v])∧Below W.heap.size W w':=fun h5 k hk g W hW B hB=>by
  have h1:=bz k hk;rw[decide_eq_true h5]at h1;exact ih k h1.1 h1.2 (hkt k hk) (by have:=j8 k hk;omega) g W hW B hB
 have ea:¬n.kind≤5→∀k∈n.kids,Pa.VN d.nodes f false k∧WfP d.nodes f k:=fun h5 k hk=>by
  have h1:=bz k hk;rw[decide_eq_false h5]at h1;exact h1
 have ky:∀g,nrm (lookS S d.uses) (F.cat (n.kids.map (Pa.treeN d.nodes f))) g=F.cat (n.kids.map fun k=>nrm (lookS S d.uses) (Pa.treeN d.nodes f k) g):=fun g=>by rw[nrm_cat,List.map_map];rfl
 have bu:∀g,(F.cat (n.kids.map fun k=>nrm (lookS S d.uses) (Pa.treeN d.nodes f k) g)).size≤100000:=fun g=>by
  rw[←ky];have:=zcq (lookS S d.uses) (F.cat (n.kids.map (Pa.treeN d.nodes f))) g;omega
 unfold lowP at ey;unfold highP at db;unfold kidsP at cf;rcases(by omega:n.kind=0∨n.kind=1∨n.kind=2∨n.kind=3∨n.kind=4∨n.kind=5∨n.kind=6∨n.kind=7∨n.kind=8)with h|h|h|h|h|h|h|h|h
 ·rw[one_const (.inl (bL 0 h)),decide_eq_true (bL 0 h)];exact zbt E hR i n hn g w h0 B bM _ (hid (.k0 h))
 ·rw[one_const (.inr (bL 1 h)),decide_eq_false (by rw[bL 1 h];decide)];exact zbt E hR i n hn g w h0 B bM _ (hid (.k1 h))
 ·have h1:n.kids.length=1:=by simpa[h]using cf
  obtain⟨k0,ar⟩:=List.length_eq_one_iff.1 h1;rw[one_not (bL 2 h)];have lk:nrm (lookS S d.uses) (F.cat (n.kids.map (Pa.treeN d.nodes f))) (!g)=nrm (lookS S d.uses) (Pa.treeN d.nodes f k0) (!g):=by
   rw[ar,List.map_cons,List.map_nil,F.cat,F.cat,F.app_nil]
  rw[lk];exact zbt E hR i n hn g w h0 B bM _ (hid (.k2 h k0 ar (fun g=>nrm (lookS S d.uses) (Pa.treeN d.nodes f k0) g) (fun g W hW B hB=>gO om k0 (by rw[ar];exact List.mem_cons_self ..) g W hW B hB)))
 ·rw[one_all (bL 3 h),ky];have:=zbt E hR i n hn g w h0 B bM _ (hid (.kg (.inl h) (fun k=>nrm (lookS S d.uses) (Pa.treeN d.nodes f k) g) ⟨by omega,bu g⟩ zua (fun k hk W hW B hB=>gO om k hk g W hW B hB)));unfold numG at this;rw[if_pos h]at this;exact this
 ·rw[one_any (bL 4 h),ky];have:=zbt E hR i n hn g w h0 B bM _ (hid (.kg (.inr (.inl h)) (fun k=>nrm (lookS S d.uses) (Pa.treeN d.nodes f k) g) ⟨by omega,bu g⟩ zua (fun k hk W hW B hB=>gO om k hk g W hW B hB)));unfold numG at this;rw[if_neg om,if_pos h]at this;exact this
 ·rw[one_least (bL 5 h),ky];have:=zbt E hR i n hn g w h0 B bM _ (hid (.kg (.inr (.inr h)) (fun k=>nrm (lookS S d.uses) (Pa.treeN d.nodes f k) g) ⟨by omega,bu g⟩ zua (fun k hk W hW B hB=>gO om k hk g W hW B hB)));unfold numG at this;rw[if_neg om,if_neg om]at this;exact this
 ·have h1:n.kids.length=2:=by simpa[h]using cf
  obtain⟨k0,k1,ar⟩:∃a b,n.kids=[a,b]:=by
   match hl:n.kids,h1 with
   | [a,b],_=>exact⟨a,b,rfl⟩
  have fK:=ea om;obtain⟨ix,a,ha,e1,na⟩:=kid_of fK (i:=0) (k:=k0) zu8;obtain⟨jx,b,hb,e2,nb⟩:=kid_of fK (i:=1) (k:=k1) zu8;have cH:zaf d.nodes n.kids=[ndOf a,ndOf b]:=by rw[ar];simp only[zaf,List.map_cons,List.map_nil,na,nb]
  rw[cH]at hc ⊢;rw[one_cmp (bL 6 h)];exact zbt E hR i n hn g w h0 B bM _ (hid (.k6 h (by rw[h]at ey;simpa using ey) (by rw[h]at db;simpa using db) ix jx a b ha hb (pr6 (bL 6 h) ha.v hb.v hc)))
 ·have h1:n.kids.length=3:=by simpa[h]using cf
  obtain⟨k0,k1,k2,ar⟩:∃a b c,n.kids=[a,b,c]:=by
   match hl:n.kids,h1 with
   | [a,b,c],_=>exact⟨a,b,c,rfl⟩
  have fK:=ea om;obtain⟨ix,a,ha,e1,na⟩:=kid_of fK (i:=0) (k:=k0) zu8;obtain⟨jx,b,hb,e2,nb⟩:=kid_of fK (i:=1) (k:=k1) zu8;obtain⟨zx,z,hz,e3,nz⟩:=kid_of fK (i:=2) (k:=k2) zu8;have cH:zaf d.nodes n.kids=[ndOf a,ndOf b,ndOf z]:=by rw[ar];simp only[zaf,List.map_cons,List.map_nil,na,nb,nz]
  rw[cH]at hc ⊢;rw[one_btw (bL 7 h)];have hp:=fun q=>pr7 (bL 7 h) ha.v hb.v hz.v hc q;exact zbt E hR i n hn g w h0 B bM _ (hid (.k7 h ix jx zx a b z ha hb hz (fun q=>(hp q).1) (fun q=>(hp q).2.1) (fun h9=>ref_some ha.a0 h9 (by
   have:=(hp 0).2.2;unfold numTy at this;cases e:tyOf (lookS S d.uses) (ndOf a)with
   | none=>rw[e]at this;cases this
   | some t=>rfl))))
 ·have h1:2≤n.kids.length:=by simpa[h]using cf
  obtain⟨k0,ks,ar⟩:∃a r,n.kids=a::r:=by
   match hl:n.kids,h1 with
   | a::r,_=>exact⟨a,r,rfl⟩
  have fK:=ea om;obtain⟨ix,a,ha,e1,na⟩:=kid_of fK (i:=0) (k:=k0) zu8;have cH:zaf d.nodes n.kids=ndOf a::(zaf d.nodes n.kids).drop 1:=by rw[ar];simp only[zaf,List.map_cons,List.drop_succ_cons,List.drop_zero,na]
  have dQ:=hc;rw[cH]at dQ ⊢;rw[one_in (bL 8 h)];have sB:=pr8 (bL 8 h) ha.v (r:=(zaf d.nodes n.kids).drop 1) (fun y hy=>by
   have dH:y∈zaf d.nodes n.kids:=List.mem_of_mem_drop hy;obtain⟨k,hk,rfl⟩:=List.mem_map.1 dH;obtain⟨j,hj⟩:=List.mem_iff_getElem?.1 hk;obtain⟨jx,b,hb,-,nb⟩:=kid_of fK hj;rw[nb];exact hb.v) dQ
  have hdd:(ndOf a::(zaf d.nodes n.kids).drop 1).drop 1=(zaf d.nodes n.kids).drop 1:=rfl;refine zbt E hR i n hn g w h0 B bM _ (hid (.k8 h ix a ⟨h1,by omega⟩ ha (fun j jm aW=>?_)));obtain⟨k,hk⟩:∃k,n.kids[j]? =some k:=⟨_,List.getElem?_eq_getElem aW⟩;obtain⟨jx,b,hb,-,nb⟩:=kid_of fK hk;have cU:(zaf d.nodes n.kids)[j]? =some (ndOf b):=by rw[List.getElem?_map,hk,Option.map_some,nb]
  refine⟨jx,b,hb,cU,sB _ (List.mem_of_getElem? (i:=j-1) ?_)⟩;rw[List.getElem?_drop,show 1+(j-1)=j by omega];exact cU
end Nf
namespace Nf
open Go.RowKit Go.Shelf
open Lib (hid)
open Pa (F Nd Tx)
open Fm (G Gt GV gts fit flT Forms)
theorem pm5 {α:Type} (a b c:α) (X Y Z:List α):(Z++(a::b::c::(X++Y))).Perm (c::((X++Z)++(a::b::Y))):=by
 have h1:(Z++(a::b::c::(X++Y))).Perm ((a::b::c::(X++Y))++Z):=List.perm_append_comm;have h2:(a::b::c::(X++Y)++Z).Perm (c::(a::b::(X++Y)++Z)):=(List.perm_middle (l₁:=[a,b]));refine h1.trans (h2.trans (List.Perm.cons _ ?_));have h3:(a::b::(X++Y)++Z).Perm ((X++Y)++Z++[a,b]):=by
  have:=(List.perm_append_comm (l₁:=[a,b]) (l₂:=(X++Y)++Z));simpa using this
 have h4:((X++Y)++Z++[a,b]).Perm ((X++Z)++(a::b::Y)):=by
  have e1:((X++Y)++Z++[a,b])=X++(Y++(Z++[a,b])):=by simp
  have e2:((X++Z)++(a::b::Y))=X++((Z++[a,b])++Y):=by simp
  rw[e1,e2];exact(List.perm_append_comm).append_left X
 exact h3.trans h4
theorem pm6 {α:Type} (c:α) (X Z:List α):(Z++(c::X)).Perm (c::(X++Z)):=List.perm_append_comm (l₁:=Z) (l₂:=c::X)
theorem pm7 {α:Type} (r c:α) (X Z1 Z2 Z:List α):(Z++(r::(Z2++(Z1++(c::X))))).Perm (c::((X++Z)++(r::(Z2++Z1)))):=by
 have h1:(Z++(r::(Z2++(Z1++(c::X))))).Perm (c::((Z++(r::(Z2++Z1)))++X)):=by
  have:=List.perm_middle (a:=c) (l₁:=Z++(r::(Z2++Z1))) (l₂:=X);simpa using this
 refine h1.trans (List.Perm.cons _ ?_);have h2:((Z++(r::(Z2++Z1)))++X).Perm (X++(Z++(r::(Z2++Z1)))):=List.perm_append_comm;rw[List.append_assoc X];exact h2
theorem flT_one {L:Look} {ix:Ix} {t:F} (h:t.len=1):flT (frm L ix t)=[(frm L ix t).fl 0 0]:=by
 have h1:=zch (L:=L) (ix:=ix) t;cases hq:frm L ix t with
 | nil=>rw[hq]at h1;simp[G.len]at h1;omega
 | cons a k r =>
   have hr:r=.nil:=by
    rw[hq]at h1;cases r with
    | nil=>rfl
    | cons _ _ _=>simp[G.len]at h1;omega
   subst hr;rfl
def CondP (w0:World) (L:Look) (ix:Ix) (m:Mks) (t:F) (a:Int):Prop :=
 ∀(vA vS:Value) (lA lS:List At) (W:World),MkW w0 m vA lA vS lS W→lA.length+2*t.size≤1000 →
  Calls prog 114 #[ptO m.gm,.int .i64 a] W fun e w'=>∃vg P vA',gts P=(frm L ix t).fl 0 0∧e=.returned (.agg #[vg])∧Hp (ow (m.its vA lA vS lS)) W (m.its vA' (lA++ats L ix t) vS lS++fit vg P) w'
abbrev ndC (n:Nk) (KA:Option Addr) (kc:Nat):List Value:=[.int .i64 n.kind,.int .i64 n.num,.string n.name,.string n.attr,.slice KA n.kids.length kc,.int .i64 n.at_]
theorem cond_gate {L:Look} {ix:Ix} {w0:World} {m:Mks} {f:Nat} (i:Nat) (n:Nk) (hn:m.nodes[i]? =some n) (h5:n.kind=5) (bk:n.kids.length≤1000)
 (hK:∀k∈n.kids,CondP w0 L ix m (Pa.treeN m.nodes f k) k) (h1:1≤n.num) (eW:n.num≤n.kids.length) (hP:Pf L (F.cat (n.kids.map (Pa.treeN m.nodes f)))) (hT:Two L ix (F.cat (n.kids.map (Pa.treeN m.nodes f))))
 (fA:∀k,k∈n.kids→(Pa.treeN m.nodes f k).len=1) (aD:(F.cat (n.kids.map (Pa.treeN m.nodes f))).len=n.kids.length) (bu:(F.cat (n.kids.map (Pa.treeN m.nodes f))).size≤249):CondP w0 L ix m (Pa.treeN m.nodes (f+1) (i:Int)) (i:Int):=by
 intro vA vS lA lS W hW wL;have gC:Pa.treeN m.nodes (f+1) (i:Int)=.cons (ndOf n) (F.cat (n.kids.map (Pa.treeN m.nodes f))) .nil:=Pa.treeN_in zy5;have ft:(ndOf n).kind=5:=by show n.kind.toNat=5;omega
 rw[gC,F.size]at wL;have HF:=hid (show(frm L ix (Pa.treeN m.nodes (f+1) (i:Int))).fl 0 0=(G.cons n.num (frm L ix (F.cat (n.kids.map (Pa.treeN m.nodes f)))) .nil).fl 0 0 by rw[gC,frm,if_pos ft];rfl);have HA:=hid (show ats L ix (Pa.treeN m.nodes (f+1) (i:Int))=ats L ix (F.cat (n.kids.map (Pa.treeN m.nodes f))) by rw[gC,ats,if_pos ft,ats,List.append_nil]);have cI:=(frm_ok hP hT).1;have dX:=zch (L:=L) (ix:=ix) (F.cat (n.kids.map (Pa.treeN m.nodes f)));have eE:=pf_size (ix:=ix) hP;have HG:=hid (fun(A:Option Addr) (c:Nat) (w:World) (hF:Forms w A (flT (frm L ix (F.cat (n.kids.map (Pa.treeN m.nodes f))))))=>mgate_any A c _ cI om om n.num h1 om w hF);rw[dX,aD]at HG;obtain⟨ad,KA,kc,jj,aP⟩:=hW.ns.at_ i n hn;have bH:=aP.up hW.b;have ay:=(List.getElem?_eq_some_iff.1 hn).1;have aM:(i:Int)<(m.nodes.length:Int):=om;have aL:(0:Int)≤(i:Int):=om;have hp:=(Hp.self hW.s).new 44 [.slice none 0 0];obtain⟨g4,eH⟩:∃g,W.heap.size=g:=⟨_,rfl⟩;rw[eH]at hp;have aC:Below W.heap.size W (W.alloc (.cells #[.slice none 0 0] 44)):=(Below.refl _ _).alloc (Nat.le_refl _) _;obtain⟨i0,cC,bg,aY,bh⟩:=info_parts (show(prog.info? 44).map (fun i=>(i.zero,i.size,i.bytes))=some (some (.agg #[.slice none 0 0]),1,24) by kernel_rfl);have HTC:=hid hT;have HPC:=hid hP;have vL:=hid fA;have nF:(n.kind==5)=true:=by rw[h5];rfl
 clear hn gC ft cI dX eE h1 eW hP hT h5;go_enter func114,ntmps114;go_upto_region 1 with fail;try simp only[eH]
 have cB:Hp (ow (m.its vA lA vS lS)) W (iblk g4 44 [.slice none 0 0]::m.its vA lA vS lS) (W.alloc (.cells #[.slice none 0 0] 44)):=hp;clear hp;generalize W.alloc (.cells #[.slice none 0 0] 44)=W1 at *;have c0:W1.cell? ⟨m.gm,0,none⟩=some (.slice m.NA m.nodes.length m.nc):=(cB.blk 1 rfl).cell 0;rw[jj]at c0;have cm:=bH.up aC;have d0:=cm.kind;have d1:=cm.num;have d2:=cm.name;have d3:=cm.attr;have d4:W1.cell? ⟨(ad.add (i*6)).block,(ad.add (i*6)).off+4,none⟩=some (.slice KA n.kids.length kc):=cm.kids;have d5:=cm.at_;go_upto_region 2 with fail;have bP:=cB.new 68 (ndC n KA kc);obtain⟨g5,fE⟩:∃g,W1.heap.size=g:=⟨_,rfl⟩;rw[fE]at bP;try simp only[fE]
 have ec:Hp (ow (m.its vA lA vS lS)) W (iblk g5 68 (ndC n KA kc)::iblk g4 44 [.slice none 0 0]::m.its vA lA vS lS) (W1.alloc (.cells #[.int .i64 n.kind,.int .i64 n.num,.string n.name,.string n.attr,.slice KA n.kids.length kc,.int .i64 n.at_] 68)):=bP;clear bP c0 d0 d1 d2 d3 d4 d5;generalize W1.alloc (.cells #[.int .i64 n.kind,.int .i64 n.num,.string n.name,.string n.attr,.slice KA n.kids.length kc,.int .i64 n.at_] 68)=W2 at *;obtain⟨c0,c1,c2,c3,c4,c5⟩:=Blk.g6 (ec.blk 0 rfl);go_upto_region 5 with fail;clear c0 c1 c2 c3 c4 c5;generalize eM:ow (m.its vA lA vS lS)=oo at *;have dF:Hp oo W (irow 44 1 (.slice none 0 0) 0 []::iblk g5 68 (ndC n KA kc)::iblk g4 44 [.slice none 0 0]::(m.its vA lA vS lS++fIts [])) W2:=by
  have:=ec.nilrow 44 1;show Hp oo W (_::_::_::(m.its vA lA vS lS++[])) W2;rw[List.append_nil];exact this
 clear ec cB;go_loopg [6,23] n.kids.length (fun mm s6 wA wx=>∃(j:Nat) (X:List (Value×List GV)) (vl vA':Value),j≤n.kids.length∧mm=n.kids.length-j∧s6=vl∧wA=.int .i64 (j:Int)∧X.length=j∧Hid (X.map (fun x=>gts x.2)=flT (frm L ix (F.cat ((n.kids.take j).map (Pa.treeN m.nodes f)))))∧Hp oo W (irow 44 1 vl X.length (X.map Prod.fst)::iblk g5 68 (ndC n KA kc)::iblk g4 44 [.slice none 0 0]::(m.its vA' (lA++ats L ix (F.cat ((n.kids.take j).map (Pa.treeN m.nodes f)))) vS lS++fIts X)) wx);case atStart=>exact⟨0,[],_,vA,Nat.zero_le _,rfl,rfl,rfl,rfl,hid rfl,by simp only[List.take_zero,List.map_nil,List.length_nil];rw[show F.cat []=.nil from rfl,ats,List.append_nil];exact dF⟩
 case round =>
  obtain⟨j,X,vl,vA',hj,rfl,rfl,rfl,hXl,HX,hM⟩:=hrel;subst hXl;clear dF;by_cases aW:X.length<n.kids.length
  ·have bX:(X.length:Int)<(n.kids.length:Int):=om;have bT:(0:Int)≤(X.length:Int):=om;obtain⟨k,hk⟩:∃k,n.kids[X.length]? =some k:=⟨_,List.getElem?_eq_getElem aW⟩;have aA:=hM.perm (pm3 _ _ _ _ _);have kI:MkW w0 m vA' (lA++ats L ix (F.cat ((n.kids.take X.length).map (Pa.treeN m.nodes f)))) vS lS wr:=hW.next (by rw[eM];exact aA);obtain⟨ka,rfl,kk⟩:=(aP.ints.up kI.b).at_ X.length k hk;have fk:=cat_part (ns:=m.nodes) (f:=f) n.kids X.length;have dP:=HTC.out;have iV:=HPC.out;have jp:=cat_take (ns:=m.nodes) (f:=f) hk;have fZ:(lA++ats L ix (F.cat ((n.kids.take X.length).map (Pa.treeN m.nodes f)))).length+2*(Pa.treeN m.nodes f k).size≤1000:=by
    have e1:=cat_part (ns:=m.nodes) (f:=f) n.kids (X.length+1);rw[jp]at e1;have e2:=congrArg F.size e1;rw[size_app,size_app]at e2;rw[fk]at dP;have e3:=ats_len (two_app dP).1;rw[List.length_append];omega
   have HC:=hid (hK k (List.mem_of_getElem? hk) vA' vS _ lS wr kI fZ);have dZ:=List.mem_of_getElem? hk;clear fk dP iV fZ hk;go_wp2_with fail;refine HC.out.mono ?_;rintro e w3 ⟨vg,P,kA,hP,rfl,hH⟩;have az:=(Hp.call (a:=m.its vA' (lA++ats L ix (F.cat ((n.kids.take X.length).map (Pa.treeN m.nodes f)))) vS lS) aA hH).perm (pm4 _ _ _ _ _ _);have qD:w3.ownsRow 0 256 3 vg P.length (Fm.gcells P):=hH.sep.ok (irow 256 3 vg P.length (Fm.gcells P)) zy1;obtain⟨GA,gc,rfl⟩:=zab qD;obtain⟨VA,vc,rfl⟩:=zab (az.row 0 rfl);have hXb:X.length≤1000:=om;have kR:Hid ((X++[(Value.slice GA P.length gc,P)]).map (fun x=>gts x.2)=flT (frm L ix (F.cat ((n.kids.take (X.length+1)).map (Pa.treeN m.nodes f))))):=hid (by
    rw[List.map_append,HX.out,jp,frm_app,Fm.flT_app];show _++[gts P]=_;rw[hP];have lU:(Pa.treeN m.nodes f k).len=1:=vL.out k dZ;congr 1;exact(flT_one lU).symm)
   clear qD hH aA hM HC kI;go_wp2_with (at_builtin;refine zac rfl _ _ 198 rfl 0 44 i0 _ 1 24 underlying198 cC bg aY bh rfl zy0 _ X.length (X.map Prod.fst) rfl ((az.alloc _).row 0 rfl) ⟨w3.heap.size,0,none⟩ 1 1 [.slice GA P.length gc] rfl rfl (Fm.new1' _ _ _) (by intro u hu;simp at hu;rcases hu with rfl;rfl) zy0 zy2 om (Nat.zero_le _) ?_;intro v' w4 af ai aH;have aR:=(az.alloc (.cells #[.slice GA P.length gc] 44)).grown 0 rfl af ai aH;obtain⟨VB,vb,rfl⟩:=zab af;clear af ai aH);go_roundg (n.kids.length-(X.length+1));case measure=>omega
   case rel =>
    refine⟨X.length+1,X++[(.slice GA P.length gc,P)],_,kA,by omega,rfl,rfl,by first|rfl|simp,by simp,kR,?_⟩;rw[jp,ats_app,fIts_snoc,List.map_append,List.length_append,←List.append_assoc lA];exact aR
  ·have dD:X.length=n.kids.length:=om;have cZ:n.kids.take X.length=n.kids:=List.take_of_length_le om;rw[cZ]at HX hM;rw[←dD]at HG;have bX:¬(X.length:Int)<(n.kids.length:Int):=om;obtain⟨VA,vc,rfl⟩:=zab (hM.row 0 rfl);have jH:=forms_of (hM.row 0 rfl) (fun x hx=>hM.sep.ok x zu5);rw[HX.out]at jH;have HGC:=hid (HG.out VA vc wr jH);have c1:wr.cell? ⟨g5,1,none⟩=some (.int .i64 n.num):=(hM.blk 1 rfl).cell 1;clear dD cZ HG jH HX aW hj aD bu wL fA;go_wp2_with fail;refine HGC.out.mono ?_;rintro e w3 ⟨vg,P,hP,rfl,hH⟩;obtain⟨GA,gc,rfl⟩:=zab (hH.row 0 rfl);have az:=(Hp.call (a:=[]) hM hH).perm (pm5 _ _ _ _ _ _);have HP:=hid hP;have q4:=(az.blk 0 rfl).frozen 0;have q5:=(az.blk 0 rfl).cell 0;simp only[List.getElem?_cons_zero]at q5;have bn:=az.set 0 rfl 0 (.slice GA P.length gc);have q6:=(bn.blk 0 rfl).cell 0;simp only[List.getElem?_cons_zero,List.set_cons_zero]at q6;clear az hM hH HGC c1 hP;go_wp2_with fail;refine bodyPost_ret (v:=.agg #[.slice GA P.length gc]) zu7 rfl ?_;refine⟨_,P,vA',HP.out.trans HF.out.symm,rfl,?_⟩;rw[HA.out,eM];exact Hp.sub bn.tail
theorem atcs_one (l:List At):∀u∈atcs l,u.oneCell'=true:=by
 intro u hu;obtain⟨a,-,ha⟩:=List.mem_flatMap.1 hu;simp only[atC,List.mem_cons,List.not_mem_nil,or_false]at ha;rcases ha with rfl|rfl|rfl|rfl|rfl<;>rfl
theorem cond_atom {L:Look} {ix:Ix} {w0:World} {m:Mks} (kB:Knw L ix m.S m.T m.nodes) {f:Nat} (i:Nat) (n:Nk) (hn:m.nodes[i]? =some n) (h0:0≤n.kind) (h5:n.kind≠5) (hv:∀k∈n.kids,VKid m.nodes k) (hS:Shp L (ndOf n) (zaf m.nodes n.kids))
 (jf:vals (F.cat (n.kids.map (Pa.treeN m.nodes f)))=zaf m.nodes n.kids) (lg:(atP L ix (ndOf n) (zaf m.nodes n.kids)).length=1∨(atP L ix (ndOf n) (zaf m.nodes n.kids)).length=2):CondP w0 L ix m (Pa.treeN m.nodes (f+1) (i:Int)) (i:Int):=by
 intro vA vS lA lS W hW wL;have gC:Pa.treeN m.nodes (f+1) (i:Int)=.cons (ndOf n) (F.cat (n.kids.map (Pa.treeN m.nodes f))) .nil:=Pa.treeN_in zy5;have ft:¬(ndOf n).kind=5:=by show¬n.kind.toNat=5;omega
 have sA:lA.length≤1000:=om;obtain⟨l,hl⟩:∃l,atP L ix (ndOf n) (zaf m.nodes n.kids)=l:=⟨_,rfl⟩;have HA:=hid (show ats L ix (Pa.treeN m.nodes (f+1) (i:Int))=l by rw[gC,ats,if_neg ft,ats,List.append_nil,jf,hl]);have HF:=hid (show frm L ix (Pa.treeN m.nodes (f+1) (i:Int))=if l.length=1 then .cons 0 .nil .nil else .cons 1 (.cons 0 .nil (.cons 0 .nil .nil)) .nil by rw[gC,frm,if_neg ft,jf,hl];rfl);obtain⟨ad,KA,kc,jj,aP⟩:=hW.ns.at_ i n hn;have bH:=aP.up hW.b;have eh:=hid (fun W' (hb:Below W.heap.size W W')=>atoms_tree kB m.gm m.gf m.nc m.NA _ W' (hW.up hb).mkp (hW.up hb).wrd n KA kc (bH.ints.up hb) h0 hv hS);rw[hl]at eh lg;have ay:=(List.getElem?_eq_some_iff.1 hn).1;have aM:(i:Int)<(m.nodes.length:Int):=om;have aL:(0:Int)≤(i:Int):=om;have hp:=(Hp.self hW.s).new 44 [.slice none 0 0];obtain⟨g4,eH⟩:∃g,W.heap.size=g:=⟨_,rfl⟩;rw[eH]at hp;have aC:Below W.heap.size W (W.alloc (.cells #[.slice none 0 0] 44)):=(Below.refl _ _).alloc (Nat.le_refl _) _;obtain⟨i0,cC,bg,aY,bh⟩:=info_parts atom_info;have nF:(n.kind==5)=false:=by rw[beq_eq_false_iff_ne];exact h5
 have wq:=hid aC;clear hn gC ft h5 jf hv hS hl kB h0;generalize eM:ow (m.its vA lA vS lS)=oo at *;go_enter func114,ntmps114;go_upto_region 1 with fail;try simp only[eH]
 have cB:Hp oo W (iblk g4 44 [.slice none 0 0]::m.its vA lA vS lS) (W.alloc (.cells #[.slice none 0 0] 44)):=hp;clear hp;generalize W.alloc (.cells #[.slice none 0 0] 44)=W1 at *;have c0:W1.cell? ⟨m.gm,0,none⟩=some (.slice m.NA m.nodes.length m.nc):=(cB.blk 1 rfl).cell 0;rw[jj]at c0;have cm:=bH.up aC;have d0:=cm.kind;have d1:=cm.num;have d2:=cm.name;have d3:=cm.attr;have d4:W1.cell? ⟨(ad.add (i*6)).block,(ad.add (i*6)).off+4,none⟩=some (.slice KA n.kids.length kc):=cm.kids;have d5:=cm.at_;go_upto_region 2 with fail;have bP:=cB.new 68 (ndC n KA kc);obtain⟨g5,fE⟩:∃g,W1.heap.size=g:=⟨_,rfl⟩;rw[fE]at bP;try simp only[fE]
 have ec:Hp oo W (iblk g5 68 (ndC n KA kc)::iblk g4 44 [.slice none 0 0]::m.its vA lA vS lS) (W1.alloc (.cells #[.int .i64 n.kind,.int .i64 n.num,.string n.name,.string n.attr,.slice KA n.kids.length kc,.int .i64 n.at_] 68)):=bP;have aG:Below W.heap.size W (W1.alloc (.cells #[.int .i64 n.kind,.int .i64 n.num,.string n.name,.string n.attr,.slice KA n.kids.length kc,.int .i64 n.at_] 68)):=aC.trans ((Below.refl _ _).alloc aC.size _);clear bP c0 d0 d1 d2 d3 d4 d5;generalize W1.alloc (.cells #[.int .i64 n.kind,.int .i64 n.num,.string n.name,.string n.attr,.slice KA n.kids.length kc,.int .i64 n.at_] 68)=W2 at *;obtain⟨c0,c1,c2,c3,c4,c5⟩:=Blk.g6 (ec.blk 0 rfl);go_wp2_with fail;refine(eh.out W2 aG).mono ?_;rintro e w3 ⟨v,rfl,hH⟩;have hlp:0<l.length:=om;obtain⟨g9,cap9,rfl,ez⟩:=zak (hH.row 0 rfl) hlp;clear c0 c1 c2 c3 c4 c5 eh;have dF:Hp oo W (irow 133 5 (.slice (some ⟨g9,0,none⟩) l.length cap9) l.length (atcs l)::iblk g5 68 (ndC n KA kc)::iblk g4 44 [.slice none 0 0]::m.its vA lA vS lS) w3:=Hp.call (a:=[]) ec hH;obtain⟨VA,vc,rfl⟩:=zab (dF.row 4 rfl);have c4:w3.cell? ⟨m.gm,4,none⟩=some (.slice VA lA.length vc):=(dF.blk 3 rfl).cell 4;have cA:=(dF.row 0 rfl).cells (g:=g9) rfl;have fQ:l.length≤2:=om;have hc5:=atcs_len l;have gD:=atcs_one l;clear ec cB hH aG cm bH aP;go_upto_region 12 with(at_builtin;refine zac rfl _ _ 41 rfl 0 133 i0 _ 5 40 underlying41 cC bg aY bh rfl zy0 _ lA.length (atcs lA) rfl (dF.row 4 rfl) ⟨g9,0,none⟩ l.length cap9 (atcs l) rfl hc5 cA gD hlp zy2 om (Nat.zero_le _) ?_;intro v' w4 af ai aH;have ee:=dF.grown 4 rfl af ai aH;obtain⟨VB,vb,rfl⟩:=zab af;clear af ai aH;have z4:=(ee.blk 3 rfl).frozen 4;have y4:=(ee.blk 3 rfl).cell 4;simp only[List.getElem?_cons_zero,List.getElem?_cons_succ]at y4);have fL:=ee.set 3 rfl 4 (.slice VB (lA.length+l.length) vb);have cF:Hp oo W (iblk g4 44 [.slice none 0 0]::m.its (.slice VB (lA.length+l.length) vb) (lA++l) vS lS) (w4.setCell ⟨m.gm,4,none⟩ (.slice VB (lA.length+l.length) vb)):=by
  show Hp oo W (_::iblk m.gm 120 _::irow 133 5 _ (lA++l).length (atcs (lA++l))::irow 133 5 vS lS.length (atcs lS)::m.ro) _;rw[List.length_append,atcs_app];exact(fL.tail).tail
 clear fL ee dF z4 y4 c4 cA hc5 gD;generalize w4.setCell ⟨m.gm,4,none⟩ (.slice VB (lA.length+l.length) vb)=W5 at *;by_cases q1:l.length=1
 ·have q1b:((l.length:Int)==1)=true:=by rw[q1];rfl
  rw[if_pos q1]at HF;clear q1 lg;go_wp2_with fail;refine(Fm.leaf_any W5).mono ?_;rintro e w6 ⟨vg,rfl,hH⟩;obtain⟨GA,gc,rfl⟩:=zab (hH.row 0 rfl);have io:=(Hp.call (a:=[]) cF hH).perm (pm6 _ _ _);have q4:=(io.blk 0 rfl).frozen 0;have q5:=(io.blk 0 rfl).cell 0;simp only[List.getElem?_cons_zero]at q5;have qW:=io.set 0 rfl 0 (.slice GA 1 gc);have q6:=(qW.blk 0 rfl).cell 0;simp only[List.getElem?_cons_zero,List.set_cons_zero]at q6;clear cF io hH;go_wp2_with fail;refine bodyPost_ret (v:=.agg #[.slice GA 1 gc]) zu7 rfl ?_;refine⟨.slice GA 1 gc,[(⟨0,[],0⟩,.slice none 0 0)],.slice VB (lA.length+l.length) vb,by rw[HF.out];rfl,rfl,?_⟩;rw[HA.out];exact qW.tail
 ·have q1b:((l.length:Int)==1)=false:=by rw[beq_eq_false_iff_ne];omega
  rw[if_neg q1]at HF;clear q1 lg;go_wp2_with fail;refine(Fm.leaf_any W5).mono ?_;rintro e w6 ⟨vg,rfl,hH⟩;obtain⟨GA,gc,rfl⟩:=zab (hH.row 0 rfl);have io:=Hp.call (a:=[]) cF hH;clear cF hH;go_wp2_with fail;refine(Fm.leaf_any w6).mono ?_;rintro e w7 ⟨vg2,rfl,hH⟩;obtain⟨GB,gd,rfl⟩:=zab (hH.row 0 rfl);have qW:=Hp.call (a:=[]) io hH;clear io hH;have kF:=Fm.newrowF qW rfl (Fm.row_new w7 44 1 2 [.slice GA 1 gc,.slice GB 1 gd] rfl om) ((Below.refl _ _).alloc (Nat.le_refl _) _);have jH:=forms_of (X:=[(.slice GA 1 gc,[(⟨0,[],0⟩,.slice none 0 0)]),(.slice GB 1 gd,[(⟨0,[],0⟩,.slice none 0 0)])]) (kF.row 0 rfl) (fun x hx=>kF.sep.ok x (by
   refine List.mem_cons_of_mem _ ?_;rcases List.mem_append.1 (show x∈fit (.slice GA 1 gc) [(⟨0,[],0⟩,.slice none 0 0)]++(fit (.slice GB 1 gd) [(⟨0,[],0⟩,.slice none 0 0)]++[])from hx)with hx|hx
   ·exact List.mem_append_right _ (List.mem_append_left _ hx)
   ·rw[List.append_nil]at hx;exact List.mem_append_left _ hx))
  have HG:=hid (mgate_any _ 2 (.cons 0 .nil (.cons 0 .nil .nil)) ⟨fun _=>rfl,fun q=>(by cases q),trivial,fun _=>rfl,fun q=>(by cases q),trivial,trivial⟩ zy0 zy0 1 zy0 zy0 _ jH);clear jH qW;go_wp2_with fail;refine HG.out.mono ?_;rintro e w8 ⟨vg3,P,hP,rfl,hH⟩;obtain⟨GC,ge,rfl⟩:=zab (hH.row 0 rfl);have HP:=hid hP;have jZ:Hp oo W (iblk g4 44 [.slice none 0 0]::((m.its (.slice VB (lA.length+l.length) vb) (lA++l) vS lS++fit (.slice GC P.length ge) P)++_)) w8:=(Hp.call (a:=[]) kF hH).perm (pm7 _ _ (m.its (.slice VB (lA.length+l.length) vb) (lA++l) vS lS) (fit (.slice GA 1 gc) [(⟨0,[],0⟩,.slice none 0 0)]) (fit (.slice GB 1 gd) [(⟨0,[],0⟩,.slice none 0 0)]) (fit (.slice GC P.length ge) P));have q4:=(jZ.blk 0 rfl).frozen 0;have q5:=(jZ.blk 0 rfl).cell 0;simp only[List.getElem?_cons_zero]at q5;have ou:=jZ.set 0 rfl 0 (.slice GC P.length ge);have q6:=(ou.blk 0 rfl).cell 0;simp only[List.getElem?_cons_zero,List.set_cons_zero]at q6;clear kF jZ hH hP HG;go_wp2_with fail;refine bodyPost_ret (v:=.agg #[.slice GC P.length ge]) zu7 rfl ?_;refine⟨.slice GC P.length ge,P,.slice VB (lA.length+l.length) vb,HP.out.trans (by rw[HF.out]),rfl,?_⟩;rw[HA.out];exact Hp.sub ou.tail
end Nf
namespace Nf
open Go.RowKit Go.Shelf
open Pa (F Nd Tx)
open Fm (G Gt GV gts fit flT Forms)
theorem vkid_of {ns:List Nk} {f:Nat} {c:Bool} {k:Int} (hv:Pa.VN ns f c k) (hw:WfP ns f k):VKid ns k:=by
 cases f with
 | zero=>exact hv.elim
 | succ f =>
   obtain⟨j,m,e,hm,hF,-⟩:=vn_at hv hw;exact⟨j,m,e,hm,hF.lo⟩
theorem tree_len1 {ns:List Nk} {f:Nat} {c:Bool} {k:Int} (hv:Pa.VN ns f c k):(Pa.treeN ns f k).len=1:=by
 cases f with
 | zero=>exact hv.elim
 | succ f =>
   obtain⟨n,hn,-⟩:=hv;rw[Pa.treeN_in hn];rfl
theorem cond_any {L:Look} {ix:Ix} {w0:World} {m:Mks} (kB:Knw L ix m.S m.T m.nodes) (bk:∀n∈m.nodes,n.kids.length≤1000):∀(f:Nat) (a:Int),Pa.VN m.nodes f true a→WfP m.nodes f a→Pf L (Pa.treeN m.nodes f a)→Two L ix (Pa.treeN m.nodes f a)→(Pa.treeN m.nodes f a).size≤250→CondP w0 L ix m (Pa.treeN m.nodes f a) a:=by
 intro f
 induction f with
 | zero=>intro a h;exact h.elim
 | succ f ih =>
   intro a hv hw hP hT hs;obtain⟨i,n,rfl,hn,hF,bz⟩:=vn_at hv hw;have d':∀k∈n.kids,Pa.VN m.nodes f (decide (n.kind≤5)) k:=fun k hk=>(bz k hk).1;have gC:Pa.treeN m.nodes (f+1) (i:Int)=.cons (ndOf n) (F.cat (n.kids.map (Pa.treeN m.nodes f))) .nil:=Pa.treeN_in zy5;have h0:=hF.lo;have aw:(ndOf n).kind=5↔n.kind=5:=by show n.kind.toNat=5↔_;omega
   have wu:=hP;have pU:=hT;have hs':=hs;rw[gC]at wu pU hs';have aD:(F.cat (n.kids.map (Pa.treeN m.nodes f))).len=n.kids.length:=cat_len d';by_cases h5:n.kind=5
   ·have jQ:∀k∈n.kids,Pa.VN m.nodes f true k:=fun k hk=>by have:=d' k hk;rwa[decide_eq_true om]at this
    rcases wu.1 with⟨-,p1,p2,p3⟩|e
    ·have t3:Two L ix (F.cat (n.kids.map (Pa.treeN m.nodes f))):=by
      rcases pU.1 with q|q
      ·exact q.2
      ·exact absurd (aw.2 h5) q.1
     have bu:(F.cat (n.kids.map (Pa.treeN m.nodes f))).size≤249:=by rw[F.size]at hs';omega
     refine cond_gate i n hn h5 (bk n (List.mem_of_getElem? hn)) (fun k hk=>ih k (jQ k hk) (bz k hk).2 (pf_cat p3 k hk) (two_cat t3 k hk) ?_) p1 (by rw[aD]at p2;exact p2) p3 t3 (fun k hk=>tree_len1 (d' k hk)) aD bu;have:=size_cat (t:=Pa.treeN m.nodes f) k hk;omega
    ·have:=e.kind.1;rw[aw.2 h5]at this;omega
   ·rcases wu.1 with⟨e,-⟩|e
    ·exact absurd (aw.1 e) h5
    ·have lw:=zcb d';have lg:(atP L ix (ndOf n) (zaf m.nodes n.kids)).length=1∨(atP L ix (ndOf n) (zaf m.nodes n.kids)).length=2:=by
      rcases pU.1 with q|q
      ·exact absurd (aw.1 q.1) h5
      ·have:=q.2;rw[lw]at this;exact this
     rw[lw]at e;exact cond_atom kB i n hn h0 h5 (fun k hk=>vkid_of (bz k hk).1 (bz k hk).2) e lw lg
end Nf
namespace Nf
open Go.RowKit Go.Shelf
open Lib (hid)
open Pa (F Nd Tx)
open Fm (G Gt GV gts fit flT Forms)
theorem pm2 {α:Type} (a b:α) (X:List α):(a::b::X).Perm (X++[a,b]):=List.perm_append_comm (l₁:=[a,b]) (l₂:=X)
theorem nsq_app {L:Look} {ix:Ix}:∀(f g:F),nsq L ix (f.app g)=(nsq L ix f).app (nsq L ix g)
 | .nil,_=>rfl
 | .cons x k r,g=>by
   rw[F.app,nsq,nsq];split
   ·exact nsq_app r g
   ·rw[nsq_app r g];rfl
theorem sqs_app {L:Look} {ix:Ix}:∀(f g:F),sqs L ix (f.app g)=sqs L ix f++sqs L ix g
 | .nil,_=>rfl
 | .cons x k r,g=>by rw[F.app,sqs,sqs,sqs_app r g,List.append_assoc]
theorem two_nsq {L:Look} {ix:Ix}:∀{f:F},Two L ix f→Two L ix (nsq L ix f)
 | .nil,_=>trivial
 | .cons x k r,h=>by
   rw[nsq];split
   ·exact two_nsq h.2
   ·exact⟨h.1,two_nsq h.2⟩
theorem sqs_len {L:Look} {ix:Ix}:∀{f:F},Two L ix f→(sqs L ix f).length≤2*f.size
 | .nil,_=>Nat.le_refl _
 | .cons x k r,h=>by
   have h2:=sqs_len h.2;rw[sqs,List.length_append,F.size];rcases h.1 with⟨h5,h1⟩|⟨h5,h1⟩
   ·have:sqB L ix x (vals k)=false:=by unfold sqB;rw[decide_eq_false om,Bool.false_and]
    rw[this];simp;omega
   ·split
    ·omega
    ·simp;omega
theorem node_of {ns:List Nk} {f:Nat} {c:Bool} {k:Int} (hv:Pa.VN ns f c k) (hw:WfP ns f k):∃(j:Nat) (n:Nk),k=(j:Int)∧ns[j]? =some n∧Pa.Fm n c∧(∀x∈n.kids,VKid ns x)∧vals (F.cat (n.kids.map (Pa.treeN ns (f-1))))=zaf ns n.kids∧Pa.treeN ns f k=.cons (ndOf n) (F.cat (n.kids.map (Pa.treeN ns (f-1)))) .nil:=by
 cases f with
 | zero=>exact hv.elim
 | succ f =>
   obtain⟨j,n,rfl,hn,hF,bz⟩:=vn_at hv hw;exact⟨j,n,rfl,hn,hF,fun x hx=>vkid_of (bz x hx).1 (bz x hx).2,zcb fun x hx=>(bz x hx).1,Pa.treeN_in zy5⟩
def TopOut (L:Look) (ix:Ix) (m:Mks) (vA vS:Value) (lA lS sq:List At) (g:F) (W:World) (e:Ending) (w':World):Prop:=∃vg P vA' vS',gts P=fmP L ix g∧e=.returned (.agg #[vg])∧Hp (ow (m.its vA lA vS lS)) W (m.its vA' (lA++ats L ix g) vS' (lS++sq)++fit vg P) w'
theorem fmP_one {L:Look} {ix:Ix} {g:F} (h:g.len=1):fmP L ix g=(frm L ix g).fl 0 0:=by unfold fmP;rw[if_neg om,if_pos h]
theorem fmP_more {L:Look} {ix:Ix} {g:F} (h:2≤g.len):fmP L ix g=(G.cons (g.len:Int) (frm L ix g) .nil).fl 0 0:=by unfold fmP;rw[if_neg om,if_neg om]
theorem fit_nil {o:List Nat} {w W:World} {its:List It} (h:Hp o w its W):Hp o w (its++fit (.slice none 0 0) []) W:=by
 have h1:=h.nilrow 256 3;exact h1.perm (List.perm_append_comm (l₁:=[irow 256 3 (.slice none 0 0) 0 []]) (l₂:=its))
theorem mtop_any {L:Look} {ix:Ix} {w0:World} {m:Mks} (kB:Knw L ix m.S m.T m.nodes) (rD:∀y,FBn (fdOf L y)) (bk:∀n∈m.nodes,n.kids.length≤1000) (f i:Nat) (n:Nk) (hn:m.nodes[i]? =some n)
 (hv:Pa.VN m.nodes (f+1) true (i:Int)) (hw:WfP m.nodes (f+1) (i:Int)) (hP:Pf L (Pa.treeN m.nodes (f+1) (i:Int))) (hT:Two L ix (Pa.treeN m.nodes (f+1) (i:Int))) (hs:(Pa.treeN m.nodes (f+1) (i:Int)).size≤249)
 (vA vS:Value) (W:World) (hW:MkW w0 m vA [] vS [] W) :
 Calls prog 54 #[ptO m.gm,.int .i64 (i:Int)] W fun e w'=>TopOut L ix m vA vS [] [] (topP L ix (ndOf n) (F.cat (n.kids.map (Pa.treeN m.nodes f)))).1 (topP L ix (ndOf n) (F.cat (n.kids.map (Pa.treeN m.nodes f)))).2 W e w':=by
 have gC:Pa.treeN m.nodes (f+1) (i:Int)=.cons (ndOf n) (F.cat (n.kids.map (Pa.treeN m.nodes f))) .nil:=Pa.treeN_in zy5;have j7:=cond_any (w0:=w0) kB bk (f+1) (i:Int) hv hw hP hT om;obtain⟨i',n',e,qE,hF,bz⟩:=vn_at hv hw;obtain rfl:i=i':=om;rw[hn]at qE;obtain rfl:=Option.some.inj qE;clear e qE;have h0:=hF.lo;have d':∀k∈n.kids,Pa.VN m.nodes f (decide (n.kind≤5)) k:=fun k hk=>(bz k hk).1;have lw:=zcb d';have aD:(F.cat (n.kids.map (Pa.treeN m.nodes f))).len=n.kids.length:=cat_len d';have aw:(ndOf n).kind=5↔n.kind=5:=by show n.kind.toNat=5↔_;omega
 have aO:(ndOf n).kind=7↔n.kind=7:=by show n.kind.toNat=7↔_;omega
 rw[gC]at hP hT hs j7;have hvk:∀k∈n.kids,VKid m.nodes k:=fun k hk=>vkid_of (bz k hk).1 (bz k hk).2;have de:n.kind=7→Shp L (ndOf n) (zaf m.nodes n.kids):=fun h7=>by
  rcases hP.1 with⟨e,-⟩|e
  ·have:=aw.1 e;omega
  ·rw[lw]at e;exact e
 obtain⟨ad,KA,kc,jj,aP⟩:=hW.ns.at_ i n hn;have bH:=aP.up hW.b;have HSQ:=hid (fun W' (hb:Below W.heap.size W W')=>msquare_any kB rD vA vS [] [] W' (hW.up hb) zy1 n KA kc (bH.ints.up hb) h0 hvk de);have ay:=(List.getElem?_eq_some_iff.1 hn).1;have aM:(i:Int)<(m.nodes.length:Int):=om;have aL:(0:Int)≤(i:Int):=om;have hp:=(Hp.self hW.s).new 44 [.slice none 0 0];obtain⟨g4,eH⟩:∃g,W.heap.size=g:=⟨_,rfl⟩;rw[eH]at hp;have aC:Below W.heap.size W (W.alloc (.cells #[.slice none 0 0] 44)):=(Below.refl _ _).alloc (Nat.le_refl _) _;obtain⟨sq,i8⟩:∃x,(topP L ix (ndOf n) (F.cat (n.kids.map (Pa.treeN m.nodes f)))).1=x:=⟨_,rfl⟩;obtain⟨g,hg⟩:∃x,(topP L ix (ndOf n) (F.cat (n.kids.map (Pa.treeN m.nodes f)))).2=x:=⟨_,rfl⟩;rw[i8,hg];have js:=hid (show topP L ix (ndOf n) (F.cat (n.kids.map (Pa.treeN m.nodes f)))=(sq,g) by rw[←i8,←hg]);unfold topP at js;rw[lw,aD]at js;have HC:=hid j7;have HP:=hid hP;have HT:=hid hT;have HS:=hid hs;have HK:=hid bz;have HL:=hid aD;have HV:=hid lw;have HF:=hid hF;clear hv hw j7 hP hT hs bz aD lw d' hvk de i8 hg gC hF;go_enter func54,ntmps54;go_upto_region 1 with fail;try simp only[eH]
 have cB:Hp (ow (m.its vA [] vS [])) W (iblk g4 44 [.slice none 0 0]::m.its vA [] vS []) (W.alloc (.cells #[.slice none 0 0] 44)):=hp;clear hp;generalize W.alloc (.cells #[.slice none 0 0] 44)=W1 at *;have c0:W1.cell? ⟨m.gm,0,none⟩=some (.slice m.NA m.nodes.length m.nc):=(cB.blk 1 rfl).cell 0;rw[jj]at c0;have cm:=bH.up aC;have d0:=cm.kind;have d1:=cm.num;have d2:=cm.name;have d3:=cm.attr;have d4:W1.cell? ⟨(ad.add (i*6)).block,(ad.add (i*6)).off+4,none⟩=some (.slice KA n.kids.length kc):=cm.kids;have d5:=cm.at_;go_upto_region 2 with fail;have bP:=cB.new 68 (ndC n KA kc);obtain⟨g5,fE⟩:∃g,W1.heap.size=g:=⟨_,rfl⟩;rw[fE]at bP;try simp only[fE]
 have ec:Hp (ow (m.its vA [] vS [])) W (iblk g5 68 (ndC n KA kc)::iblk g4 44 [.slice none 0 0]::m.its vA [] vS []) (W1.alloc (.cells #[.int .i64 n.kind,.int .i64 n.num,.string n.name,.string n.attr,.slice KA n.kids.length kc,.int .i64 n.at_] 68)):=bP;have aG:Below W.heap.size W (W1.alloc (.cells #[.int .i64 n.kind,.int .i64 n.num,.string n.name,.string n.attr,.slice KA n.kids.length kc,.int .i64 n.at_] 68)):=aC.trans ((Below.refl _ _).alloc aC.size _);clear bP c0 d0 d1 d2 d3 d4 d5;generalize W1.alloc (.cells #[.int .i64 n.kind,.int .i64 n.num,.string n.name,.string n.attr,.slice KA n.kids.length kc,.int .i64 n.at_] 68)=W2 at *;obtain⟨c0,c1,c2,c3,c4,c5⟩:=Blk.g6 (ec.blk 0 rfl);go_wp2_with fail;refine(HSQ.out W2 aG).mono ?_;rintro e w3 ⟨rfl,vS',hH⟩;clear c0 c1 c2 c3 c4 c5 HSQ;have dF:=Hp.call (a:=m.its vA [] vS []) (ec.perm (pm2 _ _ _)) hH;generalize eM:ow (m.its vA [] vS [])=oo at *;cases hq:sqB L ix (ndOf n) (zaf m.nodes n.kids)with
 | true =>
   rw[hq]at js dF;have kT:=js.out;rw[if_pos rfl]at kT;injection kT with e1 e2;subst e1 e2;have ee:=dF.perm (pm2 _ _ _).symm;have q4:=(ee.blk 1 rfl).frozen 0;have q5:=(ee.blk 1 rfl).cell 0;simp only[List.getElem?_cons_zero]at q5;have fL:=ee.set 1 rfl 0 (.slice none 0 0);have q6:=(fL.blk 1 rfl).cell 0;simp only[List.getElem?_cons_zero,List.set_cons_zero]at q6;have cF:Hp oo W (m.its vA [] vS' ([]++if true=true then atP L ix (ndOf n) (zaf m.nodes n.kids)else[])++fit (.slice none 0 0) []) _:=fit_nil (fL.tail).tail;clear ee fL dF hH ec cB;go_wp2_with fail;refine bodyPost_ret (v:=.agg #[.slice none 0 0]) zyf rfl ?_;exact⟨.slice none 0 0,[],vA,vS',rfl,rfl,by rw[eM];exact cF⟩
 | false =>
   rw[hq]at js dF;rw[if_neg zy0]at js;have ee:Hp oo W (m.its vA [] vS' []++[iblk g5 68 (ndC n KA kc),iblk g4 44 [.slice none 0 0]]) w3:=dF;have qr:MkW w0 m vA [] vS' [] w3:=hW.next (r:=[iblk g5 68 (ndC n KA kc),iblk g4 44 [.slice none 0 0]]) (by rw[eM];exact ee);have fL:=ee.perm (pm2 _ _ _).symm;obtain⟨c0,c1,c2,c3,c4,c5⟩:=Blk.g6 (fL.blk 0 rfl);clear dF hH ec cB;by_cases hA:(ndOf n).kind=5∧(ndOf n).num=n.kids.length
   ·rw[if_pos hA]at js;have kT:=js.out;injection kT with e1 e2;have h5:=aw.1 hA.1;have nF:(n.kind != 5)=false:=by rw[h5];rfl
    have iC:(n.num != (n.kids.length:Int))=false:=by rw[show n.num=_ from hA.2];simp
    have HNL:=hid (show n.num=n.kids.length from hA.2);have HP5:=hid (show Pf L (F.cat (n.kids.map (Pa.treeN m.nodes f))) by
     rcases HP.out.1 with⟨-,-,-,q⟩|q
     ·exact q
     ·have:=q.kind.1;omega)
    have pG:=hid (show Two L ix (F.cat (n.kids.map (Pa.treeN m.nodes f))) by
     rcases HT.out.1 with q|q
     ·exact q.2
     ·exact absurd hA.1 q.1)
    have wB:=hid (show(F.cat (n.kids.map (Pa.treeN m.nodes f))).size≤248 by have:=HS.out;rw[F.size]at this;omega);have HK5:=hid (show∀k∈n.kids,Pa.VN m.nodes f true k∧WfP m.nodes f k from fun k hk=>by have:=HK.out k hk;rwa[decide_eq_true om]at this);have vj:n.kids.length≤1000:=bk n (List.mem_of_getElem? hn);have qi:sqs L ix (F.cat (n.kids.map (Pa.treeN m.nodes f)))=sq:=e1;have hgE:nsq L ix (F.cat (n.kids.map (Pa.treeN m.nodes f)))=g:=e2;have sW:=hid qi;have ry:=hid hgE;obtain⟨i0,cC,bg,aY,bh⟩:=info_parts (show(prog.info? 44).map (fun i=>(i.zero,i.size,i.bytes))=some (some (.agg #[.slice none 0 0]),1,24) by kernel_rfl);clear hA js h5 qi hgE e1 e2 HC HP HT HS HK HL HV ee qr;go_upto_region 8 with fail;clear c0 c1 c2 c3 c4 c5;have cF:Hp oo W (irow 44 1 (.slice none 0 0) 0 []::iblk g5 68 (ndC n KA kc)::iblk g4 44 [.slice none 0 0]::(m.its vA [] vS' []++fIts [])) w3:=by
     have:=fL.nilrow 44 1;show Hp oo W (_::_::_::(m.its vA [] vS' []++[])) w3;rw[List.append_nil];exact this
    clear fL;go_loopg [6,37] n.kids.length (fun mm s6 s37 wx=>∃(j:Nat) (X:List (Value×List GV)) (vl vA' jJ:Value),j≤n.kids.length∧mm=n.kids.length-j∧s6=vl∧s37=.int .i64 (j:Int)∧X.length≤j∧Hid (X.map (fun x=>gts x.2)=flT (frm L ix (nsq L ix (F.cat ((n.kids.take j).map (Pa.treeN m.nodes f))))))∧Hp oo W (irow 44 1 vl X.length (X.map Prod.fst)::iblk g5 68 (ndC n KA kc)::iblk g4 44 [.slice none 0 0]::(m.its vA' (ats L ix (nsq L ix (F.cat ((n.kids.take j).map (Pa.treeN m.nodes f))))) jJ (sqs L ix (F.cat ((n.kids.take j).map (Pa.treeN m.nodes f))))++fIts X)) wx);case atStart=>exact⟨0,[],_,vA,vS',Nat.zero_le _,rfl,rfl,rfl,Nat.zero_le _,hid rfl,cF⟩
    case round =>
     obtain⟨j,X,vl,vA',jJ,hj,rfl,rfl,rfl,hXl,HX,hM⟩:=hrel;clear cF;by_cases aW:j<n.kids.length
     ·have bX:(j:Int)<(n.kids.length:Int):=om;have bT:(0:Int)≤(j:Int):=om;obtain⟨k,hk⟩:∃k,n.kids[j]? =some k:=⟨_,List.getElem?_eq_getElem aW⟩;have dZ:=List.mem_of_getElem? hk;have aA:=hM.perm (pm3 _ _ _ _ _);have kI:MkW w0 m vA' (ats L ix (nsq L ix (F.cat ((n.kids.take j).map (Pa.treeN m.nodes f))))) jJ (sqs L ix (F.cat ((n.kids.take j).map (Pa.treeN m.nodes f)))) wr:=hW.next (by rw[eM];exact aA);obtain⟨ka,rfl,kk⟩:=(aP.ints.up kI.b).at_ j k hk;obtain⟨d',t8⟩:=HK5.out k dZ;have jp:=cat_take (ns:=m.nodes) (f:=f) hk;have n6:=pf_cat HP5.out k dZ;have cZ:=two_cat pG.out k dZ;have hsk:(Pa.treeN m.nodes f k).size≤248:=by have:=size_cat (t:=Pa.treeN m.nodes f) k dZ;have:=wB.out;omega
      have fk:=cat_part (ns:=m.nodes) (f:=f) n.kids j;have lk:=pG.out;have uO:=wB.out;rw[fk]at lk uO;rw[size_app]at uO;have lk:=(two_app lk).1;have dt:(ats L ix (nsq L ix (F.cat ((n.kids.take j).map (Pa.treeN m.nodes f))))).length≤496:=by
       have a1:=ats_len (two_nsq lk);have a2:=(nsq_size (L:=L) (ix:=ix) (F.cat ((n.kids.take j).map (Pa.treeN m.nodes f)))).1;omega
      have sd:(sqs L ix (F.cat ((n.kids.take j).map (Pa.treeN m.nodes f)))).length≤496:=by
       have a1:=sqs_len lk;omega
      have nP:=hid (cond_any (w0:=w0) kB bk f k d' t8 n6 cZ om);have ko:=tree_len1 d';obtain⟨jk,nk,hjk,ft,iq,oG,mh,mT⟩:=node_of d' t8;subst hjk;have gJ:=iq.lo;have pS:nk.kind=7→Shp L (ndOf nk) (zaf m.nodes nk.kids):=fun h7=>by
       have h9:=n6;rw[mT]at h9;rcases h9.1 with⟨e,-⟩|e
       ·have:nk.kind.toNat=5:=e;omega
       ·rw[mh]at e;exact e
      obtain⟨adk,KB,kbc,hNB,wX⟩:=hW.ns.at_ jk nk ft;obtain rfl:=Option.some.inj (jj.symm.trans hNB);have mw:=wX.up kI.b;have hjkl:=(List.getElem?_eq_some_iff.1 ft).1;have tJ:(jk:Int)<(m.nodes.length:Int):=om;have hj90:(0:Int)≤(jk:Int):=om;have re:=hid (msquare_any kB rD vA' jJ _ _ wr kI om nk KB kbc mw.ints gJ oG pS);have d0:=mw.kind;have d1:=mw.num;have d2:=mw.name;have d3:=mw.attr;have d4:wr.cell? ⟨(ad.add (jk*6)).block,(ad.add (jk*6)).off+4,none⟩=some (.slice KB nk.kids.length kbc):=mw.kids;have d5:=mw.at_;have m0:wr.cell? ⟨m.gm,0,none⟩=some (.slice m.NA m.nodes.length m.nc):=(hM.blk 3 rfl).cell 0;rw[jj]at m0;have HNS:=hid (show nsq L ix (Pa.treeN m.nodes f (jk:Int))=(if sqB L ix (ndOf nk) (zaf m.nodes nk.kids)then .nil else Pa.treeN m.nodes f (jk:Int))∧sqs L ix (Pa.treeN m.nodes f (jk:Int))=(if sqB L ix (ndOf nk) (zaf m.nodes nk.kids)then atP L ix (ndOf nk) (zaf m.nodes nk.kids)else[]) by
       rw[mT,nsq,sqs,mh];refine⟨by split<;>rfl,by split<;>simp[sqs]⟩)
      clear hk n6 cZ fk lk uO d' t8 iq oG mh mT pS ft hNB;go_wp2_with fail;refine re.out.mono ?_;rintro e w4 ⟨rfl,qZ,hH⟩;have az:=Hp.call (a:=m.its vA' (ats L ix (nsq L ix (F.cat ((n.kids.take j).map (Pa.treeN m.nodes f))))) jJ (sqs L ix (F.cat ((n.kids.take j).map (Pa.treeN m.nodes f))))) aA hH;obtain⟨gX,kG⟩:=HNS.out;clear hH HNS re d0 d1 d2 d3 d4 d5 m0 hM aA kI;cases hqk:sqB L ix (ndOf nk) (zaf m.nodes nk.kids)with
      | true =>
        rw[hqk,if_pos rfl]at gX kG az;have aR:=az.perm (pm3 _ _ _ _ _).symm;have kR:Hid (X.map (fun x=>gts x.2)=flT (frm L ix (nsq L ix (F.cat ((n.kids.take (j+1)).map (Pa.treeN m.nodes f)))))):=by rw[jp,nsq_app,gX,F.app_nil];exact HX
        clear az nP ko dt sd;go_wp2_with fail;go_roundg (n.kids.length-(j+1));case measure=>omega
        case rel =>
         refine⟨j+1,X,_,vA',qZ,by omega,rfl,rfl,by first|rfl|simp,by omega,kR,?_⟩;rw[jp,nsq_app,gX,F.app_nil,sqs_app,kG];exact aR
      | false =>
        rw[hqk,if_neg zy0]at gX kG az;rw[List.append_nil]at az;have pk:MkW w0 m vA' (ats L ix (nsq L ix (F.cat ((n.kids.take j).map (Pa.treeN m.nodes f))))) qZ (sqs L ix (F.cat ((n.kids.take j).map (Pa.treeN m.nodes f)))) w4:=hW.next (by rw[eM];exact az);have HC4:=hid (nP.out vA' qZ _ _ w4 pk om);clear pk nP;go_wp2_with fail;refine HC4.out.mono ?_;rintro e w5 ⟨vg,P,kA,hP,rfl,wj⟩;have bn:=(Hp.call (a:=m.its vA' (ats L ix (nsq L ix (F.cat ((n.kids.take j).map (Pa.treeN m.nodes f))))) qZ (sqs L ix (F.cat ((n.kids.take j).map (Pa.treeN m.nodes f))))) az wj).perm (pm4 _ _ _ _ _ _);have qD:w5.ownsRow 0 256 3 vg P.length (Fm.gcells P):=wj.sep.ok (irow 256 3 vg P.length (Fm.gcells P)) zy1;obtain⟨GA,gc,rfl⟩:=zab qD;obtain⟨VA,vc,rfl⟩:=zab (bn.row 0 rfl);have hXb:X.length≤1000:=om;have kR:Hid ((X++[(Value.slice GA P.length gc,P)]).map (fun x=>gts x.2)=flT (frm L ix (nsq L ix (F.cat ((n.kids.take (j+1)).map (Pa.treeN m.nodes f)))))):=hid (by
         rw[List.map_append,HX.out,jp,nsq_app,gX,frm_app,Fm.flT_app];show _++[gts P]=_;rw[hP];congr 1;exact(flT_one ko).symm)
        clear qD wj az HC4 hP dt sd ko;go_wp2_with (at_builtin;refine zac rfl _ _ 198 rfl 0 44 i0 _ 1 24 underlying198 cC bg aY bh rfl zy0 _ X.length (X.map Prod.fst) rfl ((bn.alloc _).row 0 rfl) ⟨w5.heap.size,0,none⟩ 1 1 [.slice GA P.length gc] rfl rfl (Fm.new1' _ _ _) (by intro u hu;simp at hu;rcases hu with rfl;rfl) zy0 zy2 om (Nat.zero_le _) ?_;intro v' w6 af ai aH;have bE:=(bn.alloc (.cells #[.slice GA P.length gc] 44)).grown 0 rfl af ai aH;obtain⟨VB,vb,rfl⟩:=zab af;clear af ai aH);go_roundg (n.kids.length-(j+1));case measure=>omega
        case rel =>
         refine⟨j+1,X++[(.slice GA P.length gc,P)],_,kA,qZ,by omega,rfl,rfl,by first|rfl|simp,by simp;omega,kR,?_⟩;rw[jp,nsq_app,gX,ats_app,sqs_app,kG,List.append_nil,fIts_snoc,List.map_append,List.length_append];exact bE
     ·have dD:j=n.kids.length:=om;have bX:¬(j:Int)<(n.kids.length:Int):=om;have cZ:n.kids.take j=n.kids:=List.take_of_length_le om;rw[cZ,ry.out]at HX hM;rw[sW.out]at hM;obtain⟨VA,vc,rfl⟩:=zab (hM.row 0 rfl);have gu:X.length=g.len:=by
       have h1:=congrArg List.length HX.out;rw[List.length_map,Fm.flT_len,zch]at h1;exact h1
      have hXb:X.length≤1000:=om;clear dD cZ aW hj;have oM:Pf L g:=by rw[←ry.out];exact nsq_pf HP5.out
      have rQ:Two L ix g:=by rw[←ry.out];exact two_nsq pG.out
      have cI:=(frm_ok oM rQ).1;have eE:(frm L ix g).size≤250:=by
       have h1:=pf_size (ix:=ix) oM;have h2:=(nsq_size (L:=L) (ix:=ix) (F.cat (n.kids.map (Pa.treeN m.nodes f)))).1;have h3:=wB.out;rw[ry.out]at h2;omega
      have q4:=(hM.blk 2 rfl).frozen 0;have q5:=(hM.blk 2 rfl).cell 0;simp only[List.getElem?_cons_zero]at q5;by_cases x0:X.length=0
      ·have x0b:((X.length:Int)==0)=true:=by rw[x0];rfl
       have hg0:g=.nil:=by
        cases g with
        | nil=>rfl
        | cons _ _ _=>rw[x0]at gu;simp[F.len]at gu
       have az:=hM.set 2 rfl 0 (.slice none 0 0);have q6:=(az.blk 2 rfl).cell 0;simp only[List.getElem?_cons_zero,List.set_cons_zero]at q6;have aR:Hp oo W (m.its vA' (ats L ix g) jJ sq++fit (.slice none 0 0) []) _:=fit_nil (Hp.sub ((az.tail).tail).tail);have HG0:=hid hg0;clear hM az x0 gu cI eE oM rQ hg0;go_wp2_with fail;refine bodyPost_ret (v:=.agg #[.slice none 0 0]) zyf rfl ?_;exact⟨.slice none 0 0,[],vA',jJ,by rw[HG0.out];rfl,rfl,by rw[eM];exact aR⟩
      ·have x0b:((X.length:Int)==0)=false:=by rw[beq_eq_false_iff_ne];omega
       by_cases x1:X.length=1
       ·have x1b:((X.length:Int)==1)=true:=by rw[x1];rfl
        obtain⟨⟨xv,xP⟩,rE⟩:=List.length_eq_one_iff.1 x1;obtain⟨gl,capl,hv9,-⟩:=zak (hM.row 0 rfl) om;injection hv9 with lU fR hv3;subst lU;have iB:=(hM.row 0 rfl).cells rfl 0 xv (by rw[rE];rfl);have h01:(0:Int)<(X.length:Int):=om;have rA:fIts X=fit xv xP:=by rw[rE];simp[fIts]
        rw[rA]at hM;obtain⟨GA,gc,rfl⟩:=zab (show wr.ownsRow 0 256 3 xv xP.length (Fm.gcells xP)from hM.sep.ok (irow 256 3 xv xP.length (Fm.gcells xP)) zy1);have el:gts xP=fmP L ix g:=by
         have h9:=HX.out;rw[rE,flT_one om]at h9;rw[fmP_one om];simpa using h9
        have az:=hM.set 2 rfl 0 (.slice GA xP.length gc);have q6:=(az.blk 2 rfl).cell 0;simp only[List.getElem?_cons_zero,List.set_cons_zero]at q6;have aR:Hp oo W (m.its vA' (ats L ix g) jJ sq++fit (.slice GA xP.length gc) xP) _:=((az.tail).tail).tail;have HG1:=hid el;have hxr0:wr.cell? ⟨gl,0,none⟩=some (.slice GA xP.length gc):=iB;clear hM az x0 x1 gu cI eE oM rQ el rE iB rA HX;go_wp2_with fail;refine bodyPost_ret (v:=.agg #[.slice GA xP.length gc]) zyf rfl ?_;exact⟨.slice GA xP.length gc,xP,vA',jJ,HG1.out,rfl,by rw[eM];exact aR⟩
       ·have x1b:((X.length:Int)==1)=false:=by rw[beq_eq_false_iff_ne];omega
        have jH:=forms_of (hM.row 0 rfl) (fun x hx=>hM.sep.ok x zu5);rw[HX.out]at jH;have dX:=zch (L:=L) (ix:=ix) g;have HG:=hid (mgate_any VA vc _ cI om eE (X.length:Int) om om wr jH);rw[dX,←gu]at HG;have lF:=hid (show fmP L ix g=(G.cons (X.length:Int) (frm L ix g) .nil).fl 0 0 by rw[fmP_more om,gu]);clear x0 x1 gu cI eE oM rQ dX jH HX;go_wp2_with fail;refine HG.out.mono ?_;rintro e w5 ⟨vg,P,hP,rfl,hH⟩;obtain⟨GA,gc,rfl⟩:=zab (hH.row 0 rfl);have az:=(Hp.call (a:=[]) hM hH).perm (pm5 _ _ _ _ _ _);have kq:=hid hP;clear q4 q5;have q4:=(az.blk 0 rfl).frozen 0;have q5:=(az.blk 0 rfl).cell 0;simp only[List.getElem?_cons_zero]at q5;have bn:=az.set 0 rfl 0 (.slice GA P.length gc);have q6:=(bn.blk 0 rfl).cell 0;simp only[List.getElem?_cons_zero,List.set_cons_zero]at q6;clear az hM hH HG hP;go_wp2_with fail;refine bodyPost_ret (v:=.agg #[.slice GA P.length gc]) zyf rfl ?_;exact⟨.slice GA P.length gc,P,vA',jJ,kq.out.trans lF.out.symm,rfl,by rw[eM];exact Hp.sub bn.tail⟩
   ·rw[if_neg hA]at js;have kT:=js.out;injection kT with e1 e2;subst e1 e2;have fI:=hid (HC.out vA vS' [] [] w3 qr (by have:=HS.out;simp only[List.length_nil];omega));have fin:(Calls prog 114 #[ptO m.gm,.int .i64 (i:Int)] w3 fun e w'=>∃GA gc P vA',gts P=(frm L ix (F.cons (ndOf n) (F.cat (n.kids.map (Pa.treeN m.nodes f))) .nil)).fl 0 0∧e=.returned (.agg #[.slice GA P.length gc])∧Hp oo W (iblk g5 68 (ndC n KA kc)::iblk g4 44 [.slice none 0 0]::(m.its vA' (ats L ix (F.cons (ndOf n) (F.cat (n.kids.map (Pa.treeN m.nodes f))) .nil)) vS' []++fit (.slice GA P.length gc) P)) w'):=by
     refine fI.out.mono ?_;rintro e w4 ⟨vg,P,kA,hP,rfl,hH⟩;obtain⟨GA,gc,rfl⟩:=zab (show w4.ownsRow 0 256 3 vg P.length (Fm.gcells P)from hH.sep.ok (irow 256 3 vg P.length (Fm.gcells P)) zy1);exact⟨GA,gc,P,kA,hP,rfl,(Hp.call (a:=m.its vA [] vS' []) ee hH).perm (pm2 _ _ _).symm⟩
    have HFN:=hid fin;clear fin fI HC ee;by_cases h5:n.kind=5
    ·have nF:(n.kind != 5)=false:=by rw[h5];rfl
     have iC:(n.num != (n.kids.length:Int))=true:=by rw[bne_iff_ne];exact fun h=>hA ⟨aw.2 h5,h⟩
     exact zt11
    ·have nF:(n.kind != 5)=true:=by rw[bne_iff_ne];exact h5
     exact zt11
end Nf
namespace Nf
open Go.RowKit Go.Shelf
open Lib (hid)
open Pa (F Nd)
theorem tree_ev {p:Nd→Prop} (ns:List Nk) (h:∀n∈ns,p (ndOf n)):∀f a,(Pa.treeN ns f a).Ev p
 | 0,a=>trivial
 | f+1,a=>by
   cases hn:ns[a.toNat]? with
   | none=>rw[Pa.treeN,hn];trivial
   | some n =>
     rw[Pa.treeN_in hn];refine⟨h n (List.mem_of_getElem? hn),F.ev_cat fun f9 hf=>?_,trivial⟩;obtain⟨k,-,rfl⟩:=List.mem_map.1 hf;exact tree_ev ns h f k
def shortNd (x:Nd):Prop:=x.name.length≤1000000∧x.attr.length≤1000000
theorem out_size {S:List Sm} {d:Po} (hc:checkP d=0):(nrm (lookS S d.uses) (treeD d) false).size≤2048:=by
 have h1:=zcq (lookS S d.uses) (treeD d) false;have h2:(treeD d).size=d.nodes.length:=Go.Proofs.YtekkapgknohadaaGreatDoor.tree_size hc;have h3:=(Pa.check_ck hc).nodes;omega
theorem out_pbd {S:List Sm} {d:Po} (hB:PBd d) (hc:checkP d=0):PBd (outP S d):=by
 have hs:=out_size (S:=S) hc;have ut:(nrm (lookS S d.uses) (treeD d) false).Ev shortNd:=nrm_ev (fun k n=>⟨by simp,by simp⟩) false (tree_ev d.nodes (fun n hn=>⟨by show(tl n.name).length≤_;rw[zad];exact(hB.ns n hn).name,by show(tl n.attr).length≤_;rw[zad];exact(hB.ns n hn).attr⟩) 32 d.root);refine⟨hB.name,hB.scope,hB.escrow,hB.ul,hB.rl,?_,hB.us,hB.rv,fun n hn=>?_⟩
 ·show((F.num 0 _).map nkOf).length≤_;rw[List.length_map,F.num_len];omega
 ·obtain⟨x,hx,rfl⟩:=List.mem_map.1 (show n∈(F.num 0 _).map nkOf from hn);have h1:=F.ev_num _ 0 ut x hx;have h2:=F.num_kids _ 0 x hx;refine⟨?_,?_,?_⟩
  ·show(bs x.1.name).size≤_;rw[←zad,tl_bs];exact h1.1
  ·show(bs x.1.attr).size≤_;rw[←zad,tl_bs];exact h1.2
  ·show(x.2.map fun(n:Nat)=>(n:Int)).length≤_;rw[List.length_map];omega
theorem keyP {W:World} {g:Nat} {t:TypeId} {a b c d e f i j:Value} (h:Blk W g t [a,b,c,d,e,f,i,j]):W.cell? ⟨g,1,none⟩=some b∧W.cell? ⟨g,2,none⟩=some c:=⟨h.cell 1,h.cell 2⟩
def NOut (o:Option Po) (e:Ending) (w':World):Prop:=match o with
 | some n=>∃L,e=.returned (.tuple #[polV n L,.int .i64 0])∧PolM w' n L
 | none=>∃y:Int,e=.returned (.tuple #[polV zPo ⟨none,0,none,0,none,0⟩,.int .i64 y])∧y≠0
theorem built_maker (s1 s2 s3:ByteArray) (A1 A2 A3 A4:Option Addr) (n1 n2 n3 n4 c1 c2 c3 c4:Nat) (i1 i2:Int):prog.built 93 [(0,.agg #[.string s1,.slice A1 n1 c1,.slice A2 n2 c2,.slice A3 n3 c3,.int .i64 i1,.string s2,.int .i64 i2,.string s3]),(1,.slice A4 n4 c4)]=some #[.string s1,.slice A1 n1 c1,.slice A2 n2 c2,.slice A3 n3 c3,.int .i64 i1,.string s2,.int .i64 i2,.string s3,.slice A4 n4 c4]:=kr
theorem iface_form {B:Nat} {W:World} {x:Nd} {ks r:F} {v:Value} {us:List Value} (h:CvM B W (.cons x ks r) (v::us)):(x.kind=5∧∃pl,v=.iface 237 pl)∨(x.kind≠5∧∃pl,v=.iface 235 pl):=by
 obtain⟨v',us',e,-,h3⟩:=h;injection e with e1 _;subst e1;by_cases h5:x.kind=5
 ·rw[if_pos h5]at h3;obtain⟨-,A2,c2,ws2,e,-⟩:=h3;exact .inl ⟨h5,_,e⟩
 ·rw[if_neg h5]at h3;obtain⟨-,A2,c2,e,-⟩:=h3;exact .inr ⟨h5,_,e⟩
theorem out_polm {S:List Sm} {d:Po} {o:List Nat} {w W:World} {UA RA NA:Option Addr} {uc rc nc:Nat} {Q:List NV} {x y z:It} (hQ:Q.map Prod.fst=(nrm (lookS S d.uses) (treeD d) false).num 0) (h:Hp o w (([irow 89 2 (.slice RA d.reveal.length rc) d.reveal.length (zas d.reveal),irow 50 2 (.slice UA d.uses.length uc) d.uses.length (zas d.uses),x,y,z,inodes (.slice NA Q.length nc) Q])++krows Q) W):PolM W (outP S d) ⟨UA,uc,RA,rc,NA,nc⟩:=by
 refine⟨bprs_row (h.row 1 rfl),bprs_row (h.row 0 rfl),?_⟩;have h1:=nks_row (h.row 5 rfl) (krows_row h);have e:(Q.map fun x=>nkOf x.1)=(outP S d).nodes:=by
  show _=((nrm (lookS S d.uses) (treeD d) false).num 0).map nkOf;rw[←hQ,List.map_map];rfl
 rw[e]at h1;exact h1
theorem of_pol {d:Po} {L:Lp} {A:Option Addr} {c:Nat} {S:List Sm} {w0:World} (E:Env0 w0 d L A c S) (w:World) (h0:Below w0.heap.size w0 w) :
 Calls prog 9 #[polV d L,.slice A S.length c] w fun e w'=>NOut (ofP chkB S d) e w'∧Below w.heap.size w w':=by
 have hk:=((Hp.start w).new 29 (polcs d L)).new 29 zPl;obtain⟨gp,hg⟩:∃g,w.heap.size=g:=⟨_,rfl⟩;obtain⟨gr,hr⟩:∃g,gp+1=g:=⟨_,rfl⟩;simp only[sizeA,hg]at hk;have dj:=hid (fun W hW=>tcheck_any E W hW);have HE:=hid E;obtain⟨O,hO⟩:∃o,ofP chkB S d=o:=⟨_,rfl⟩;rw[hO];have HO:=hid hO;obtain⟨T,hT⟩:∃t,za4 chkB S d=t:=⟨_,rfl⟩;rw[hT]at dj;have HT:=hid hT;have cV:=built_maker;clear hO hT E;go_enter func9,ntmps9;go_upto_region 1 with fail;try simp only[hg]
 simp only[hr]at hk ⊢;have an:Hp [] w [iblk gr 29 zPl,iblk gp 29 (polcs d L)] ((w.alloc (.cells #[.string d.name,.slice L.ua d.uses.length L.uc,.slice L.ra d.reveal.length L.rc,.slice L.na d.nodes.length L.nc,.int .i64 d.root,.string d.scope,.int .i64 d.limit,.string d.escrow] 29)).alloc (.cells zPl.toArray 29)):=hk;generalize hW:(w.alloc (.cells #[.string d.name,.slice L.ua d.uses.length L.uc,.slice L.ra d.reveal.length L.rc,.slice L.na d.nodes.length L.nc,.int .i64 d.root,.string d.scope,.int .i64 d.limit,.string d.escrow] 29)).alloc (.cells zPl.toArray 29)=W1 at *;clear hk hW;obtain⟨c0,c1,c2,c3,c4,c5,c6,c7⟩:=(an.blk 1 rfl).get8;have HC:=hid (dj.out W1 (h0.trans (an.below0.mono h0.size)));clear dj;go_wp2_with fail;refine HC.out.mono ?_;rintro e w2 ⟨⟨x,y,rfl,hy⟩,aG⟩;have ah:=an.next aG;clear HC an aG c0 c1 c2 c3 c4 c5 c6 c7;cases T with
 | false =>
   have sU:y≠0:=fun e=>by simpa using hy.1 e
   have dE:(y != 0)=true:=by simpa using sU
   have HY:=hid sU;have HF:Hid (O=none):=hid (by rw[←HO.out,ofP,if_neg (fun e=>by rw[HT.out]at e;cases e.1)]);clear hy sU;go_wp2_with (refine wpList_store_row rfl 29 (.tmp 4) (.tmp 18) rfl gr zPl.toArray rfl rfl 29 zPl.toArray (ah.blk 0 rfl) kr kr kr ?_);have aj:=ah.rowAt 0 rfl zPl;obtain⟨m0,m1,m2,m3,m4,m5,m6,m7⟩:=(aj.blk 0 rfl).get8;refine bodyPost_ret (v:=.tuple #[polV zPo ⟨none,0,none,0,none,0⟩,.int .i64 y]) zul rfl ?_;rw[HF.out];have hb:=aj.below0;exact⟨⟨y,rfl,HY.out⟩,by first|exact hb|(subst hg;exact hb)⟩
 | true =>
   obtain rfl:y=0:=hy.2 rfl;clear hy;have mU:=HT.out;unfold za4 at mU;simp only[Bool.and_eq_true]at mU;have hR:=mU.1.1;have eO:checkP d=0:=by have:=hR;unfold zah at this;simp only[Bool.and_eq_true,decide_eq_true_eq]at this;exact this.1.1.1
   have hE:=HE.out.env hR;have bu:(Pa.treeN d.nodes 32 d.root).size≤2000:=by have h1:=Go.Proofs.YtekkapgknohadaaGreatDoor.tree_size eO;have h3:=(Pa.check_ck eO).nodes;omega
   have HN:=hid (fun W hW B hB=>mnorm_any hE hR 32 d.root (Pa.tree_vn eO) (tree_wf (za5 eO)) mU.2 bu false W hW B hB);have HPB:=hid (out_pbd (S:=S) HE.out.pd eO);have im:=hid (out_size (S:=S) eO);have ew:Hid ((nrm (lookS S d.uses) (treeD d) false).len=1):=hid (by
    have hv:=Pa.tree_vn eO;have hl:(treeD d).len=1:=by
     exact zt37
    rw[(nrm_nf (L:=lookS S d.uses) false mU.2 (zco _ _ _ _ hv)).2,hl])
   have wo:Hid (O=if checkP (outP S d)=0 then some (outP S d)else none):=hid (by
    rw[←HO.out,ofP];by_cases h9:checkP (outP S d)=0
    ·rw[if_pos ⟨HT.out,h9⟩,if_pos h9]
    ·rw[if_neg (fun e=>h9 e.2),if_neg h9])
   have HU:=hid (fun W (hW:Prs W L.ua d.uses)=>clone_use L.ua L.uc d.uses W hW HE.out.pd.ul);have HV:=hid (fun W (hW:Prs W L.ra d.reveal)=>clone_ref L.ra L.rc d.reveal W hW HE.out.pd.rl);have oY:=hid (And.intro (HE.out.p.us.up h0) (HE.out.p.rv.up h0));clear mU hR eO hE bu HE HT HO;obtain⟨c0,c1,c2,c3,c4,c5,c6,c7⟩:=(ah.blk 1 rfl).get8;have aj:=ah.new 29 (polcs d L);go_upto_region 5 with fail;have aj:Hp [] w [iblk w2.heap.size 29 (polcs d L),iblk gr 29 zPl,iblk gp 29 (polcs d L)] (w2.alloc (.cells #[.string d.name,.slice L.ua d.uses.length L.uc,.slice L.ra d.reveal.length L.rc,.slice L.na d.nodes.length L.nc,.int .i64 d.root,.string d.scope,.int .i64 d.limit,.string d.escrow] 29)):=aj;generalize w2.alloc (.cells #[.string d.name,.slice L.ua d.uses.length L.uc,.slice L.ra d.reveal.length L.rc,.slice L.na d.nodes.length L.nc,.int .i64 d.root,.string d.scope,.int .i64 d.limit,.string d.escrow] 29)=W3 at *;generalize w2.heap.size=go at *;clear ah c0 c1 c2 c3 c4 c5 c6 c7;have cf:=aj.drew;obtain⟨c0,c1,c2,c3,c4,c5,c6,c7⟩:=(cf.blk 2 rfl).get8;have oI:=(cf.blk 0 rfl).frozen 1;have km:=(cf.blk 0 rfl).frozen 2;have HCU:=hid (HU.out W3.drew (oY.out.1.up cf.below0));go_region_held3 (fun w'=>w'.cell? ⟨gp,1,none⟩=some (.slice L.ua d.uses.length L.uc)∧w'.cell? ⟨gp,2,none⟩=some (.slice L.ra d.reveal.length L.rc)) (first|exact⟨c1,c2⟩|exact⟨p1,p2⟩|exact⟨q1,q2⟩|exact keyP (dC.blk 4 rfl)|exact keyP (iu.blk 4 rfl)) (first|(go_at_call 28;refine HCU.out.mono ?_;rintro e w4 ⟨UA,uc,rfl,hH4⟩;have aq:=Hp.call (a:=[]) cf hH4;obtain⟨p0,p1,p2,-⟩:=(aq.blk 3 rfl).get8;have nh:=HV.out w4 (oY.out.2.up aq.below0))|(go_at_call 29;refine nh.mono ?_;rintro e w5 ⟨RA,gh,rfl,hH5⟩;have aw:=Hp.call (a:=[]) aq hH5;obtain⟨q0,q1,q2,-⟩:=(aw.blk 4 rfl).get8;have f1:=(aw.blk 2 rfl).frozen 1;have e1:=(aw.blk 2 rfl).cell 1;have dC:=aw.set 2 rfl 1 (.slice UA d.uses.length uc);have f2:=(dC.blk 2 rfl).frozen 2;have e2:=(dC.blk 2 rfl).cell 2;have iu:=dC.set 2 rfl 2 (.slice RA d.reveal.length gh)));all_goals
    have aE:Hp [] w [irow 89 2 (.slice RA d.reveal.length gh) d.reveal.length (zas d.reveal),irow 50 2 (.slice UA d.uses.length uc) d.uses.length (zas d.uses),iblk go 29 [.string d.name,.slice UA d.uses.length uc,.slice RA d.reveal.length gh,.slice L.na d.nodes.length L.nc,.int .i64 d.root,.string d.scope,.int .i64 d.limit,.string d.escrow],iblk gr 29 zPl,iblk gp 29 (polcs d L)] ((w5.setCell ⟨go,1,none⟩ (.slice UA d.uses.length uc)).setCell ⟨go,2,none⟩ (.slice RA d.reveal.length gh)):=iu;generalize (w5.setCell ⟨go,1,none⟩ (.slice UA d.uses.length uc)).setCell ⟨go,2,none⟩ (.slice RA d.reveal.length gh)=W6 at *;clear aj cf c0 c1 c2 c3 c4 c5 c6 c7 oI km HCU nh aq aw p0 p1 p2 q0 q1 q2 f1 e1 dC f2 e2 iu HU HV oY;obtain⟨c0,c1,c2,c3,c4,c5,c6,c7⟩:=(aE.blk 4 rfl).get8;have jv:=hid (HN.out W6 (h0.trans (aE.below0.mono h0.size)) W6.heap.size (Nat.le_refl _));have hblm:=built_maker d.name d.scope d.escrow L.ua L.ra L.na A d.uses.length d.reveal.length d.nodes.length S.length L.uc L.rc L.nc c d.root d.limit;clear HN cV;go_wp2_with fail;refine jv.out.mono ?_;rintro e w7 ⟨⟨v,rfl,hv⟩,eK⟩;have aO:=aE.next eK;obtain⟨x9,ks,hF⟩:∃x ks,nrm (lookS S d.uses) (treeD d) false=.cons x ks .nil:=by
     have:=ew.out;cases hn:nrm (lookS S d.uses) (treeD d) false with
     | nil=>rw[hn]at this;cases this
     | cons x k r =>
       rw[hn]at this;cases r with
       | nil=>exact⟨x,k,rfl⟩
       | cons _ _ _=>simp only[F.len]at this;omega
    have fR:CvM W6.heap.size w7 (.cons x9 ks .nil) [v]:=by rw[←hF];exact hv
    have HWR:=hid (CvM.wr fR).1;have bu:([]:List NV).length+(F.cons x9 ks .nil).size≤100000:=by rw[←hF];have:=im.out;simp only[List.length_nil];omega
    have ki:Hp [] w7 (inodes (.slice none 0 0) []::[]) w7:=(Hp.start w7).nilrow 68 6;have sC:=hid hF;have hif:=iface_form fR;clear hv fR jv aE hF c0 c1 c2 c3 c4 c5 c6 c7;rcases hif with⟨h5,pl,rfl⟩|⟨h5,pl,rfl⟩;all_goals
     have HX:=hid (HWR.out _ _ rfl [] (.slice none 0 0) [] w7 bu ki);have H5:=hid h5;clear h5 HWR bu ki;go_wp2_with fail;first|refine(HX.out.1 H5.out).mono ?_|refine(HX.out.2 H5.out).mono ?_
     rintro e w8 ⟨Q,v',hQ,rfl,tI⟩;obtain⟨NA,gZ,rfl⟩:=zab (tI.row 0 rfl);have iA:Q.map Prod.fst=(nrm (lookS S d.uses) (treeD d) false).num 0:=by rw[sC.out];exact hQ
     have aZ:=Hp.call (a:=[]) aO tI;have bc:Hp [] w ([irow 89 2 (.slice RA d.reveal.length gh) d.reveal.length (zas d.reveal),irow 50 2 (.slice UA d.uses.length uc) d.uses.length (zas d.uses),iblk go 29 [.string d.name,.slice UA d.uses.length uc,.slice RA d.reveal.length gh,.slice L.na d.nodes.length L.nc,.int .i64 d.root,.string d.scope,.int .i64 d.limit,.string d.escrow],iblk gr 29 zPl,iblk gp 29 (polcs d L),inodes (.slice NA Q.length gZ) Q]++krows Q) w8:=aZ.perm (by
      rw[List.append_nil];exact(List.perm_append_comm (l₁:=inodes (.slice NA Q.length gZ) Q::krows Q)))
     have f3:=(bc.blk 2 rfl).frozen 3;have e3:=(bc.blk 2 rfl).cell 3;have dC:=bc.set 2 rfl 3 (.slice NA Q.length gZ);have f4:=(dC.blk 2 rfl).frozen 4;have e4:=(dC.blk 2 rfl).cell 4;have iu:=dC.set 2 rfl 4 (.int .i64 0);simp only[List.getElem?_cons_zero,List.getElem?_cons_succ,List.set_cons_succ,List.set_cons_zero]at e3 e4;have qP:=hid iA;clear HX H5 aO aZ tI hQ iA;go_upto_region 7 with fail;have aI:Hp [] w ([irow 89 2 (.slice RA d.reveal.length gh) d.reveal.length (zas d.reveal),irow 50 2 (.slice UA d.uses.length uc) d.uses.length (zas d.uses),iblk go 29 [.string d.name,.slice UA d.uses.length uc,.slice RA d.reveal.length gh,.slice NA Q.length gZ,.int .i64 0,.string d.scope,.int .i64 d.limit,.string d.escrow],iblk gr 29 zPl,iblk gp 29 (polcs d L),inodes (.slice NA Q.length gZ) Q]++krows Q) ((w8.setCell ⟨go,3,none⟩ (.slice NA Q.length gZ)).setCell ⟨go,4,none⟩ (.int .i64 0)):=iu;generalize (w8.setCell ⟨go,3,none⟩ (.slice NA Q.length gZ)).setCell ⟨go,4,none⟩ (.int .i64 0)=W9 at *;clear f3 e3 dC f4 e4 iu bc;have r8:=out_polm qP.out aI;have mb:Hid ((outP S d).nodes.length=Q.length):=hid (by
      show(((nrm (lookS S d.uses) (treeD d) false).num 0).map nkOf).length=_;rw[←qP.out,List.length_map,List.length_map])
     have jD:Hid (Calls prog 26 #[.agg #[.string d.name,.slice UA d.uses.length uc,.slice RA d.reveal.length gh,.slice NA Q.length gZ,.int .i64 0,.string d.scope,.int .i64 d.limit,.string d.escrow]] W9 fun e w'=>e=.returned (.int .i64 (checkP (outP S d)))∧Below W9.heap.size W9 w'):=hid (by
      have h9:=Go.Proofs.YtekkapgknohadaaGreatDoor.pcheck_any (outP S d) ⟨UA,uc,RA,gh,NA,gZ⟩ HPB.out W9 r8;unfold polV at h9;rw[mb.out]at h9;exact h9)
     obtain⟨E9,uX⟩:∃x,checkP (outP S d)=x:=⟨_,rfl⟩;rw[uX]at jD wo;have HEE:=hid uX;clear r8 uX;obtain⟨c0,c1,c2,c3,c4,c5,c6,c7⟩:=(aI.blk 2 rfl).get8;go_wp2_with fail;refine jD.out.mono ?_;rintro e dI ⟨rfl,dq⟩;have aF:=aI.next dq;clear jD aI dq c0 c1 c2 c3 c4 c5 c6 c7;by_cases hz:E9=0
     ·subst hz;obtain⟨c0,c1,c2,c3,c4,c5,c6,c7⟩:=(aF.blk 2 rfl).get8;go_wp2_with (refine wpList_store_row rfl 29 (.tmp 4) (.tmp 44) rfl gr (show List Value from[.string d.name,.slice UA d.uses.length uc,.slice RA d.reveal.length gh,.slice NA Q.length gZ,.int .i64 0,.string d.scope,.int .i64 d.limit,.string d.escrow]).toArray rfl rfl 29 zPl.toArray (aF.blk 3 rfl) kr kr kr ?_);have aB:=aF.rowAt 3 rfl [.string d.name,.slice UA d.uses.length uc,.slice RA d.reveal.length gh,.slice NA Q.length gZ,.int .i64 0,.string d.scope,.int .i64 d.limit,.string d.escrow];obtain⟨m0,m1,m2,m3,m4,m5,m6,m7⟩:=(aB.blk 3 rfl).get8;refine bodyPost_ret (v:=.tuple #[.agg #[.string d.name,.slice UA d.uses.length uc,.slice RA d.reveal.length gh,.slice NA Q.length gZ,.int .i64 0,.string d.scope,.int .i64 d.limit,.string d.escrow],.int .i64 0]) (by simp[results,results9,go_sem,m0,m1,m2,m3,m4,m5,m6,m7]) rfl ?_;rw[wo.out,if_pos trivial];have hb:=aB.below0;refine⟨⟨⟨UA,uc,RA,gh,NA,gZ⟩,?_,out_polm qP.out (by exact aB)⟩,by first|exact hb|(subst hg;exact hb)⟩;unfold polV;rw[mb.out];rfl
     ·have bg:(E9 != 0)=true:=by simpa using hz
      have HZ:=hid hz;clear hz;go_wp2_with (refine wpList_store_row rfl 29 (.tmp 4) (.tmp 42) rfl gr zPl.toArray rfl rfl 29 zPl.toArray (aF.blk 3 rfl) kr kr kr ?_);have aB:=aF.rowAt 3 rfl zPl;obtain⟨m0,m1,m2,m3,m4,m5,m6,m7⟩:=(aB.blk 3 rfl).get8;refine bodyPost_ret (v:=.tuple #[polV zPo ⟨none,0,none,0,none,0⟩,.int .i64 E9]) zul rfl ?_;rw[wo.out,if_neg HZ.out];have hb:=aB.below0;exact⟨⟨E9,rfl,HZ.out⟩,by first|exact hb|(subst hg;exact hb)⟩
end Nf
namespace Nf
open Pa (F Nd Tx leaf)
def refF:F→List Bp
 | .nil=>[]
 | .cons x k r=>(if x.kind=9 then[(bs x.name,bs x.attr)]else[])++(refF k++refF r)
def ddS (acc:List Bp) (r:Bp):List Bp:=if memD r acc then acc else acc++[r]
def dd (l:List Bp):List Bp:=l.foldl ddS []
theorem dd_run:∀(l acc:List Bp),acc.Nodup→(l.foldl ddS acc).Nodup∧(∀r,r∈l.foldl ddS acc↔r∈acc∨r∈l)
 | [],acc,h=>⟨h,fun r=>by simp⟩
 | x::l,acc,h=>by
   have h1:(ddS acc x).Nodup:=by
    unfold ddS;split
    ·exact h
    ·rename_i h2;rw[List.nodup_append];refine⟨h,by simp,?_⟩;intro a ha b hb;rw[List.mem_singleton]at hb;subst hb;rintro rfl;exact h2 (memD_iff.2 ha)
   obtain⟨h2,h3⟩:=dd_run l (ddS acc x) h1;refine⟨h2,fun r=>?_⟩;rw[List.foldl_cons,h3,List.mem_cons];unfold ddS;split
   ·rename_i h4;rw[memD_iff]at h4;constructor
    ·rintro(h5|h5)
     ·exact .inl h5
     ·exact .inr (.inr h5)
    ·rintro(h5|rfl|h5)
     ·exact .inl h5
     ·exact .inl h4
     ·exact .inr h5
   ·rw[List.mem_append,List.mem_singleton,or_assoc]
theorem dd_nodup (l:List Bp):(dd l).Nodup:=(dd_run l [] List.nodup_nil).1
theorem dd_mem {l:List Bp} {r:Bp}:r∈dd l↔r∈l:=by
 rw[dd,(dd_run l [] List.nodup_nil).2];simp
theorem nodup_len {α:Type} [DecidableEq α]:∀(l m:List α),l.Nodup→(∀x∈l,x∈m)→l.length≤m.length
 | [],m,_,_=>Nat.zero_le _
 | x::l,m,h,hm=>by
   rw[List.nodup_cons]at h;have h1:=hm x (List.mem_cons_self ..);have h2:=nodup_len l (m.erase x) h.2 fun y hy=>by
    have h3:=hm y (List.mem_cons_of_mem _ hy);refine(List.mem_erase_of_ne ?_).2 h3;rintro rfl;exact h.1 hy
   rw[List.length_erase_of_mem h1]at h2;have:=List.length_pos_of_mem h1;rw[List.length_cons];omega
theorem refF_len:∀(f:F),(refF f).length≤f.size
 | .nil=>Nat.le_refl _
 | .cons x k r=>by
   have h1:=refF_len k;have h2:=refF_len r;rw[refF,F.size,List.length_append,List.length_append];split
   ·simp;omega
   ·simp;omega
theorem refF_mem {p:Bp→Prop}:∀{f:F},f.Ev (fun x=>x.kind=9→p (bs x.name,bs x.attr))→∀r∈refF f,p r
 | .nil,_,r,h=>by cases h
 | .cons x k r,he,q,h=>by
   rw[refF]at h;rcases List.mem_append.1 h with h|h
   ·split at h
    ·rename_i h9;rw[List.mem_singleton]at h;subst h;exact he.1 h9
    ·cases h
   ·rcases List.mem_append.1 h with h|h
    ·exact refF_mem he.2.1 q h
    ·exact refF_mem he.2.2 q h
theorem ev_refF:∀(f:F) (R:List Bp),(∀r∈refF f,r∈R)→f.Ev (InR R)
 | .nil,R,_=>trivial
 | .cons x k r,R,h=>by
   rw[refF]at h;refine⟨fun h9=>h _ (List.mem_append_left _ ?_),ev_refF k R fun q hq=>h q (List.mem_append_right _ (List.mem_append_left _ hq)),ev_refF r R fun q hq=>h q (List.mem_append_right _ (List.mem_append_right _ hq))⟩;rw[if_pos h9];exact List.mem_singleton.2 rfl
theorem vals_all {p:Nd→Prop}:∀{f:F},Wf false f→(∀x∈vals f,p x)→f.Ev p
 | .nil,_,_=>trivial
 | .cons x k r,hw,h=>by
   have hk:k=.nil:=by
    have h1:=hw.1.2.2.1;have h2:=hw.1.2.2.2.1;rw[decide_eq_false_iff_not]at h1;unfold arity at h2;rw[if_neg om,if_neg om,if_neg om,if_neg om,if_neg om,if_neg om]at h2;cases k with
    | nil=>rfl
    | cons y k2 r2=>simp[F.len]at h2
   subst hk;exact⟨h x (List.mem_cons_self ..),trivial,vals_all hw.2 fun y hy=>h y (List.mem_cons_of_mem _ hy)⟩
theorem typed_refs {L:Look}:∀{f:F},Wf true f→tyF L f=true→f.Ev (fun x=>x.kind=9→(L x).isSome=true)
 | .nil,_,_=>trivial
 | .cons x k r,hw,ht=>by
   rw[tyF,Bool.and_eq_true,Bool.and_eq_true]at ht;have h1:=hw.1.2.2.1;rw[decide_eq_true_eq]at h1;refine⟨fun h9=>absurd h9 om,?_,typed_refs hw.2 ht.2⟩;by_cases h5:x.kind≤5
   ·have h6:=hw.1.2.2.2.2;rw[decide_eq_true h5]at h6;exact typed_refs h6 ht.1.2
   ·have h6:=hw.1.2.2.2.2;rw[decide_eq_false h5]at h6;refine vals_all h6 fun y hy h9=>?_;have h7:=ht.1.1;have h8:(vals k).all (zbd L)=true:=by
     unfold condB at h7;split at h7
     ·rw[Bool.and_eq_true,Bool.and_eq_true]at h7;exact h7.1.1
     ·split at h7
      ·rw[Bool.and_eq_true]at h7;exact h7.1
      ·split at h7
       ·rw[Bool.and_eq_true]at h7;exact h7.1
       ·omega
    have eB:=List.all_eq_true.1 h8 y hy;unfold zbd at eB;rw[zb0 h9]at eB;cases hL:L y with
    | none=>rw[hL]at eB;cases eB
    | some f=>rfl
end Nf
end Go.Proofs.YtekkapgknohadaaGreatDoor
