/- plan: gate; what the maker knows; atoms of a normal form's condition. -/
import Derived.Test.YtekkapgknohadaaGreatDoorM34
import Derived.Test.YtekkapgknohadaaGreatDoorM33
set_option linter.unusedVariables false
set_option maxRecDepth 20000
set_option maxHeartbeats 8000000
open Go.Proofs.Tryz
namespace Go.Proofs.YtekkapgknohadaaGreatDoor
namespace Nf
open Go.RowKit Go.Shelf
open Pa (F Nd Tx)
open Fm (G Gt GV gts fit flT Forms)
theorem mgate_any (A:Option Addr) (c:Nat) (g:G) (ho:g.Ok) (h0:0<g.len) (hs:g.size≤250) (need:Int) (hn1:1≤need) (eW:need≤g.len) (w:World) (hF:Forms w A (flT g)) :
 Calls prog 115 #[.int .i64 need,.slice A g.len c] w fun e w'=>∃vg P,gts P=(G.cons need g .nil).fl 0 0∧e=.returned (.agg #[vg])∧Hp [] w (fit vg P) w':=by
 have HJ:=Lib.hid (fun W (hb:Below w.heap.size w W)=>Fm.join_any A c (flT g) need (Fm.fewj_of ho h0 hs) om (by rw[Fm.flT_len];omega) W (hF.up hb));rw[Fm.flT_len]at HJ;have HT:=Lib.hid (Fm.join_tree h0 need);have hk:=(Hp.start w).new 44 [.slice none 0 0];obtain⟨g4,hg⟩:∃g,w.heap.size=g:=⟨_,rfl⟩;rw[hg]at hk;clear ho h0 hs hn1 eW hF;go_enter func115,ntmps115;go_upto_region 1 with fail;try simp only[hg]
 have an:Hp [] w [iblk g4 44 [.slice none 0 0]] (w.alloc (.cells #[.slice none 0 0] 44)):=hk;clear hk;generalize w.alloc (.cells #[.slice none 0 0] 44)=W1 at *;go_wp2_with fail;refine(HJ.out W1 an.below0).mono ?_;rintro e w2 ⟨vg,P,hP,rfl,hH⟩;have iV:=Lib.hid (hP.trans HT.out);clear hP;obtain⟨GA,gc,rfl⟩:=zab (hH.row 0 rfl);have ah:Hp [] w (iblk g4 44 [.slice none 0 0]::fit (.slice GA P.length gc) P) w2:=(Hp.call (a:=[]) an hH).perm (List.perm_append_comm (l₁:=fit (.slice GA P.length gc) P) (l₂:=[_]));have aj:=ah.new 44 [.slice GA P.length gc];have q4:=(aj.blk 1 rfl).frozen 0;have q5:=(aj.blk 1 rfl).cell 0;simp only[List.getElem?_cons_zero]at q5;have aq:=aj.set 1 rfl 0 (.slice GA P.length gc);have q6:=(aq.blk 1 rfl).cell 0;simp only[List.getElem?_cons_zero,List.set_cons_zero]at q6;have aw:Hp [] w (fit (.slice GA P.length gc) P) _:=(aq.tail).tail;clear an hH HJ HT ah aj aq;go_wp2_with fail;refine bodyPost_ret (v:=.agg #[.slice GA P.length gc]) (by simp[results,results115,go_sem,q6]) rfl ?_;exact⟨_,P,iV.out,rfl,aw⟩
structure Knw (L:Look) (ix:Ix) (S:List (Bp×Value)) (T:List (Nat×List (ByteArray×Value))) (nodes:List Nk):Prop where
 at_:∀n∈nodes,n.kind=9→∃fa fc b tb,((n.name,n.attr),cmV (ix (ndOf n)) (fdOf L (ndOf n)) fa fc b)∈S∧(b,tb)∈T∧∀s∈(fdOf L (ndOf n)).words,(s,Value.int .i64 (idxL s (fdOf L (ndOf n)).words:Int))∈tb
 ok:∀n∈nodes,FBn (fdOf L (ndOf n))
theorem att_num {w:World} (k:Int) (f:Fd) (fa:Option Addr) (fc b:Nat) (nb:Nk) (hk:nb.kind=10) (hf:FBn f) (h1:f.min≤nb.num) (h2:nb.num≤f.max):AttC w k f fa fc b nb (attrP f (ndOf nb)):=by
 intro KA kc W hb;have e:attrP f (ndOf nb)=nb.num-f.min:=by
  have:¬(ndOf nb).kind=11:=by show¬nb.kind.toNat=11;omega
  unfold attrP;rw[if_neg this];rfl
 have:=hf.a;have:=hf.b;rw[e];exact mattr_num k f fa fc b nb KA kc om om om W
theorem att_word {w:World} (k:Int) (f:Fd) (fa:Option Addr) (fc b:Nat) (nb:Nk) (hk:nb.kind=11) (tb:List (ByteArray×Value)) (hT:(imapV wrdM b tb).P w) (hm:nb.name∈f.words) (hx:(nb.name,Value.int .i64 (idxL nb.name f.words:Int))∈tb):AttC w k f fa fc b nb (attrP f (ndOf nb)):=by
 intro KA kc W hb;have e:attrP f (ndOf nb)=(idxL nb.name f.words:Int):=by
  have:(ndOf nb).kind=11:=by show nb.kind.toNat=11;omega
  unfold attrP;rw[if_pos this];show(if memD (bs (tl nb.name)) f.words=true then(idxL (bs (tl nb.name)) f.words:Int)else 0)=_;rw[bs_tl,if_pos (memD_iff.2 hm)]
 rw[e];exact mattr_word k f fa fc b nb KA kc hk tb _ W (itUp hT hb) hx
def VKid (nodes:List Nk) (k:Int):Prop:=∃(j:Nat) (m:Nk),k=(j:Int)∧nodes[j]? =some m∧0≤m.kind
theorem atoms_tree {L:Look} {ix:Ix} {S:List (Bp×Value)} {T:List (Nat×List (ByteArray×Value))} {nodes:List Nk} (hK:Knw L ix S T nodes) (gm gf nc:Nat) (NA:Option Addr) (o:List Value) (w:World) (hM:MkP w gm gf nc NA nodes S o) (hT:∀x∈T,(imapV wrdM x.1 x.2).P w)
 (n:Nk) (KA:Option Addr) (kc:Nat) (hI:Ints w KA n.kids) (h0:0≤n.kind) (hv:∀k∈n.kids,VKid nodes k) (hS:Shp L (ndOf n) (zaf nodes n.kids)) :
 Calls prog 170 #[ptO gm,ndV n KA kc] w fun e w'=>∃v,e=.returned v∧Hp [] w [irow 133 5 v (atP L ix (ndOf n) (zaf nodes n.kids)).length (atcs (atP L ix (ndOf n) (zaf nodes n.kids)))] w':=by
 have hl:=hS.kind.2;obtain⟨k0,k1,r,bz⟩:∃k0 k1 r,n.kids=k0::k1::r:=by
  match h9:n.kids with
  | []=>rw[h9]at hl;simp[zaf]at hl
  | [a]=>rw[h9]at hl;simp[zaf]at hl
  | a::b::r=>exact⟨a,b,r,rfl⟩
 obtain⟨j0,m0,e0,kW,p0⟩:=hv k0 (by rw[bz];simp);obtain⟨j1,m1,e1,lq,p1⟩:=hv k1 (by rw[bz];simp);have q0:=zcg kW;have q1:=zcg lq;have ar:n.kids[0]? =some (j0:Int):=by rw[bz,←e0];rfl
 have an:n.kids[1]? =some (j1:Int):=by rw[bz,←e1];rfl
 obtain⟨ka,rfl,-⟩:=hI.at_ 0 _ ar;have fQ:2≤n.kids.length:=by rw[bz];simp
 have bL:zaf nodes n.kids=ndOf m0::ndOf m1::zaf nodes r:=by rw[bz,e0,e1];show ndOf (nodeK nodes (j0:Int))::ndOf (nodeK nodes (j1:Int))::_=_;rw[q0,q1]
 rw[bL]at hS ⊢;have k7:∀m:Nk,0≤m.kind→∀q:Nat,(ndOf m).kind=q↔m.kind=(q:Int):=fun m hm q=>by show m.kind.toNat=q↔_;omega
 have main:(ndOf m0).kind=9→∀(x1 x2:Int) (i2:Nat) (n2:Nk) (fa:Option Addr) (fc b:Nat),((m0.name,m0.attr),cmV (ix (ndOf m0)) (fdOf L (ndOf m0)) fa fc b)∈S→(n.kind=7∨m1.kind≠9→AttC w (ix (ndOf m0)) (fdOf L (ndOf m0)) fa fc b m1 x1)→(n.kind=7→n.kids[2]? =some (i2:Int)∧nodes[i2]? =some n2∧AttC w (ix (ndOf m0)) (fdOf L (ndOf m0)) fa fc b n2 x2)→atN n m1 (ix (ndOf m0)) (fdOf L (ndOf m0)) x1 x2 (ix (ndOf m1)) (fdOf L (ndOf m1))=atP L ix (ndOf n) (ndOf m0::ndOf m1::zaf nodes r) →
  Calls prog 170 #[ptO gm,ndV n (some ka) kc] w fun e w'=>∃v,e=.returned v∧Hp [] w [irow 133 5 v (atP L ix (ndOf n) (ndOf m0::ndOf m1::zaf nodes r)).length (atcs (atP L ix (ndOf n) (ndOf m0::ndOf m1::zaf nodes r)))] w':=by
  intro h9 x1 x2 i2 n2 fa fc b hc bp h7 e;rw[←e];by_cases aX:m1.kind=9
  ·obtain⟨fab,fcb,bb,tb,nB,-,-⟩:=hK.at_ m1 (List.mem_of_getElem? lq) aX;exact matoms_any gm gf nc NA nodes S o w hM n ka kc j0 j1 m0 m1 hI fQ ar an kW lq _ _ fa fc b hc x1 x2 bp i2 n2 h7 _ _ fab fcb bb (fun _ _=>⟨nB,hK.ok m0 (List.mem_of_getElem? kW),hK.ok m1 (List.mem_of_getElem? lq)⟩)
  ·exact matoms_any gm gf nc NA nodes S o w hM n ka kc j0 j1 m0 m1 hI fQ ar an kW lq _ _ fa fc b hc x1 x2 bp i2 n2 h7 _ _ none 0 0 (fun _ h=>absurd h aX)
 have aE:=k7 n h0;have jt:=k7 m0 p0;have ej:=k7 m1 p1;have uu:=hK.ok m0 (List.mem_of_getElem? kW);have get:(ndOf m0).kind=9→∃fa fc b tb,((m0.name,m0.attr),cmV (ix (ndOf m0)) (fdOf L (ndOf m0)) fa fc b)∈S∧(b,tb)∈T∧∀s∈(fdOf L (ndOf m0)).words,(s,Value.int .i64 (idxL s (fdOf L (ndOf m0)).words:Int))∈tb:=fun h=>hK.at_ m0 (List.mem_of_getElem? kW) ((jt 9).1 h);generalize o9:zaf nodes r=vs at *;cases hS with
 | eqn _ _ hk hn ha hb ty lo hi =>
   obtain⟨fa,fc,b,tb,c1,c2,c3⟩:=get ha;have lO:=(ej 10).1 hb;have od:=(aE 6).1 hk;refine main ha (attrP (fdOf L (ndOf m0)) (ndOf m1)) 0 0 m0 fa fc b c1 (fun _=>att_num _ _ _ _ _ m1 lO uu lo hi) (fun h=>om) ?_;rw[atN,if_neg om,if_pos om,at6 hk om];rfl
 | word _ _ l hk hn ha hb ty hm =>
   obtain⟨fa,fc,b,tb,c1,c2,c3⟩:=get ha;have lO:=(ej 11).1 hb;have od:=(aE 6).1 hk;have hw:(fdOf L (ndOf m0)).words=l:=by
    rw[zb0 ha]at ty;unfold fdOf;cases hL:L (ndOf m0)with
    | none=>rw[hL]at ty;cases ty
    | some f =>
      rw[hL,Option.map_some,Option.some.injEq]at ty;split at ty
      ·cases ty
      ·injection ty
   have rJ:m1.name∈(fdOf L (ndOf m0)).words:=by
    rw[hw];have:bs (ndOf m1).name=m1.name:=bs_tl _;rw[←this];exact hm
   refine main ha (attrP (fdOf L (ndOf m0)) (ndOf m1)) 0 0 m0 fa fc b c1 (fun _=>att_word _ _ _ _ _ m1 lO tb (hT _ c2) rJ (c3 _ rJ)) (fun h=>om) ?_;rw[atN,if_neg om,if_pos om,at6 hk om];rfl
 | same _ _ l hk hn ha hb ta tb ne =>
   exact zt43
 | nums _ _ hk hn ha hb ta tb ne na nn =>
   exact zt43
 | rng _ _ c hk ha hb hc ty lo le hi =>
   obtain⟨fa,fc,b,tb,c1,c2,c3⟩:=get ha;have lO:=(ej 10).1 hb;have od:=(aE 7).1 hk;obtain⟨k2,hr⟩:∃k2,r=[k2]:=by
    have:r.length=1:=by
     have:=congrArg List.length o9;simpa[zaf]using this
    exact List.length_eq_one_iff.1 this
   obtain⟨j2,m2,e2,dG,p2⟩:=hv k2 (by rw[bz,hr];simp);have dQ:c=ndOf m2:=by
    rw[hr,e2]at o9;have:zaf nodes [(j2:Int)]=[ndOf m2]:=by show[ndOf (nodeK nodes (j2:Int))]=_;rw[zcg dG]
    rw[this]at o9;injection o9 with h _;exact h.symm
   subst dQ;have k3':=(k7 m2 p2 10).1 hc;refine main ha (attrP (fdOf L (ndOf m0)) (ndOf m1)) (attrP (fdOf L (ndOf m0)) (ndOf m2)) j2 m2 fa fc b c1 (fun _=>att_num _ _ _ _ _ m1 lO uu lo (Int.le_trans le hi)) (fun _=>⟨by rw[bz,hr,e2];rfl,dG,att_num _ _ _ _ _ m2 k3' uu (Int.le_trans lo le) hi⟩) ?_;rw[atN,if_pos (show n.kind=7 from od),at7 hk]
end Nf
namespace Nf
open Go.RowKit Go.Shelf
open Pa (F Nd Tx)
open Fm (G Gt GV gts fit flT Forms)
structure Mks where
 gm:Nat
 nc:Nat
 gf:Nat
 NA:Option Addr
 nodes:List Nk
 vD:Value
 vC:Value
 vF:Value
 S:List (Bp×Value)
 T:List (Nat×List (ByteArray×Value))
abbrev Mks.c (m:Mks) (vA vS:Value):List Value:=[.slice m.NA m.nodes.length m.nc,.map (some m.gf),m.vD,m.vC,vA,m.vF,vS]
def Mks.ro (m:Mks):List It:=imapV refM m.gf m.S::m.T.map fun x=>imapV wrdM x.1 x.2
abbrev Mks.its (m:Mks) (vA:Value) (lA:List At) (vS:Value) (lS:List At):List It:=iblk m.gm 120 (m.c vA vS)::irow 133 5 vA lA.length (atcs lA)::irow 133 5 vS lS.length (atcs lS)::m.ro
structure MkW (w0:World) (m:Mks) (vA:Value) (lA:List At) (vS:Value) (lS:List At) (W:World):Prop where
 ns:Nks w0 m.NA m.nodes
 nl:m.nodes.length≤1000000
 b:Below w0.heap.size w0 W
 o:∀b∈ow (m.its vA lA vS lS),w0.heap.size≤b
 s:Sep W (m.its vA lA vS lS)
theorem MkW.next {w0:World} {m:Mks} {vA vA' vS vS':Value} {lA lA' lS lS':List At} {W W':World} {r:List It} (h:MkW w0 m vA lA vS lS W) (hp:Hp (ow (m.its vA lA vS lS)) W (m.its vA' lA' vS' lS'++r) W'):MkW w0 m vA' lA' vS' lS' W' :=
 ⟨h.ns,h.nl,h.b.trans (Hp.below (Hp.sub hp) h.b.size h.o),fun b hb=>by
  rcases(Hp.sub hp).stp.new b hb with h1|h1
  ·exact h.o b h1
  ·have:=h.b.size;omega,(Hp.sub hp).sep⟩
theorem MkW.up {w0:World} {m:Mks} {vA vS:Value} {lA lS:List At} {W W':World} (h:MkW w0 m vA lA vS lS W) (hb:Below W.heap.size W W'):MkW w0 m vA lA vS lS W' :=
 h.next (r:=[]) (by rw[List.append_nil];exact(Hp.self h.s).next hb)
theorem MkW.mkp {w0:World} {m:Mks} {vA vS:Value} {lA lS:List At} {W:World} (h:MkW w0 m vA lA vS lS W):MkP W m.gm m.gf m.nc m.NA m.nodes m.S [m.vD,m.vC,vA,m.vF,vS] :=
 ⟨h.s.ok (iblk m.gm _ _) zy1,(h.ns.up h.b),h.nl,h.s.ok (imapV refM m.gf m.S) (by simp[Mks.ro])⟩
theorem MkW.wrd {w0:World} {m:Mks} {vA vS:Value} {lA lS:List At} {W:World} (h:MkW w0 m vA lA vS lS W):∀x∈m.T,(imapV wrdM x.1 x.2).P W :=
 fun x hx=>h.s.ok (imapV wrdM x.1 x.2) (by simp only[Mks.ro,List.mem_cons,List.mem_map];exact .inr (.inr (.inr (.inr ⟨x,hx,rfl⟩))))
theorem one_atom {L:Look} {ix:Ix} {x:Nd} {vs:List Nd} (hS:Shp L x vs) (h7:x.kind=7) (hF:∀y,FBn (fdOf L y)):∃a:At,atP L ix x vs=[a]∧ -100000000000≤a.hi-a.lo∧a.hi-a.lo≤100000000000:=by
 cases hS with
 | rng a b c hk ha hb hc ty lo le hi =>
   have e4:attrP (fdOf L a) b=b.num-(fdOf L a).min:=by unfold attrP;rw[if_neg om]
   have e5:attrP (fdOf L a) c=c.num-(fdOf L a).min:=by unfold attrP;rw[if_neg om]
   have h1:=(hF a).a;have h2:=(hF a).b;refine⟨_,at7 hk,?_⟩;rw[e4,e5];simp only;omega
 | _=>omega
theorem sq_one {L:Look} {ix:Ix} {x:Nd} {vs:List Nd} {a:At} (h:atP L ix x vs=[a]) (h7:x.kind=7):sqB L ix x vs=decide (64≤a.hi-a.lo):=by
 unfold sqB;rw[h,decide_eq_true h7,Bool.true_and]
theorem msquare_any {L:Look} {ix:Ix} {w0:World} {m:Mks} (hK:Knw L ix m.S m.T m.nodes) (rD:∀y,FBn (fdOf L y)) (vA vS:Value) (lA lS:List At) (w:World) (hW:MkW w0 m vA lA vS lS w) (hlS:lS.length≤1000)
 (n:Nk) (KA:Option Addr) (kc:Nat) (hI:Ints w KA n.kids) (h0:0≤n.kind) (hv:∀k∈n.kids,VKid m.nodes k) (hS:n.kind=7→Shp L (ndOf n) (zaf m.nodes n.kids)) :
 Calls prog 113 #[ptO m.gm,ndV n KA kc] w fun e w'=>e=.returned (.bool (sqB L ix (ndOf n) (zaf m.nodes n.kids)))∧∃vS',Hp (ow (m.its vA lA vS lS)) w (m.its vA lA vS' (lS++if sqB L ix (ndOf n) (zaf m.nodes n.kids)then atP L ix (ndOf n) (zaf m.nodes n.kids)else[])) w':=by
 have hp:=(Hp.self hW.s).new 68 [.int .i64 n.kind,.int .i64 n.num,.string n.name,.string n.attr,.slice KA n.kids.length kc,.int .i64 n.at_];obtain⟨g3,hg⟩:∃g,w.heap.size=g:=⟨_,rfl⟩;rw[hg]at hp;have aO:(ndOf n).kind=7↔n.kind=7:=by show n.kind.toNat=7↔_;omega
 by_cases q7:n.kind=7
 ·have q7b:(n.kind != 7)=false:=by rw[q7];rfl
  obtain⟨a,ha,jF,fq⟩:=one_atom (ix:=ix) (hS q7) (aO.2 q7) rD;have i8:=sq_one ha (aO.2 q7);have HA:=Lib.hid (fun W (hb:Below w.heap.size w W)=>atoms_tree hK m.gm m.gf m.nc m.NA _ W (hW.up hb).mkp (hW.up hb).wrd n KA kc (hI.up hb) h0 hv (hS q7));rw[ha]at HA ⊢;rw[i8];obtain⟨ak,aa,ab,alo,ahi⟩:=a;simp only at jF fq i8 ⊢;obtain⟨q,hq⟩:∃q,decide (64≤ahi-alo)=q:=⟨_,rfl⟩;rw[hq];obtain⟨lN,wy⟩:∃l,lS++(if q=true then[(⟨ak,aa,ab,alo,ahi⟩:At)]else[])=l:=⟨_,rfl⟩;rw[wy];have HQ:=Lib.hid hq;have ew:=Lib.hid wy;have hw:IntKind.i64.wrap (ahi-alo)=ahi-alo:=IntWalk.i64_in _ om;have h01:(0:Int)<1:=by decide
  have dS:Below w.heap.size w (w.alloc (.cells #[.int .i64 n.kind,.int .i64 n.num,.string n.name,.string n.attr,.slice KA n.kids.length kc,.int .i64 n.at_] 68)):=(Below.refl _ _).alloc (Nat.le_refl _) _;clear aO q7 ha i8 hI hv hS jF fq hq wy;generalize eM:ow (m.its vA lA vS lS)=oo at *;go_enter func113,ntmps113;go_upto_region 1 with fail;try simp only[hg]
  have cB:Hp oo w (iblk g3 68 [.int .i64 n.kind,.int .i64 n.num,.string n.name,.string n.attr,.slice KA n.kids.length kc,.int .i64 n.at_]::m.its vA lA vS lS) (w.alloc (.cells #[.int .i64 n.kind,.int .i64 n.num,.string n.name,.string n.attr,.slice KA n.kids.length kc,.int .i64 n.at_] 68)):=hp;clear hp;generalize w.alloc (.cells #[.int .i64 n.kind,.int .i64 n.num,.string n.name,.string n.attr,.slice KA n.kids.length kc,.int .i64 n.at_] 68)=W1 at *;obtain⟨c0,c1,c2,c3,c4,c5⟩:=Blk.g6 (cB.blk 0 rfl);go_wp2_with fail;refine(HA.out W1 dS).mono ?_;rintro e w2 ⟨v,rfl,hH⟩;clear c0 c1 c2 c3 c4 c5 HA;obtain⟨g9,cap9,rfl,ez⟩:=zak (hH.row 0 rfl) zy1;have bP:=Hp.call (a:=[]) cB hH;have e0:=zal (bP.row 0 rfl) (j:=0) rfl;have e1:=zal (bP.row 0 rfl) (j:=1) rfl;have e2:=zal (bP.row 0 rfl) (j:=2) rfl;have e3:=zal (bP.row 0 rfl) (j:=3) rfl;have e4:=zal (bP.row 0 rfl) (j:=4) rfl;go_upto_region 4 with fail;clear e0 e1 e2 e3 e4 hH cB;have ec:=bP.new 133 [.int .i64 ak,.int .i64 aa,.int .i64 ab,.int .i64 alo,.int .i64 ahi];clear bP;obtain⟨g5,fE⟩:∃g,w2.heap.size=g:=⟨_,rfl⟩;rw[fE]at ec ⊢;have dF:Hp oo w (iblk g5 133 [.int .i64 ak,.int .i64 aa,.int .i64 ab,.int .i64 alo,.int .i64 ahi]::(([irow 133 5 (.slice (some ⟨g9,0,none⟩) 1 cap9) 1 (atcs [⟨ak,aa,ab,alo,ahi⟩])]++iblk g3 68 [.int .i64 n.kind,.int .i64 n.num,.string n.name,.string n.attr,.slice KA n.kids.length kc,.int .i64 n.at_]::m.its vA lA vS lS))) (w2.alloc (.cells #[.int .i64 ak,.int .i64 aa,.int .i64 ab,.int .i64 alo,.int .i64 ahi] 133)):=ec;clear ec;generalize w2.alloc (.cells #[.int .i64 ak,.int .i64 aa,.int .i64 ab,.int .i64 alo,.int .i64 ahi] 133)=W3 at *;obtain⟨e0,e1,e2,e3,e4⟩:=Blk.get5 (dF.blk 0 rfl);by_cases q64:ahi-alo<64
  ·obtain rfl:q=false:=by rw[←HQ.out];exact decide_eq_false om
   go_wp2_with fail;go_ret;refine⟨rfl,vS,?_⟩;have e:lN=lS:=by rw[←ew.out];simp
   rw[e];exact((dF.tail).tail).tail
  ·obtain rfl:q=true:=by rw[←HQ.out];exact decide_eq_true om
   obtain⟨i0,aL,bg,aY,bh⟩:=info_parts atom_info;go_upto_region 6 with fail;clear q64 e0 e1 e2 e3 e4;have hd:=dF.drew;clear dF;obtain⟨VA9,vc9,rfl⟩:=zab (hd.row 5 rfl);refine wp_region_held_drew (S:=(fun w'=>(w'.cell? ⟨g5,0,none⟩=some (.int .i64 ak)∧w'.cell? ⟨g5,1,none⟩=some (.int .i64 aa)∧w'.cell? ⟨g5,2,none⟩=some (.int .i64 ab)∧w'.cell? ⟨g5,3,none⟩=some (.int .i64 alo)∧w'.cell? ⟨g5,4,none⟩=some (.int .i64 ahi))∧True∧True)) kr ?_ (fun ae=>?_)
   ·exact⟨⟨(hd.blk 0 rfl).cell 0,(hd.blk 0 rfl).cell 1,(hd.blk 0 rfl).cell 2,(hd.blk 0 rfl).cell 3,(hd.blk 0 rfl).cell 4⟩,trivial,trivial⟩
   generalize W3.drew=fg at *;refine tk3 0 rfl ?_;refine zvq ?_;refine tk3 1 rfl ?_;refine zvq ?_;refine tk3 2 rfl ?_;refine zvq ?_;refine tk3 3 rfl ?_;refine zvq ?_;refine tk3 4 rfl ?_;refine zvq ?_;refine tk3 6 rfl ?_;refine zvq ?_;refine tkR [5,7] ?_;refine AllReadyH.cons rfl (fun K hK=>?_) ?_
   ·
     have l9:=(hd.blk 3 rfl).cell 6;simp only[List.getElem?_cons_zero,List.getElem?_cons_succ]at l9;go_simp;refine hK.out _ _ ⟨⟨(hd.blk 0 rfl).cell 0,(hd.blk 0 rfl).cell 1,(hd.blk 0 rfl).cell 2,(hd.blk 0 rfl).cell 3,(hd.blk 0 rfl).cell 4⟩,trivial,trivial⟩ (fun ae=>?_);clear hK K l9;refine tkO 7 rfl (fun K hK=>?_);have ha:=hd.alloc (.cells #[.int .i64 ak,.int .i64 aa,.int .i64 ab,.int .i64 alo,.int .i64 ahi] 133);have eu:=new5' fg 133 (.int .i64 ak) (.int .i64 aa) (.int .i64 ab) (.int .i64 alo) (.int .i64 ahi);go_simp;generalize fg.alloc (.cells #[.int .i64 ak,.int .i64 aa,.int .i64 ab,.int .i64 alo,.int .i64 ahi] 133)=nR at *;refine hK.out _ _ ⟨⟨(ha.blk 0 rfl).cell 0,(ha.blk 0 rfl).cell 1,(ha.blk 0 rfl).cell 2,(ha.blk 0 rfl).cell 3,(ha.blk 0 rfl).cell 4⟩,trivial,trivial⟩ (fun ae=>?_);clear hK K;refine tkO 8 rfl (fun K hK=>?_);rw[if_pos rr];refine zaz _ _ 41 rfl 0 133 i0 _ 5 40 underlying41 aL bg aY bh rfl zy0 _ lS.length (atcs lS) rfl (ha.row 5 rfl) ⟨_,0,none⟩ 1 1 [.int .i64 ak,.int .i64 aa,.int .i64 ab,.int .i64 alo,.int .i64 ahi] rfl rfl eu zyo zy0 zy2 om (Nat.zero_le _) ?_;intro v9 w9 af ai aH;have bG:=ha.grown 5 rfl af ai aH;obtain⟨eR,eV,rfl⟩:=zab af;clear af ai aH ha eu;refine hK.out _ _ ⟨⟨(bG.blk 0 rfl).cell 0,(bG.blk 0 rfl).cell 1,(bG.blk 0 rfl).cell 2,(bG.blk 0 rfl).cell 3,(bG.blk 0 rfl).cell 4⟩,trivial,trivial⟩ (fun ae=>?_);clear hK K;refine tk3 9 rfl ?_;refine zvq ?_;refine tk3 10 rfl ?_;refine zvq ?_;refine tk3 11 rfl ?_;refine zvq ?_;have d9:=bG.set 3 rfl 6 (.slice eR (lS.length+1) eV);have z9:=(bG.blk 3 rfl).frozen 6;have l9:=(bG.blk 3 rfl).cell 6;simp only[List.getElem?_cons_zero,List.getElem?_cons_succ]at l9;refine tkO 12 rfl (fun K hK=>?_);go_simp;refine hK.out _ _ ⟨⟨(d9.blk 0 rfl).cell 0,(d9.blk 0 rfl).cell 1,(d9.blk 0 rfl).cell 2,(d9.blk 0 rfl).cell 3,(d9.blk 0 rfl).cell 4⟩,trivial,trivial⟩ (fun ae=>?_);clear hK K z9 l9 bG;refine wpAnyH_done kr ?_ _;go_wp2_with fail;go_ret;refine⟨rfl,.slice eR (lS.length+1) eV,?_⟩;have e1:lN=lS++[⟨ak,aa,ab,alo,ahi⟩]:=by rw[←ew.out];simp
     have e2:lN.length=lS.length+1:=by rw[e1];simp
     have e3:atcs lN=atcs lS++[.int .i64 ak,.int .i64 aa,.int .i64 ab,.int .i64 alo,.int .i64 ahi]:=by rw[e1,atcs_app];rfl
     show Hp oo w (iblk m.gm 120 _::irow 133 5 vA lA.length (atcs lA)::irow 133 5 _ lN.length (atcs lN)::m.ro) _;rw[e2,e3];exact((d9.tail).tail).tail
   refine AllReadyH.cons rfl (fun K hK=>?_) AllReadyH.nil
   ·
     have ha:=hd.alloc (.cells #[.int .i64 ak,.int .i64 aa,.int .i64 ab,.int .i64 alo,.int .i64 ahi] 133);have eu:=new5' fg 133 (.int .i64 ak) (.int .i64 aa) (.int .i64 ab) (.int .i64 alo) (.int .i64 ahi);go_simp;generalize fg.alloc (.cells #[.int .i64 ak,.int .i64 aa,.int .i64 ab,.int .i64 alo,.int .i64 ahi] 133)=nR at *;refine hK.out _ _ ⟨⟨(ha.blk 0 rfl).cell 0,(ha.blk 0 rfl).cell 1,(ha.blk 0 rfl).cell 2,(ha.blk 0 rfl).cell 3,(ha.blk 0 rfl).cell 4⟩,trivial,trivial⟩ (fun ae=>?_);clear hK K;refine tkO 5 rfl (fun K hK=>?_);have l9:=(ha.blk 3 rfl).cell 6;simp only[List.getElem?_cons_zero,List.getElem?_cons_succ]at l9;go_simp;refine hK.out _ _ ⟨⟨(ha.blk 0 rfl).cell 0,(ha.blk 0 rfl).cell 1,(ha.blk 0 rfl).cell 2,(ha.blk 0 rfl).cell 3,(ha.blk 0 rfl).cell 4⟩,trivial,trivial⟩ (fun ae=>?_);clear hK K l9;refine tkO 8 rfl (fun K hK=>?_);rw[if_pos rr];refine zaz _ _ 41 rfl 0 133 i0 _ 5 40 underlying41 aL bg aY bh rfl zy0 _ lS.length (atcs lS) rfl (ha.row 5 rfl) ⟨_,0,none⟩ 1 1 [.int .i64 ak,.int .i64 aa,.int .i64 ab,.int .i64 alo,.int .i64 ahi] rfl rfl eu zyo zy0 zy2 om (Nat.zero_le _) ?_;intro v9 w9 af ai aH;have bG:=ha.grown 5 rfl af ai aH;obtain⟨eR,eV,rfl⟩:=zab af;clear af ai aH ha eu;refine hK.out _ _ ⟨⟨(bG.blk 0 rfl).cell 0,(bG.blk 0 rfl).cell 1,(bG.blk 0 rfl).cell 2,(bG.blk 0 rfl).cell 3,(bG.blk 0 rfl).cell 4⟩,trivial,trivial⟩ (fun ae=>?_);clear hK K;refine tk3 9 rfl ?_;refine zvq ?_;refine tk3 10 rfl ?_;refine zvq ?_;refine tk3 11 rfl ?_;refine zvq ?_;have d9:=bG.set 3 rfl 6 (.slice eR (lS.length+1) eV);have z9:=(bG.blk 3 rfl).frozen 6;have l9:=(bG.blk 3 rfl).cell 6;simp only[List.getElem?_cons_zero,List.getElem?_cons_succ]at l9;refine tkO 12 rfl (fun K hK=>?_);go_simp;refine hK.out _ _ ⟨⟨(d9.blk 0 rfl).cell 0,(d9.blk 0 rfl).cell 1,(d9.blk 0 rfl).cell 2,(d9.blk 0 rfl).cell 3,(d9.blk 0 rfl).cell 4⟩,trivial,trivial⟩ (fun ae=>?_);clear hK K z9 l9 bG;refine wpAnyH_done kr ?_ _;go_wp2_with fail;go_ret;refine⟨rfl,.slice eR (lS.length+1) eV,?_⟩;have e1:lN=lS++[⟨ak,aa,ab,alo,ahi⟩]:=by rw[←ew.out];simp
     have e2:lN.length=lS.length+1:=by rw[e1];simp
     have e3:atcs lN=atcs lS++[.int .i64 ak,.int .i64 aa,.int .i64 ab,.int .i64 alo,.int .i64 ahi]:=by rw[e1,atcs_app];rfl
     show Hp oo w (iblk m.gm 120 _::irow 133 5 vA lA.length (atcs lA)::irow 133 5 _ lN.length (atcs lN)::m.ro) _;rw[e2,e3];exact((d9.tail).tail).tail
 ·have q7b:(n.kind != 7)=true:=by rw[bne_iff_ne];exact q7
  have HV:Hid (sqB L ix (ndOf n) (zaf m.nodes n.kids)=false):=Lib.hid (by
   unfold sqB;rw[decide_eq_false (fun h=>q7 (aO.1 h)),Bool.false_and])
  rw[HV.out];simp only[Bool.false_eq_true,if_false,List.append_nil];have c0:=(hp.blk 0 rfl).cell 0;simp only[List.getElem?_cons_zero]at c0;clear aO q7 hI hv hS hK HV;go_enter func113,ntmps113;go_upto_region 1 with fail;try simp only[hg]
  go_wp2_with fail;go_ret;exact⟨rfl,vS,hp.tail⟩
end Nf
namespace Nf
open Go.RowKit Go.Shelf
open Pa (F Nd Tx)
open Fm (G Gt GV gts fit flT Forms)
theorem frm_app {L:Look} {ix:Ix}:∀(f g:F),frm L ix (f.app g)=(frm L ix f).app (frm L ix g)
 | .nil,_=>rfl
 | .cons x k r,g=>by
   rw[F.app,frm,frm,frm_app r g];split
   ·rfl
   ·split<;>rfl
theorem ats_app {L:Look} {ix:Ix}:∀(f g:F),ats L ix (f.app g)=ats L ix f++ats L ix g
 | .nil,_=>rfl
 | .cons x k r,g=>by rw[F.app,ats,ats,ats_app r g,List.append_assoc]
theorem pf_app {L:Look}:∀{f g:F},Pf L (f.app g)→Pf L f∧Pf L g
 | .nil,_,h=>⟨trivial,h⟩
 | .cons _ _ _,_,h=>⟨⟨h.1,(pf_app h.2).1⟩,(pf_app h.2).2⟩
theorem two_app {L:Look} {ix:Ix}:∀{f g:F},Two L ix (f.app g)→Two L ix f∧Two L ix g
 | .nil,_,h=>⟨trivial,h⟩
 | .cons _ _ _,_,h=>⟨⟨h.1,(two_app h.2).1⟩,(two_app h.2).2⟩
theorem cat_snoc:∀(l:List F) (f:F),F.cat (l++[f])=(F.cat l).app f
 | [],f=>by rw[List.nil_append];show f.app (F.cat [])=_;rw[show F.cat []=.nil from rfl,F.app_nil];rfl
 | x::l,f=>by
   rw[List.cons_append];show x.app (F.cat (l++[f]))=(x.app (F.cat l)).app f;rw[cat_snoc l f,app_assoc]
 where app_assoc:∀{a b c:F},a.app (b.app c)=(a.app b).app c
 | .nil,_,_=>rfl
 | .cons x k r,b,c=>by rw[F.app,F.app,F.app,app_assoc]
theorem size_app:∀(f g:F),(f.app g).size=f.size+g.size
 | .nil,g=>by simp[F.app,F.size]
 | .cons x k r,g=>by rw[F.app,F.size,F.size,size_app r g];omega
theorem cat_take {ns:List Nk} {f:Nat} {l:List Int} {i:Nat} {k:Int} (h:l[i]? =some k):F.cat ((l.take (i+1)).map (Pa.treeN ns f))=(F.cat ((l.take i).map (Pa.treeN ns f))).app (Pa.treeN ns f k):=by
 rw[zan h,List.map_append];exact cat_snoc _ _
theorem cat_part {ns:List Nk} {f:Nat} (l:List Int) (i:Nat):F.cat (l.map (Pa.treeN ns f))=(F.cat ((l.take i).map (Pa.treeN ns f))).app (F.cat ((l.drop i).map (Pa.treeN ns f))):=by
 have key:∀(a b:List F),F.cat (a++b)=(F.cat a).app (F.cat b):=by
  intro a b
  induction a with
  | nil=>rfl
  | cons x a ih=>show x.app (F.cat (a++b))=(x.app (F.cat a)).app (F.cat b);rw[ih,cat_snoc.app_assoc]
 rw[←key,←List.map_append,List.take_append_drop]
theorem pf_cat {L:Look} {t:Int→F}:∀{l:List Int},Pf L (F.cat (l.map t))→∀k∈l,Pf L (t k)
 | x::l,h,k,hk=>by
   have h1:=pf_app (f:=t x) (g:=F.cat (l.map t)) h;rcases List.mem_cons.1 hk with rfl|hk
   ·exact h1.1
   ·exact pf_cat h1.2 k hk
theorem two_cat {L:Look} {ix:Ix} {t:Int→F}:∀{l:List Int},Two L ix (F.cat (l.map t))→∀k∈l,Two L ix (t k)
 | x::l,h,k,hk=>by
   have h1:=two_app (f:=t x) (g:=F.cat (l.map t)) h;rcases List.mem_cons.1 hk with rfl|hk
   ·exact h1.1
   ·exact two_cat h1.2 k hk
theorem size_cat {t:Int→F}:∀{l:List Int},∀k∈l,(t k).size≤(F.cat (l.map t)).size
 | x::l,k,hk=>by
   have h1:(F.cat ((x::l).map t)).size=(t x).size+(F.cat (l.map t)).size:=size_app _ _;rcases List.mem_cons.1 hk with rfl|hk
   ·omega
   ·have:=size_cat (t:=t) k hk;omega
theorem ats_len {L:Look} {ix:Ix}:∀{f:F},Two L ix f→(ats L ix f).length≤2*f.size
 | .nil,_=>Nat.le_refl _
 | .cons x k r,h=>by
   have h2:=ats_len h.2;rw[ats,List.length_append,F.size];rcases h.1 with⟨h5,h1⟩|⟨h5,h1⟩
   ·have:=ats_len h1;rw[if_pos h5];omega
   ·rw[if_neg h5];omega
def fIts (X:List (Value×List GV)):List It:=X.flatMap fun x=>fit x.1 x.2
theorem fIts_snoc (X:List (Value×List GV)) (v:Value) (P:List GV):fIts (X++[(v,P)])=fIts X++fit v P:=by
 unfold fIts;rw[List.flatMap_append];simp
theorem forms_of {W:World} {A:Option Addr} {n c:Nat} {X:List (Value×List GV)} (h:W.ownsRow 0 44 1 (.slice A n c) X.length (X.map Prod.fst)) (hf:∀x∈fIts X,x.P W):Forms W A (X.map fun x=>gts x.2):=by
 refine⟨fun aT=>?_⟩;have bq:0<X.length:=List.length_pos_iff.2 (by rintro rfl;exact aT rfl);obtain⟨g,cap,hv,-⟩:=zak h bq;injection hv with hA hn hc;subst hA;refine⟨_,rfl,(h.lt g rfl).2,fun i F hF=>?_⟩;rw[List.getElem?_map]at hF;obtain⟨z,hz,rfl⟩:=Option.map_eq_some_iff.1 hF;have hm:∀x∈fit z.1 z.2,x.P W:=fun x hx=>hf x (List.mem_flatMap.2 ⟨z,List.mem_of_getElem? hz,hx⟩);have hr:W.ownsRow 0 256 3 z.1 z.2.length (Fm.gcells z.2):=hm (irow 256 3 z.1 z.2.length (Fm.gcells z.2)) (List.mem_cons_self ..);obtain⟨GA,gc,iF⟩:=zab hr;rw[iF]at hr;refine⟨GA,gc,?_,Fm.gates_ok hr fun x hx=>hm x (List.mem_cons_of_mem _ hx)⟩;have h1:=h.cells rfl i z.1 (by rw[List.getElem?_map,hz];rfl);rw[h1,iF];simp[gts]
theorem pm3 {α:Type} (a b c:α) (X Y:List α):(a::b::c::(X++Y)).Perm (X++(a::b::c::Y)):=by
 have:=(List.perm_append_comm (l₁:=[a,b,c]) (l₂:=X)).append_right Y;simpa using this
theorem pm4 {α:Type} (a b c:α) (X Y Z:List α):((X++Z)++(a::b::c::Y)).Perm (a::b::c::(X++(Y++Z))):=by
 refine(List.perm_append_comm (l₁:=X++Z) (l₂:=a::b::c::Y)).trans ?_;show(a::b::c::(Y++(X++Z))).Perm _;refine List.Perm.cons _ (List.Perm.cons _ (List.Perm.cons _ ?_));rw[←List.append_assoc];refine((List.perm_append_comm (l₁:=Y) (l₂:=X)).append_right Z).trans ?_;rw[List.append_assoc]
end Nf
end Go.Proofs.YtekkapgknohadaaGreatDoor
