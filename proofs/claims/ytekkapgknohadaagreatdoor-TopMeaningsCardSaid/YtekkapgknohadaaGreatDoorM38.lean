/- policy.preorder: the iterator over a policy's nodes. -/
import Derived.Test.YtekkapgknohadaaGreatDoorM37
set_option linter.unusedVariables false
set_option linter.unusedSimpArgs false
set_option maxRecDepth 20000
set_option maxHeartbeats 8000000
open Go.Proofs.Tryz
namespace Go.Proofs.YtekkapgknohadaaGreatDoor
namespace Nf
open Go.RowKit Go.Shelf
open Pa (F Nd Tx)
def preN (ns:List Nk):Nat→Int→List Int
 | 0,_=>[]
 | f+1,a=>a::(nodeK ns a).kids.flatMap (preN ns f)
def ifl (w:World):It:=⟨List.range w.heap.size,fun W=>w.heap.size≤W.heap.size∧∀k,k<w.heap.size→W.heap[k]? =w.heap[k]?,fun W W' h hp=>by
 have key:∀k,k<w.heap.size→W'.heap[k]? =w.heap[k]? :=fun k hk=>(h k (List.mem_range.2 hk)).trans (hp.2 k hk);refine⟨?_,key⟩;rcases Nat.eq_zero_or_pos w.heap.size with h0|h0
 ·omega
 ·have h1:=key (w.heap.size-1) om;rw[Array.getElem?_eq_getElem (show w.heap.size-1<w.heap.size by omega)]at h1;have:=(Array.getElem?_eq_some_iff.1 h1).1;omega,fun W hp b hb=>Nat.lt_of_lt_of_le (List.mem_range.1 hb) hp.1⟩
theorem fl_cell {w W:World} (h:(ifl w).P W) {p:Addr} {v:Value} (hc:w.cell? p=some v):W.cell? p=some v:=by
 have hl:=World.block_lt_of_cell? _ _ hc;unfold World.cell? at hc ⊢;rw[h.2 _ hl];exact hc
theorem fl_node {w W:World} (h:(ifl w).P W) {ad:Addr} {n:Nk} {KA:Option Addr} {kc:Nat} (hn:NodeAt w ad n KA kc):NodeAt W ad n KA kc :=
 ⟨fl_cell h hn.kind,fl_cell h hn.num,fl_cell h hn.name,fl_cell h hn.attr,fl_cell h hn.kids,fl_cell h hn.at_,⟨fun i x hx=>by
  obtain⟨a,h1,h2⟩:=hn.ints.at_ i x hx;exact⟨a,h1,fl_cell h h2⟩⟩,hn.cap⟩
theorem fl_hp {w:World}:Hp (ow [ifl w]) w [ifl w] w:=Hp.self ⟨fun x hx=>by rw[List.mem_singleton.1 hx];exact⟨Nat.le_refl _,fun _ _=>rfl⟩,by simpa[ow,ifl]using List.nodup_range⟩
def encR (w:World) (ns:List Nk) (x:Int) (v:Value) (o:List Nat) (W:World):Prop:=v=.int .i64 x∧VKid ns x∧(ifl w).P W∧∀b∈(ifl w).own,b∈o
structure SsG (J:List Nat→List Int→World→Prop) (it:List It) (pre:List Int) (W:World):Prop where
 sep:Sep W it
 j:J (ow it) pre W
theorem SsG.hp {J:List Nat→List Int→World→Prop} {it it':List It} {pre:List Int} {W W':World} (h:SsG J it pre W) (hJ:Abd J) (k:Hp (ow it) W it' W'):SsG J it' pre W' :=
 ⟨k.sep,hJ _ _ _ _ _ h.j k.stp (fun b hb=>k.sep.lt b hb)⟩
structure SnG (w:World) (ns:List Nk) (l N:Nat) (J Jx:List Nat→List Int→World→Prop):Prop where
 abJ:Abd J
 abJx:Abd Jx
 hY:∀o pre x v W1,J o pre W1→pre.length<N→encR w ns x v o W1→YieldAt Fence.wide 0 prog l #[v] W1 fun e W'=>Kpt o W1 W'∧((e=.returned (.bool true)∧J o (pre++[x]) W')∨(e=.returned (.bool false)∧Jx o (pre++[x]) W'))
structure SpG (J Jx:List Nat→List Int→World→Prop) (it:List It) (pre xs:List Int) (e:Ending) (W':World):Prop where
 sep:Sep W' it
 ret:∃b,e=.returned (.bool b)∧(b=true→SsG J it (pre++xs) W')∧(b=false→∃q,SsG Jx it q W')
theorem yieldG_at {w:World} {ns:List Nk} {l N:Nat} {J Jx:List Nat→List Int→World→Prop} (hE:SnG w ns l N J Jx) {it:List It} {pre:List Int} {w1:World} {x:Int} (h1:SsG J it pre w1) (hN:pre.length<N) (hx:VKid ns x) (dX:ifl w∈it) :
 YieldAt Fence.wide 0 prog l #[.int .i64 x] w1 fun e W'=>Sep W' it∧∃b,e=.returned (.bool b)∧(b=true→SsG J it (pre++[x]) W')∧(b=false→SsG Jx it (pre++[x]) W'):=by
 refine YieldAt.mono (hE.hY _ pre x _ w1 h1.j hN ⟨rfl,hx,h1.sep.ok _ dX,fun b hb=>List.mem_flatMap.2 ⟨_,dX,hb⟩⟩) ?_;rintro e W' ⟨hk,hh⟩;have eY:Sep W' it:=⟨fun y hy=>y.st w1 W' (fun b hb=>hk.own b (List.mem_flatMap.2 ⟨y,hy,hb⟩) (h1.sep.lt b (List.mem_flatMap.2 ⟨y,hy,hb⟩))) (h1.sep.ok y hy),h1.sep.ap⟩;refine⟨eY,?_⟩;rcases hh with⟨rfl,hj⟩|⟨rfl,hj⟩
 ·exact⟨true,rfl,fun _=>⟨eY,hj⟩,fun h=>(by cases h)⟩
 ·exact⟨false,rfl,fun h=>(by cases h),fun _=>⟨eY,hj⟩⟩
abbrev pits (w:World) (gp gy gv l:Nat) (d:Po) (L:Lp):List It:=[ifl w,iblk gp 29 (polcs d L),iblk gy 139 [.func (.yield l) #[] #[]],iblk gv 139 [.func (Fn.func 168) #[] #[ptO gy,ptO gp,ptO gv]]]
theorem pvisit_any {w:World} {d:Po} {L:Lp} {l N gp gy gv:Nat} {J Jx:List Nat→List Int→World→Prop} (hM:PolM w d L) (bk:∀n∈d.nodes,n.kids.length≤1000000) (hE:SnG w d.nodes l N J Jx) :
 ∀(f:Nat) (c:Bool) (a:Int) (pre:List Int) (W:World),Pa.VN d.nodes f c a→WfP d.nodes f a→SsG J (pits w gp gy gv l d L) pre W→pre.length+(preN d.nodes f a).length≤N →
  Calls prog 168 #[.int .i64 a,ptO gy,ptO gp,ptO gv] W fun e W'=>SpG J Jx (pits w gp gy gv l d L) pre (preN d.nodes f a) e W':=by
 intro f
 induction f with
 | zero=>intro c a pre W h;exact h.elim
 | succ f ih =>
 intro c a pre W hv hw qH hN;obtain⟨i,n,rfl,hn,hF,bz⟩:=vn_at hv hw;have nu:preN d.nodes (f+1) (i:Int)=(i:Int)::n.kids.flatMap (preN d.nodes f):=by rw[preN,zcg hn]
 rw[nu]at hN ⊢;have hS:=Hp.self qH.sep;have c2:=(hS.blk 2 rfl).cell 0;simp only[List.getElem?_cons_zero]at c2;have hY:=yieldG_at hE qH (by simp at hN;omega) ⟨i,n,rfl,hn,hF.lo⟩ zy1;have dX:=qH.sep.ok (ifl w) zy1;obtain⟨fn7,tm7,as7,bd7,hy,hR⟩:=hY;go_enter func168,ntmps168;go_upto_region 1 with fail;refine(wpIn_wide (n:=0)).1 ?_;have t':prog.follows .mixedOrders=true:=kr
 gi_wp2
 refine⟨rfl,?_⟩;refine hR.mono ?_;rintro e w4 ⟨oe,b4,rfl,wY,vz⟩;clear hR hy
 gi_wp2
 cases b4 with
 | false =>
   have HF4:=Lib.hid (vz rfl);clear vz wY hS qH dX;go_wp2_with fail;go_ret;exact⟨oe,false,rfl,fun h=>(by cases h),fun _=>⟨_,HF4.out⟩⟩
 | true =>
   have cu:=wY rfl;clear vz wY hS qH dX c2;obtain⟨ad,KA,kc,hA,aP⟩:=hM.ns.at_ i n hn;have ay:=(List.getElem?_eq_some_iff.1 hn).1;have aM:(i:Int)<(d.nodes.length:Int):=om;have aL:(0:Int)≤(i:Int):=om;have ko:=bk n (List.mem_of_getElem? hn);have jN:=fl_node (cu.sep.ok (ifl w) zy1) aP;have c3:w4.cell? ⟨gp,3,none⟩=some (.slice L.na d.nodes.length L.nc):=((Hp.self cu.sep).blk 1 rfl).cell 3;rw[hA]at c3;have d4:w4.cell? ⟨(ad.add (i*6)).block,(ad.add (i*6)).off+4,none⟩=some (.slice KA n.kids.length kc):=jN.kids;have lf:=Lib.hid ih;have HKS:=Lib.hid bz;clear hn jN ih bz nu;go_upto_region 4 with fail;clear c3 d4;go_loopg [19] n.kids.length (fun mm wJ wx=>∃j:Nat,j≤n.kids.length∧mm=n.kids.length-j∧wJ=.int .i64 (j:Int)∧SsG J (pits w gp gy gv l d L) (pre++(i:Int)::(n.kids.take j).flatMap (preN d.nodes f)) wx);case atStart=>exact⟨0,Nat.zero_le _,rfl,rfl,cu⟩
   case round =>
    obtain⟨j,hj,rfl,rfl,ie⟩:=hrel;clear cu;by_cases aW:j<n.kids.length
    ·have bX:(j:Int)<(n.kids.length:Int):=om;have bT:(0:Int)≤(j:Int):=om;obtain⟨k,hk⟩:∃k,n.kids[j]? =some k:=⟨_,List.getElem?_eq_getElem aW⟩;have hnB:=fl_node (ie.sep.ok (ifl w) zy1) aP;obtain⟨ka,rfl,kk⟩:=hnB.ints.at_ j k hk;have c9:=((Hp.self ie.sep).blk 3 rfl).cell 0;simp only[List.getElem?_cons_zero]at c9;have dZ:=List.mem_of_getElem? hk;have cZ:n.kids.take (j+1)=n.kids.take j++[k]:=zan hk;have fZ:(pre++(i:Int)::(n.kids.take j).flatMap (preN d.nodes f)).length+(preN d.nodes f k).length≤N:=by
      have e1:n.kids=n.kids.take (j+1)++n.kids.drop (j+1):=(List.take_append_drop _ _).symm;have e2:=congrArg (fun z=>(z.flatMap (preN d.nodes f)).length) e1;simp only[List.flatMap_append,List.length_append,cZ,List.flatMap_cons,List.flatMap_nil,List.append_nil]at e2;simp only[List.length_append,List.length_cons]at hN ⊢;omega
     have HC:=Lib.hid (lf.out _ k _ wr (HKS.out k dZ).1 (HKS.out k dZ).2 ie fZ);clear hnB hk fZ;go_wp2_with fail;refine HC.out.mono ?_;rintro e w5 ⟨oz,b5,rfl,vW,tY⟩;cases b5 with
     | false =>
       have HF5:=Lib.hid (tY rfl);clear vW tY HC ie;go_wp2_with fail;go_ret;obtain⟨q,hq⟩:=HF5.out;exact⟨oz,false,rfl,fun h=>(by cases h),fun _=>⟨q,hq⟩⟩
     | true =>
       have pG:=Lib.hid (vW rfl);clear vW tY HC ie;go_wp2_with fail;go_roundg (n.kids.length-(j+1));case measure=>omega
       case rel =>
        refine⟨j+1,by omega,rfl,by first|rfl|simp,?_⟩;have h9:=pG.out;rw[cZ,List.flatMap_append];simpa using h9
    ·have bX:¬(j:Int)<(n.kids.length:Int):=om;have cZ:n.kids.take j=n.kids:=List.take_of_length_le om;rw[cZ]at ie;have HSX:=Lib.hid ie;clear ie cZ;go_wp2_with fail;go_ret;exact⟨HSX.out.sep,true,rfl,fun _=>HSX.out,fun h=>(by cases h)⟩
end Nf
namespace Nf
open Go.RowKit Go.Shelf
open Pa (F Nd Tx)
theorem index_ref (A:Option Addr) (c:Nat) (l:List Bp) (s t:ByteArray) (W:World) (hx:Prs W A l) (hl:l.length≤1000000) :
 Calls prog 169 #[.slice A l.length c,.agg #[.string s,.string t]] W fun e w'=>(∃y:Int,e=.returned (.int .i64 y)∧((0≤y)↔memD (s,t) l=true))∧Below W.heap.size W w':=by
 have hk:=(Hp.start W).new 89 [.string s,.string t];obtain⟨g3,hg⟩:∃g,W.heap.size=g:=⟨_,rfl⟩;rw[hg]at hk;go_enter func169,ntmps169;go_upto_region 2 with fail;try simp only[hg]
 have an:Hp [] W [iblk g3 89 [.string s,.string t]] (W.alloc (.cells #[.string s,.string t] 89)):=hk;clear hk;generalize W.alloc (.cells #[.string s,.string t] 89)=W1 at *;go_loopg [8] l.length (fun m s8 wx=>∃i:Nat,i≤l.length∧m=l.length-i∧s8=.int .i64 (i:Int)∧Hp [] W [iblk g3 89 [.string s,.string t]] wx∧Hid (memD (s,t) (l.take i)=false));case atStart=>exact⟨0,Nat.zero_le _,rfl,rfl,an,Lib.hid rfl⟩
 case round =>
  obtain⟨i,hi,rfl,rfl,hM,HI⟩:=hrel;clear an;by_cases ay:i<l.length
  ·have aM:(i:Int)<(l.length:Int):=om;have aL:(0:Int)≤(i:Int):=om;obtain⟨⟨a,b⟩,ha⟩:∃a,l[i]? =some a:=⟨_,List.getElem?_eq_getElem ay⟩;obtain⟨ad,rfl,ca,cb⟩:=(hx.up hM.below0).at_ i _ ha;simp only at ca cb;have d0:=(hM.blk 0 rfl).cell 0;have d1:=(hM.blk 0 rfl).cell 1;simp only[List.getElem?_cons_zero,List.getElem?_cons_succ]at d0 d1;have ku:=strs_eqd s a;have nB:=strs_eqd t b;by_cases h1:s=a
   ·by_cases h2:t=b
    ·subst h1 h2;rw[decide_eq_true rfl]at ku nB;have HM:Hid (memD (s,t) l=true):=Lib.hid (memD_iff.2 (List.mem_of_getElem? ha));have hb:=hM.below0;clear ha hM;go_upto_region 4 with fail;go_quiet (fail);go_wp2_with fail;go_ret;exact⟨⟨_,rfl,by rw[HM.out];simp⟩,by first|exact zae hb _|exact hb|(subst hg;exact zae hb _)⟩
    ·rw[decide_eq_false h2]at nB;subst h1;rw[decide_eq_true rfl]at ku;have ed:Hid (memD (s,t) (l.take (i+1))=false):=Lib.hid (by rw[zan ha,memD_snoc,HI.out];simpa using fun e=>h2 e.symm);exact zt33
   ·rw[decide_eq_false h1]at ku;have ed:Hid (memD (s,t) (l.take (i+1))=false):=Lib.hid (by rw[zan ha,memD_snoc,HI.out];simpa using fun e=>absurd e.symm h1);exact zt33
  ·have aM:¬(i:Int)<(l.length:Int):=om;have HM:Hid (memD (s,t) l=false):=Lib.hid (by rw[←HI.out,List.take_of_length_le om]);have hb:=hM.below0;go_wp2_with fail;go_ret;exact⟨⟨_,rfl,by rw[HM.out];decide⟩,by first|exact hb|(subst hg;exact hb)⟩
theorem contains_ref (A:Option Addr) (c:Nat) (l:List Bp) (s t:ByteArray) (W:World) (hx:Prs W A l) (hl:l.length≤1000000) :
 Calls prog 112 #[.slice A l.length c,.agg #[.string s,.string t]] W fun e w'=>e=.returned (.bool (memD (s,t) l))∧Below W.heap.size W w':=by
 have hk:=(Hp.start W).new 89 [.string s,.string t];obtain⟨g3,hg⟩:∃g,W.heap.size=g:=⟨_,rfl⟩;rw[hg]at hk;go_enter func112,ntmps112;go_upto_region 1 with fail;try simp only[hg]
 have an:Hp [] W [iblk g3 89 [.string s,.string t]] (W.alloc (.cells #[.string s,.string t] 89)):=hk;clear hk;generalize W.alloc (.cells #[.string s,.string t] 89)=W1 at *;have d0:=(an.blk 0 rfl).cell 0;have d1:=(an.blk 0 rfl).cell 1;simp only[List.getElem?_cons_zero,List.getElem?_cons_succ]at d0 d1;have HC:=Lib.hid (index_ref A c l s t W1 (hx.up an.below0) hl);go_wp2_with fail;refine HC.out.mono ?_;rintro e w1 ⟨⟨y,rfl,hy⟩,hb⟩;have aG:=an.below0.trans (hb.mono an.below0.size);clear an;by_cases h:0≤y
 ·have HY:=Lib.hid (hy.1 h);clear hy;go_wp2_with fail;go_ret;exact⟨by rw[HY.out];simp,by first|exact aG|(subst hg;exact aG)⟩
 ·have HY:Hid (memD (s,t) l=false):=Lib.hid (by rw[Bool.eq_false_iff];exact fun e=>h (hy.2 e));clear hy;go_wp2_with fail;go_ret;exact⟨by rw[HY.out];simp[h],by first|exact aG|(subst hg;exact aG)⟩
end Nf
namespace Nf
open Go.RowKit Go.Shelf
open Pa (F Nd Tx)
abbrev fitR (w:World) (gp:Nat) (d:Po) (L:Lp):List It:=[ifl w,iblk gp 29 (polcs d L)]
theorem preorder_seq {w:World} {d:Po} {L:Lp} {gp:Nat} (hM:PolM w d L) (bk:∀n∈d.nodes,n.kids.length≤1000000) (hv:Pa.VN d.nodes 32 true d.root) (hw:WfP d.nodes 32 d.root) :
 SeqOwn prog 167 #[ptO gp] (fitR w gp d L) (encR w d.nodes) (fun xs=>xs=preN d.nodes 32 d.root) (fun _=>True) (preN d.nodes 32 d.root).length:=by
 intro l J Jx W rI hJ hJx hY h0;refine callsIn_wide.2 ?_;have hJ0:SsG J (fitR w gp d L) [] W:=⟨rI,h0⟩;have hk:=(Hp.self rI).new 139 [.func (.yield l) #[] #[]];obtain⟨gy,qj⟩:∃gy,W.heap.size=gy:=⟨_,rfl⟩;rw[qj]at hk;have hEV:SnG w d.nodes l (preN d.nodes 32 d.root).length J Jx:=⟨hJ,hJx,hY⟩;go_enter func167,ntmps167;go_upto_region 1 with fail;try simp only[qj]
 have an:Hp (ow (fitR w gp d L)) W (iblk gy 139 [.func (.yield l) #[] #[]]::fitR w gp d L) (W.alloc (.cells #[.func (.yield l) #[] #[]] 139)):=hk;clear hk;generalize W.alloc (.cells #[.func (.yield l) #[] #[]] 139)=W1 at *;go_upto_region 2 with fail;have ah:=an.new 139 [.nilFunc];obtain⟨gv,gT⟩:∃g,W1.heap.size=g:=⟨_,rfl⟩;rw[gT]at ah;try simp only[gT]
 have aj:Hp (ow (fitR w gp d L)) W (iblk gv 139 [.nilFunc]::iblk gy 139 [.func (.yield l) #[] #[]]::fitR w gp d L) (W1.alloc (.cells #[.nilFunc] 139)):=ah;clear an ah;generalize W1.alloc (.cells #[.nilFunc] 139)=W2 at *;have cS:=fun x y=>Fm.run_store_func prog W2 ⟨gv,0,none⟩ .plain (Fn.func 168) x y _ ((aj.blk 0 rfl).cell 0) ((aj.blk 0 rfl).frozen 0);go_upto_region 3 with fail;have aq:=aj.set 0 rfl 0 (.func (Fn.func 168) #[] #[ptO gy,ptO gp,ptO gv]);simp only[List.set_cons_zero]at aq;clear cS aj;generalize W2.setCell ⟨gv,0,none⟩ (.func (Fn.func 168) #[] #[ptO gy,ptO gp,ptO gv])=W3 at *;have aw:Hp (ow (fitR w gp d L)) W (pits w gp gy gv l d L) W3:=aq.perm ((show([0,1,2,3]:List Nat).Perm [2,3,1,0] by decide).map (fun n=>[iblk gv 139 [.func (Fn.func 168) #[] #[ptO gy,ptO gp,ptO gv]],iblk gy 139 [.func (.yield l) #[] #[]],ifl w,iblk gp 29 (polcs d L)].getD n (ifl w)));have c0:=(aw.blk 3 rfl).cell 0;have c4:W3.cell? ⟨gp,4,none⟩=some (.int .i64 d.root):=(aw.blk 1 rfl).cell 4;simp only[List.getElem?_cons_zero]at c0;have HC:=Lib.hid (pvisit_any hM bk hEV 32 true d.root [] W3 hv hw (hJ0.hp hJ aw) zy1);clear aq aw hJ0 hEV hY;go_wp2_with fail;refine HC.out.mono ?_;rintro e w9 ⟨eY,b,rfl,ht,hf⟩;have HT:=Lib.hid (And.intro ht hf);clear HC ht hf c0 c4;go_wp2_with fail;go_end0;refine⟨⟨_,rfl⟩,?_⟩;cases b with
 | true =>
   have h8:=HT.out.1 rfl;rw[List.nil_append]at h8;have h9:=h8.hp hJ (Hp.sub (it:=fitR w gp d L) (r:=[_,_]) (Hp.self h8.sep));exact⟨_,.inl ⟨_,rfl,h9.j,rfl,h9.sep⟩⟩
 | false =>
   obtain⟨q,hq⟩:=HT.out.2 rfl;exact⟨_,.inr ⟨q,trivial,hq.j⟩⟩
theorem preorder_any {d:Po} {L:Lp} (w:World) :
 Calls prog 111 #[polV d L] w fun e w'=>∃gp,e=.returned (.func (.func 167) #[] #[ptO gp])∧Hp [] w [iblk gp 29 (polcs d L)] w':=by
 have hk:=(Hp.start w).new 29 (polcs d L);go_enter func111,ntmps111;go_wp2_with fail;go_ret;exact⟨_,rfl,hk⟩
end Nf
namespace Nf
open Go.RowKit Go.Shelf
open Pa (F Nd Tx)
theorem wpListIn_append_own2 {F:Fence} {n:Nat} {P:Program} {w:World} {ops:Array Oper} {rest:List Oper} {o:Oper} {a:Act} {Q:Exit→Act→World→Prop}
 (hg:o.guard=none) (s x:Operand) (t:TypeId) (iK:o.op=Op.call { callee:=Callee.builtin Builtin.append,args:=#[s,x],argTypes:=#[t,t] })
 (base:Nat) (e:TypeId) (i:TypeInfo) (z:Value) (size bytes:Nat) (h1:P.underlying t=some (.slice e)) (h2:P.info? e=some i) (h3:i.zero=some z) (h4:i.size=size) (h5:i.bytes=bytes) (h6:z.cells.size=size) (h7:0<size)
 (v:Value) (k:Nat) (xs:List Value) (hs:a.eval s=v) (af:w.ownsRow base e size v k xs) (ad:Addr) (m c:Nat) (news:List Value) (hx:a.eval x=.slice (some ad) m c) (hn:news.length=m*size)
 (hc:∀j u,news[j]? =some u→w.cell? (ad.add j)=some u) (nZ:∀u∈news,u.oneCell'=true) (hm:0<m) (b1:k+m≤maxLen) (b2:(k+m)*bytes≤140737488355328) (b3:base≤w.heap.size)
 (hK:∀v' w',w'.ownsRow base e size v' (k+m) (xs++news)→w.grownBy w' v.ownBlock→(v'.ownBlock=v.ownBlock∨∀g,v'.ownBlock=some g→w.heap.size≤g)→wpListIn F n P ops Q rest (a.put o.dst v') w') :
 wpListIn F n P ops Q (o::rest) a w:=by
 refine wpListIn_plain hg fun K hK'=>?_;obtain⟨v',w',cJ,r1,r2,r3⟩:=run_append_own2 (P:=P) (w:=w) base t o.type e i z size bytes h1 h2 h3 h4 h5 h6 h7 v k xs af ad m c news hn hc nZ hm b1 b2 b3;unfold Oper.wpIn;refine⟨?_,?_⟩
 ·simp[Oper.about,iK,resolve,Target.leads,Sem.run_pure]
 ·rw[Oper.semAt_plain F _ _ (by rw[iK];intro c hc';cases hc')];simp[execOp,iK,resolve,invoke,builtin,hs,hx,cJ,Result.andThen];exact hK' _ _ (hK v' w' r1 r2 r3)
def rnN (ns:List Nk) (x:Int):List Bp:=if(nodeK ns x).kind=9 then[((nodeK ns x).name,(nodeK ns x).attr)]else[]
def ddN (ns:List Nk) (pre:List Int):List Bp:=dd (pre.flatMap (rnN ns))
theorem ddN_snoc (ns:List Nk) (pre:List Int) (x:Int):ddN ns (pre++[x])=(rnN ns x).foldl ddS (ddN ns pre):=by
 unfold ddN dd;rw[List.flatMap_append,List.foldl_append];simp
theorem dd_len (l:List Bp):(dd l).length≤l.length:=nodup_len _ _ (dd_nodup l) fun x hx=>dd_mem.1 hx
theorem rn_len (ns:List Nk) (pre:List Int):(pre.flatMap (rnN ns)).length≤pre.length:=by
 induction pre with
 | nil=>exact Nat.le_refl _
 | cons x l ih =>
   rw[List.flatMap_cons,List.length_append,List.length_cons];have:(rnN ns x).length≤1:=by unfold rnN;split<;>simp
   omega
theorem ddN_len (ns:List Nk) (pre:List Int):(ddN ns pre).length≤pre.length:=Nat.le_trans (dd_len _) (rn_len ns pre)
theorem refF_app:∀(f g:F),refF (f.app g)=refF f++refF g
 | .nil,_=>rfl
 | .cons x k r,g=>by rw[F.app,refF,refF,refF_app r g];simp
theorem pre_refs {ns:List Nk}:∀(f:Nat) (c:Bool) (a:Int),Pa.VN ns f c a→(preN ns f a).flatMap (rnN ns)=refF (Pa.treeN ns f a)∧(preN ns f a).length=(Pa.treeN ns f a).size
 | 0,c,a,h=>h.elim
 | f+1,c,a,h=>by
   obtain⟨n,hn,hF,hk⟩:=h;replace hF:=Pa.form_fm hF;have ft:nodeK ns a=n:=by unfold nodeK;rw[hn];rfl
   have key:∀(l:List Int),(∀k∈l,Pa.VN ns f (decide (n.kind≤5)) k)→(l.flatMap (preN ns f)).flatMap (rnN ns)=refF (F.cat (l.map (Pa.treeN ns f)))∧(l.flatMap (preN ns f)).length=(F.cat (l.map (Pa.treeN ns f))).size:=by
    intro l
    induction l with
    | nil=>intro _;exact⟨rfl,rfl⟩
    | cons k l ih =>
      intro hl;obtain⟨i1,i2⟩:=ih fun x hx=>hl x (List.mem_cons_of_mem _ hx);obtain⟨j1,j2⟩:=pre_refs f _ k (hl k (List.mem_cons_self ..));rw[List.flatMap_cons,List.flatMap_append,List.map_cons,List.length_append,i1,i2,j1,j2];show _=refF (F.app _ _)∧_=(F.app _ _).size;rw[refF_app,size_app];exact zv6
   obtain⟨k1,k2⟩:=key n.kids hk;rw[preN,ft,List.flatMap_cons,k1,List.length_cons,k2,Pa.treeN_in hn,refF,F.size];refine⟨?_,by simp[F.size]⟩;congr 1
   ·unfold rnN;rw[ft];by_cases h9:n.kind=9
    ·rw[if_pos h9,if_pos (by show n.kind.toNat=9;omega)];show[(n.name,n.attr)]=[(bs (tl n.name),bs (tl n.attr))];rw[bs_tl,bs_tl]
    ·have:=hF.lo;rw[if_neg h9,if_neg (by show¬n.kind.toNat=9;omega)]
   ·simp[refF]
end Nf
namespace Nf
open Go.RowKit Go.Shelf
open Pa (F Nd Tx)
attribute [local go_sem] Oper.semAt_some
theorem ref_info:(prog.info? 89).map (fun i=>(i.zero,i.size,i.bytes))=some (some (.agg #[.string ⟨#[]⟩,.string ⟨#[]⟩]),2,32):=kr
theorem fl_out {w W:World} {its:List It} (h:Hp (ow [ifl w]) w (ifl w::its) W):Hp [] w its W:=by
 refine⟨h.tail.sep,h.stp.low,fun k hk _=>(h.sep.ok (ifl w) (List.mem_cons_self ..)).2 k hk,fun b hb=>.inr ?_⟩;rcases Nat.lt_or_ge b w.heap.size with h1|h1
 ·have h2:=h.sep.ap;have h3:ow (ifl w::its)=(ifl w).own++ow its:=rfl;rw[h3,List.nodup_append]at h2;exact absurd rfl (h2.2.2 b (List.mem_range.2 h1) b hb)
 ·exact h1
theorem prs_row {W:World} {t:TypeId} {A:Option Addr} {n c:Nat} {l:List Bp} (h:W.ownsRow 0 t 2 (.slice A n c) l.length (zas l)):Prs W A l:=⟨fun i x hx=>by
 have hl:=(List.getElem?_eq_some_iff.1 hx).1;obtain⟨g,cap,hv,-⟩:=zak h om;injection hv with hA hn hc;subst hA;obtain⟨b1,b2⟩:=bcells_at hx;have h1:=h.cells rfl (i*2) _ b1;have h2:=h.cells rfl (i*2+1) _ b2;have e0:∀j,(⟨g,0,none⟩:Addr).add j=⟨g,j,none⟩:=fun j=>by unfold Addr.add;split<;>simp_all
 rw[e0]at h1 h2;refine⟨_,rfl,by rw[e0];exact h1,?_⟩;rw[e0];exact h2⟩
theorem new2' (w:World) (t:TypeId) (a b:Value):∀(j:Nat) u,[a,b][j]? =some u→(w.alloc (.cells #[a,b] t)).cell? ((⟨w.heap.size,0,none⟩:Addr).add j)=some u:=by
 intro j u hu;have e9:(⟨w.heap.size,0,none⟩:Addr).add j=⟨w.heap.size,j,none⟩:=by unfold Addr.add;split<;>simp_all
 rw[e9,(show Blk (w.alloc (.cells #[a,b] t)) w.heap.size t [a,b]from Blk.new w t [a,b]).cell j];exact hu
theorem hp_putNew {o:List Nat} {w W:World} {it:List It} {l:Nat} (h:Hp o w it W) (ob:Obj) (hl:l<W.heap.size) (hw:w.heap.size≤l) (hn:l∉ow it):Hp o w it (W.putObj l ob):=⟨h.sep.put _ hn,h.stp.putNew _ hl hw⟩
abbrev rits (g3 g1:Nat) (d:Po) (L:Lp) (v:Value) (R:List Bp):List It:=[iblk g3 26 [v],irow 89 2 v R.length (zas R),iblk g1 29 (polcs d L)]
def refI (g3 g1:Nat) (d:Po) (L:Lp) (pre:List Int) (it:List It):Prop:=∃v,it=rits g3 g1 d L v (ddN d.nodes pre)
theorem refs_any (d:Po) (L:Lp) (hB:PBd d) (hc:checkP d=0) (bk:∀n∈d.nodes,n.kids.length≤1000000) (w:World) (hP:PolM w d L) :
 Calls prog 53 #[polV d L] w fun e w'=>∃v,e=.returned v∧Hp [] w [irow 89 2 v (dd (refF (treeD d))).length (zas (dd (refF (treeD d))))] w':=by
 have iR:=Pa.tree_vn hc;have gM:=tree_wf (za5 hc);obtain⟨e1,e2⟩:=pre_refs 32 true d.root iR;have wI:=Go.Proofs.YtekkapgknohadaaGreatDoor.tree_size hc;have hN:(preN d.nodes 32 d.root).length≤512:=by
  have:d.nodes.length≤512:=by
   unfold checkP at hc;split at hc
   ·cases hc
   ·omega
  rw[e2,wI];exact this
 have HR:=Lib.hid (show ddN d.nodes (preN d.nodes 32 d.root)=dd (refF (treeD d)) by unfold ddN;rw[e1];rfl);rw[←HR.out];have hk:=(fl_hp (w:=w)).new 29 (polcs d L);generalize hoF:ow [ifl w]=oF at *;obtain⟨g1,el⟩:∃g,w.heap.size=g:=⟨_,rfl⟩;rw[el]at hk;have jD:=Lib.hid (fun W (hb:Below w.heap.size w W)=>Go.Proofs.YtekkapgknohadaaGreatDoor.pcheck_any d L hB W (hP.up hb));rw[hc]at jD;refine(callsIn_wide (n:=0)).1 ?_;refine callsIn_of_wp_marks func53 rfl trivial ?_ rfl;simp only[ntmps53,List.size_toArray,List.length_cons,List.length_nil,Nat.reduceAdd,Nat.reduceSub,Array.replicate_succ,Array.replicate_zero,List.push_toArray,List.append_toArray,List.nil_append,List.cons_append];have an:Hp oF w [iblk g1 29 (polcs d L),ifl w] (w.alloc (.cells #[.string d.name,.slice L.ua d.uses.length L.uc,.slice L.ra d.reveal.length L.rc,.slice L.na d.nodes.length L.nc,.int .i64 d.root,.string d.scope,.int .i64 d.limit,.string d.escrow] 29)):=hk;have aC:Below w.heap.size w (w.alloc (.cells #[.string d.name,.slice L.ua d.uses.length L.uc,.slice L.ra d.reveal.length L.rc,.slice L.na d.nodes.length L.nc,.int .i64 d.root,.string d.scope,.int .i64 d.limit,.string d.escrow] 29)):=(Below.refl _ _).alloc (Nat.le_refl _) _;clear hk;obtain⟨c0,c1,c2,c3,c4,c5,c6,c7⟩:=(an.blk 0 rfl).get8
 gi_wp2
 try simp only[el]
 generalize w.alloc (.cells #[.string d.name,.slice L.ua d.uses.length L.uc,.slice L.ra d.reveal.length L.rc,.slice L.na d.nodes.length L.nc,.int .i64 d.root,.string d.scope,.int .i64 d.limit,.string d.escrow] 29)=W1 at *;refine⟨trivial,rfl,?_⟩;refine(callsIn_wide.2 (jD.out W1 aC)).mono ?_;rintro e w1 ⟨rfl,aG⟩;have ah:=an.next aG;clear an c0 c1 c2 c3 c4 c5 c6 c7 jD;have aj:=ah.new 26 [.slice none 0 0];obtain⟨g3,eD⟩:∃g,w1.heap.size=g:=⟨_,rfl⟩;rw[eD]at aj;obtain⟨c0,c1,c2,c3,c4,c5,c6,c7⟩:=(aj.blk 1 rfl).get8
 gi_wp2
 try simp only[eD]
 clear c0 c1 c2 c3 c4 c5 c6 c7;refine⟨trivial,rfl,?_⟩;refine(callsIn_wide.2 (preorder_any _)).mono ?_;rintro e w2 ⟨gp,rfl,hH⟩;have aq:=(Hp.call (a:=[]) aj hH).nilrow 89 2;clear aj ah hH;have cQ:Hp oF w (rits g3 g1 d L (.slice none 0 0) []++fitR w gp d L) _:=aq.perm ((show([0,1,2,3,4]:List Nat).Perm [2,0,3,4,1] by decide).map (fun n=>[irow 89 2 (.slice none 0 0) 0 [],iblk gp 29 (polcs d L),iblk g3 26 [.slice none 0 0],iblk g1 29 (polcs d L),ifl w].getD n (ifl w)));clear aq;have hrN:=ddN_len d.nodes
 gi_wp2
 refine wpIn_range_own rfl (enters_of func167 kr rfl) (preorder_seq (w:=w) (gp:=gp) hP bk iR gM) (refI g3 g1 d L) (fun _ _ _=>False) ⟨_,rfl⟩ cQ.sep ?a1 ?assign ?body ?enc ?done ?stop;case assign =>
  intro l v W K hK
  gi_wp2
  exact hK
 case enc =>
  rintro x v o A B ⟨h1,h2,h3,h4⟩ k;exact⟨h1,h2,(ifl w).st A B (fun b hb=>k.own b (h4 b hb) ((ifl w).lv A h3 b hb)) h3,h4⟩
 case stop =>
  rintro D c pre it W _ h;exact h.elim
 case body =>
  rintro l pre x v it o W3 ⟨vo,rfl⟩ eY hNN ⟨rfl,⟨j,m,rfl,hm,kW⟩,dX,hfo⟩ hdis;have hS:=Hp.self eY;generalize eM:ow (rits g3 g1 d L vo (ddN d.nodes pre))=oo at *;obtain⟨ad,KA,kc,hA,aP⟩:=hP.ns.at_ j m hm;have jN:=fl_node dX aP;have ay:=(List.getElem?_eq_some_iff.1 hm).1;have aM:(j:Int)<(d.nodes.length:Int):=om;have aL:(0:Int)≤(j:Int):=om;obtain⟨VA,vc,rfl⟩:=zab (hS.row 1 rfl);have fJ:=hrN pre;have c3:W3.cell? ⟨g1,3,none⟩=some (.slice L.na d.nodes.length L.nc):=(hS.blk 2 rfl).cell 3;rw[hA]at c3;have rO:=Lib.hid (ddN_snoc d.nodes pre (j:Int));have oU:=Lib.hid (show rnN d.nodes (j:Int)=if m.kind=9 then[(m.name,m.attr)]else[] by unfold rnN;rw[zcg hm]);have d0:=jN.kind;have d1:=jN.num;have d2:=jN.name;have d3:=jN.attr;have d4:W3.cell? ⟨(ad.add (j*6)).block,(ad.add (j*6)).off+4,none⟩=some (.slice KA m.kids.length kc):=jN.kids;have d5:=jN.at_;clear hm jN aP;have bS:=(hS.new 68 (ndC m KA kc)).new 89 [.string m.name,.string m.attr];obtain⟨ga,dK⟩:∃g,W3.heap.size=g:=⟨_,rfl⟩;simp only[sizeA,dK]at bS;have x0:((W3.alloc (.cells #[.int .i64 m.kind,.int .i64 m.num,.string m.name,.string m.attr,.slice KA m.kids.length kc,.int .i64 m.at_] 68)).alloc (.cells #[.string m.name,.string m.attr] 89)).cell? ⟨g3,0,none⟩=some (.slice VA (ddN d.nodes pre).length vc):=(bS.blk 2 rfl).cell 0;have t':prog.follows .mixedOrders=true:=kr;obtain⟨R,hR⟩:∃R,ddN d.nodes pre=R:=⟨_,rfl⟩;rw[hR]at bS x0 fJ rO eM;by_cases h9:m.kind=9
  ·have h9b:(m.kind==9)=true:=by rw[h9];rfl
   rw[if_pos h9]at oU;clear h9 hS eY
   gi_wp2
   refine⟨trivial,rfl,?_⟩;refine(CallsIn.inRound l (callsIn_wide.2 (contains_ref VA vc R m.name m.attr _ (prs_row (bS.row 3 rfl)) om))).mono ?_;rintro e w5 ⟨rfl,aS⟩;have bt:=bS.next aS;clear bS aS x0;cases sK:memD (m.name,m.attr) R with
   | true =>
     have jB:Hid (ddN d.nodes (pre++[(j:Int)])=R):=Lib.hid (by rw[rO.out,oU.out];show ddS R _=R;unfold ddS;rw[if_pos sK]);clear sK
     gi_wp2
     refine⟨_,⟨.slice VA R.length vc,rfl⟩,?_⟩;rw[jB.out,hR,eM];exact bt.tail.tail
   | false =>
     have jB:Hid (ddN d.nodes (pre++[(j:Int)])=R++[(m.name,m.attr)]):=Lib.hid (by rw[rO.out,oU.out];show ddS R _=_;unfold ddS;rw[if_neg (by rw[sK];decide)]);obtain⟨i0,cC,bg,aY,bh⟩:=info_parts ref_info;have x0:w5.cell? ⟨g3,0,none⟩=some (.slice VA R.length vc):=(bt.blk 2 rfl).cell 0;have y0:=(bt.blk 0 rfl).cell 0;have y1:=(bt.blk 0 rfl).cell 1;simp only[List.getElem?_cons_zero,List.getElem?_cons_succ]at y0 y1;clear sK
     gi_wp2_with (gi_at_builtin;refine wpListIn_append_own2 rfl _ _ 26 rfl 0 89 i0 _ 2 32 underlying26 cC bg aY bh rfl zy0 _ R.length (zas R) rfl ((bt.alloc _).row 3 rfl) ⟨w5.heap.size,0,none⟩ 1 1 [.string m.name,.string m.attr] rfl rfl (new2' _ _ _ _) zy9 zy0 zy2 om (Nat.zero_le _) ?_;intro v' w6 af ai aH;have de:=(bt.alloc (.cells #[.string m.name,.string m.attr] 89)).grown 3 rfl af ai aH;obtain⟨VB,vb,rfl⟩:=zab af;clear af ai aH;have z0:=(de.blk 2 rfl).frozen 0;have z1:=(de.blk 2 rfl).cell 0;simp only[List.getElem?_cons_zero]at z1)
     have qf:=de.set 2 rfl 0 (.slice VB (R.length+1) vb);refine⟨_,⟨.slice VB (R.length+1) vb,rfl⟩,?_⟩;have e3:zas (R++[(m.name,m.attr)])=zas R++[.string m.name,.string m.attr]:=by simp
     rw[jB.out,hR,eM];show Hp _ _ [iblk g3 26 _,irow 89 2 _ (R++[(m.name,m.attr)]).length (zas (R++[(m.name,m.attr)])),iblk g1 29 (polcs d L)] _;rw[List.length_append,e3];exact qf.tail.tail
  ·have h9b:(m.kind==9)=false:=by rw[beq_eq_false_iff_ne];exact h9
   rw[if_neg h9]at oU;have jB:Hid (ddN d.nodes (pre++[(j:Int)])=R):=Lib.hid (by rw[rO.out,oU.out];rfl);clear h9 hS eY
   gi_wp2
   refine⟨trivial,?_⟩
   gi_wp2
   refine⟨_,⟨.slice VA R.length vc,rfl⟩,?_⟩;rw[jB.out,hR,eM];exact bS.tail.tail
 case done =>
  rintro D xs it W4 rfl ⟨vo,rfl⟩ hh hD hDw oP;have cu:Hp oF w ((rits g3 g1 d L vo (ddN d.nodes (preN d.nodes 32 d.root))++fitR w gp d L)++[]) W4:=Hp.call (r:=[]) (by rw[List.append_nil];exact cQ) hh;rw[List.append_nil]at cu;obtain⟨R,hR⟩:∃R,ddN d.nodes (preN d.nodes 32 d.root)=R:=⟨_,rfl⟩;rw[hR]at cu hD;obtain⟨VA,vc,rfl⟩:=zab (cu.row 1 rfl);have x0:W4.cell? ⟨g3,0,none⟩=some (.slice VA R.length vc):=(cu.blk 0 rfl).cell 0;have hDl:D<W4.heap.size:=(Array.getElem?_eq_some_iff.1 oP).1;have t6:w.heap.size≤D:=Nat.le_trans cQ.size hDw
  gi_wp2
  refine⟨by simp,.inl ⟨_,_,rfl,run_takeDeferred oP,?_⟩⟩;have de:=hp_putNew (l:=D) cu (.deferred none) hDl t6 hD;refine⟨.slice VA R.length vc,by simp[results,results53,go_sem],?_⟩;refine⟨_,rfl,?_⟩;rw[hR];subst hoF;have h9:=fl_out (de.perm ((show([0,1,2,3,4]:List Nat).Perm [3,1,0,2,4] by decide).map (fun n=>[iblk g3 26 [.slice VA R.length vc],irow 89 2 (.slice VA R.length vc) R.length (zas R),iblk g1 29 (polcs d L),ifl w,iblk gp 29 (polcs d L)].getD n (ifl w))));exact Hp.sub (it:=[_]) h9
end Nf
namespace Nf
open Go.RowKit Go.Shelf
open Pa (F Nd Tx)
theorem first_at {α β:Type} [DecidableEq α] (g:β→α) (a:α):∀(l:List β) (u:Nat) (x:β),l[u]? =some x→g x=a→(l.take u).find? (fun y=>decide (g y=a))=none→idxL a (l.map g)=u
 | [],u,x,h,_,_=>by simp at h
 | y::r,0,x,h,e,_=>by
   simp only[List.getElem?_cons_zero,Option.some.injEq]at h;subst h;rw[List.map_cons,idxL,if_pos e]
 | y::r,u+1,x,h,e,hn=>by
   rw[List.take_succ_cons]at hn;by_cases hy:g y=a
   ·rw[List.find?_cons_of_pos (by simpa using hy)]at hn;cases hn
   ·rw[List.find?_cons_of_neg (by simpa using hy)]at hn;rw[List.map_cons,idxL,if_neg hy,first_at g a r u x zyc e hn]
theorem at_pls {S:List Sm} {U:List Bp} {a t:ByteArray} {u k:Nat} (h:AtF S U a t u k):plS S U (a,t)=((u:Int),(k:Int)+2):=by
 obtain⟨s,m,h1,h2,h3,h4⟩:=h;have hu:useN U a=u:=first_at Prod.fst a U u (a,s) h1 rfl h2;unfold plS fldN;simp only[hu];have e:(U.getD u (⟨#[]⟩,⟨#[]⟩))=(a,s):=by rw[List.getD_eq_getElem?_getD,h1];rfl
 rw[e];simp only[h3,h4];rfl
theorem oidle_any (g4 g5:Nat) (w:World) :
 CallsD prog 50 #[ptO g4,ptO g5] .returning w fun e u' w'=>e=.returned (.tuple #[])∧u'=.returning∧w'=w:=by
 refine callsD_of_wpS func50 rfl fun c₀ cs hu=>?_;apply wpS_seq;apply wpS_region;simp[wpOpsS,go_sem,recoverD,hu,ntmps50,Exit.thenS];apply wpS_seq;apply wpS_region;simp[wpOpsS,go_sem,ntmps50,Exit.thenS,Array.replicate];refine wpS_cond (t:=false) (by simp[Act.eval,Array.replicate]) ?_;simp only[Bool.false_eq_true,if_false];refine wpS_of_wp (wp_skip ?_);cases c₀;simp_all [bodyPostS,results,results50]
theorem ofind_any {d:Po} {L:Lp} {A:Option Addr} {c:Nat} {S:List Sm} {w0:World} (E:Env w0 d L A c S) (hR:zah chkB S d=true) (a t:ByteArray) (fd:Fd) (hf:findS S d.uses a t=some fd) (ff:fd.words.length≤1000000) (g2 g3:Nat) (w:World) (h0:Below w0.heap.size w0 w)
 (h2:Blk w g2 29 (polcs d L)) (h3:Blk w g3 22 [.slice A S.length c]) :
 Calls prog 51 #[.agg #[.string a,.string t],ptO g2,ptO g3] w fun e w'=>(∃CA cc,e=.returned (.tuple #[plV (plS S d.uses (a,t)).1 (plS S d.uses (a,t)).2,.agg (fcs fd CA cc).toArray])∧Hp [] w [irow 9 1 (.slice CA fd.words.length cc) fd.words.length (svals fd.words)] w'):=by
 have hk:=((((Hp.start w).new 89 [.string a,.string t]).new 122 [.int .i64 0,.int .i64 0]).new 57 zFl);obtain⟨g,hg⟩:∃g,w.heap.size=g:=⟨_,rfl⟩;simp only[sizeA,hg]at hk;have HF:=Lib.hid (fun W (hb:Below w.heap.size w W)=>tfieldP_any E hR a t fd hf ff W (h0.trans (hb.mono h0.size)));have HB:=Lib.hid (fun W (hb:Below w.heap.size w W)=>And.intro (h2.below hb h2.lt) (h3.below hb h3.lt));clear E hR hf h2 h3;go_enter func51,ntmps51;go_upto_region 1 with fail;obtain⟨q,hq⟩:∃f,g+1=f:=⟨_,rfl⟩;obtain⟨h,hh⟩:∃f,q+1=f:=⟨_,rfl⟩;simp only[hq,hh]at hk;try simp only[sizeA,hg,hq,hh]
 have an:Hp [] w [iblk h 57 zFl,iblk q 122 [.int .i64 0,.int .i64 0],iblk g 89 [.string a,.string t]] (((w.alloc (.cells #[.string a,.string t] 89)).alloc (.cells #[.int .i64 0,.int .i64 0] 122)).alloc (.cells #[.string ⟨#[]⟩,.int .i64 0,.int .i64 0,.int .i64 0,.slice none 0 0] 57)):=hk;clear hk;generalize ((w.alloc (.cells #[.string a,.string t] 89)).alloc (.cells #[.int .i64 0,.int .i64 0] 122)).alloc (.cells #[.string ⟨#[]⟩,.int .i64 0,.int .i64 0,.int .i64 0,.slice none 0 0] 57)=W1 at *;clear hq hh;obtain⟨c0,c1,c2,c3,c4,c5,c6,c7⟩:=(HB.out W1 an.below0).1.get8;have e0:=(HB.out W1 an.below0).2.cell 0;have r0:=(an.blk 2 rfl).cell 0;have r1:=(an.blk 2 rfl).cell 1;simp only[List.getElem?_cons_zero,List.getElem?_cons_succ]at e0 r0 r1;go_wp2_with fail;refine(HF.out W1 an.below0).mono ?_;rintro e w2 ⟨CA,cc,u,k,aH,rfl,hs⟩;have HP:=Lib.hid (at_pls aH);have ah:=(((Hp.call (a:=[]) an hs).perm (List.perm_append_comm (l₁:=[_]) (l₂:=[_,_,_]))).new 122 [.int .i64 (u:Int),.int .i64 ((k:Int)+2)]).new 57 (fcs fd CA cc);obtain⟨g6,jP⟩:∃g,w2.heap.size=g:=⟨_,rfl⟩;simp only[sizeA,jP]at ah;clear an HF HB c0 c1 c2 c3 c4 c5 c6 c7 e0 r0 r1 aH hs;go_upto_region 4 with fail;obtain⟨g7,hg7⟩:∃g,g6+1=g:=⟨_,rfl⟩;rw[hg7]at ah;try simp only[sizeA,jP,hg7]
 have aj:Hp [] w [iblk g7 57 (fcs fd CA cc),iblk g6 122 [.int .i64 (u:Int),.int .i64 ((k:Int)+2)],iblk h 57 zFl,iblk q 122 [.int .i64 0,.int .i64 0],iblk g 89 [.string a,.string t],irow 9 1 (.slice CA fd.words.length cc) fd.words.length (svals fd.words)] ((w2.alloc (.cells #[.int .i64 (u:Int),.int .i64 ((k:Int)+2)] 122)).alloc (.cells #[.string fd.name,.int .i64 fd.kind,.int .i64 fd.min,.int .i64 fd.max,.slice CA fd.words.length cc] 57)):=ah;clear ah;generalize (w2.alloc (.cells #[.int .i64 (u:Int),.int .i64 ((k:Int)+2)] 122)).alloc (.cells #[.string fd.name,.int .i64 fd.kind,.int .i64 fd.min,.int .i64 fd.max,.slice CA fd.words.length cc] 57)=W3 at *;have hd:=aj.drew;clear aj;refine wp_region_held_drew (S:=(fun w'=>(w'.cell? ⟨g7,0,none⟩=some (.string fd.name)∧w'.cell? ⟨g7,1,none⟩=some (.int .i64 fd.kind)∧w'.cell? ⟨g7,2,none⟩=some (.int .i64 fd.min)∧w'.cell? ⟨g7,3,none⟩=some (.int .i64 fd.max)∧w'.cell? ⟨g7,4,none⟩=some (.slice CA fd.words.length cc))∧(w'.cell? ⟨g6,0,none⟩=some (.int .i64 (u:Int))∧w'.cell? ⟨g6,1,none⟩=some (.int .i64 ((k:Int)+2)))∧True)) kr ?_ (fun ae=>?_)
 ·exact⟨Blk.get5 (hd.blk 0 rfl),⟨(hd.blk 1 rfl).cell 0,(hd.blk 1 rfl).cell 1⟩,trivial⟩
 refine tk3 0 rfl ?_;refine zvq ?_;refine tk3 1 rfl ?_;refine zvq ?_;refine tkO 2 rfl (fun K hK=>?_);rw[if_pos rr];refine wp_store_row 122 (.tmp 4) (.tmp 21) rfl q [.int .i64 (u:Int),.int .i64 ((k:Int)+2)].toArray rfl rfl 122 [.int .i64 0,.int .i64 0].toArray (hd.blk 3 rfl) kr kr kr ?_;have h5:=hd.rowAt 3 rfl [.int .i64 (u:Int),.int .i64 ((k:Int)+2)];refine hK.out _ _ ⟨Blk.get5 (h5.blk 0 rfl),⟨(h5.blk 1 rfl).cell 0,(h5.blk 1 rfl).cell 1⟩,trivial⟩ (fun ae=>?_);clear hK K;refine tkO 3 rfl (fun K hK=>?_);rw[if_pos rr];refine wp_store_row 57 (.tmp 5) (.tmp 22) rfl h (fcs fd CA cc).toArray rfl rfl 57 zFl.toArray (h5.blk 2 rfl) kr kr kr ?_;have h6:=h5.rowAt 2 rfl (fcs fd CA cc);refine hK.out _ _ ⟨Blk.get5 (h6.blk 0 rfl),⟨(h6.blk 1 rfl).cell 0,(h6.blk 1 rfl).cell 1⟩,trivial⟩ (fun ae=>?_);clear hK K;refine wpAnyH_done kr ?_ _;have h7:=Hp.sub (it:=[_]) (h6.pull 5 rfl);have z0:=(h6.blk 3 rfl).cell 0;have z1:=(h6.blk 3 rfl).cell 1;obtain⟨y0,y1,y2,y3,y4⟩:=Blk.get5 (h6.blk 2 rfl);simp only[List.getElem?_cons_zero,List.getElem?_cons_succ]at z0 z1;clear ae h6 h5 hd;go_wp2_with fail;refine bodyPost_ret (v:=.tuple #[plV (u:Int) ((k:Int)+2),.agg (fcs fd CA cc).toArray]) (by simp[results,results51,go_sem,z0,z1,y0,y1,y2,y3,y4]) rfl ?_;exact⟨CA,cc,by rw[HP.out],h7⟩
end Nf
namespace Nf
open Go.RowKit Go.Shelf Go.Maps Go.WideMaps
open Pa (F Nd Tx)
theorem wp_mapUpdate_own {H:Type} {P:Program} {w:World} {o:Oper} {a:Act} {K:Act→World→Prop} {Q:Exit→Act→World→Prop} (m x v:Operand) (t:TypeId) (iK:o.op=Op.mapUpdate t m x v)
 (k e:TypeId) (Ky:Keyed P k) (ht:P.underlying t=some (.map k e)) (R:Value→Option (DataW H×List MemPlace)) (b n:Nat) (D:DataW H)
 (hm:a.eval m=.map (some b)) (af:w.ownsMap P k R b n D) (hn:n<maxLen) (key val:Value) (kl:Lit) (hx:a.eval x=key) (hv:a.eval v=val) (vq:keyOf P k key=some kl)
 (d:DataW H) (ps:List MemPlace) (ea:R val=some (d,ps))
 (h:∀w',w'.ownsMap P k R b (n+1) (D.put kl d)→w.grownBy w' (some b)→K (a.put o.dst undef) w'):Oper.wp P o a w K Q:=by
 obtain⟨w',cJ,r1,r2⟩:=af.update Ky ht hn vq ea;unfold Oper.wp;simp[execOp,iK,hm,hx,hv,cJ,Result.andThen];exact h w' r1 r2
structure Ent where
 r:Bp
 f:Fd
 fa:Option Addr
 fc:Nat
 b:Nat
def entS:Nat→List Ent→List (Bp×Value)
 | _,[]=>[]
 | k,x::l=>(x.r,cmV (k:Int) x.f x.fa x.fc x.b)::entS (k+1) l
theorem entS_snoc:∀(l:List Ent) (k:Nat) (x:Ent),entS k (l++[x])=entS k l++[(x.r,cmV ((k+l.length:Nat):Int) x.f x.fa x.fc x.b)]
 | [],k,x=>by simp[entS]
 | y::l,k,x=>by
   rw[List.cons_append,entS,entS,entS_snoc l (k+1) x,List.cons_append,List.length_cons];congr 5;omega
theorem entS_len:∀(l:List Ent) (k:Nat),(entS k l).length=l.length
 | [],_=>rfl
 | _::l,k=>by rw[entS,List.length_cons,entS_len l,List.length_cons]
theorem entS_at:∀(l:List Ent) (k i:Nat) (x:Ent),l[i]? =some x→(x.r,cmV ((k+i:Nat):Int) x.f x.fa x.fc x.b)∈entS k l
 | [],_,_,_,h=>by simp at h
 | y::l,k,0,x,h=>by
   simp only[List.getElem?_cons_zero,Option.some.injEq]at h;subst h;rw[entS];exact List.mem_cons_self ..
 | y::l,k,i+1,x,h=>by
   rw[entS];have:=entS_at l (k+1) i x zyc;rw[show k+(i+1)=k+1+i by omega];exact List.mem_cons_of_mem _ this
theorem entS_keys:∀(l:List Ent) (k:Nat),∀x∈entS k l,x.1∈l.map Ent.r
 | [],_,x,h=>by cases h
 | y::l,k,x,h=>by
   rw[entS]at h;rw[List.map_cons];rcases List.mem_cons.1 h with rfl|h
   ·exact List.mem_cons_self ..
   ·exact List.mem_cons_of_mem _ (entS_keys l (k+1) x h)
def wrdT:Nat→List ByteArray→List (ByteArray×Value)
 | _,[]=>[]
 | k,s::l=>(s,.int .i64 (k:Int))::wrdT (k+1) l
theorem wrdT_snoc:∀(l:List ByteArray) (k:Nat) (s:ByteArray),wrdT k (l++[s])=wrdT k l++[(s,.int .i64 ((k+l.length:Nat):Int))]
 | [],k,s=>by simp[wrdT]
 | y::l,k,s=>by
   rw[List.cons_append,wrdT,wrdT,wrdT_snoc l (k+1) s,List.cons_append,List.length_cons];congr 5;omega
theorem wrdT_len:∀(l:List ByteArray) (k:Nat),(wrdT k l).length=l.length
 | [],_=>rfl
 | _::l,k=>by rw[wrdT,List.length_cons,wrdT_len l,List.length_cons]
theorem wrdT_keys:∀(l:List ByteArray) (k:Nat),∀x∈wrdT k l,x.1∈l
 | [],_,x,h=>by cases h
 | y::l,k,x,h=>by
   rw[wrdT]at h;rcases List.mem_cons.1 h with rfl|h
   ·exact List.mem_cons_self ..
   ·exact List.mem_cons_of_mem _ (wrdT_keys l (k+1) x h)
theorem wrdT_at:∀(l:List ByteArray) (k:Nat) (s:ByteArray),s∈l→(s,Value.int .i64 ((k+idxL s l:Nat):Int))∈wrdT k l
 | y::l,k,s,h=>by
   rw[wrdT,idxL];by_cases e:y=s
   ·rw[if_pos e];subst e;exact List.mem_cons_self ..
   ·rw[if_neg e];have h2:s∈l:=by
     rcases List.mem_cons.1 h with h|h
     ·exact absurd h.symm e
     ·exact h
    have:=wrdT_at l (k+1) s h2;rw[show k+(idxL s l+1)=k+1+idxL s l by omega];exact List.mem_cons_of_mem _ this
def entT (l:List Ent):List (Nat×List (ByteArray×Value)):=l.map fun x=>(x.b,wrdT 0 x.f.words)
theorem entT_snoc (l:List Ent) (x:Ent):entT (l++[x])=entT l++[(x.b,wrdT 0 x.f.words)]:=by unfold entT;rw[List.map_append];rfl
structure EntOk (S:List Sm) (U:List Bp) (R:List Bp) (l:List Ent):Prop where
 r:l.map Ent.r=R
 f:∀x∈l,findS S U x.r.1 x.r.2=some x.f
theorem EntOk.len {S:List Sm} {U R:List Bp} {l:List Ent} (h:EntOk S U R l):l.length=R.length:=by rw[←h.r,List.length_map]
theorem EntOk.snoc {S:List Sm} {U R:List Bp} {l:List Ent} {i:Nat} {r:Bp} {f:Fd} (h:EntOk S U (R.take i) l) (hr:R[i]? =some r) (hf:findS S U r.1 r.2=some f) (fa:Option Addr) (fc b:Nat):EntOk S U (R.take (i+1)) (l++[⟨r,f,fa,fc,b⟩]) :=
 ⟨by rw[zan hr,List.map_append,h.r];rfl,fun x hx=>by
  rcases List.mem_append.1 hx with hx|hx
  ·exact h.f x hx
  ·rw[List.mem_singleton]at hx;subst hx;exact hf⟩
theorem knw_of {S:List Sm} {d:Po} {R:List Bp} {l:List Ent} (h:EntOk S d.uses R l) (jS:zah chkB S d=true) {ns:List Nk} (hR:∀n∈ns,n.kind=9→(n.name,n.attr)∈R):Knw (lookS S d.uses) (ixR R) (entS 0 l) (entT l) ns:=by
 refine⟨fun n hn h9=>?_,fun n hn=>?_⟩
 ·have hm:=hR n hn h9;obtain⟨h1,h2⟩:=idx_mem hm;have h3:=h2;rw[←h.r,List.getElem?_map]at h3;obtain⟨x,hx,iB⟩:=Option.map_eq_some_iff.1 h3;rw[h.r]at hx;have hf:=h.f x (List.mem_of_getElem? hx);have e1:bs (ndOf n).name=n.name:=bs_tl _;have e2:bs (ndOf n).attr=n.attr:=bs_tl _;have bJ:fdOf (lookS S d.uses) (ndOf n)=x.f:=by
   unfold fdOf lookS;rw[e1,e2];rw[iB]at hf;rw[hf];rfl
  rw[bJ];refine⟨x.fa,x.fc,x.b,wrdT 0 x.f.words,?_,List.mem_map.2 ⟨x,List.mem_of_getElem? hx,rfl⟩,fun s hs=>?_⟩
  ·have h4:=entS_at l 0 _ x hx;rw[iB,Nat.zero_add]at h4;have e3:ixR R (ndOf n)=(idxL (n.name,n.attr) R:Int):=by unfold ixR;rw[e1,e2]
   rw[e3];exact h4
  ·have:=wrdT_at x.f.words 0 s hs;rwa[Nat.zero_add]at this
 ·rcases(look_ok jS (ndOf n)).kd with q|q
  ·exact⟨by omega,by omega,by rw[q.2.1];simp⟩
  ·exact⟨by omega,by omega,by omega⟩
theorem fbn_all {S:List Sm} {d:Po} (jS:zah chkB S d=true) (y:Nd):FBn (fdOf (lookS S d.uses) y):=by
 rcases(look_ok jS y).kd with q|q
 ·exact⟨by omega,by omega,by rw[q.2.1];simp⟩
 ·exact⟨by omega,by omega,by omega⟩
theorem wordsE_sz:∀(l S:List ByteArray),zbx S l=0→∀s∈l,s.size≤1000000
 | [],_,_,s,h=>by cases h
 | w::r,S,h,s,hs=>by
   rw[zbx]at h;split at h
   ·cases h
   ·split at h
    ·cases h
    ·rename_i h1 h2;rcases List.mem_cons.1 hs with rfl|hs
     ·exact word_len (by simpa using h1)
     ·exact wordsE_sz r _ h s hs
theorem fieldsE_f:∀(l:List Fd) (S:List ByteArray),za7 S l=0→∀f∈l,fieldE f=0
 | [],_,_,f,h=>by cases h
 | g::r,S,h,f,hf=>by
   rw[za7]at h;split at h
   ·cases h
   ·split at h
    ·cases h
    ·split at h
     ·rename_i h3;exact absurd h h3
     ·rename_i h3;rcases List.mem_cons.1 hf with rfl|hf
      ·omega
      ·exact fieldsE_f r _ h f hf
theorem found_words {S:List Sm} {d:Po} (h:zah chkB S d=true) {a t:ByteArray} {f:Fd} (hf:findS S d.uses a t=some f):∀s∈f.words,s.size≤1000000:=by
 obtain⟨u,k,s,m,P⟩:=zbs hf;have h1:=(zaw h).2 m (zbf P.nm);unfold chkB at h1;rw[decide_eq_true_eq]at h1;unfold schemaE at h1;split at h1
 ·cases h1
 ·split at h1
  ·cases h1
  ·have h2:=fieldsE_f _ _ h1 f (List.mem_of_getElem? P.at_);unfold fieldE at h2;split at h2
   ·rename_i hk;unfold numE at h2;split at h2
    ·cases h2
    ·rename_i h3;have:f.words=[]:=List.eq_nil_of_length_eq_zero om;rw[this];intro s hs;cases hs
   ·split at h2
    ·unfold wrdE at h2;split at h2
     ·cases h2
     ·unfold wordsP at h2;split at h2
      ·cases h2
      ·exact wordsE_sz _ _ h2
    ·cases h2
end Nf
namespace Nf
open Pa (F Nd Tx leaf)
open Fm (G Gt)
theorem of_out {C:Sm→Bool} {S:List Sm} {d n:Po} (h:ofP C S d=some n):n=outP S d∧za4 C S d=true∧checkP n=0:=by
 unfold ofP at h;split at h
 ·rename_i h1;obtain rfl:=Option.some.inj h;exact⟨rfl,h1.1,h1.2⟩
 ·cases h
theorem num_refs:∀(f:F) (a:Nat),∀y∈f.num a,y.1.kind=9→(bs y.1.name,bs y.1.attr)∈refF f
 | .nil,_,y,h,_=>by cases h
 | .cons x k r,a,y,h,h9=>by
   rw[F.num]at h;rw[refF];rcases List.mem_cons.1 h with rfl|h
   ·exact List.mem_append_left _ (by rw[if_pos h9];exact List.mem_singleton.2 rfl)
   ·rcases List.mem_append.1 h with h|h
    ·exact List.mem_append_right _ (List.mem_append_left _ (num_refs k _ y h h9))
    ·exact List.mem_append_right _ (List.mem_append_right _ (num_refs r _ y h h9))
theorem nodes_refs {C:Sm→Bool} {S:List Sm} {d n:Po} (h:ofP C S d=some n):∀m∈n.nodes,m.kind=9→(m.name,m.attr)∈dd (refF (treeD n)):=by
 obtain⟨rfl,h1,h2⟩:=of_out h;intro m hm h9;rw[dd_mem,(out_tree h1 h2).1];obtain⟨y,hy,rfl⟩:=List.mem_map.1 hm;exact num_refs _ _ y hy (by have:(y.1.kind:Int)=9:=h9;omega)
def leastV (L:Look):Val:=fun a t=>zaj (fdOf L ⟨9,0,a,t,0⟩)
theorem look_same (S:List Sm) (U:List Bp) (x:Nd):lookS S U ⟨9,0,x.name,x.attr,0⟩=lookS S U x:=rfl
theorem adm_least {S:List Sm} {d:Po} (h:zah chkB S d=true):Adm (lookS S d.uses) (leastV (lookS S d.uses)):=by
 refine⟨fun x y h1 h2=>by unfold lookS;rw[h1,h2],fun x f hf=>?_⟩;have hk:=(zct h hf).kd;have e:fdOf (lookS S d.uses) ⟨9,0,x.name,x.attr,0⟩=f:=by unfold fdOf;rw[look_same,hf];rfl
 unfold leastV;rw[e];unfold zaj;rcases hk with q|q
 ·rw[if_neg om];exact .inl ⟨q.1,Int.le_refl _,q.2.2.2.2⟩
 ·rw[if_pos q.1];exact .inr ⟨q.1,Int.le_refl _,by omega⟩
theorem vs_least {S:List Sm} {d:Po} {R:List Bp} {x:Nd} (hx:InR R x):VS (lookS S d.uses) (leastV (lookS S d.uses)) (ixR R) (List.replicate R.length 0) x:=by
 intro h9;have h1:=(ixR_at hx h9).1;refine⟨by unfold ixR;omega,by unfold ixR;rw[List.length_replicate];omega,?_⟩;have e:fdOf (lookS S d.uses) ⟨9,0,x.name,x.attr,0⟩=fdOf (lookS S d.uses) x:=by unfold fdOf;rw[look_same]
 unfold leastV;rw[e,Int.sub_self,List.getD_eq_getElem?_getD,List.getElem?_replicate];split<;>rfl
theorem two_least {S:List Sm} {d:Po} (h:zah chkB S d=true) {R:List Bp} {g:F} (hP:Pf (lookS S d.uses) g) (hE:g.Ev (InR R)):Two (lookS S d.uses) (ixR R) g :=
 two_at (adm_least h) (okw_of h) hP (ev_mono (fun y hy=>vs_least hy) hE)
theorem zbe {S:List Sm} {d n:Po} (h:ofP chkB S d=some n):zah chkB S d=true:=by
 have h1:=(of_out h).2.1;unfold za4 at h1;simp only[Bool.and_eq_true]at h1;exact h1.1.1
theorem in_refs {n:Po}:(treeD n).Ev (InR (dd (refF (treeD n)))):=ev_refF _ _ fun r hr=>dd_mem.2 hr
theorem ev_cat9 {p:Nd→Prop} {t:Int→F}:∀{l:List Int},(∀k∈l,(t k).Ev p)→(F.cat (l.map t)).Ev p
 | [],_=>trivial
 | k::l,h=>Pa.F.ev_app (h k (List.mem_cons_self ..)) (ev_cat9 fun x hx=>h x (List.mem_cons_of_mem _ hx))
theorem vn_okn (ns:List Nk):∀(f:Nat) (c:Bool) (a:Int),Pa.VN ns f c a→(Pa.treeN ns f a).Ev okN
 | 0,_,_,h=>h.elim
 | f+1,c,a,h=>by
   obtain⟨n,hn,hF,hk⟩:=h;replace hF:=Pa.form_fm hF;rw[Pa.treeN_in hn];refine⟨fun h6=>?_,ev_cat9 fun x hx=>vn_okn ns f _ x (hk x hx),trivial⟩;have h6:n.kind.toNat=6:=h6;have k6:n.kind=6:=om;have h1:=hF.low;have h2:=hF.high;unfold lowP at h1;unfold highP at h2;rw[if_neg om,if_neg om]at h1;rw[if_neg om,if_pos k6]at h2;exact⟨h1,h2⟩
theorem tree_okn {d:Po} (hc:checkP d=0):(treeD d).Ev okN:=vn_okn _ _ _ _ (Pa.tree_vn hc)
theorem of_pf {S:List Sm} {d n:Po} (h:ofP chkB S d=some n) {x:Nd} {k:F} (hx:treeD n=.cons x k .nil) (h0:x.kind≠0) (h1:x.kind≠1):Pf (lookS S d.uses) (.cons x k .nil):=by
 obtain⟨rfl,t1,t2⟩:=of_out h;have hr:=zbe h;have hc:=(zaw hr).1;have e:=(out_tree t1 t2).1;have t3:tyF (lookS S d.uses) (treeD d)=true:=by
  unfold za4 at t1;simp only[Bool.and_eq_true]at t1;exact t1.2
 have hw:=zco _ _ _ _ (Pa.tree_vn hc);have hn:=nrm_nf (L:=lookS S d.uses) false t3 hw;have ha:=as_nrm (okl_of hr) false t3 hw (tree_okn hc);rw[hx]at e;change Wf true (treeD d)at hw;rw[←e]at hn ha;exact pf_of hn.1 ha ⟨fun hc=>by rcases hc with q|q;exact h0 q;exact h1 q,trivial⟩
def ABd (a:At):Prop:=-100000000000≤a.lo∧a.lo≤100000000000∧ -100000000000≤a.hi∧a.hi≤100000000000
theorem abd_mk {k i j lo hi:Int} (h1: -100000000000≤lo) (h2:lo≤100000000000) (h3: -100000000000≤hi) (h4:hi≤100000000000):ABd ⟨k,i,j,lo,hi⟩:=⟨h1,h2,h3,h4⟩
theorem dist_bd {i j lo hi:Int} (h1: -100000000000≤lo) (h2:lo≤100000000000) (h3: -100000000000≤hi) (h4:hi≤100000000000):∀y∈dist i j lo hi,ABd y:=by
 intro y hy;obtain⟨rfl,-⟩:=dist_mem hy;exact⟨h1,h2,h3,h4⟩
theorem attr_bd {f:Fd} (hf:FBn f) (b:Nd) (h:b.kind=11∨(f.min≤b.num∧b.num≤f.max)): -100000000000≤attrP f b∧attrP f b≤100000000000:=by
 have h1:=hf.a;have h2:=hf.b;have h3:=hf.w;unfold attrP;split
 ·split
  ·rename_i q;have:=(idx_mem (memD_iff.1 q)).1;omega
  ·omega
 ·rename_i q;rcases h with h|h
  ·exact absurd h q
  ·omega
theorem at_bd {L:Look} {ix:Ix} (hF:∀y,FBn (fdOf L y)) {x:Nd} {vs:List Nd} (hS:Shp L x vs):∀y∈atP L ix x vs,ABd y:=by
 cases hS with
 | eqn a b hk hn ha hb ty lo hi =>
   rw[at6 hk om];intro y hy;rw[List.mem_singleton]at hy;subst hy;have:=attr_bd (hF a) b (.inr ⟨lo,hi⟩);exact abd_mk this.1 this.2 zy0 zy0
 | rng a b c hk ha hb hc ty lo le hi =>
   rw[at7 hk];intro y hy;rw[List.mem_singleton]at hy;subst hy;have h1:=attr_bd (hF a) b (.inr ⟨lo,by omega⟩);have h2:=attr_bd (hF a) c (.inr ⟨by omega,hi⟩);exact⟨h1.1,h1.2,h2.1,h2.2⟩
 | word a b l hk hn ha hb ty hm =>
   rw[at6 hk om];intro y hy;rw[List.mem_singleton]at hy;subst hy;have:=attr_bd (hF a) b (.inl hb);exact abd_mk this.1 this.2 zy0 zy0
 | same a b l hk hn ha hb ta tb ne =>
   rw[at9 hk hb];have b1:=hF a;have b2:=hF b;have g1:=grP_bd b1;have g2:=grP_bd b2;have m1:=b1.a;have m2:=b2.a;exact zt22
 | nums a b hk hn ha hb ta tb ne na nn =>
   rw[at9 hk hb];have b1:=hF a;have b2:=hF b;have g1:=grP_bd b1;have g2:=grP_bd b2;have m1:=b1.a;have m2:=b2.a;clear na nn;exact zt22
theorem ats_bd {L:Look} {ix:Ix} (hF:∀y,FBn (fdOf L y)):∀{g:F},Pf L g→∀y∈ats L ix g,ABd y
 | .nil,_,y,hy=>by cases hy
 | .cons x k r,hP,y,hy=>by
   rw[ats]at hy;rcases List.mem_append.1 hy with hy|hy
   ·rcases hP.1 with⟨e,-,-,hk⟩|e
    ·rw[if_pos e]at hy;exact ats_bd hF hk y hy
    ·have:=e.kind.1;rw[if_neg om]at hy;exact at_bd hF e y hy
   ·exact ats_bd hF hP.2 y hy
theorem plan_bd {S:List Sm} {d:Po} (h:zah chkB S d=true) {dis R:List Bp} {x:Nd} {k:F} (hP:x.kind≠0→Pf (lookS S d.uses) (.cons x k .nil)):∀a∈(planP S d.uses dis R x k).ats,ABd a:=by
 intro a ha;unfold planP at ha;split at ha
 ·cases ha
 ·rename_i h0;exact ats_bd (fbn_all h) (top_pf (ix:=ixR R) (hP h0)).1 a ha
end Nf
namespace Nf
open Go.RowKit Go.Shelf
open Pa (F Nd Tx)
def cntF (f:Fd):Int:=if f.kind=1 then f.words.length else f.max-f.min+1
theorem fok_cnt {f:Fd} (h:FOk f):1≤cntF f∧cntF f≤4294967296:=by
 unfold cntF;rcases h.kd with q|q
 ·rw[if_neg om];omega
 ·rw[if_pos q.1];omega
theorem snamed_any (A:Option Addr) (c:Nat) (S:List Sm) (s:ByteArray) (m:Sm) (hm:zaq S s=some m) (hL:S.length≤1000000) (w0 w:World) (hS:Schs w0 A S) (h0:Below w0.heap.size w0 w) :
 Calls prog 14 #[.slice A S.length c,.string s] w fun e w'=>(∃FA fc,e=.returned (smV m FA fc)∧Flds w0 FA m.fields)∧Below w.heap.size w w':=by
 have hk:=(Hp.start w).new 53 zS;obtain⟨q,hq⟩:∃g,w.heap.size=g:=⟨_,rfl⟩;simp only[sizeA,hq]at hk;have HM:=Lib.hid hm;clear hm;go_enter func14,ntmps14;go_upto_region 2 with fail;try simp only[hq]
 have ar:Hp [] w [iblk q 53 zS] (w.alloc (.cells #[.string ⟨#[]⟩,.slice none 0 0] 53)):=hk;clear hk;generalize w.alloc (.cells #[.string ⟨#[]⟩,.slice none 0 0] 53)=W1 at *;go_loopg [9] S.length (fun m9 fu wx=>∃i:Nat,i≤S.length∧m9=S.length-i∧fu=.int .i64 (i:Int)∧Hp [] w [iblk q 53 zS] wx∧Hid (zaq (S.take i) s=none));case atStart=>exact⟨0,Nat.zero_le _,rfl,rfl,ar,Lib.hid rfl⟩
 case round =>
  obtain⟨i,hi,rfl,rfl,hM,HE⟩:=hrel;clear ar;by_cases ay:i<S.length
  ·have aM:(i:Int)<(S.length:Int):=om;have aL:(0:Int)≤(i:Int):=om;obtain⟨m2,dG⟩:∃m,S[i]? =some m:=⟨_,List.getElem?_eq_getElem ay⟩;obtain⟨ad,FA,fc,rfl,c0,c1,hF⟩:=hS.at_ i m2 dG;replace c0:=zaa (zaa c0 h0) hM.below0;replace c1:=zaa (zaa c1 h0) hM.below0;have HT:=Lib.hid (find_take (p:=fun(m:Sm)=>decide (m.name=s)) dG HE.out);have aA:=hM.new 53 [.string m2.name,.slice FA m2.fields.length fc];have eX:=@strs_eq m2.name s;clear dG HE;go_upto_region 4 with fail;generalize wr.alloc (.cells #[.string m2.name,.slice FA m2.fields.length fc] 53)=W2 at *;generalize wr.heap.size=g2 at *;have d0:=(aA.blk 0 rfl).cell 0;have d1:=(aA.blk 0 rfl).cell 1;simp only[List.getElem?_cons_zero,List.getElem?_cons_succ]at d0 d1;clear c0 c1 hM;by_cases gS:m2.name=s
   ·rw[decide_eq_true gS]at eX;rw[if_pos (by simpa using gS)]at HT;have cg:Hid (m2=m):=Lib.hid (Option.some.inj ((show zaq S s=some m2 from HT.out).symm.trans HM.out));clear gS HT;go_wp2_with (refine wpList_store_row rfl 53 (.tmp 4) (.tmp 17) rfl q [.string m2.name,.slice FA m2.fields.length fc].toArray rfl rfl 53 zS.toArray (aA.blk 1 rfl) kr kr kr ?_);have az:=aA.rowAt 1 rfl [.string m2.name,.slice FA m2.fields.length fc];have e0:=(az.blk 1 rfl).cell 0;have e1:=(az.blk 1 rfl).cell 1;simp only[List.getElem?_cons_zero,List.getElem?_cons_succ]at e0 e1;refine bodyPost_ret (v:=smV m2 FA fc) (by simp[results,results14,go_sem,e0,e1]) rfl ?_;have hb:Below w.heap.size w _:=az.below0;rw[←cg.out];exact⟨⟨FA,fc,rfl,hF⟩,by first|exact hb|(subst hq;exact hb)⟩
   ·rw[decide_eq_false gS]at eX;rw[if_neg (by simpa using gS)]at HT;clear gS;exact zt68
  ·exact zt69
theorem fleast_any (f:Fd) (h:FOk f) (WA:Option Addr) (c:Nat) (w:World) :
 Calls prog 15 #[.agg (fcs f WA c).toArray] w fun e w'=>e=.returned (.tuple #[.int .i64 (zaj f),.int .i64 (cntF f)])∧Below w.heap.size w w':=by
 have hk:=(Hp.start w).new 57 (fcs f WA c);obtain⟨d0,d1,d2,d3,d4⟩:=Blk.get5 (hk.blk 0 rfl);by_cases h1:f.kind=1
 ·have tN:(f.kind==1)=true:=by rw[h1];rfl
  have HL:Hid (zaj f=0∧cntF f=f.words.length):=Lib.hid ⟨by unfold zaj;rw[if_pos h1],by unfold cntF;rw[if_pos h1]⟩;have df:=fun k=>hk.drewN k;clear h1 hk h;go_enter func15,ntmps15;go_upto_region 2 with fail;exact zt55
 ·have tN:(f.kind==1)=false:=by rw[beq_eq_false_iff_ne];exact h1
  have HL:Hid (zaj f=f.min∧cntF f=f.max-f.min+1):=Lib.hid ⟨by unfold zaj;rw[if_neg h1],by unfold cntF;rw[if_neg h1]⟩;obtain⟨q1,q2⟩: -2147483648≤f.min∧f.max≤2147483647∧f.min≤f.max:=by
   rcases h.kd with q|q
   ·exact q.2.2
   ·exact absurd q.1 h1
  have jF:IntKind.i64.wrap (f.max-f.min)=f.max-f.min:=IntWalk.i64_in _ om;have fq:IntKind.i64.wrap (f.max-f.min+1)=f.max-f.min+1:=IntWalk.i64_in _ om;have df:=fun k=>hk.drewN k;clear h1 hk h q1 q2;go_enter func15,ntmps15;go_upto_region 3 with fail;exact zt55
end Nf
end Go.Proofs.YtekkapgknohadaaGreatDoor
