/- Natural numbers as lists of bytes, the most significant first: the value of a list, the canonical list of a number, their laws. Plain Lean: no program in sig -/
import Derived.Test.YtekkapgknohadaaGreatDoorM1
import Derived.Test.YtekkapgknohadaaGreatDoorRows
set_option linter.unusedVariables false
set_option maxRecDepth 100000
open Go.Proofs.Tryz
namespace Go.Proofs.YtekkapgknohadaaGreatDoor
namespace Dm
def val (l:List UInt8):Nat:=l.foldl (fun a c=>a*256+c.toNat) 0
def be (f:Nat→UInt8):Nat→List UInt8
 | 0=>[]
 | m+1=>f m::be f m
def dig (l:List UInt8) (i:Nat):UInt8:=if i<l.length then l.getD (l.length-1-i) 0 else 0
def colsum (c:Nat→Nat):Nat→Nat
 | 0=>0
 | k+1=>colsum c k+c k*256^k
def low (l:List UInt8) (k:Nat):Nat:=colsum (fun i=>(dig l i).toNat) k
end Dm
section
open Go.ChangeShapes Go.WideShapes Go.ChangeAt Go.RowKit
end
section
open Go.RowKit
theorem zay {k:IntKind} {a b:Int} (h:a=b):Ending.returned (.int k a)=.returned (.int k b):=by rw[h]
theorem zao {a b:Bool} (h:a=b):Ending.returned (.bool a)=.returned (.bool b):=by rw[h]
theorem za9 {a b:Value} (h:a=b):Ending.returned a=.returned b:=by rw[h]
theorem val_int {k:IntKind} {a b:Int} (h:a=b):Value.int k a=.int k b:=by rw[h]
def bs (l:List UInt8):ByteArray:=⟨l.toArray⟩
abbrev Sv (l:List UInt8):Value:=.string (bs l)
abbrev tl (s:ByteArray):List UInt8:=s.data.toList
theorem tl_bs (l:List UInt8):tl (bs l)=l:=by simp[tl,bs]
theorem bs_tl (s:ByteArray):bs (tl s)=s:=by cases s;simp[tl,bs]
theorem size_bs (l:List UInt8):(bs l).size=l.length:=by show l.toArray.size=l.length;simp
theorem zad (s:ByteArray):(tl s).length=s.size:=by show s.data.toList.length=s.data.size;simp
theorem bs_inj {l m:List UInt8}:bs l=bs m↔l=m:=⟨fun h=>by rw[←tl_bs l,h,tl_bs],fun h=>by rw[h]⟩
theorem zat (s:ByteArray) (i:Nat) (h:i<s.size):(tl s)[i]'(by rw[zad];exact h)=s[i]:=by
 cases s;simp[tl];rfl
theorem tl_cons (s:ByteArray) (h:0<s.size):tl s=s[0]::(tl s).tail:=by
 obtain⟨c,m,e⟩:=List.exists_cons_of_length_pos (show 0<(tl s).length by rw[zad];exact h);have h2:=zat s 0 h;simp only[e,List.getElem_cons_zero]at h2;rw[e,h2];rfl
theorem take_snoc (s:ByteArray) (k:Nat) (h:k<s.size):(tl s).take (k+1)=(tl s).take k++[s[k]]:=by
 rw[List.take_succ_eq_append_getElem (by rw[zad];exact h),zat s k h]
theorem zbb (s:ByteArray):s.toList=tl s:=ByteArray.toList_eq s
theorem tl_empty {s:ByteArray} (h:s.size=0):tl s=[]:=List.eq_nil_of_length_eq_zero (by rw[zad];exact h)
theorem str_empty {s:ByteArray} (h:s.size=0):s.toList.isEmpty=true∧s.toList=[]:=by
 rw[zbb,tl_empty h];exact⟨rfl,rfl⟩
theorem str_full {s:ByteArray} (h:0<s.size):s.toList.isEmpty=false∧¬s.toList=[]:=by
 rw[zbb,tl_cons s h];simp
theorem eq_of_tl {s t:ByteArray} (h:tl s=tl t):s=t:=by rw[←bs_tl s,h,bs_tl]
def Blk (w:World) (g:Nat) (t:TypeId) (cs:List Value):Prop:=w.heap[g]? =some (.cells cs.toArray t (0,0))
theorem Blk.lt {w:World} {g:Nat} {t:TypeId} {cs:List Value} (h:Blk w g t cs):g<w.heap.size:=by
 rcases Nat.lt_or_ge g w.heap.size with aQ|gK
 ·exact aQ
 ·unfold Blk at h;rw[Array.getElem?_eq_none gK]at h;cases h
theorem Blk.cell {w:World} {g:Nat} {t:TypeId} {cs:List Value} (h:Blk w g t cs) (i:Nat):w.cell? ⟨g,i,none⟩=cs[i]? :=by
 unfold Blk at h;simp[World.cell?,h]
theorem Blk.frozen {w:World} {g:Nat} {t:TypeId} {cs:List Value} (h:Blk w g t cs) (i:Nat):w.frozen? ⟨g,i,none⟩=false:=by
 unfold Blk at h;simp[World.frozen?,h]
theorem Blk.new (w:World) (t:TypeId) (cs:List Value):Blk (w.alloc (.cells cs.toArray t)) w.heap.size t cs:=by
 unfold Blk;exact heap_alloc_new w _
theorem Blk.drew {w:World} {g:Nat} {t:TypeId} {cs:List Value} (h:Blk w g t cs):Blk w.drew g t cs:=h
theorem Blk.alloc {w:World} {g:Nat} {t:TypeId} {cs:List Value} (h:Blk w g t cs) (o:Obj):Blk (w.alloc o) g t cs:=(Below.heap_alloc w o g h.lt).trans h
theorem Blk.set_ {w:World} {g:Nat} {t:TypeId} {cs:List Value} (h:Blk w g t cs) (i:Nat) (u:Value):Blk (w.setCell ⟨g,i,none⟩ u) g t (cs.set i u):=by
 unfold Blk at h ⊢;simp[World.setCell,Array.getElem?_modify,h]
theorem Blk.far {w:World} {g:Nat} {t:TypeId} {cs:List Value} (h:Blk w g t cs) {p:Addr} (hp:g≠p.block) (u:Value):Blk (w.setCell p u) g t cs:=(Below.heap_setCell w p u g hp).trans h
theorem Blk.below {w w':World} {g:Nat} {t:TypeId} {cs:List Value} {B:Nat} (h:Blk w g t cs) (hb:Below B w w') (hg:g<B):Blk w' g t cs:=(hb.block g hg).trans h
structure Stg (w:World) (g:Nat) (t1:TypeId) (c1:List Value) (b:Nat) (t2:TypeId) (c2:List Value) (W:World):Prop where
 b1:Blk W g t1 c1
 b2:Blk W b t2 c2
 ne:g≠b
 hb:w.heap.size≤b
 below:Below w.heap.size w W
theorem Blk.get2 {W:World} {g:Nat} {t:TypeId} {x y:Value} (h:Blk W g t [x,y]):W.cell? ⟨g,0,none⟩=some x∧W.cell? ⟨g,1,none⟩=some y:=⟨h.cell 0,h.cell 1⟩
theorem Blk.get3 {W:World} {g:Nat} {t:TypeId} {x y z:Value} (h:Blk W g t [x,y,z]):W.cell? ⟨g,0,none⟩=some x∧W.cell? ⟨g,1,none⟩=some y∧W.cell? ⟨g,2,none⟩=some z:=⟨h.cell 0,h.cell 1,h.cell 2⟩
end
section
open Go.ChangeShapes Go.WideShapes Go.ChangeAt Go.RowKit
theorem trodAll_stays {H:Type} {enc:TypeId×Value→H} {P:Program} (hl:laidOutB P=true) {W W':World} (hb:Below W.heap.size W W') {sp:Nat→Bool} :
 ∀{ts:List TypeId} {vs:List Value} {ds:List (DataW H)} {ps:List MemPlace},(∀t∈ts,P.readableRec t=true∧t<P.types.size)→DataW.TrodAll enc P W 0 (fun _=>true) true ts vs ds ps→(∀x∈ps,x.block<W.heap.size)→(∀x∈ps,sp x.block=true)→DataW.TrodAll enc P W' 0 sp true ts vs ds ps
 | [],_,_,_,_,h,_,_=>by
   obtain⟨rfl,rfl,rfl⟩:=trodAll_nil h;exact rfl
 | t::ts,_,_,_,ht,h,h1,h2=>by
   obtain⟨v,vs',d,ds',a,b,rfl,rfl,rfl,h3,h4⟩:=trodAll_cons h;obtain⟨q1,q2⟩:=ht t (List.mem_cons_self ..);exact⟨a,b,WideElems.Trod_stays hl q1 q2 h3 (fun x hx=>hb.same (h1 x (List.mem_append_left _ hx))) (fun x hx=>h2 x (List.mem_append_left _ hx)),
    trodAll_stays hl hb (fun u hu=>ht u (List.mem_cons_of_mem _ hu)) h4 (fun x hx=>h1 x (List.mem_append_right _ hx)) (fun x hx=>h2 x (List.mem_append_right _ hx)),rfl⟩
theorem post_below {H:Type} {enc:TypeId×Value→H} {P:Program} {f:Func} {s:ChangeSpec} {apart fresh handsOn again:Bool} {W W':World} {args:Array Value} {v:Value} {ds:List (DataW H)} {before:List MemPlace}
 (hl:laidOutB P=true) (wI:∀t∈f.params.toList,P.readableRec t=true∧t<P.types.size)
 (hW:DataW.Whole enc P f.params.toList s.vars apart W args.toList ds [] before) (iR:s.vars=[])
 (ri:∀(b:Nat) (sp:Nat→Bool) (hd:Bool),DataW.TrodAll enc P W' b sp hd f.resultTypes.toList (v.resultList f.resultTypes.size) (s.fn H (ds++[])).results [])
 (pP:(s.fn H (ds++[])).args=ds) (oW:(s.fn H (ds++[])).vars=[])
 (hb:Below W.heap.size W W')
 (cI:∀(j:Nat) (t:TypeId) (r:Value),f.resultTypes[j]? =some t→(v.resultList f.resultTypes.size)[j]? =some r→Value.okWide P W' .any 0 t r) :
 s.post enc P f apart fresh handsOn again W args v W':=by
 have aQ:∀p∈before,p.block<W.heap.size:=fun p hp=>by simpa using hW.lt p hp
 have ij:=hW;obtain⟨p,q,hA,hV,he,hz,hn⟩:=ij;rw[iR]at hV;obtain⟨-,rfl⟩:=trodVars_none hV;rw[List.append_nil]at he;subst he;have mH:∀sp:Nat→Bool,(∀x∈before,sp x.block=true)→DataW.TrodAll enc P W' 0 sp true f.params.toList args.toList (s.fn H (ds++[])).args before:=fun sp hs=>by
  rw[pP];exact trodAll_stays hl hb wI hA aQ hs
 have hV':∀sp:Nat→Bool,DataW.TrodVars enc P W' sp s.vars (s.fn H (ds++[])).vars []:=fun sp=>by rw[iR,oW];rfl
 refine⟨ds,[],before,[],before,[],hW,ri _ _ _,mH _ (fun x hx=>by simpa using aQ x hx),hV' _,hb.frame _,fun _=>?_⟩;refine⟨cI,_,_,([]++before)++[],⟨[]++before,[],trodAll_append (mH _ (fun _ _=>rfl)) (ri _ _ _),hV' _,rfl,?_,?_⟩,?_⟩
 ·intro b off hp;have hp':MemPlace.cell b off∈before:=by simpa using hp
  have h1:=aQ _ hp';have h2:=hz b off hp';rw[←h2];exact hb.frozen h1
 ·intro ha;simpa using hn ha
 ·intro x hx _;simpa using hx
end
section
open Go.RowKit
structure Kp (w:World) (bl:List (Nat×TypeId×List Value)) (W:World):Prop where
 blk:∀x∈bl,Blk W x.1 x.2.1 x.2.2
 below:Below w.heap.size w W
theorem Kp.start (w:World):Kp w [] w:=⟨fun _ h=>(List.not_mem_nil h).elim,Below.refl _ _⟩
theorem Kp.next {w W W':World} {bl:List (Nat×TypeId×List Value)} (h:Kp w bl W) (hb:Below W.heap.size W W'):Kp w bl W' :=
 ⟨fun x hx=>(h.blk x hx).below hb (h.blk x hx).lt,h.below.trans (hb.mono h.below.size)⟩
theorem Kp.alloc {w W:World} {bl:List (Nat×TypeId×List Value)} (h:Kp w bl W) (o:Obj):Kp w bl (W.alloc o) :=
 ⟨fun x hx=>(h.blk x hx).alloc o,h.below.alloc h.below.size o⟩
theorem Kp.new {w W:World} {bl:List (Nat×TypeId×List Value)} (h:Kp w bl W) (t:TypeId) (cs:List Value):Kp w ((W.heap.size,t,cs)::bl) (W.alloc (.cells cs.toArray t)) :=
 ⟨fun x hx=>by
  rcases List.mem_cons.1 hx with rfl|hx
  ·exact Blk.new _ _ _
  ·exact(h.blk x hx).alloc _,h.below.alloc h.below.size _⟩
end
section
open Go.RowKit
theorem madeCells_1 (v:Value) (n:Nat):madeCells #[v] n=(List.replicate n v).toArray:=by
 unfold madeCells;apply Array.ext
 ·simp
 ·intro i h1 h2;simp[Nat.mod_one]
theorem run_make_cells {P:Program} (t e:TypeId) (ht:P.underlying t=some (.slice e)) (v:Value) (hv:v.cells=#[v]) (b:Nat) (hi:(P.info? e).map (fun i=>(i.zero,i.size,i.bytes))=some (some v,1,b)) (n:Nat) (hn:b*n≤281474976710656) (eW:n≤1073741824) (w:World) :
 (Instr.makeSlice t (.int .i64 (n:Int)) (.int .i64 (n:Int))).run P w=.ok (.slice (some ⟨w.heap.size,0,none⟩) n n) (w.alloc (.cells (List.replicate n v).toArray e)):=by
 obtain⟨i,fp,h1,h2,h3⟩:∃i,P.info? e=some i∧i.zero=some v∧i.size=1∧i.bytes=b:=by
  cases h:P.info? e with
  | none=>rw[h]at hi;simp at hi
  | some i=>rw[h]at hi;simp at hi;exact⟨i,rfl,hi.1,hi.2.1,hi.2.2⟩
 have ll:(i.bytes:Int)*(n:Int)≤281474976710656:=by
  rw[h3,←Int.natCast_mul];omega
 have hr:=run_make (P:=P) w t e i v ht fp h1 .i64 .i64 n n om om ll om;simp only[Int.toNat_natCast,hv,h2,Nat.mul_one,madeCells_1]at hr;exact hr
theorem Kp.setHead {w W:World} {g:Nat} {t:TypeId} {cs:List Value} {bl:List (Nat×TypeId×List Value)} (h:Kp w ((g,t,cs)::bl) W) (hg:w.heap.size≤g) (hd:∀x∈bl,x.1≠g) (i:Nat) (u:Value):Kp w ((g,t,cs.set i u)::bl) (W.setCell ⟨g,i,none⟩ u):=by
 refine⟨fun x hx=>?_,h.below.setCell (by simpa using hg) _⟩;rcases List.mem_cons.1 hx with rfl|hx'
 ·exact(h.blk _ (List.mem_cons_self ..)).set_ i u
 ·exact(h.blk x (List.mem_cons_of_mem _ hx')).far (by simp;exact hd x hx') _
theorem Kp.sub {w W:World} {bl bl':List (Nat×TypeId×List Value)} (h:Kp w bl W) (hs:∀x∈bl',x∈bl):Kp w bl' W:=⟨fun x hx=>h.blk x (hs x hx),h.below⟩
theorem Kp.at_ {w W:World} {g:Nat} {t:TypeId} {cs:List Value} {bl:List (Nat×TypeId×List Value)} (i:Nat) (h:Kp w bl W) (hm:bl[i]? =some (g,t,cs)):Blk W g t cs:=h.blk _ (List.mem_of_getElem? hm)
end
section
open Go.RowKit
structure It where
 own:List Nat
 P:World→Prop
 st:∀W W',(∀b∈own,W'.heap[b]? =W.heap[b]?)→P W→P W'
 lv:∀W,P W→∀b∈own,b<W.heap.size
def iblk (g:Nat) (t:TypeId) (cs:List Value):It:=⟨[g],fun W=>Blk W g t cs,fun W W' h hp=>(h g (List.mem_singleton.2 rfl)).trans hp,fun W hp b hb=>by rw[List.mem_singleton.1 hb];exact Blk.lt hp⟩
def irow (e:TypeId) (size:Nat) (v:Value) (n:Nat) (xs:List Value):It:=⟨v.ownBlock.toList,fun W=>W.ownsRow 0 e size v n xs,fun W W' h hp=>by
 refine⟨hp.1,?_⟩;rcases hp.2 with hn|⟨g,cap,cur,rfl,hb,hg,rest⟩
 ·exact .inl hn
 ·exact .inr ⟨g,cap,cur,rfl,hb,(h g (by simp[Value.ownBlock])).trans hg,rest⟩,
 fun W hp b hb=>by
  have h9:v.ownBlock=some b:=by simpa[Option.mem_toList]using hb
  exact(hp.lt b h9).2⟩
abbrev ow (it:List It):List Nat:=it.flatMap It.own
theorem pull_perm {α:Type}:∀(l:List α) (i:Nat) (h:i<l.length),(l[i]::l.eraseIdx i).Perm l
 | a::l,0,_=>.refl _
 | a::l,i+1,h=>(List.Perm.swap a _ _).trans ((pull_perm l i zyc).cons a)
structure Sep (W:World) (it:List It):Prop where
 ok:∀x∈it,x.P W
 ap:(ow it).Nodup
structure Stp (o o':List Nat) (W W':World):Prop where
 low:Below 0 W W'
 oth:∀k,k<W.heap.size→k∉o→W'.heap[k]? =W.heap[k]?
 new:∀b∈o',b∈o∨W.heap.size≤b
theorem Stp.refl (o:List Nat) (W:World):Stp o o W W:=⟨Below.refl _ _,fun _ _ _=>rfl,fun _ h=>.inl h⟩
theorem Stp.trans {o p q:List Nat} {A B C:World} (h:Stp o p A B) (k:Stp p q B C):Stp o q A C:=by
 have hs:=h.low.size;refine⟨h.low.trans k.low,fun j hj ho=>?_,fun b hb=>?_⟩
 ·rw[k.oth j om (fun hp=>by rcases h.new j hp with h1|h1;exact ho h1;omega)];exact h.oth j hj ho
 ·rcases k.new b hb with h1|h1
  ·exact h.new b h1
  ·exact .inr om
theorem Stp.sub {o p q:List Nat} {A B:World} (h:Stp o p A B) (hs:∀b∈q,b∈p):Stp o q A B:=⟨h.low,h.oth,fun b hb=>h.new b (hs b hb)⟩
theorem Stp.below {o p:List Nat} {A B:World} {n:Nat} (h:Stp o p A B) (hn:n≤A.heap.size) (ho:∀b∈o,n≤b):Below n A B :=
 ⟨h.low.os,h.low.tape,h.low.output,h.low.size,fun k hk=>h.oth k om (fun h9=>by have:=ho k h9;omega)⟩
theorem Stp.of_below {A B:World} (h:Below A.heap.size A B) (o:List Nat):Stp o o A B:=⟨h.mono (Nat.zero_le _),fun k hk _=>h.block k hk,fun _ hb=>.inl hb⟩
theorem zar (a b:List It):ow (a++b)=ow a++ow b:=List.flatMap_append
theorem Sep.perm {W:World} {a b:List It} (h:Sep W a) (hp:a.Perm b):Sep W b:=⟨fun x hx=>h.ok x (hp.mem_iff.2 hx),(hp.flatMap_right It.own).nodup_iff.1 h.ap⟩
theorem Sep.lt {W:World} {it:List It} (h:Sep W it):∀b∈ow it,b<W.heap.size:=by
 intro b hb;obtain⟨x,hx,hbx⟩:=List.mem_flatMap.1 hb;exact x.lv W (h.ok x hx) b hbx
theorem Sep.frame {W W':World} {a a' r:List It} (h:Sep W (a++r)) (hs:Stp (ow a) (ow a') W W') (h':Sep W' a'):Sep W' (a'++r):=by
 have hn:=h.ap;rw[zar,List.nodup_append]at hn;obtain⟨n1,n2,n3⟩:=hn;have hr:∀b∈ow r,b<W.heap.size:=fun b hb=>h.lt b (by rw[zar];exact List.mem_append_right _ hb);refine⟨fun x hx=>?_,?_⟩
 ·rcases List.mem_append.1 hx with hx|hx
  ·exact h'.ok x hx
  ·refine x.st W W' (fun b hb=>?_) (h.ok x (List.mem_append_right _ hx));have hbr:b∈ow r:=List.mem_flatMap.2 ⟨x,hx,hb⟩;exact hs.oth b (hr b hbr) (fun ha=>n3 b ha b hbr rfl)
 ·rw[zar,List.nodup_append];refine⟨h'.ap,n2,fun x hx y hy rB=>?_⟩;subst rB;rcases hs.new x hx with h1|h1
  ·exact n3 x h1 x hy rfl
  ·have:=hr x hy;omega
theorem Stp.frame {o p:List Nat} {A B:World} (h:Stp o p A B) (r:List Nat):Stp (o++r) (p++r) A B :=
 ⟨h.low,fun k hk ho=>h.oth k hk (fun h9=>ho (List.mem_append_left _ h9)),fun b hb=>by
  rcases List.mem_append.1 hb with h1|h1
  ·rcases h.new b h1 with h2|h2
   ·exact .inl (List.mem_append_left _ h2)
   ·exact .inr h2
  ·exact .inl (List.mem_append_right _ h1)⟩
structure Hp (o:List Nat) (w:World) (it:List It) (W:World):Prop where
 sep:Sep W it
 stp:Stp o (ow it) w W
section
variable {o:List Nat} {w W W':World} {it:List It}
theorem Hp.start (w:World):Hp [] w [] w:=⟨⟨fun _ h=>(List.not_mem_nil h).elim,List.nodup_nil⟩,Stp.refl _ _⟩
theorem Hp.self (h:Sep W it):Hp (ow it) W it W:=⟨h,Stp.refl _ _⟩
theorem Hp.perm {it':List It} (h:Hp o w it W) (hp:it.Perm it'):Hp o w it' W :=
 ⟨h.sep.perm hp,h.stp.sub (fun b hb=>((hp.flatMap_right It.own).mem_iff).2 hb)⟩
theorem Hp.call {a a' r:List It} (h:Hp o w (a++r) W) (h':Hp (ow a) W a' W'):Hp o w (a'++r) W' :=
 ⟨h.sep.frame h'.stp h'.sep,by
  have:=h.stp;rw[zar]at this ⊢;exact this.trans (h'.stp.frame _)⟩
theorem Hp.next (h:Hp o w it W) (hb:Below W.heap.size W W'):Hp o w it W' :=
 ⟨⟨fun x hx=>x.st W W' (fun b gG=>hb.block b (x.lv W (h.sep.ok x hx) b gG)) (h.sep.ok x hx),h.sep.ap⟩,h.stp.trans (Stp.of_below hb _)⟩
theorem Hp.drew (h:Hp o w it W):Hp o w it W.drew:=h.next (Below.refl _ _).drew
theorem Hp.drewN (h:Hp o w it W) (n:Nat):Hp o w it (W.drewN n):=h.next ⟨rfl,rfl,rfl,Nat.le_refl _,fun _ _=>rfl⟩
theorem Hp.alloc (h:Hp o w it W) (ob:Obj):Hp o w it (W.alloc ob):=h.next ((Below.refl _ _).alloc (Nat.le_refl _) _)
theorem Hp.sub {r:List It} (h:Hp o w (it++r) W):Hp o w it W:=by
 have hn:=h.sep.ap;rw[zar,List.nodup_append]at hn;refine⟨⟨fun x hx=>h.sep.ok x (List.mem_append_left _ hx),hn.1⟩,h.stp.sub fun b hb=>?_⟩;rw[zar];exact List.mem_append_left _ hb
theorem Hp.tail {x:It} (h:Hp o w (x::it) W):Hp o w it W:=Hp.sub (r:=[x]) (h.perm (List.perm_append_singleton x it).symm)
theorem Hp.new (h:Hp o w it W) (t:TypeId) (cs:List Value):Hp o w (iblk W.heap.size t cs::it) (W.alloc (.cells cs.toArray t)):=by
 have h1:Hp (ow []) W [iblk W.heap.size t cs] (W.alloc (.cells cs.toArray t)):=by
  refine⟨⟨fun x hx=>?_,by simp[iblk]⟩,⟨(Below.refl _ _).alloc (Nat.zero_le _) _,fun k hk _=>Below.heap_alloc _ _ _ hk,fun b hb=>.inr ?_⟩⟩
  ·rw[List.mem_singleton.1 hx];exact Blk.new _ _ _
  ·simp[iblk]at hb;omega
 exact zvg
theorem Hp.pull (h:Hp o w it W) (i:Nat) {x:It} (hx:it[i]? =some x):Hp o w (x::it.eraseIdx i) W:=by
 obtain⟨hl,rfl⟩:=List.getElem?_eq_some_iff.1 hx;exact h.perm (pull_perm _ _ hl).symm
theorem Hp.upd (h:Hp o w it W) (i:Nat) {x x':It} (hx:it[i]? =some x) (hp:x'.P W') (hs:Stp x.own x'.own W W') (hn:x'.own.Nodup):Hp o w (it.set i x') W':=by
 obtain⟨hl,rfl⟩:=List.getElem?_eq_some_iff.1 hx;have h1:=h.perm (pull_perm _ _ hl).symm;have h2:Hp (ow [it[i]]) W [x'] W':=⟨⟨fun y hy=>by rw[List.mem_singleton.1 hy];exact hp,by simpa using hn⟩,by simpa using hs⟩;have h3:=Hp.call (a:=[it[i]]) (r:=it.eraseIdx i) h1 h2;refine h3.perm ?_;have fQ:i<(it.set i x').length:=by simpa using hl
 have h4:=pull_perm (it.set i x') i fQ;rw[List.getElem_set_self,List.eraseIdx_set_eq]at h4;exact h4
theorem Hp.blk (h:Hp o w it W) (i:Nat) {g:Nat} {t:TypeId} {cs:List Value} (hx:it[i]? =some (iblk g t cs)):Blk W g t cs:=h.sep.ok _ (List.mem_of_getElem? hx)
theorem Hp.row (h:Hp o w it W) (i:Nat) {e:TypeId} {size n:Nat} {v:Value} {xs:List Value} (hx:it[i]? =some (irow e size v n xs)):W.ownsRow 0 e size v n xs:=h.sep.ok _ (List.mem_of_getElem? hx)
theorem Hp.set (h:Hp o w it W) (i:Nat) {g:Nat} {t:TypeId} {cs:List Value} (hx:it[i]? =some (iblk g t cs)) (j:Nat) (u:Value):Hp o w (it.set i (iblk g t (cs.set j u))) (W.setCell ⟨g,j,none⟩ u) :=
 h.upd i hx ((h.blk i hx).set_ j u) ⟨(Below.refl _ _).setCell (Nat.zero_le _) _,fun k hk ho=>Below.heap_setCell _ _ _ _ (by simp[iblk]at ho;exact ho),fun b hb=>.inl hb⟩ (by simp[iblk])
theorem Hp.size (h:Hp o w it W):w.heap.size≤W.heap.size:=h.stp.low.size
theorem Hp.below {n:Nat} (h:Hp o w it W) (hn:n≤w.heap.size) (ho:∀b∈o,n≤b):Below n w W:=h.stp.below hn ho
theorem Hp.below0 (h:Hp [] w it W):Below w.heap.size w W:=h.stp.below (Nat.le_refl _) (fun _ hb=>(List.not_mem_nil hb).elim)
theorem Hp.ge (h:Hp [] w it W) {b:Nat} (hb:b∈ow it):w.heap.size≤b:=(h.stp.new b hb).resolve_left (List.not_mem_nil)
theorem Hp.ne (h:Hp o w it W):(ow it).Nodup:=h.sep.ap
theorem Hp.grown (h:Hp o w it W) (i:Nat) {e:TypeId} {size n n':Nat} {v v':Value} {xs xs':List Value} (hx:it[i]? =some (irow e size v n xs)) (hr:W'.ownsRow 0 e size v' n' xs') (hg:W.grownBy W' v.ownBlock)
 (hv:v'.ownBlock=v.ownBlock∨∀g,v'.ownBlock=some g→W.heap.size≤g):Hp o w (it.set i (irow e size v' n' xs')) W':=by
 refine h.upd i hx hr ⟨⟨hg.os,hg.tape,hg.output,hg.size,fun k hk=>absurd hk (Nat.not_lt_zero _)⟩,fun k hk ho=>hg.block k hk (fun h9=>ho ?_),fun b hb=>?_⟩ ?_
 ·show k∈v.ownBlock.toList;rw[←h9];simp
 ·have gG:v'.ownBlock=some b:=by simpa[Option.mem_toList]using(show b∈v'.ownBlock.toList from hb)
  rcases hv with h1|h1
  ·left;show b∈v.ownBlock.toList;rw[←h1,gG];simp
  ·exact .inr (h1 b gG)
 ·show v'.ownBlock.toList.Nodup;cases v'.ownBlock<;>simp
theorem Hp.nilrow (h:Hp o w it W) (e:TypeId) (size:Nat):Hp o w (irow e size (.slice none 0 0) 0 []::it) W:=by
 have h1:Hp (ow []) W [irow e size (.slice none 0 0) 0 []] W:=⟨⟨fun x hx=>by rw[List.mem_singleton.1 hx];exact World.ownsRow_nil _ _ _ _,by simp[irow,Value.ownBlock]⟩,Below.refl _ _,fun _ _ _=>rfl,fun b hb=>by simp[irow,Value.ownBlock]at hb⟩;exact zvg
end
theorem row_setCell {W:World} {base:Nat} {e:TypeId} {size n g cap:Nat} {xs:List Value} (h:W.ownsRow base e size (.slice (some ⟨g,0,none⟩) n cap) n xs) (j:Nat) (hj:j<n*size) (u:Value) :
 (W.setCell ⟨g,j,none⟩ u).ownsRow base e size (.slice (some ⟨g,0,none⟩) n cap) n (xs.set j u):=by
 refine⟨by rw[List.length_set];exact h.1,?_⟩;rcases h.2 with⟨h1,_⟩|⟨g',cap',cur,h1,hb,hg,hn,hc,hs,ht⟩
 ·cases h1
 ·cases h1;refine .inr ⟨g,cap,cur.setIfInBounds j u,rfl,hb,?_,hn,hc,by simpa using hs,?_⟩
  ·simp[World.setCell,Array.getElem?_modify,hg]
  ·rw[←ht,Array.toList_setIfInBounds,List.take_set]
theorem Hp.rowset {o:List Nat} {w W:World} {it:List It} (h:Hp o w it W) (i:Nat) {e:TypeId} {size n g cap:Nat} {xs:List Value} (hx:it[i]? =some (irow e size (.slice (some ⟨g,0,none⟩) n cap) n xs)) (j:Nat) (hj:j<n*size) (u:Value) :
 Hp o w (it.set i (irow e size (.slice (some ⟨g,0,none⟩) n cap) n (xs.set j u))) (W.setCell ⟨g,j,none⟩ u) :=
 h.upd i hx (row_setCell (h.row i hx) j hj u) ⟨(Below.refl _ _).setCell (Nat.zero_le _) _,fun k hk ho=>Below.heap_setCell _ _ _ _ (by simp[irow,Value.ownBlock]at ho;exact ho),fun b hb=>.inl hb⟩ (by simp[irow,Value.ownBlock])
theorem zbw {W:World} {base:Nat} {e:TypeId} {size n g cap:Nat} {xs:List Value} (h:W.ownsRow base e size (.slice (some ⟨g,0,none⟩) n cap) n xs) (j:Nat):W.frozen? ⟨g,j,none⟩=false:=by
 rcases h.2 with⟨h1,_⟩|⟨g',cap',cur,h1,hb,hg,_⟩
 ·cases h1
 ·cases h1;simp[World.frozen?,hg]
theorem zal {W:World} {base:Nat} {e:TypeId} {size n g cap:Nat} {xs:List Value} (h:W.ownsRow base e size (.slice (some ⟨g,0,none⟩) n cap) n xs) {j:Nat} {u:Value} (hu:xs[j]? =some u):W.cell? ⟨g,j,none⟩=some u:=by
 have h1:=h.cells (g:=g) rfl j u hu;have e:(⟨g,0,none⟩:Addr).add j=⟨g,j,none⟩:=by unfold Addr.add;split<;>simp_all
 rwa[e]at h1
theorem zak {W:World} {base:Nat} {e:TypeId} {size n:Nat} {v:Value} {xs:List Value} (h:W.ownsRow base e size v n xs) (hn:0<n):∃g cap,v=.slice (some ⟨g,0,none⟩) n cap∧n≤cap:=by
 rcases h.2 with⟨_,h1⟩|⟨g,cap,cur,h1,_,_,hc,_⟩
 ·omega
 ·exact⟨g,cap,h1,hc⟩
theorem zab {W:World} {base:Nat} {e:TypeId} {size n:Nat} {v:Value} {xs:List Value} (h:W.ownsRow base e size v n xs):∃A cap,v=.slice A n cap:=by
 rcases h.2 with⟨h1,rfl⟩|⟨g,cap,cur,h1,_⟩
 ·exact⟨none,0,h1⟩
 ·exact⟨_,cap,h1⟩
section
variable {P:Program} {w:World}
theorem run_append_own2 (base:Nat) (t ty e:TypeId) (i:TypeInfo) (z:Value) (size bytes:Nat) (ht:P.underlying t=some (.slice e)) (hi:P.info? e=some i) (hz:i.zero=some z)
 (cL:i.size=size) (ll:i.bytes=bytes) (pD:z.cells.size=size) (bu:0<size)
 (v:Value) (n:Nat) (xs:List Value) (af:w.ownsRow base e size v n xs)
 (a:Addr) (m c:Nat) (news:List Value) (hl:news.length=m*size) (bY:∀j u,news[j]? =some u→w.cell? (a.add j)=some u) (h1:∀u∈news,u.oneCell'=true) (hm:0<m)
 (mZ:n+m≤maxLen) (cP:(n+m)*bytes≤140737488355328) (fG:base≤w.heap.size) :
 ∃v' w',(Builtin.append_ #[t,t] ty #[v,.slice (some a) m c]).run P w=.ok v' w'∧w'.ownsRow base e size v' (n+m) (xs++news)∧w.grownBy w' v.ownBlock ∧
  (v'.ownBlock=v.ownBlock∨∀g,v'.ownBlock=some g→w.heap.size≤g):=by
 obtain⟨v',w',hr,h2,h3,_⟩:=run_append_own (P:=P) w base t ty e i z size bytes ht hi hz cL ll pD bu v n xs af a m c news hl bY h1 mZ cP fG;refine⟨v',w',hr,h2,h3,?_⟩;subst cL;subst ll;have tR:n+m≤9223372036854775807:=by simp only[maxLen]at mZ;omega
 rcases af.2 with⟨rfl,rfl⟩|⟨g,cap,cur,rfl,pi,hg,hnc,nX,hcs,pW⟩
 ·have hx:xs=[]:=List.eq_nil_of_length_eq_zero (by simpa using af.1);subst hx;have dO:=run_append_nil (P:=P) w t ty e i z ht hi hz a m c news hl bY om om (by have hb:=cP;simp only[Nat.zero_add]at hb;omega);exact zt81
 ·by_cases kQ:n+m≤cap
  ·have bB:n*i.size+news.length≤cur.size:=by rw[hl,hcs,←Nat.add_mul];exact Nat.mul_le_mul_right _ kQ
   have dO:=run_append_room (P:=P) w t ty e i ht hi g n cap cur hg a m c news hl bY h1 kQ bB;rw[hr]at dO;injection dO with e1 e2;subst e1;exact .inl rfl
  ·have holds:∀j u,xs[j]? =some u→w.cell? ((⟨g,0,none⟩:Addr).add j)=some u:=af.cells (g:=g) rfl;have dO:=run_append_grow (P:=P) w t ty e i z ht hi hz ⟨g,0,none⟩ n cap xs af.1 holds a m c news hl bY om om (growslice_fits om cP);exact zt81
theorem zaz {o:Oper} {a:Act} {K:Act→World→Prop} {Q:Exit→Act→World→Prop} (s x:Operand) (t:TypeId)
 (ho:o.op=.call { callee:=.builtin .append,args:=#[s,x],argTypes:=#[t,t] })
 (base:Nat) (e:TypeId) (i:TypeInfo) (z:Value) (size bytes:Nat) (ht:P.underlying t=some (.slice e)) (hi:P.info? e=some i) (hz:i.zero=some z)
 (cL:i.size=size) (ll:i.bytes=bytes) (pD:z.cells.size=size) (bu:0<size)
 (v:Value) (n:Nat) (xs:List Value) (hs:a.eval s=v) (af:w.ownsRow base e size v n xs)
 (ad:Addr) (m c:Nat) (news:List Value) (hx:a.eval x=.slice (some ad) m c) (hl:news.length=m*size) (bY:∀j u,news[j]? =some u→w.cell? (ad.add j)=some u) (h1:∀u∈news,u.oneCell'=true) (hm:0<m)
 (mZ:n+m≤maxLen) (cP:(n+m)*bytes≤140737488355328) (fG:base≤w.heap.size)
 (h:∀v' w',w'.ownsRow base e size v' (n+m) (xs++news)→w.grownBy w' v.ownBlock→(v'.ownBlock=v.ownBlock∨∀g,v'.ownBlock=some g→w.heap.size≤g)→K (a.put o.dst v') w'):o.wp P a w K Q:=by
 obtain⟨v',w',hr,h2,h3,h4⟩:=run_append_own2 (P:=P) (w:=w) base t o.type e i z size bytes ht hi hz cL ll pD bu v n xs af ad m c news hl bY h1 hm mZ cP fG;unfold Oper.wp execOp;simp only[ho,resolve,invoke,builtin,Sem.run_bind,Sem.run_pure,Result.andThen_ok,List.map_toArray,List.map_cons,List.map_nil,hs,hx,hr];exact h v' w' h2 h3 h4
theorem zac {ops:Array Oper} {rest:List Oper} {o:Oper} {a:Act} {Q:Exit→Act→World→Prop} (wt:o.guard=none) (s x:Operand) (t:TypeId)
 (ho:o.op=.call { callee:=.builtin .append,args:=#[s,x],argTypes:=#[t,t] })
 (base:Nat) (e:TypeId) (i:TypeInfo) (z:Value) (size bytes:Nat) (ht:P.underlying t=some (.slice e)) (hi:P.info? e=some i) (hz:i.zero=some z)
 (cL:i.size=size) (ll:i.bytes=bytes) (pD:z.cells.size=size) (bu:0<size)
 (v:Value) (n:Nat) (xs:List Value) (hs:a.eval s=v) (af:w.ownsRow base e size v n xs)
 (ad:Addr) (m c:Nat) (news:List Value) (hx:a.eval x=.slice (some ad) m c) (hl:news.length=m*size) (bY:∀j u,news[j]? =some u→w.cell? (ad.add j)=some u) (h1:∀u∈news,u.oneCell'=true) (hm:0<m)
 (mZ:n+m≤maxLen) (cP:(n+m)*bytes≤140737488355328) (fG:base≤w.heap.size)
 (h:∀v' w',w'.ownsRow base e size v' (n+m) (xs++news)→w.grownBy w' v.ownBlock→(v'.ownBlock=v.ownBlock∨∀g,v'.ownBlock=some g→w.heap.size≤g)→wpList P ops Q rest (a.put o.dst v') w'):wpList P ops Q (o::rest) a w :=
 wpList_plain wt fun _ hK=>zaz s x t ho base e i z size bytes ht hi hz cL ll pD bu v n xs hs af ad m c news hx hl bY h1 hm mZ cP fG fun v' w' h2 h3 h4=>hK _ _ (h v' w' h2 h3 h4)
end
end
namespace Lx
def isSp (c:UInt8):Bool:=c==32||c==9||c==13||c==10
def isLet (c:UInt8):Bool:=(97≤c&&c≤122)||(65≤c&&c≤90)
def isDig (c:UInt8):Bool:=48≤c&&c≤57
def isNm (c:UInt8):Bool:=isLet c||isDig c||c==95
def isWd (c:UInt8):Bool:=isNm c||c==45
def isLU (c:UInt8):Bool:=isLet c||c==95
def sp (p:UInt8→Bool):List UInt8→Nat
 | []=>0
 | c::m=>if p c then sp p m+1 else 0
theorem sp_le (p:UInt8→Bool) (l:List UInt8):sp p l≤l.length:=by
 induction l with
 | nil=>exact Nat.le_refl 0
 | cons c m ih =>
  unfold sp;split
  ·simpa using ih
  ·simp
theorem sp_succ {p:UInt8→Bool} {c:UInt8} {m:List UInt8} (h:p c=true):sp p (c::m)=sp p m+1:=by rw[sp,if_pos h]
theorem sp_stop {p:UInt8→Bool} {c:UInt8} {m:List UInt8} (h:p c=false):sp p (c::m)=0:=by rw[sp,if_neg (by simp[h])]
theorem sp_all {p:UInt8→Bool} {l:List UInt8}:∀i (_:i<sp p l) (h2:i<l.length),p l[i]=true:=by
 induction l with
 | nil=>intro i h h2;simp at h2
 | cons c m ih =>
  intro i h h2;cases hc:p c with
  | false=>rw[sp_stop hc]at h;omega
  | true =>
   rw[sp_succ hc]at h;cases i with
   | zero=>exact hc
   | succ i=>exact ih i om (by simpa using h2)
theorem sp_end {p:UInt8→Bool} {l:List UInt8} (h:sp p l<l.length):p l[sp p l]=false:=by
 induction l with
 | nil=>simp at h
 | cons c m ih =>
  cases hc:p c with
  | false =>
   simp only[sp_stop hc];exact hc
  | true =>
   rw[sp_succ hc]at h;simp only[sp_succ hc,List.getElem_cons_succ];exact ih zyc
theorem sp_drop {p:UInt8→Bool} {l:List UInt8} {i:Nat} (h:i<l.length) (hp:p l[i]=true):sp p (l.drop i)=sp p (l.drop (i+1))+1:=by
 rw[List.drop_eq_getElem_cons h,sp_succ hp]
theorem sp_drop_stop {p:UInt8→Bool} {l:List UInt8} {i:Nat} (h:i<l.length) (hp:p l[i]=false):sp p (l.drop i)=0:=by
 rw[List.drop_eq_getElem_cons h,sp_stop hp]
theorem sp_drop_end {p:UInt8→Bool} {l:List UInt8} {i:Nat} (h:l.length≤i):sp p (l.drop i)=0:=by
 rw[List.drop_eq_nil_of_le h];rfl
def sk:Bool→List UInt8→Nat
 | _,[]=>0
 | false,c::m=>if isSp c then sk false m+1 else if c==35 then sk true m+1 else 0
 | true,c::m=>if c==10 then sk false m+1 else sk true m+1
theorem sk_le (b:Bool) (l:List UInt8):sk b l≤l.length:=by
 induction l generalizing b with
 | nil=>cases b<;>exact Nat.le_refl 0
 | cons c m ih =>
  have h1:=ih false;have h2:=ih true;cases b<;>unfold sk<;>simp only[List.length_cons]<;>split<;>(try split)<;>omega
theorem sk_sp {c:UInt8} {m:List UInt8} (h:isSp c=true):sk false (c::m)=sk false m+1:=by rw[sk,if_pos h]
theorem sk_hash {m:List UInt8}:sk false (35::m)=sk true m+1:=by
 rw[sk,if_neg zy0,if_pos zy0]
theorem sk_stop {c:UInt8} {m:List UInt8} (h:isSp c=false) (h2:(c==35)=false):sk false (c::m)=0:=by
 rw[sk,if_neg (by simp[h]),if_neg (by simp[h2])]
theorem sk_nl {m:List UInt8}:sk true (10::m)=sk false m+1:=by rw[sk,if_pos zy0]
theorem sk_in {c:UInt8} {m:List UInt8} (h:(c==10)=false):sk true (c::m)=sk true m+1:=by rw[sk,if_neg (by simp[h])]
theorem sk_run (l:List UInt8):sk false l=sp isSp l+sk false (l.drop (sp isSp l)):=by
 induction l with
 | nil=>rfl
 | cons c m ih =>
  cases hc:isSp c with
  | false=>rw[sp_stop hc];simp
  | true=>rw[sp_succ hc,sk_sp hc,List.drop_succ_cons];omega
theorem sk_line (l:List UInt8):sk true l=sp (fun c=>c != 10) l+sk false (l.drop (sp (fun c=>c != 10) l)):=by
 induction l with
 | nil=>rfl
 | cons c m ih =>
  cases hc:(c==10)with
  | true =>
   have:c=10:=by simpa using hc
   subst this;rw[sp_stop (p:=fun c=>c != 10) zy0,sk_nl];simp only[List.drop_zero];rw[sk_sp zy0];omega
  | false =>
   have h2:sp (fun c=>c != 10) (c::m)=sp (fun c=>c != 10) m+1:=sp_succ (p:=fun c=>c != 10) (by simpa using hc);rw[h2,sk_in hc,List.drop_succ_cons];omega
def dv (l:List UInt8):Nat:=l.foldl (fun n c=>10*n+(c.toNat-48)) 0
theorem dv_snoc (l:List UInt8) (c:UInt8):dv (l++[c])=10*dv l+(c.toNat-48):=by simp[dv]
theorem dv_mono (l m:List UInt8):dv l≤dv (l++m):=by
 induction m generalizing l with
 | nil=>simp
 | cons c m ih =>
  have:=ih (l++[c]);rw[dv_snoc]at this;rw[show l++c::m=l++[c]++m by simp];omega
def one (c:UInt8):Bool:=c==61||c==60||c==62||c==58||c==46||c==44||c==40||c==41||c==123||c==125
def two (a b:UInt8):Bool:=b==61&&(a==33||a==60||a==62)
def sg:List UInt8→Nat
 | []=>0
 | [a]=>if one a then 1 else 0
 | a::b::_=>if two a b then 2 else if one a then 1 else 0
def kws:List (List UInt8):=[[112,111,108,105,99,121],[117,115,101,115],[114,101,118,101,97,108],[112,114,111,118,101],[115,99,111,112,101],[108,105,109,105,116],[101,115,99,114,111,119],[101,110,100],[97,108,108],[97,110,121],[97,116,108,101,97,115,116],[110,111,116],[116,114,117,101],[102,97,108,115,101],[98,101,116,119,101,101,110],[97,110,100],[105,110]]
def kw (l:List UInt8):Bool:=kws.contains l
def tkName (m:List UInt8):Nat⊕Nat×Nat:=if 32<sp isNm m then .inl 5 else .inr (if kw (m.take (sp isNm m))then 2 else 0,sp isNm m)
def tkWord (m:List UInt8):Nat⊕Nat×Nat:=if 32<sp isWd m then .inl 5 else if sp isWd m=0∨m[sp isWd m]? ≠some 39 then .inl 4 else .inr (0,sp isWd m+2)
def tkSign (m:List UInt8):Nat⊕Nat×Nat:=if sg m=0 then .inl 4 else .inr (2,sg m)
def tk:List UInt8→Nat⊕Nat×Nat
 | []=>.inl 4
 | c::m =>
  if isLet c then tkName (c::m)
  else if c==39 then tkWord m
  else if c==45 then(if sp isDig m=0 then tkSign (c::m)else if dv (m.take (sp isDig m))≤2147483648 then .inr (1,sp isDig m+1)else .inl 2)
  else if sp isDig (c::m)=0 then tkSign (c::m)else if dv ((c::m).take (sp isDig (c::m)))≤2147483647 then .inr (1,sp isDig (c::m))else .inl 2
structure Tok where
 kind:Nat
 text:List UInt8
 at_:Nat
inductive Res where
 | ok (ts:List Tok)
 | err (at_ e:Nat)
def Res.pre (out:List Tok):Res→Res
 | .ok ts=>.ok (out++ts)
 | .err a e=>.err a e
theorem Res.pre_nil (r:Res):r.pre []=r:=by cases r<;>rfl
theorem Res.pre_pre (a b:List Tok) (r:Res):(r.pre b).pre a=r.pre (a++b):=by cases r<;>simp[Res.pre]
def luAt:List UInt8→Bool
 | []=>false
 | c::_=>isLU c
def st (f:Nat→List UInt8→Res) (a:Nat) (m:List UInt8):Res :=
 match m,tk m with
 | [],_=>.ok [⟨3,[],a⟩]
 | _::_,.inl e=>.err a e
 | _::_,.inr (k,n)=>if k=1∧luAt (m.drop n)=true then .err (a+n) 4 else(f (a+n) (m.drop n)).pre [⟨k,m.take n,a⟩]
def scF:Nat→Nat→List UInt8→Res
 | 0,_,_=>.ok []
 | f+1,a,l=>st (scF f) (a+sk false l) (l.drop (sk false l))
def sc (l:List UInt8):Res:=scF (l.length+1) 0 l
end Lx
namespace Lx
theorem sg_le (m:List UInt8):sg m≤m.length∧sg m≤2:=by
 match m with
 | []=>exact⟨Nat.le_refl 0,by decide⟩
 | [a]=>rw[sg];split<;>simp
 | a::b::r =>
  rw[sg];split
  ·simp
  ·split<;>simp
theorem tkName_len {m:List UInt8} {k n:Nat} (h:tkName m=.inr (k,n)):n=sp isNm m∧n≤32∧k=(if kw (m.take n)then 2 else 0):=by
 unfold tkName at h;split at h
 ·cases h
 ·simp only[Sum.inr.injEq,Prod.mk.injEq]at h;obtain⟨h1,h2⟩:=h;exact⟨h2.symm,by omega,by rw[←h1,←h2]⟩
theorem tkWord_len {m:List UInt8} {k n:Nat} (h:tkWord m=.inr (k,n)):k=0∧n=sp isWd m+2∧sp isWd m≤32∧sp isWd m≠0∧m[sp isWd m]? =some 39:=by
 unfold tkWord at h;split at h
 ·cases h
 ·split at h
  ·cases h
  ·rename_i h1 h2;simp only[Sum.inr.injEq,Prod.mk.injEq]at h;have h3:¬sp isWd m=0:=fun h4=>h2 (.inl h4);have h4:m[sp isWd m]? =some 39:=Classical.byContradiction fun h4=>h2 (.inr h4);exact⟨h.1.symm,h.2.symm,by omega,h3,h4⟩
theorem tkSign_len {m:List UInt8} {k n:Nat} (h:tkSign m=.inr (k,n)):k=2∧n=sg m∧n≠0:=by
 unfold tkSign at h;split at h
 ·cases h
 ·simp only[Sum.inr.injEq,Prod.mk.injEq]at h;exact⟨h.1.symm,h.2.symm,by omega⟩
inductive Way:List UInt8→Nat→Nat→Prop
 | name (c:UInt8) (m:List UInt8) (hc:isLet c=true) (h:sp isNm (c::m)≤32):Way (c::m) (if kw ((c::m).take (sp isNm (c::m)))then 2 else 0) (sp isNm (c::m))
 | word (m:List UInt8) (h0:sp isWd m≠0) (h:sp isWd m≤32) (hq:m[sp isWd m]? =some 39):Way (39::m) 0 (sp isWd m+2)
 | minus (m:List UInt8) (h0:sp isDig m≠0) (h:dv (m.take (sp isDig m))≤2147483648):Way (45::m) 1 (sp isDig m+1)
 | digits (c:UInt8) (m:List UInt8) (hl:isLet c=false) (h1:(c==39)=false) (h2:(c==45)=false) (h0:sp isDig (c::m)≠0) (h:dv ((c::m).take (sp isDig (c::m)))≤2147483647):Way (c::m) 1 (sp isDig (c::m))
 | sign (c:UInt8) (m:List UInt8) (hl:isLet c=false) (h1:(c==39)=false) (h2:(c==45)=true→sp isDig m=0) (h3:(c==45)=false→sp isDig (c::m)=0) (h:sg (c::m)≠0):Way (c::m) 2 (sg (c::m))
theorem way_of {m:List UInt8} {k n:Nat} (h:tk m=.inr (k,n)):Way m k n:=by
 cases m with
 | nil=>cases h
 | cons c m =>
  rw[tk]at h;by_cases hl:isLet c=true
  ·rw[if_pos hl]at h;obtain⟨rfl,h2,rfl⟩:=tkName_len h;exact .name c m hl h2
  ·have kO:isLet c=false:=by simpa using hl
   rw[if_neg hl]at h;by_cases h1:(c==39)=true
   ·rw[if_pos h1]at h;have:c=39:=by simpa using h1
    subst this;obtain⟨rfl,rfl,h2,h3,h4⟩:=tkWord_len h;exact .word m h3 h2 h4
   ·have m':(c==39)=false:=by simpa using h1
    rw[if_neg h1]at h;by_cases h2:(c==45)=true
    ·rw[if_pos h2]at h;have:c=45:=by simpa using h2
     subst this;by_cases h3:sp isDig m=0
     ·rw[if_pos h3]at h;obtain⟨rfl,rfl,h4⟩:=tkSign_len h;exact .sign 45 m kO m' (fun _=>h3) (fun h5=>by cases h5) h4
     ·rw[if_neg h3]at h;by_cases h4:dv (m.take (sp isDig m))≤2147483648
      ·rw[if_pos h4]at h;simp only[Sum.inr.injEq,Prod.mk.injEq]at h;obtain⟨rfl,rfl⟩:=h;exact .minus m h3 h4
      ·rw[if_neg h4]at h;cases h
    ·have kH:(c==45)=false:=by simpa using h2
     rw[if_neg h2]at h;by_cases h3:sp isDig (c::m)=0
     ·rw[if_pos h3]at h;obtain⟨rfl,rfl,h4⟩:=tkSign_len h;exact .sign c m kO m' (fun h5=>by rw[kH]at h5;cases h5) (fun _=>h3) h4
     ·rw[if_neg h3]at h;by_cases h4:dv ((c::m).take (sp isDig (c::m)))≤2147483647
      ·rw[if_pos h4]at h;simp only[Sum.inr.injEq,Prod.mk.injEq]at h;obtain⟨rfl,rfl⟩:=h;exact .digits c m kO m' kH h3 h4
      ·rw[if_neg h4]at h;cases h
theorem Way.tk {m:List UInt8} {k n:Nat} (h:Way m k n):tk m=.inr (k,n):=by
 cases h with
 | name c m hc h=>rw[Lx.tk,if_pos hc,tkName,if_neg om]
 | word m h0 h hq =>
  rw[Lx.tk,if_neg zy0,if_pos zy0,tkWord,if_neg om,if_neg (by intro h5;rcases h5 with h5|h5;exact h0 h5;exact h5 hq)]
 | minus m h0 h=>rw[Lx.tk,if_neg zy0,if_neg zy0,if_pos zy0,if_neg h0,if_pos h]
 | digits c m hl h1 h2 h0 h=>rw[Lx.tk,if_neg (by simp[hl]),if_neg (by simp[h1]),if_neg (by simp[h2]),if_neg h0,if_pos h]
 | sign c m hl h1 h2 h3 h =>
  rw[Lx.tk,if_neg (by simp[hl]),if_neg (by simp[h1])];by_cases h5:(c==45)=true
  ·rw[if_pos h5,if_pos (h2 h5),tkSign,if_neg h]
  ·rw[if_neg h5,if_pos (h3 (by simpa using h5)),tkSign,if_neg h]
theorem tk_len {m:List UInt8} {k n:Nat} (h:tk m=.inr (k,n)):0<n∧n≤m.length:=by
 cases way_of h with
 | name c m hc h =>
  have h1:isNm c=true:=by simp[isNm,hc]
  have h2:=sp_le isNm (c::m);rw[sp_succ h1]at h2 ⊢;exact⟨by omega,h2⟩
 | word m h0 h hq =>
  obtain⟨h1,h2⟩:=List.getElem?_eq_some_iff.1 hq;simp only[List.length_cons];omega
 | minus m h0 h =>
  have:=sp_le isDig m;simp only[List.length_cons];omega
 | digits c m hl h1 h2 h0 h =>
  have:=sp_le isDig (c::m);omega
 | sign c m hl h1 h2 h3 h =>
  have:=(sg_le (c::m)).1;omega
structure SI (l:List UInt8) (a:Nat) (out:List Tok):Prop where
 le:a≤l.length
 ex:∃f,l.length-a<f∧sc l=(scF f a (l.drop a)).pre out
theorem SI.start (l:List UInt8):SI l 0 []:=⟨Nat.zero_le _,l.length+1,by omega,by rw[Res.pre_nil];rfl⟩
theorem skip_le (l:List UInt8) {a:Nat} (h:a≤l.length):a+sk false (l.drop a)≤l.length:=by
 have:=sk_le false (l.drop a);simp at this;omega
theorem scF_skip {f a j:Nat} {l:List UInt8} (h:sk false l=j+sk false (l.drop j)):scF f a l=scF f (a+j) (l.drop j):=by
 cases f with
 | zero=>rfl
 | succ f =>
  unfold scF;rw[List.drop_drop,←h,Nat.add_assoc,←h]
theorem SI.skip {l:List UInt8} {a:Nat} {out:List Tok} (h:SI l a out) {j:Nat} (hj:a+j≤l.length) (hs:sk false (l.drop a)=j+sk false (l.drop (a+j))):SI l (a+j) out:=by
 obtain⟨f,h1,h2⟩:=h.ex;refine⟨hj,f,by omega,?_⟩;rw[h2,scF_skip (j:=j) (by rw[List.drop_drop];exact hs),List.drop_drop]
theorem SI.skipAll {l:List UInt8} {a:Nat} {out:List Tok} (h:SI l a out):SI l (a+sk false (l.drop a)) out:=by
 refine h.skip (skip_le l h.le) ?_;have:∀(b:Bool) (l:List UInt8),sk false (l.drop (sk b l))=0:=by
  intro b l
  induction l generalizing b with
  | nil=>cases b<;>rfl
  | cons c m ih =>
   cases b with
   | false =>
    by_cases h1:isSp c=true
    ·rw[sk_sp h1,List.drop_succ_cons];exact ih false
    ·by_cases h2:(c==35)=true
     ·have:c=35:=by simpa using h2
      subst this;rw[sk_hash,List.drop_succ_cons];exact ih true
     ·have m':isSp c=false:=by simpa using h1
      have kH:(c==35)=false:=by simpa using h2
      rw[sk_stop m' kH,List.drop_zero,sk_stop m' kH]
   | true =>
    by_cases h2:(c==10)=true
    ·have:c=10:=by simpa using h2
     subst this;rw[sk_nl,List.drop_succ_cons];exact ih false
    ·have kH:(c==10)=false:=by simpa using h2
     rw[sk_in kH,List.drop_succ_cons];exact ih true
 rw[←List.drop_drop,this];rfl
theorem SI.atEnd {l:List UInt8} {a:Nat} {out:List Tok} (h:SI l a out) (ha:a=l.length):sc l=.ok (out++[⟨3,[],a⟩]):=by
 subst ha;obtain⟨f,h1,h2⟩:=h.ex;cases f with
 | zero=>omega
 | succ f =>
  rw[h2];simp[scF,st,sk,Res.pre]
theorem SI.unfold {l:List UInt8} {a:Nat} {out:List Tok} (h:SI l a out) (_:a<l.length) (hs:sk false (l.drop a)=0):∃f,l.length-a<f+1∧sc l=(st (scF f) a (l.drop a)).pre out:=by
 obtain⟨f,h1,h2⟩:=h.ex;cases f with
 | zero=>omega
 | succ f =>
  refine⟨f,h1,?_⟩;rw[h2];unfold scF;rw[hs];rfl
theorem SI.error {l:List UInt8} {a:Nat} {out:List Tok} (h:SI l a out) (ha:a<l.length) (hs:sk false (l.drop a)=0) {e:Nat} (ht:tk (l.drop a)=.inl e):sc l=.err a e:=by
 obtain⟨f,h1,h2⟩:=h.unfold ha hs;rw[h2];have e1:l.drop a=l[a]::l.drop (a+1):=List.drop_eq_getElem_cons ha;unfold st;rw[ht];rw[e1];rfl
theorem SI.glued {l:List UInt8} {a:Nat} {out:List Tok} (h:SI l a out) (ha:a<l.length) (hs:sk false (l.drop a)=0) {n:Nat} (ht:tk (l.drop a)=.inr (1,n)) (hl:luAt (l.drop (a+n))=true):sc l=.err (a+n) 4:=by
 obtain⟨f,h1,h2⟩:=h.unfold ha hs;rw[h2];have e1:l.drop a=l[a]::l.drop (a+1):=List.drop_eq_getElem_cons ha;unfold st;rw[ht];rw[e1];simp only[];rw[←e1,List.drop_drop,if_pos ⟨trivial,hl⟩];rfl
theorem SI.token {l:List UInt8} {a:Nat} {out:List Tok} (h:SI l a out) (ha:a<l.length) (hs:sk false (l.drop a)=0) {k n:Nat} (ht:tk (l.drop a)=.inr (k,n)) (hl:¬(k=1∧luAt (l.drop (a+n))=true)):SI l (a+n) (out++[⟨k,(l.drop a).take n,a⟩]):=by
 obtain⟨f,h1,h2⟩:=h.unfold ha hs;have h3:=tk_len ht;simp at h3;refine⟨by omega,f,by omega,?_⟩;rw[h2];have e1:l.drop a=l[a]::l.drop (a+1):=List.drop_eq_getElem_cons ha;unfold st;rw[ht];rw[e1];simp only[];rw[←e1,List.drop_drop,if_neg hl,Res.pre_pre]
end Lx
namespace Lx
def hd (p:UInt8→Bool):List UInt8→Bool
 | []=>false
 | c::_=>p c
def Look (r r':List UInt8):Prop:=r'.head? =r.head? ∨r'=[]∨∃c q,r'=c::q∧(isSp c=true∨c=35)
inductive Sc:Nat→List UInt8→List Tok→Prop
 | done (a:Nat) (l:List UInt8) (h:l.drop (sk false l)=[]):Sc a l [⟨3,[],a+sk false l⟩]
 | step (a:Nat) (l:List UInt8) (k n:Nat) (ts:List Tok) (ht:tk (l.drop (sk false l))=.inr (k,n)) (hl:¬(k=1∧luAt ((l.drop (sk false l)).drop n)=true)) (h:Sc (a+sk false l+n) ((l.drop (sk false l)).drop n) ts):Sc a l (⟨k,(l.drop (sk false l)).take n,a+sk false l⟩::ts)
theorem Sc.within {a:Nat} {l:List UInt8} {ts:List Tok} (h:Sc a l ts):∀t∈ts,a≤t.at_∧t.at_+t.text.length≤a+l.length:=by
 induction h with
 | done a l h =>
  intro t ht;rw[List.mem_singleton]at ht;subst ht;have:=sk_le false l;simp;omega
 | step a l k n ts ht hl h ih =>
  have h1:=sk_le false l;have h2:=tk_len ht;simp only[List.length_drop]at h2;intro t h3;rcases List.mem_cons.1 h3 with rfl|h3
  ·simp;omega
  ·have:=ih t h3;simp only[List.length_drop]at this;omega
theorem sk_gap {b:Bool} {g r:List UInt8} (h:sk b (g++r)=g.length):∃b',(∀x,sk b (g++x)=g.length+sk b' x)∧sk b' r=0:=by
 induction g generalizing b with
 | nil=>exact⟨b,fun x=>by simp,by simpa using h⟩
 | cons c g ih =>
  cases b with
  | false =>
   by_cases h1:isSp c=true
   ·rw[List.cons_append,sk_sp h1,List.length_cons]at h;obtain⟨b',h2,h3⟩:=ih (b:=false) om;exact⟨b',fun x=>by rw[List.cons_append,sk_sp h1,h2,List.length_cons];omega,h3⟩
   ·by_cases h2:(c==35)=true
    ·have:c=35:=by simpa using h2
     subst this;rw[List.cons_append,sk_hash,List.length_cons]at h;obtain⟨b',h2,h3⟩:=ih (b:=true) om;exact⟨b',fun x=>by rw[List.cons_append,sk_hash,h2,List.length_cons];omega,h3⟩
    ·rw[List.cons_append,sk_stop (by simpa using h1) (by simpa using h2)]at h;simp at h
  | true =>
   by_cases h2:(c==10)=true
   ·have:c=10:=by simpa using h2
    subst this;rw[List.cons_append,sk_nl,List.length_cons]at h;obtain⟨b',h2,h3⟩:=ih (b:=false) om;exact⟨b',fun x=>by rw[List.cons_append,sk_nl,h2,List.length_cons];omega,h3⟩
   ·have h1:(c==10)=false:=by simpa using h2
    rw[List.cons_append,sk_in h1,List.length_cons]at h;obtain⟨b',h2,h3⟩:=ih (b:=true) om;exact⟨b',fun x=>by rw[List.cons_append,sk_in h1,h2,List.length_cons];omega,h3⟩
theorem sk_true_pos {r:List UInt8} (h:sk true r=0):r=[]:=by
 cases r with
 | nil=>rfl
 | cons c m=>unfold sk at h;split at h<;>omega
theorem sk_own (l:List UInt8):∃b',(∀x,sk false (l.take (sk false l)++x)=sk false l+sk b' x)∧sk b' (l.drop (sk false l))=0:=by
 have h1:=sk_le false l;have h2:(l.take (sk false l)).length=sk false l:=by simp;omega
 obtain⟨b',h3,h4⟩:=sk_gap (b:=false) (g:=l.take (sk false l)) (r:=l.drop (sk false l)) (by rw[List.take_append_drop,h2]);rw[h2]at h3;exact⟨b',h3,h4⟩
structure Gap (s:List UInt8):Prop where
 all:∀b,sk b s=s.length
 stop:∀r,r≠[]→sk false r=0→sk false (s++r)=s.length
 sep:∀r,∃c q,s++r=c::q∧(isSp c=true∨c=35)
end Lx
section
open Go.RowKit
theorem tkW (i:Nat) {P:Program} {ops:Array Oper} {Q:Exit→Act→World→Prop} {md:Region.Mode} {S:World→Prop} {oi:Oper} {v:Value} {fuel:Nat} {listed:Array Bool} {a:Act} {w:World} (hi:ops[i]? =some oi) (hy:YieldsIf P ops S oi v a) (h:wpAnyH P md ops Q S fuel (listed.setIfInBounds i true) (a.put oi.dst v) w) (hs:Region.noSelect ops=true:=by kernel_rfl) (hf:Region.free md ops listed i=true:=by kernel_rfl) (hr:(Region.ready md ops listed).contains i=true:=by kernel_rfl) (hQ:∀c a w,Q (.panic c) (a.put oi.dst v) w→Q (.panic c) a w:=by exact fun _ _ _ h=>h) (hS:S w:=by assumption):wpAnyH P md ops Q S (fuel+1) listed a w:=wpAnyH_take hi hs hf hr hQ hy hS h
theorem tk3 (i:Nat) {P:Program} {ops:Array Oper} {Q:Exit→Act→World→Prop} {md:Region.Mode} {S:World→Prop} {oi:Oper} {v:Value} {fuel:Nat} {listed:Array Bool} {a:Act} {w:World} (hi:ops[i]? =some oi) (h:wpAnyH P md ops Q S fuel (listed.setIfInBounds i true) (a.put oi.dst v) w) (hs:Region.noSelect ops=true:=by kernel_rfl) (hf:Region.free md ops listed i=true:=by kernel_rfl) (hr:(Region.ready md ops listed).contains i=true:=by kernel_rfl) (hQ:∀c a w,Q (.panic c) (a.put oi.dst v) w→Q (.panic c) a w:=by exact fun _ _ _ h=>h) (hS:S w:=by assumption) (hy:YieldsIf P ops S oi v a:=by exact Or.inl ⟨by rfl,by(intro w bf;(try dsimp only at bf);(try obtain⟨jc,iS,j4⟩:=bf);go_simp;(try with_reducible rfl))⟩):wpAnyH P md ops Q S (fuel+1) listed a w:=wpAnyH_take hi hs hf hr hQ hy hS h
theorem tkZ (i:Nat) {P:Program} {ops:Array Oper} {Q:Exit→Act→World→Prop} {md:Region.Mode} {S:World→Prop} {oi:Oper} {fuel:Nat} {listed:Array Bool} {a:Act} {w:World} (hi:ops[i]? =some oi) (h:wpAnyH P md ops Q S fuel (listed.setIfInBounds i true) (a.put oi.dst undef) w) (hs:Region.noSelect ops=true:=by kernel_rfl) (hf:Region.free md ops listed i=true:=by kernel_rfl) (hr:(Region.ready md ops listed).contains i=true:=by kernel_rfl) (hQ:∀c a w,Q (.panic c) (a.put oi.dst undef) w→Q (.panic c) a w:=by exact fun _ _ _ h=>h) (hS:S w:=by assumption) (hw:Region.wanted oi (yielded ops a.tmps)=false:=by rfl):wpAnyH P md ops Q S (fuel+1) listed a w:=wpAnyH_take hi hs hf hr hQ (Or.inr ⟨hw,rfl⟩) hS h
theorem tkR {P:Program} {ops:Array Oper} {Q:Exit→Act→World→Prop} {md:Region.Mode} {S:World→Prop} (rs:List Nat) {fuel:Nat} {listed:Array Bool} {a:Act} {w:World} (h:AllReadyH P md ops Q S fuel listed a w rs) (hr:Region.ready md ops listed=rs:=by kernel_rfl) (aT:rs≠[]:=by simp):wpAnyH P md ops Q S (fuel+1) listed a w:=wpAnyH_ready hr aT h
theorem tkO {P:Program} {ops:Array Oper} {Q:Exit→Act→World→Prop} {md:Region.Mode} {S:World→Prop} (i:Nat) {o:Oper} {fuel:Nat} {listed:Array Bool} {a:Act} {w:World} (ho:ops[i]? =some o) (h:∀K':Act→World→Prop,Shut (∀a w,S w→(S w→wpAnyH P md ops Q S fuel (listed.setIfInBounds i true) a w)→K' a w)→if Region.wanted o (yielded ops a.tmps)=true then Oper.wp P o a w K' Q else K' (a.put o.dst undef) w) (hr:Region.ready md ops listed=[i]:=by kernel_rfl):wpAnyH P md ops Q S (fuel+1) listed a w:=wpAnyH_ready hr zy1 (AllReadyH.cons ho h AllReadyH.nil)
theorem c3 {w:World} {g:Nat} {t:TypeId} {cs:List Value} (h:Blk w g t cs):w.cell? ⟨g,1,none⟩=cs[1]? ∧w.cell? ⟨g,2,none⟩=cs[2]? ∧w.cell? ⟨g,3,none⟩=cs[3]? :=⟨h.cell 1,h.cell 2,h.cell 3⟩
theorem tS1 {α:Type} {l:List α} {i:Nat} (h:i<l.toArray.size):l.toArray[i]=l[i]'zyc:=rfl
theorem tS2 {α:Type} {a:α} {l:List α} (h:0<(a::l).length):(a::l)[0]=a:=rfl
theorem tS3 {α:Type} {a:α} {l:List α} {i:Nat} (h:i+1<(a::l).length):(a::l)[i+1]=l[i]'(Nat.lt_of_succ_lt_succ h):=rfl
theorem tS4 {α:Type} (l:List α) (i:Nat) (a:α):l.toArray.setIfInBounds i a=(l.set i a).toArray:=by simp
theorem tS5 {α:Type} {x:α} {l:List α} {a:α}:(x::l).set 0 a=a::l:=rfl
theorem tS6 {α:Type} {x:α} {l:List α} {i:Nat} {a:α}:(x::l).set (i+1) a=x::l.set i a:=rfl
end
section
instance:DecidableEq ByteArray:=fun a b=>if h:a.data=b.data then .isTrue (by cases a;cases b;exact congrArg ByteArray.mk h)else .isFalse (fun e=>h (by rw[e]))
def memD {α:Type} [DecidableEq α] (s:α) (S:List α):Bool:=S.any fun t=>decide (t=s)
theorem memD_iff {α:Type} [DecidableEq α] {s:α} {S:List α}:memD s S=true↔s∈S:=by
 unfold memD;rw[List.any_eq_true];constructor
 ·rintro⟨t,h1,h2⟩;rw[←of_decide_eq_true h2];exact h1
 ·intro h;exact⟨s,h,decide_eq_true rfl⟩
theorem memD_snoc {α:Type} [DecidableEq α] {s t:α} {S:List α}:memD s (S++[t])=(memD s S||decide (t=s)):=by simp[memD]
theorem memD_take {α:Type} [DecidableEq α] {l:List α} {i:Nat} {s:α}:memD s (l.take i)=true↔∃k,k<i∧l[k]? =some s:=by
 rw[memD_iff,List.mem_iff_getElem?];constructor
 ·rintro⟨k,hk⟩;rw[List.getElem?_take]at hk;split at hk
  ·rename_i h;exact⟨k,h,hk⟩
  ·cases hk
 ·rintro⟨k,h,hk⟩;exact⟨k,by rw[List.getElem?_take,if_pos h];exact hk⟩
structure Nk where
 kind:Int
 num:Int
 name:ByteArray
 attr:ByteArray
 kids:List Int
 at_:Int
abbrev Bp:=ByteArray×ByteArray
structure Po where
 name:ByteArray
 uses:List Bp
 reveal:List Bp
 nodes:List Nk
 root:Int
 scope:ByteArray
 limit:Int
 escrow:ByteArray
def ltN (n:Nat):Bool:=decide ((97≤n∧n≤122)∨(65≤n∧n≤90))
def dgN (n:Nat):Bool:=decide (48≤n∧n≤57)
def nmN (n:Nat):Bool:=ltN n||dgN n||decide (n=95)
def wdN (n:Nat):Bool:=nmN n||decide (n=45)
def allN (p:Nat→Bool) (l:List UInt8):Bool:=l.all fun b=>p b.toNat
def nameP (s:ByteArray):Bool:=if h:0<s.size then decide (s.size≤32)&&ltN s[0].toNat&&allN nmN (tl s)&& !Lx.kw (tl s)else false
def wordP (s:ByteArray):Bool:=decide (0<s.size)&&decide (s.size≤32)&&allN wdN (tl s)
def kidsP (kind:Int) (n:Nat):Bool :=
 if kind=0∨kind=1∨kind=9∨kind=10∨kind=11 then decide (n=0)
 else if kind=2 then decide (n=1)
 else if kind=3∨kind=4∨kind=5 then decide (1≤n)
 else if kind=6 then decide (n=2)
 else if kind=7 then decide (n=3)
 else if kind=8 then decide (2≤n)
 else false
def textsP (n:Nk):Bool :=
 if n.kind=9 then nameP n.name&&nameP n.attr
 else if n.kind=11 then wordP n.name&&decide (n.attr.size=0)
 else decide (n.name.size=0)&&decide (n.attr.size=0)
def lowP (n:Nk):Int:=if n.kind=5 then 1 else if n.kind=10 then -2147483648 else 0
def highP (n:Nk):Int:=if n.kind=5 then(n.kids.length:Int)else if n.kind=6 then 5 else if n.kind=10 then 2147483647 else 0
def shapeP (n:Nk) (c:Bool):Bool:=decide (0≤n.kind)&&decide (n.kind<12)&&(decide (n.kind≤8)==c)&&kidsP n.kind n.kids.length&&textsP n
def formP (n:Nk) (c:Bool):Int:=if shapeP n c=false then 3 else if n.num<lowP n∨highP n<n.num then 2 else 0
def loopP (v:Int→List Int→Int×List Int):List Int→List Int→Int×List Int
 | [],S=>(0,S)
 | k::r,S=>if(v k S).1≠0 then v k S else loopP v r (v k S).2
def visitP (ns:List Nk):Nat→Int→Bool→List Int→Int×List Int
 | f,at_,c,S =>
   if at_<0∨(ns.length:Int)≤at_∨at_∈S then(3,S)
   else match f with
    | 0=>(7,S)
    | f+1=>match ns[at_.toNat]? with
      | none=>(3,S)
      | some n=>if formP n c≠0 then(formP n c,S++[at_])else loopP (fun k S=>visitP ns f k (decide (n.kind≤5)) S) n.kids (S++[at_])
def treeP (d:Po):Int:=if(visitP d.nodes 32 d.root true []).1≠0 then(visitP d.nodes 32 d.root true []).1 else if(visitP d.nodes 32 d.root true []).2.length≠d.nodes.length then 3 else 0
def zbr (l:List Bp):Bool:=l.all fun x=>nameP x.1&&nameP x.2
def namesP (d:Po):Bool:=nameP d.name&&(decide (d.escrow.size=0)||nameP d.escrow)&&(decide (d.scope.size=0)||wordP d.scope)&&zbr d.uses&&zbr d.reveal
def twiceP {α:Type} [DecidableEq α]:List α→List α→Bool
 | _,[]=>false
 | S,x::r=>memD x S||twiceP (S++[x]) r
abbrev Po.al (d:Po):List ByteArray:=d.uses.map Prod.fst
def checkP (d:Po):Int :=
 if 512<d.nodes.length∨d.uses.length<1∨4<d.uses.length∨64<d.reveal.length then 6
 else if namesP d=false then 3
 else if d.limit<0∨65536<d.limit∨(0<d.limit∧d.scope.size=0)then 2
 else if treeP d≠0 then treeP d
 else if twiceP [] d.al=true∨twiceP [] d.reveal=true then 8
 else if d.reveal.all (fun x=>memD x.1 d.al)=false then 9
 else if d.nodes.all (fun n=> !decide (n.kind=9)||memD n.name d.al)=false then 9
 else 0
theorem zax {ns:List Nk} {f:Nat} {at_:Int} {c:Bool} {S:List Int} (h:at_<0∨(ns.length:Int)≤at_∨at_∈S):visitP ns f at_ c S=(3,S):=by
 unfold visitP;rw[if_pos h]
theorem zbz {ns:List Nk} {at_:Int} {c:Bool} {S:List Int} (h:¬(at_<0∨(ns.length:Int)≤at_∨at_∈S)):visitP ns 0 at_ c S=(7,S):=by
 unfold visitP;rw[if_neg h]
theorem visitP_in {ns:List Nk} {f:Nat} {at_:Int} {c:Bool} {S:List Int} {n:Nk} (h:¬(at_<0∨(ns.length:Int)≤at_∨at_∈S)) (hn:ns[at_.toNat]? =some n) :
 visitP ns (f+1) at_ c S=if formP n c≠0 then(formP n c,S++[at_])else loopP (fun k S=>visitP ns f k (decide (n.kind≤5)) S) n.kids (S++[at_]):=by
 rw[visitP,if_neg h,hn]
structure Met (ns:List Nk) (S:List Int):Prop where
 nd:S.Nodup
 rg:∀x∈S,0≤x∧x<(ns.length:Int)
theorem loopP_met {ns:List Nk} {v:Int→List Int→Int×List Int} (hv:∀k S,Met ns S→Met ns (v k S).2):∀(l S:List Int),Met ns S→Met ns (loopP v l S).2
 | [],S,h=>h
 | k::r,S,h=>by
   rw[loopP];split
   ·exact hv k S h
   ·exact loopP_met hv r _ (hv k S h)
theorem Met.snoc {ns:List Nk} {S:List Int} {a:Int} (h:Met ns S) (h2:¬(a<0∨(ns.length:Int)≤a∨a∈S)):Met ns (S++[a]):=by
 refine⟨?_,fun x hx=>?_⟩
 ·rw[List.nodup_append];refine⟨h.nd,by simp,fun x hx y hy e=>?_⟩;rw[List.mem_singleton.1 hy]at e;exact h2 (.inr (.inr (e▸hx)))
 ·rcases List.mem_append.1 hx with hx|hx
  ·exact h.rg x hx
  ·rw[List.mem_singleton.1 hx];omega
theorem visitP_met (ns:List Nk):∀(f:Nat) (a:Int) (c:Bool) (S:List Int),Met ns S→Met ns (visitP ns f a c S).2
 | 0,a,c,S,h=>by
   by_cases hb:a<0∨(ns.length:Int)≤a∨a∈S
   ·rw[zax hb];exact h
   ·rw[zbz hb];exact h
 | f+1,a,c,S,h=>by
   by_cases hb:a<0∨(ns.length:Int)≤a∨a∈S
   ·rw[zax hb];exact h
   ·obtain⟨n,hn⟩:∃n,ns[a.toNat]? =some n:=⟨_,List.getElem?_eq_getElem om⟩;rw[visitP_in hb hn];split
    ·exact h.snoc hb
    ·exact loopP_met (fun k S hS=>visitP_met ns f k _ S hS) _ _ (h.snoc hb)
theorem Met.len {ns:List Nk} {S:List Int} (h:Met ns S):S.length≤ns.length:=by
 have h1:(S.map Int.toNat).Nodup:=by
  rw[List.nodup_iff_pairwise_ne,List.pairwise_map];refine(List.Pairwise.imp_of_mem ?_ (List.nodup_iff_pairwise_ne.1 h.nd));intro a b ha hb dt e;have h2:=h.rg a ha;have h3:=h.rg b hb;omega
 have h2:=List.Nodup.length_le_of_subset (l₁:=S.map Int.toNat) (l₂:=List.range ns.length) h1 (fun x hx=>by
  obtain⟨y,hy,rfl⟩:=List.mem_map.1 hx;have:=h.rg y hy;rw[List.mem_range];omega)
 rw[List.length_map,List.length_range]at h2;exact h2
theorem allN_take {p:Nat→Bool} {s:ByteArray} {k:Nat} (h:k<s.size):allN p ((tl s).take (k+1))=(allN p ((tl s).take k)&&p s[k].toNat):=by
 unfold allN;rw[take_snoc s k h,List.all_append];simp
theorem allN_bad {p:Nat→Bool} {s:ByteArray} {k:Nat} (h:k<s.size) (hp:p s[k].toNat=false):allN p (tl s)=false:=by
 exact zt56
theorem allN_full {p:Nat→Bool} {s:ByteArray} {k:Nat} (h:¬k<s.size):allN p ((tl s).take k)=allN p (tl s):=by
 rw[List.take_of_length_le zyw]
end
section
open Go.RowKit
theorem blk_row {W:World} {g:Nat} {t:TypeId} {cs:List Value} (h:Blk W g t cs) (ds:List Value):Blk (W.setRow g ds.toArray) g t ds:=setRow_heap W g _ _ _ _ h
theorem Hp.rowAt {o:List Nat} {w W:World} {it:List It} (h:Hp o w it W) (i:Nat) {g:Nat} {t:TypeId} {cs:List Value} (hx:it[i]? =some (iblk g t cs)) (ds:List Value):Hp o w (it.set i (iblk g t ds)) (W.setRow g ds.toArray) :=
 h.upd i hx (blk_row (h.blk i hx) ds) ⟨⟨rfl,rfl,rfl,by simp[World.setRow],fun k hk=>absurd hk (Nat.not_lt_zero _)⟩,fun k hk ho=>by
  simp only[World.setRow,Array.getElem?_modify];rw[if_neg (by simp[iblk]at ho;omega)],fun b hb=>.inl hb⟩ (by simp[iblk])
theorem Blk.get6 {w:World} {g:Nat} {t:TypeId} {a b c d e f:Value} (h:Blk w g t [a,b,c,d,e,f]):w.cell? ⟨g,0,none⟩=some a∧w.cell? ⟨g,1,none⟩=some b∧w.cell? ⟨g,2,none⟩=some c∧w.cell? ⟨g,3,none⟩=some d∧w.cell? ⟨g,4,none⟩=some e∧w.cell? ⟨g,5,none⟩=some f:=⟨h.cell 0,h.cell 1,h.cell 2,h.cell 3,h.cell 4,h.cell 5⟩
theorem Blk.get7 {w:World} {g:Nat} {t:TypeId} {a b c d e f i:Value} (h:Blk w g t [a,b,c,d,e,f,i]):w.cell? ⟨g,0,none⟩=some a∧w.cell? ⟨g,1,none⟩=some b∧w.cell? ⟨g,2,none⟩=some c∧w.cell? ⟨g,3,none⟩=some d∧w.cell? ⟨g,4,none⟩=some e∧w.cell? ⟨g,5,none⟩=some f∧w.cell? ⟨g,6,none⟩=some i:=⟨h.cell 0,h.cell 1,h.cell 2,h.cell 3,h.cell 4,h.cell 5,h.cell 6⟩
end
namespace Fm
structure Gt where
 need:Int
 kids:List Int
 leaf:Int
def kidsP (v:Int→Int×Int→Bool×Int×Int):List Int→Int×Int→Bool×Int×Int
 | [],s=>(true,s)
 | k::ks,s=>if(v k s).1 then kidsP v ks (v k s).2 else(false,(v k s).2)
def visitP (F:List Gt):Nat→Int→Int×Int→Bool×Int×Int
 | 0,_,s=>(false,s)
 | f+1,at_,s =>
   if at_≠s.1∨(F.length:Int)≤at_ then(false,s)else
   match F[at_.toNat]? with
   | none=>(false,s)
   | some g =>
     if g.kids=[]then(decide (g.need=0)&&decide (g.leaf=s.2),s.1+1,s.2+1)
     else if g.need<1∨(g.kids.length:Int)<g.need∨g.leaf≠0 then(false,s.1+1,s.2)
     else kidsP (visitP F f) g.kids (s.1+1,s.2)
def leavesP (F:List Gt):Int×Bool :=
 if F=[]then(0,true)else((visitP F (F.length+1) 0 (0,0)).2.2,(visitP F (F.length+1) 0 (0,0)).1&&decide ((visitP F (F.length+1) 0 (0,0)).2.1=F.length)&&decide ((visitP F (F.length+1) 0 (0,0)).2.2≤256))
def checkP (F:List Gt) (n:Int):Int:=if 512<F.length∨n<0∨256<n then 6 else if(leavesP F).2=false then 3 else if(leavesP F).1≠n then 6 else 0
def cntK (out:List Bool):List Int→Int
 | []=>0
 | x::xs=>(if out.getD x.toNat false then 1 else 0)+cntK out xs
def zbh (L out:List Bool) (g:Gt):Bool:=if g.kids=[]then L.getD g.leaf.toNat false else decide (g.need≤cntK out g.kids)
def truthStep (F:List Gt) (L out:List Bool) (k:Nat):List Bool:=match F[k]? with
 | some g=>out.set k (zbh L out g)
 | none=>out
def zbc (F:List Gt) (L:List Bool):Nat→List Bool→List Bool
 | 0,out=>out
 | k+1,out=>zbc F L k (truthStep F L out k)
def truthP (F:List Gt) (L:List Bool):List Bool:=zbc F L F.length (List.replicate F.length false)
theorem cntK_bd (out:List Bool):∀ks,0≤cntK out ks∧cntK out ks≤ks.length
 | []=>by simp[cntK]
 | x::xs=>by
   have:=cntK_bd out xs;rw[cntK,List.length_cons];split<;>omega
theorem cntK_append (out:List Bool) (x:Int):∀ks,cntK out (ks++[x])=cntK out ks+if out.getD x.toNat false then 1 else 0
 | []=>by simp[cntK]
 | y::ys=>by rw[List.cons_append,cntK,cntK,cntK_append out x ys];omega
theorem truthStep_length (F:List Gt) (L out:List Bool) (k:Nat):(truthStep F L out k).length=out.length:=by
 unfold truthStep;split<;>simp
theorem truthRun_length (F:List Gt) (L:List Bool):∀k out,(zbc F L k out).length=out.length
 | 0,out=>rfl
 | k+1,out=>by rw[zbc,truthRun_length F L k,truthStep_length]
theorem truthP_length (F:List Gt) (L:List Bool):(truthP F L).length=F.length:=by rw[truthP,truthRun_length,List.length_replicate]
abbrev gb (l:List Bool) (i:Nat):Bool:=l.getD i false
theorem gb_set (l:List Bool) (i j:Nat) (v:Bool) (h:i<l.length):gb (l.set i v) j=if j=i then v else gb l j:=by
 unfold gb;rw[List.getD_eq_getElem?_getD,List.getElem?_set,List.getD_eq_getElem?_getD];by_cases e:i=j
 ·subst e;rw[if_pos rfl,if_pos h,if_pos rfl];rfl
 ·rw[if_neg e,if_neg (fun h=>e h.symm)]
theorem cntK_congr {a b:List Bool}:∀{ks:List Int},(∀x∈ks,gb a x.toNat=gb b x.toNat)→cntK a ks=cntK b ks
 | [],_=>rfl
 | x::xs,h=>by
   have h1:=h x (List.mem_cons_self ..);unfold gb at h1;rw[cntK,cntK,h1,cntK_congr fun y hy=>h y (List.mem_cons_of_mem _ hy)]
theorem truthRun_spec {F:List Gt} {L:List Bool} (hk:∀(i:Nat) g,F[i]? =some g→∀x∈g.kids,(i:Int)<x):∀(k:Nat) (out:List Bool),k≤F.length→out.length=F.length →
 (∀j,k≤j→gb (zbc F L k out) j=gb out j)∧∀(i:Nat) g,i<k→F[i]? =some g→gb (zbc F L k out) i=zbh L (zbc F L k out) g
 | 0,out,_,_=>⟨fun _ _=>rfl,fun _ _ h=>absurd h (Nat.not_lt_zero _)⟩
 | k+1,out,bk,ho=>by
   have mR:k<out.length:=om;obtain⟨g,hg⟩:∃g,F[k]? =some g:=⟨_,List.getElem?_eq_getElem om⟩;have cS:truthStep F L out k=out.set k (zbh L out g):=by unfold truthStep;rw[hg]
   obtain⟨q1,q2⟩:=truthRun_spec (L:=L) hk k (truthStep F L out k) om (by rw[truthStep_length];exact ho);rw[zbc];refine⟨fun j hj=>?_,fun i g' hi lp=>?_⟩
   ·rw[q1 j om,cS,gb_set _ _ _ _ mR,if_neg om]
   ·by_cases hik:i=k
    ·subst hik;rw[hg]at lp;cases lp;have hSv:gb (truthStep F L out i) i=zbh L out g:=by rw[cS,gb_set _ _ _ _ mR,if_pos rfl]
     have hSo:∀j,j≠i→gb (truthStep F L out i) j=gb out j:=fun j hj=>by rw[cS,gb_set _ _ _ _ mR,if_neg hj]
     clear cS;generalize truthStep F L out i=S at *;have e:cntK out g.kids=cntK (zbc F L i S) g.kids:=cntK_congr fun x hx=>by
      have h1:=hk i g hg x hx;rw[q1 x.toNat om,hSo _ om]
     rw[q1 i (Nat.le_refl _),hSv];unfold zbh;split
     ·rfl
     ·rw[e]
    ·exact q2 i g' om lp
theorem truthP_spec {F:List Gt} {L:List Bool} (hk:∀(i:Nat) g,F[i]? =some g→∀x∈g.kids,(i:Int)<x) {i:Nat} {g:Gt} (hg:F[i]? =some g):gb (truthP F L) i=zbh L (truthP F L) g :=
 (truthRun_spec hk F.length (List.replicate F.length false) (Nat.le_refl _) zy1).2 i g (List.getElem?_eq_some_iff.1 hg).1 hg
def isLf (g:Gt):Bool:=decide (g.kids=[])
def leafN (F:List Gt):Nat:=(F.filter isLf).length
theorem leafN_app (F H:List Gt):leafN (F++H)=leafN F+leafN H:=by unfold leafN;rw[List.filter_append,List.length_append]
theorem leafN_append (F:List Gt) (g:Gt):leafN (F++[g])=leafN F+if g.kids=[]then 1 else 0:=by
 rw[leafN_app];unfold leafN;by_cases h:g.kids=[]<;>simp[isLf,h]
theorem leafN_le (F:List Gt):leafN F≤F.length:=List.length_filter_le _ _
def movG (b:Int):Nat→List Gt→List Gt
 | _,[]=>[]
 | k,g::F=>⟨g.need,g.kids.map (· +b),if g.kids=[]then(k:Int)else 0⟩::movG b (if g.kids=[]then k+1 else k) F
theorem zb3 (b:Int):∀(F:List Gt) (k:Nat),(movG b k F).length=F.length
 | [],_=>rfl
 | g::F,k=>by simp[movG,zb3 b F]
theorem movG_app (b:Int) (H:List Gt):∀(F:List Gt) (k:Nat),movG b k (F++H)=movG b k F++movG b (k+leafN F) H
 | [],k=>by simp[movG,leafN]
 | h::F,k=>by
   rw[List.cons_append,movG,movG_app b H F,movG,List.cons_append];congr 3;by_cases hh:h.kids=[]
   ·simp only[if_pos hh,leafN,List.filter_cons,isLf,decide_eq_true hh,if_true,List.length_cons];omega
   ·simp[hh,leafN,isLf]
theorem movG_append (b:Int) (g:Gt) (F:List Gt) (k:Nat):movG b k (F++[g])=movG b k F++[⟨g.need,g.kids.map (· +b),if g.kids=[]then((k+leafN F:Nat):Int)else 0⟩]:=by
 rw[movG_app];rfl
theorem take_last {α:Type} {l:List α} {i:Nat} {x:α} (h:l[i]? =some x):l.take (i+1)=l.take i++[x]:=by
 rw[List.take_add_one,h];rfl
abbrev JS:=List Gt×List Int×Nat
def jstep (s:JS) (F:List Gt):JS:=(s.1++movG ((s.1.length:Int)+1) s.2.2 F,s.2.1++[(s.1.length:Int)+1],s.2.2+leafN F)
def joinF (L:List (List Gt)):JS:=L.foldl jstep ([],[],0)
theorem joinF_last (L:List (List Gt)) (F:List Gt):joinF (L++[F])=jstep (joinF L) F:=by
 unfold joinF;rw[List.foldl_append];rfl
inductive G where
 | nil
 | cons (need:Int) (kids rest:G)
def G.none:G→Bool
 | .nil=>true
 | .cons .. =>false
def G.len:G→Nat
 | .nil=>0
 | .cons _ _ r=>r.len+1
def G.size:G→Nat
 | .nil=>0
 | .cons _ k r=>k.size+r.size+1
def G.lv:G→Nat
 | .nil=>0
 | .cons _ k r=>(if k.none then 1 else k.lv)+r.lv
def G.idx:G→Nat→List Int
 | .nil,_=>[]
 | .cons _ k r,b=>(b:Int)::r.idx (b+1+k.size)
def G.fl:G→Nat→Nat→List Gt
 | .nil,_,_=>[]
 | .cons n k r,b,c=>⟨n,k.idx (b+1),if k.none then(c:Int)else 0⟩::(k.fl (b+1) c++r.fl (b+1+k.size) (c+if k.none then 1 else k.lv))
def G.app:G→G→G
 | .nil,h=>h
 | .cons n k r,h=>.cons n k (r.app h)
def G.tops:G→List G
 | .nil=>[]
 | .cons n k r=>.cons n k .nil::r.tops
def G.Ok:G→Prop
 | .nil=>True
 | .cons n k r=>(k.none=true→n=0)∧(k.none=false→1≤n∧n≤k.len)∧k.Ok∧r.Ok
def G.cnt (L:List Bool):G→Nat→Nat
 | .nil,_=>0
 | .cons n k r,c=>(if k.none then L.getD c false else decide (n≤(k.cnt L c:Int))).toNat+r.cnt L (c+if k.none then 1 else k.lv)
theorem G.none_iff {k:G}:k.none=true↔k=.nil:=by cases k<;>simp[G.none]
theorem G.idx_len:∀(g:G) (b:Nat),(g.idx b).length=g.len
 | .nil,_=>rfl
 | .cons _ k r,b=>by rw[G.idx,List.length_cons,G.idx_len r,G.len]
theorem G.idx_nil {k:G} {b:Nat}:k.idx b=[]↔k.none=true:=by cases k<;>simp[G.idx,G.none]
theorem G.fl_len:∀(g:G) (b c:Nat),(g.fl b c).length=g.size
 | .nil,_,_=>rfl
 | .cons _ k r,b,c=>by rw[G.fl,List.length_cons,List.length_append,G.fl_len k,G.fl_len r,G.size]
theorem G.app_nil:∀(g:G),g.app .nil=g
 | .nil=>rfl
 | .cons n k r=>by rw[G.app,G.app_nil r]
theorem G.size_app:∀(g h:G),(g.app h).size=g.size+h.size
 | .nil,h=>by simp[G.app,G.size]
 | .cons _ k r,h=>by rw[G.app,G.size,G.size,G.size_app r];omega
theorem G.len_app:∀(g h:G),(g.app h).len=g.len+h.len
 | .nil,h=>by simp[G.app,G.len]
 | .cons _ k r,h=>by rw[G.app,G.len,G.len,G.len_app r];omega
theorem G.lv_app:∀(g h:G),(g.app h).lv=g.lv+h.lv
 | .nil,h=>by simp[G.app,G.lv]
 | .cons _ k r,h=>by rw[G.app,G.lv,G.lv,G.lv_app r];omega
theorem G.idx_app:∀(g h:G) (b:Nat),(g.app h).idx b=g.idx b++h.idx (b+g.size)
 | .nil,h,b=>by simp[G.app,G.idx,G.size]
 | .cons _ k r,h,b=>by rw[G.app,G.idx,G.idx,G.idx_app r,G.size,show b+(k.size+r.size+1)=b+1+k.size+r.size by omega];rfl
theorem G.fl_app:∀(g h:G) (b c:Nat),(g.app h).fl b c=g.fl b c++h.fl (b+g.size) (c+g.lv)
 | .nil,h,b,c=>by simp[G.app,G.fl,G.size,G.lv]
 | .cons _ k r,h,b,c=>by
   rw[G.app,G.fl,G.fl,G.fl_app r,G.size,G.lv,show b+(k.size+r.size+1)=b+1+k.size+r.size by omega,←Nat.add_assoc c];simp
theorem G.lv_size:∀(g:G),g.lv≤g.size
 | .nil=>Nat.le_refl _
 | .cons n k r=>by
   have h1:=G.lv_size k;have h2:=G.lv_size r;rw[G.lv,G.size];split<;>omega
theorem G.len_size:∀(g:G),g.len≤g.size
 | .nil=>Nat.le_refl _
 | .cons n k r=>by have:=G.len_size r;rw[G.len,G.size];omega
def Seg {α:Type} (F:List α) (b:Nat) (l:List α):Prop:=∀i x,l[i]? =some x→F[b+i]? =some x
theorem Seg.left {α:Type} {F l m:List α} {b:Nat} (h:Seg F b (l++m)):Seg F b l:=fun i x hx=>h i x (by rw[List.getElem?_append_left (List.getElem?_eq_some_iff.1 hx).1];exact hx)
theorem Seg.right {α:Type} {F l m:List α} {b:Nat} (h:Seg F b (l++m)):Seg F (b+l.length) m:=fun i x hx=>by
 rw[Nat.add_assoc];exact h _ x (by rw[List.getElem?_append_right om,Nat.add_sub_cancel_left];exact hx)
theorem Seg.tail {α:Type} {F l:List α} {y:α} {b:Nat} (h:Seg F b (y::l)):Seg F (b+1) l:=Seg.right (l:=[y]) h
theorem Seg.head {α:Type} {F l:List α} {y:α} {b:Nat} (h:Seg F b (y::l)):F[b]? =some y:=h 0 y rfl
theorem visit_fl (F:List Gt):∀(g:G) (f b c:Nat),Seg F b (g.fl b c)→g.Ok→g.size≤f→kidsP (visitP F f) (g.idx b) ((b:Int),(c:Int))=(true,((b+g.size:Nat):Int),((c+g.lv:Nat):Int))
 | .nil,f,b,c,_,_,_=>rfl
 | .cons n k r,0,b,c,_,_,h=>by rw[G.size]at h;omega
 | .cons n k r,f+1,b,c,hs,ho,hf=>by
   rw[G.size]at hf;obtain⟨o1,o2,o3,o4⟩:=ho;rw[G.fl]at hs;have h0:=hs.head;have aQ:=(List.getElem?_eq_some_iff.1 h0).1;have h1:=visit_fl F k f (b+1) c hs.tail.left o3 om;have h2:=hs.tail.right;rw[G.fl_len]at h2;have h3:=visit_fl F r (f+1) (b+1+k.size) _ h2 o4 om;have hv:visitP F (f+1) (b:Int) ((b:Int),(c:Int))=(true,((b+1+k.size:Nat):Int),((c+(if k.none then 1 else k.lv):Nat):Int)):=by
    rw[visitP,if_neg (by rintro(h9|h9);exact h9 rfl;omega),Int.toNat_natCast,h0];simp only;by_cases hn:k.none=true
    ·rw[if_pos (G.idx_nil.2 hn),o1 hn,if_pos hn,if_pos hn];have:k.size=0:=by rw[G.none_iff.1 hn];rfl
     rw[this];simp
    ·have qE:k.none=false:=by simpa using hn
     obtain⟨q1,q2⟩:=o2 qE;rw[if_neg (fun e=>hn (G.idx_nil.1 e)),G.idx_len,if_neg hn,if_neg hn,if_neg (by simp only[ne_eq,not_true_eq_false,or_false,not_or];omega)];have e1:((b:Int)+1)=((b+1:Nat):Int):=om;rw[e1,h1]
   rw[G.idx,kidsP,hv];simp only[if_true];rw[h3,G.size,G.lv];congr 3<;>omega
theorem leaves_fl {g:G} (ho:g.Ok) (hl:g.len=1) (hv:g.lv≤256):leavesP (g.fl 0 0)=((g.lv:Int),true):=by
 cases g with
 | nil=>cases hl
 | cons n k r =>
   cases r with
   | cons _ _ _=>simp[G.len]at hl
   | nil =>
     have h:=visit_fl ((G.cons n k .nil).fl 0 0) (.cons n k .nil) (((G.cons n k .nil).fl 0 0).length+1) 0 0 (fun i x hx=>by rw[Nat.zero_add];exact hx) ho zu1;unfold leavesP;rw[if_neg (by rw[G.fl];simp)];have e:((G.cons n k .nil).fl 0 0).length=(G.cons n k .nil).size:=G.fl_len _ _ _;generalize (G.cons n k .nil).fl 0 0=F at *;simp only[G.idx,kidsP,Int.natCast_zero,Nat.zero_add]at h;generalize visitP F (F.length+1) 0 (0,0)=s at *;obtain⟨s1,s2,s3⟩:=s;cases s1 with
     | false=>simp at h
     | true =>
       simp only[if_true,Prod.mk.injEq,true_and]at h;obtain⟨rfl,rfl⟩:=h;rw[e];have h9:(((G.cons n k .nil).lv:Nat):Int)≤256:=om;simp[h9]
theorem fl_kids (g:G):∀(b c i:Nat) (x:Gt),(g.fl b c)[i]? =some x→∀y∈x.kids,((b+i:Nat):Int)<y∧y<((b+g.size:Nat):Int):=by
 have dY:∀(g:G) (b:Nat),∀y∈g.idx b,(b:Int)≤y∧y<((b+g.size:Nat):Int):=by
  intro g
  induction g with
  | nil=>intro b y h;cases h
  | cons n k r _ ih =>
    intro b y h;rw[G.size];rcases List.mem_cons.1 h with rfl|h
    ·omega
    ·have:=ih _ y h;omega
 induction g with
 | nil=>intro b c i x h;simp[G.fl]at h
 | cons n k r fU fH =>
   intro b c i x h y hy;rw[G.size];rw[G.fl]at h;cases i with
   | zero =>
     simp only[List.getElem?_cons_zero,Option.some.injEq]at h;subst h;have:=dY k _ y hy;omega
   | succ i =>
     rw[List.getElem?_cons_succ]at h;by_cases hi:i<k.size
     ·rw[List.getElem?_append_left (by rw[G.fl_len];exact hi)]at h;have:=fU _ _ _ _ h y hy;omega
     ·rw[List.getElem?_append_right zu1,G.fl_len]at h;have:=fH _ _ _ _ h y hy;omega
theorem truth_fl {F:List Gt} {L T:List Bool} (hT:∀(i:Nat) g,F[i]? =some g→gb T i=zbh L T g):∀(g:G) (b c:Nat),Seg F b (g.fl b c)→cntK T (g.idx b)=(g.cnt L c:Int)
 | .nil,_,_,_=>rfl
 | .cons n k r,b,c,hs=>by
   rw[G.fl]at hs;have h1:=truth_fl hT k (b+1) c hs.tail.left;have h2:=hs.tail.right;rw[G.fl_len]at h2;have h3:=truth_fl hT r _ _ h2;have h4:=hT b _ hs.head;rw[G.idx,cntK,h3,G.cnt,Int.toNat_natCast];unfold zbh at h4;simp only at h4;unfold gb at h4;rw[h4];by_cases hn:k.none=true
   ·simp only[if_pos (G.idx_nil.2 hn),hn,if_true,Int.toNat_natCast];cases L.getD c false
    ·rw[if_neg zy0,Bool.toNat_false];omega
    ·rw[if_pos rfl,Bool.toNat_true];omega
   ·have hf:k.none=false:=by simpa using hn
    simp only[if_neg (fun e=>hn (G.idx_nil.1 e)),hf,h1,Bool.false_eq_true,if_false];by_cases hc:n≤(k.cnt L c:Int)
    ·rw[decide_eq_true hc,if_pos rfl,Bool.toNat_true];omega
    ·rw[decide_eq_false hc,if_neg zy0,Bool.toNat_false];omega
theorem truth_root {g:G} {L:List Bool} (hl:g.len=1):gb (truthP (g.fl 0 0) L) 0=decide (g.cnt L 0=1):=by
 cases g with
 | nil=>cases hl
 | cons n k r =>
   cases r with
   | cons _ _ _=>simp[G.len]at hl
   | nil =>
     have h:=truth_fl (F:=(G.cons n k .nil).fl 0 0) (L:=L) (T:=truthP ((G.cons n k .nil).fl 0 0) L) (fun i g hg=>truthP_spec (fun i x hx y hy=>by have:=fl_kids _ _ _ _ _ hx y hy;omega) hg) (.cons n k .nil) 0 0 (fun i x hx=>by rw[Nat.zero_add];exact hx);rw[G.idx,cntK]at h;simp only[G.idx,cntK,Int.add_zero]at h;show(truthP _ L).getD 0 false=_;have e:((0:Nat):Int).toNat=0:=rfl;rw[e]at h;cases hb:(truthP ((G.cons n k .nil).fl 0 0) L).getD 0 false with
     | true=>rw[hb]at h;symm;rw[decide_eq_true_eq];simp at h;omega
     | false=>rw[hb]at h;symm;rw[decide_eq_false_iff_not];simp at h;omega
theorem G.idx_map (b:Nat):∀(g:G) (a:Nat),(g.idx a).map (· +(b:Int))=g.idx (a+b)
 | .nil,a=>rfl
 | .cons n k r,a=>by rw[G.idx,G.idx,List.map_cons,G.idx_map b r,show a+b+1+k.size=a+1+k.size+b by omega,Int.natCast_add]
theorem leafN_fl:∀(g:G) (b c:Nat),leafN (g.fl b c)=g.lv
 | .nil,_,_=>rfl
 | .cons n k r,b,c=>by
   rw[G.fl,show∀(x:Gt) l,x::l=[x]++l from fun _ _=>rfl,leafN_app,leafN_app,leafN_fl k,leafN_fl r,G.lv];by_cases hn:k.none=true
   ·rw[if_pos hn];have h1:=G.none_iff.1 hn;subst h1;simp[leafN,isLf,G.idx,G.lv,G.none]
   ·rw[if_neg hn,if_neg hn];have h1:k.idx (b+1)≠[]:=fun e=>hn (G.idx_nil.1 e);simp[leafN,isLf,h1]
theorem mov_fl (b:Nat):∀(g:G) (a c0 c:Nat),movG (b:Int) c (g.fl a c0)=g.fl (a+b) c
 | .nil,_,_,_=>rfl
 | .cons n k r,a,c0,c=>by
   rw[G.fl,G.fl,movG,movG_app,leafN_fl];simp only;rw[G.idx_map,show a+1+b=a+b+1 by omega];by_cases hn:k.none=true
   ·have h1:=G.none_iff.1 hn;subst h1;simp only[G.idx,G.none,if_true,G.fl,movG,List.nil_append,G.lv,Nat.add_zero,G.size];rw[mov_fl b r,show a+1+b=a+b+1 by omega]
   ·have hf:k.none=false:=by simpa using hn
    have h1:¬k.idx (a+1)=[]:=fun e=>hn (G.idx_nil.1 e);simp only[if_neg h1,hf,Bool.false_eq_true,if_false];rw[mov_fl b k,mov_fl b r,show a+1+b=a+b+1 by omega,show a+1+k.size+b=a+b+1+k.size by omega]
theorem join_fl:∀(g h:G),(g.tops.map fun t=>t.fl 0 0).foldl jstep (h.fl 1 0,h.idx 1,h.lv)=((h.app g).fl 1 0,(h.app g).idx 1,(h.app g).lv)
 | .nil,h=>by rw[G.app_nil];rfl
 | .cons n k r,h=>by
   rw[G.tops,List.map_cons,List.foldl_cons];have e:jstep (h.fl 1 0,h.idx 1,h.lv) ((G.cons n k .nil).fl 0 0)=((h.app (.cons n k .nil)).fl 1 0,(h.app (.cons n k .nil)).idx 1,(h.app (.cons n k .nil)).lv):=by
    unfold jstep;simp only;rw[G.fl_len,leafN_fl,show(h.size:Int)+1=((h.size+1:Nat):Int) by omega,mov_fl,G.fl_app,G.idx_app,G.lv_app,Nat.zero_add,Nat.zero_add,Nat.add_comm h.size 1];rfl
   have e2:∀(h g:G),(h.app (.cons n k .nil)).app g=h.app (.cons n k g):=by
    intro h g
    induction h with
    | nil=>rfl
    | cons m q s _ ih=>rw[G.app,G.app,G.app,ih]
   rw[e,join_fl r,e2]
theorem joinF_fl (g:G):joinF (g.tops.map fun t=>t.fl 0 0)=(g.fl 1 0,g.idx 1,g.lv):=join_fl g .nil
theorem G.tops_len:∀(g:G),g.tops.length=g.len
 | .nil=>rfl
 | .cons n k r=>by rw[G.tops,List.length_cons,G.tops_len r,G.len]
theorem G.tops_mem:∀(g:G),g.Ok→∀t∈g.tops,t.Ok∧t.len=1∧t.size≤g.size∧t.lv≤g.lv
 | .nil,_,t,h=>by cases h
 | .cons n k r,ho,t,h=>by
   rw[G.size,G.lv];rcases List.mem_cons.1 h with rfl|h
   ·refine⟨⟨ho.1,ho.2.1,ho.2.2.1,trivial⟩,rfl,?_,?_⟩
    ·rw[G.size,G.size];omega
    ·rw[G.lv,G.lv];omega
   ·obtain⟨h1,h2,h3,h4⟩:=G.tops_mem r ho.2.2.2 t h;exact⟨h1,h2,by omega,by omega⟩
end Fm
section
open Go.RowKit
def Abd {β:Type} (J:List Nat→β→World→Prop):Prop:=∀o o' s A B,J o s A→Stp o o' A B→(∀b∈o',b<B.heap.size)→J o' s B
structure Kpt (o:List Nat) (A B:World):Prop where
 low:Below 0 A B
 own:∀b∈o,b<A.heap.size→B.heap[b]? =A.heap[b]?
def SeqOwn {α:Type} (P:Program) (g:Nat) (lb:Array Value) (E:List It) (Enc:α→Value→List Nat→World→Prop) (S Sp:List α→Prop) (N:Nat):Prop :=
 ∀(l:Nat) (J Jx:List Nat→List α→World→Prop) (W:World),Sep W E→Abd J→Abd Jx →
  (∀o pre x v W1,J o pre W1→pre.length<N→Enc x v o W1→YieldAt Fence.wide 0 P l #[v] W1 fun e W'=>Kpt o W1 W'∧((e=.returned (.bool true)∧J o (pre++[x]) W')∨(e=.returned (.bool false)∧Jx o (pre++[x]) W'))) →
  J (ow E) [] W →
  CallsIn Fence.wide 0 P g (#[.func (.yield l) #[] #[]]++lb) W fun e W'=>(∃v,e=.returned v)∧∃o,(∃xs,S xs∧J o xs W'∧o=ow E∧Sep W' E)∨(∃pre,Sp pre∧Jx o pre W')
theorem callsIn_n {n m:Nat} {P:Program} {f:FuncId} {args:Array Value} {w:World} {R:Ending→World→Prop} (h:CallsIn Fence.wide n P f args w R):CallsIn Fence.wide m P f args w R:=callsIn_wide.2 (callsIn_wide.1 h)
def ownPost {α:Type} (I:List α→List It→Prop) (Ix:Code→List α→List It→Prop) (xs:List α) (it:List It) (W:World):Exit→Act→World→Prop
 | .normal,_,W'=>∃it',I xs it'∧Hp (ow it) W it' W'
 | .ret,_,W'=>∃it',Ix .ret xs it'∧Hp (ow it) W it' W'
 | .exit id,_,W'=>∃it',Ix (.exit id) xs it'∧Hp (ow it) W it' W'
 | .goto t,_,W'=>∃it',Ix (.goto t) xs it'∧Hp (ow it) W it' W'
 | .panic _,_,_=>False
 | .outgrown,_,_=>False
theorem Stp.low_frame {o p r:List Nat} {A B:World} (h:Stp o p A B):Stp (r++o) (r++p) A B :=
 ⟨h.low,fun k hk ho=>h.oth k hk (fun h9=>ho (List.mem_append_right _ h9)),fun b hb=>by
  rcases List.mem_append.1 hb with h1|h1
  ·exact .inl (List.mem_append_left _ h1)
  ·rcases h.new b h1 with h2|h2
   ·exact .inl (List.mem_append_right _ h2)
   ·exact .inr h2⟩
theorem Stp.putNew {o p:List Nat} {w W:World} {l:Nat} (ob:Obj) (h:Stp o p w W) (hl:l<W.heap.size) (hw:w.heap.size≤l):Stp o p w (W.putObj l ob):=by
 have hg:=grownBy_putObj' W l ob;have hb:Below 0 W (W.putObj l ob):=⟨hg.os,hg.tape,hg.output,hg.size,fun k hk=>absurd hk (Nat.not_lt_zero _)⟩;refine⟨h.low.trans hb,fun k hk ho=>?_,h.new⟩;rw[World.putObj_heap_other om];exact h.oth k hk ho
theorem Sep.put {it:List It} {W:World} {l:Nat} (ob:Obj) (h:Sep W it) (hl:l∉ow it):Sep (W.putObj l ob) it :=
 ⟨fun x hx=>x.st W _ (fun b hb=>World.putObj_heap_other (fun e=>hl (e▸List.mem_flatMap.2 ⟨x,hx,hb⟩))) (h.ok x hx),h.ap⟩
structure RgJ (o0:List Nat) (w:World) (l D:Nat) (rec:Obj) (it:List It) (o:List Nat) (W:World):Prop where
 sep:Sep W it
 hl:W.heap[l]? =some rec
 hd:W.heap[D]? =some (.deferred (some []))
 olt:∀b∈o,b<W.heap.size
 apart:∀b∈ow it,b∉o
 la:l∉ow it∧D∉ow it
 lo:l∉o∧D∉o
 stp:Stp o0 (ow it++o) w W
theorem RgJ.step {o0:List Nat} {w:World} {l D:Nat} {rec:Obj} {it:List It} {o o':List Nat} {A B:World} (h:RgJ o0 w l D rec it o A) (hs:Stp o o' A B) (ho:∀b∈o',b<B.heap.size):RgJ o0 w l D rec it o' B:=by
 have aQ:l<A.heap.size:=(Array.getElem?_eq_some_iff.1 h.hl).1;have hdt:D<A.heap.size:=(Array.getElem?_eq_some_iff.1 h.hd).1;refine⟨⟨fun x hx=>x.st A B (fun b hb=>?_) (h.sep.ok x hx),h.sep.ap⟩,(hs.oth l aQ h.lo.1).trans h.hl,(hs.oth D hdt h.lo.2).trans h.hd,ho,fun b hb iU=>?_,h.la,⟨fun hb=>?_,fun hb=>?_⟩,h.stp.trans hs.low_frame⟩
 ·have iU:b∈ow it:=List.mem_flatMap.2 ⟨x,hx,hb⟩;exact hs.oth b (h.sep.lt b iU) (h.apart b iU)
 ·rcases hs.new b iU with h1|h1
  ·exact h.apart b hb h1
  ·have:=h.sep.lt b hb;omega
 ·rcases hs.new _ hb with h1|h1
  ·exact h.lo.1 h1
  ·omega
 ·rcases hs.new _ hb with h1|h1
  ·exact h.lo.2 h1
  ·omega
theorem wpIn_range_own {P:Program} {α:Type} {g:Operand} {p:Tmp} {assign body:Code} {Q:Exit→Act→World→Prop} {a:Act} {w:World}
 {gf:Nat} {lb:Array Value} (hg:a.eval g=.func (.func gf) #[] lb) (eg:∀args w,(callFunc gf args).run P w=.ok (.enter gf args) w)
 {E:List It} {Enc:α→Value→List Nat→World→Prop} {S Sp:List α→Prop} {N:Nat} (wD:SeqOwn P gf lb E Enc S Sp N)
 (I:List α→List It→Prop) (Ix:Code→List α→List It→Prop) {jd:List It} (h0:I [] jd) (hs0:Sep w (jd++E)) (a₁:Value→Act)
 (kt:∀(l:Nat) (v:Value) (W:World) (K:Act→World→Prop),K (a₁ v) W →
  assign.wpIn (Fence.wide.inRound l) 0 P (Exit.then K (fun _ _ _=>False)) { tmps:=a.tmps.setIfInBounds p v,defers:=[] } W)
 (pL:∀(l:Nat) (pre:List α) (x:α) (v:Value) (it:List It) (o:List Nat) (W:World),I pre it→Sep W it→pre.length<N→Enc x v o W→(∀b∈o,b∉ow it)→body.wpIn (Fence.wide.inRound l) 0 P (ownPost I Ix (pre++[x]) it W) (a₁ v) W)
 (wG:∀x v o (A B:World),Enc x v o A→Kpt o A B→Enc x v o B)
 (pN:∀(D:Nat) (xs:List α) (it:List It) (W:World),S xs→I xs it→Hp (ow (jd++E)) w (it++E) W→D∉ow (it++E)→w.heap.size≤D→W.heap[D]? =some (.deferred (some []))→Q .normal { a with defers:={ target:=.collected D,args:=#[] }::a.defers } W)
 (rh:∀(D:Nat) (c:Code) (pre:List α) (it:List It) (W:World),Sp pre→Ix c pre it→Hp (ow (jd++E)) w it W→D∉ow it→w.heap.size≤D→W.heap[D]? =some (.deferred (some []))→c.wpIn Fence.wide 0 P Q { a with defers:={ target:=.collected D,args:=#[] }::a.defers } W) :
 (Code.rangeFunc g #[p] assign body).wpIn Fence.wide 0 P Q a w:=by
 refine wpIn_rangeFunc ?_;intro fn hfn;obtain⟨rec,d8⟩:∃rec:LoopState→Option Code→Loop,rec=fun st pe=>{ state:=st,pending:=pe,fn,tmps:=a.tmps,params:=#[p],assign,body,defers:=w.heap.size }:=⟨_,rfl⟩;obtain⟨W1,kz⟩:∃W1,(w.alloc (.deferred (some []))).alloc (.loop (rec .ready none))=W1:=⟨_,rfl⟩;have jy:W1.heap.size=w.heap.size+2:=by rw[←kz];simp
 have hL1:W1.heap[w.heap.size+1]? =some (.loop (rec .ready none)):=by
  rw[←kz];have:=World.alloc_heap_new (w.alloc (.deferred (some []))) (.loop (rec .ready none));rwa[World.size_alloc]at this
 have mx:W1.heap[w.heap.size]? =some (.deferred (some [])):=by
  rw[←kz];exact(Below.heap_alloc _ _ _ zy1).trans (World.alloc_heap_new w _)
 have aC:Below w.heap.size w W1:=by
  rw[←kz];exact((Below.refl _ w).alloc (Nat.le_refl _) _).alloc zy1 _
 have dC:Hp (ow (jd++E)) w (jd++E) W1:=(Hp.self hs0).next aC
 have rk:=dC.sep.ap;rw[zar,List.nodup_append]at rk;have hE1:Sep W1 E:=(dC.perm List.perm_append_comm).sub.sep;have kC:∀b∈ow (jd++E),b<w.heap.size:=hs0.lt;have hJ1:RgJ (ow (jd++E)) w (w.heap.size+1) w.heap.size (.loop (rec .ready none)) jd (ow E) W1:=by
  refine⟨dC.sub.sep,hL1,mx,fun b hb=>hE1.lt b hb,fun b hb iU=>rk.2.2 b hb b iU rfl,⟨fun h=>?_,fun h=>?_⟩,⟨fun h=>?_,fun h=>?_⟩,by rw[←zar];exact dC.stp⟩
  ·have:=kC _ (by rw[zar];exact List.mem_append_left _ h);omega
  ·have:=kC _ (by rw[zar];exact List.mem_append_left _ h);omega
  ·have:=kC _ (by rw[zar];exact List.mem_append_right _ h);omega
  ·have:=kC _ (by rw[zar];exact List.mem_append_right _ h);omega
 generalize ow (jd++E)=o0 at *;refine⟨w.heap.size+1,[{ target:=.collected w.heap.size,args:=#[] }],W1,{ target:=.fn (.func gf) lb,args:=#[.func (.yield (w.heap.size+1)) #[] #[]] },W1,gf,
  #[.func (.yield (w.heap.size+1)) #[] #[]]++lb,W1,?_,?_,?_,?_,?_,?_⟩
 ·rw[←kz,d8];exact run_enterLoop_outer _ _ _ _ _
 ·simp only[resolve,hg];simp[go_sem]
 ·intro f' _;trivial
 ·simp[invoke,go_sem,eg]
 ·intro h;cases h
 ·have qY:=wD (w.heap.size+1)
   (fun o pre W=>∃it,I pre it∧RgJ o0 w (w.heap.size+1) w.heap.size (.loop (rec .ready none)) it o W)
   (fun o pre W=>∃c it,Ix c pre it∧RgJ o0 w (w.heap.size+1) w.heap.size (.loop (rec .done (some c))) it o W)
   W1 hE1
   (fun o o' s A B ⟨it,h1,h2⟩ hs ho=>⟨it,h1,h2.step hs ho⟩)
   (fun o o' s A B ⟨c,it,h1,h2⟩ hs ho=>⟨c,it,h1,h2.step hs ho⟩)
   ?_ ⟨jd,h0,hJ1⟩
  ·refine(callsIn_n qY).mono ?_;rintro e W2 ⟨⟨v,rfl⟩,o,hh⟩;rcases hh with⟨xs,hS,⟨it,hi,hR⟩,ho,hSE⟩|⟨pre,hSp,c,it,hi,hR⟩
   ·subst ho;have aQ:w.heap.size+1<W2.heap.size:=(Array.getElem?_eq_some_iff.1 hR.hl).1;have hD:(W2.putObj (w.heap.size+1) (.loop { rec .ready none with state:=.exhausted })).heap[w.heap.size]? =some (.deferred (some [])):=(World.putObj_heap_other om).trans hR.hd;have rI:Sep W2 (it++E):=⟨fun x hx=>by
     rcases List.mem_append.1 hx with h|h
     ·exact hR.sep.ok x h
     ·exact hSE.ok x h,by
     rw[zar,List.nodup_append];exact⟨hR.sep.ap,hSE.ap,fun a ha b hb e=>by subst e;exact hR.apart a ha hb⟩⟩
    have hlE:w.heap.size+1∉ow (it++E):=by
     rw[zar,List.mem_append];rintro(h|h)
     ·exact hR.la.1 h
     ·exact hR.lo.1 h
    have hDE:w.heap.size∉ow (it++E):=by
     rw[zar,List.mem_append];rintro(h|h)
     ·exact hR.la.2 h
     ·exact hR.lo.2 h
    have pf:Hp o0 w (it++E) (W2.putObj (w.heap.size+1) (.loop { rec .ready none with state:=.exhausted })):=⟨rI.put _ hlE,(hR.stp.sub (fun b hb=>by rw[zar]at hb;exact hb)).putNew _ aQ om⟩;exact⟨none,_,by have:=run_endLoop (P:=P) hR.hl (by rw[d8];simp);rw[d8]at this;exact this,
     pN _ xs it _ hS hi (by rw[d8]at pf;exact pf) hDE (Nat.le_refl _) (by rw[d8]at hD;exact hD)⟩
   ·have aQ:w.heap.size+1<W2.heap.size:=(Array.getElem?_eq_some_iff.1 hR.hl).1;have hD:(W2.putObj (w.heap.size+1) (.loop { rec .done (some c)with state:=.exhausted })).heap[w.heap.size]? =some (.deferred (some [])):=(World.putObj_heap_other om).trans hR.hd;have pf:Hp o0 w it (W2.putObj (w.heap.size+1) (.loop { rec .done (some c)with state:=.exhausted })):=⟨hR.sep.put _ hR.la.1,(hR.stp.sub (fun b hb=>List.mem_append_left _ hb)).putNew _ aQ om⟩;exact⟨some c,_,by have:=run_endLoop (P:=P) hR.hl (by rw[d8];simp);rw[d8]at this;exact this,
     rh _ c pre it _ hSp hi (by rw[d8]at pf;exact pf) hR.la.2 (Nat.le_refl _) (by rw[d8]at hD;exact hD)⟩
  ·
    rintro o pre x v W ⟨it,hi,hR⟩ aD hE;have aQ:w.heap.size+1<W.heap.size:=(Array.getElem?_eq_some_iff.1 hR.hl).1;have hy:=run_yield (P:=P) (args:=#[v]) hR.hl (by rw[d8];rfl);have hyy:(Instr.yield (w.heap.size+1) #[v]).run P W=.ok (.round (w.heap.size+1) fn (a.tmps.setIfInBounds p v) assign body) W:=by
     rw[d8]at hy;simpa using hy
    refine⟨fn,_,assign,body,hyy,roundIn_of_wpIn hfn (kt _ v W _ ?_)⟩;clear hy hyy;refine⟨_,run_beginRound hR.hl (by rw[d8]),?_⟩;obtain⟨Wb,mv⟩:∃Wb,W.putObj (w.heap.size+1) (.loop { rec .ready none with state:=.busy })=Wb:=⟨_,rfl⟩;rw[mv];have fQ:Wb.heap[w.heap.size+1]? =some (.loop { rec .ready none with state:=.busy }):=by rw[←mv];exact World.putObj_heap_same aQ
    have fX:∀k,k≠w.heap.size+1→Wb.heap[k]? =W.heap[k]? :=fun k hk=>by rw[←mv];exact World.putObj_heap_other hk
    have ah:Wb.heap[w.heap.size]? =some (.deferred (some [])):=(fX _ om).trans hR.hd;have sd:Sep Wb it:=by rw[←mv];exact hR.sep.put _ hR.la.1
    have tS:Stp o0 (ow it++o) w Wb:=by rw[←mv];exact hR.stp.putNew _ aQ om
    have dS:Below 0 W Wb:=by rw[←mv];have hg:=grownBy_putObj' W (w.heap.size+1) (.loop { rec .ready none with state:=.busy });exact⟨hg.os,hg.tape,hg.output,hg.size,fun k hk=>absurd hk (Nat.not_lt_zero _)⟩
    have ej:Kpt o W Wb:=⟨dS,fun b hb _=>fX b (fun e=>hR.lo.1 (e▸hb))⟩;have hsb2:Wb.heap.size=W.heap.size:=by rw[←mv];simp[World.putObj]
    refine wpIn_mono (pL _ pre x v it o Wb hi sd aD (wG _ _ _ _ _ hE ej) (fun b hb gG=>hR.apart b gG hb)) ?_;have fin:∀(jump:Option Code) (it':List It) (W3:World),Hp (ow it) Wb it' W3→∃W4,
     (Instr.endRound (w.heap.size+1) jump).run P W3=.ok (.bool jump.isNone) W4 ∧
     RgJ o0 w (w.heap.size+1) w.heap.size (.loop (rec (if jump.isNone then .ready else .done) jump)) it' o W4∧Kpt o W W4:=by
     intro jump it' W3 h3;have qN:w.heap.size+1<Wb.heap.size:=om;have hl3:W3.heap[w.heap.size+1]? =some (.loop { rec .ready none with state:=.busy }):=(h3.stp.oth _ qN hR.la.1).trans fQ;have hd3:W3.heap[w.heap.size]? =some (.deferred (some [])):=(h3.stp.oth _ om hR.la.2).trans ah;have qI:w.heap.size+1<W3.heap.size:=(Array.getElem?_eq_some_iff.1 hl3).1;have hr:=run_endRound (P:=P) jump hl3;have mp:∀b∈ow it',b∈ow it∨Wb.heap.size≤b:=h3.stp.new;have rH:w.heap.size+1∉ow it'∧w.heap.size∉ow it':=by
      constructor
      ·intro hb;rcases mp _ hb with h9|h9
       ·exact hR.la.1 h9
       ·omega
      ·intro hb;rcases mp _ hb with h9|h9
       ·exact hR.la.2 h9
       ·omega
     have qp:Stp o0 (ow it'++o) w W3:=tS.trans (h3.stp.frame o);rw[d8]at hr;refine⟨_,hr,?_,?_⟩
     ·rw[d8];refine⟨h3.sep.put _ rH.1,World.putObj_heap_same qI,(World.putObj_heap_other om).trans hd3,fun b hb=>by have:=hR.olt b hb;have:=h3.stp.low.size;simp[World.putObj];omega,fun b hb iU=>?_,rH,hR.lo,qp.putNew _ qI om⟩;rcases mp b hb with h9|h9
      ·exact hR.apart b h9 iU
      ·have:=hR.olt b iU;omega
     ·have hg:=grownBy_putObj' W3 (w.heap.size+1) (.loop { (fun st pe=>({ state:=st,pending:=pe,fn,tmps:=a.tmps,params:=#[p],assign,body,defers:=w.heap.size }:Loop)) .ready none with state:=if jump.isNone then .ready else .done,pending:=jump });refine⟨dS.trans (h3.stp.low.trans ⟨hg.os,hg.tape,hg.output,hg.size,fun k hk=>absurd hk (Nat.not_lt_zero _)⟩),fun b hb cV=>?_⟩;have pj:b≠w.heap.size+1:=fun e=>hR.lo.1 (e▸hb);rw[World.putObj_heap_other pj,h3.stp.oth b om (fun h9=>hR.apart b h9 hb)];exact fX b pj
    rintro e a3 W3 hp;cases e with
    | normal =>
      obtain⟨it',lZ,h3⟩:=hp;obtain⟨W4,hr,lM,aq⟩:=fin none it' W3 h3;exact⟨_,_,hr,aq,.inl ⟨rfl,it',lZ,lM⟩⟩
    | ret =>
      obtain⟨it',lZ,h3⟩:=hp;obtain⟨W4,hr,lM,aq⟩:=fin (some .ret) it' W3 h3;exact⟨_,_,hr,aq,.inr ⟨rfl,.ret,it',lZ,lM⟩⟩
    | exit id =>
      obtain⟨it',lZ,h3⟩:=hp;obtain⟨W4,hr,lM,aq⟩:=fin (some (.exit id)) it' W3 h3;exact⟨_,_,hr,aq,.inr ⟨rfl,.exit id,it',lZ,lM⟩⟩
    | goto t =>
      obtain⟨it',lZ,h3⟩:=hp;obtain⟨W4,hr,lM,aq⟩:=fin (some (.goto t)) it' W3 h3;exact⟨_,_,hr,aq,.inr ⟨rfl,.goto t,it',lZ,lM⟩⟩
    | panic ch=>exact hp.elim
    | outgrown=>exact hp.elim
end
section
open Go.RowKit
theorem scell_lt {W:World} {a:Addr} {v:Value} (h:W.cell? a=some v):a.block<W.heap.size:=World.block_lt_of_cell? _ _ h
theorem sadd_block (a:Addr) (n:Nat):(a.add n).block=a.block:=by unfold Addr.add;split<;>rfl
theorem zaa {W W':World} {a:Addr} {v:Value} (h:W.cell? a=some v) (hb:Below W.heap.size W W'):W'.cell? a=some v:=(hb.cell (scell_lt h)).trans h
theorem zce (g i:Nat):(⟨g,0,none⟩:Addr).add i=⟨g,i,none⟩:=by
 unfold Addr.add;split
 ·rename_i h;subst h;rfl
 ·simp
structure Ints (W:World) (A:Option Addr) (l:List Int):Prop where
 at_:∀i x,l[i]? =some x→∃ad,A=some ad∧W.cell? (ad.add i)=some (.int .i64 x)
theorem Ints.up {W W':World} {A:Option Addr} {l:List Int} (h:Ints W A l) (hb:Below W.heap.size W W'):Ints W' A l:=⟨fun i s hs=>by
 obtain⟨ad,h1,h2⟩:=h.at_ i s hs;exact⟨ad,h1,zaa h2 hb⟩⟩
structure Strs (W:World) (A:Option Addr) (l:List ByteArray):Prop where
 at_:∀i s,l[i]? =some s→∃ad,A=some ad∧W.cell? (ad.add i)=some (.string s)
theorem Strs.up {W W':World} {A:Option Addr} {l:List ByteArray} (h:Strs W A l) (hb:Below W.heap.size W W'):Strs W' A l:=⟨fun i s hs=>by
 obtain⟨ad,h1,h2⟩:=h.at_ i s hs;exact⟨ad,h1,zaa h2 hb⟩⟩
structure Prs (W:World) (A:Option Addr) (l:List Bp):Prop where
 at_:∀i x,l[i]? =some x→∃ad,A=some ad∧W.cell? (ad.add (i*2))=some (.string x.1)∧W.cell? ⟨(ad.add (i*2)).block,(ad.add (i*2)).off+1,none⟩=some (.string x.2)
theorem Prs.up {W W':World} {A:Option Addr} {l:List Bp} (h:Prs W A l) (hb:Below W.heap.size W W'):Prs W' A l:=⟨fun i s hs=>by
 obtain⟨ad,h1,h2,h3⟩:=h.at_ i s hs;exact⟨ad,h1,zaa h2 hb,zaa h3 hb⟩⟩
structure NodeAt (W:World) (ad:Addr) (n:Nk) (KA:Option Addr) (kc:Nat):Prop where
 kind:W.cell? ad=some (.int .i64 n.kind)
 num:W.cell? ⟨ad.block,ad.off+1,none⟩=some (.int .i64 n.num)
 name:W.cell? ⟨ad.block,ad.off+2,none⟩=some (.string n.name)
 attr:W.cell? ⟨ad.block,ad.off+3,none⟩=some (.string n.attr)
 kids:W.cell? ⟨ad.block,ad.off+4,none⟩=some (.slice KA n.kids.length kc)
 at_:W.cell? ⟨ad.block,ad.off+5,none⟩=some (.int .i64 n.at_)
 ints:Ints W KA n.kids
 cap:n.kids.length≤kc
theorem NodeAt.up {W W':World} {ad:Addr} {n:Nk} {KA:Option Addr} {kc:Nat} (h:NodeAt W ad n KA kc) (hb:Below W.heap.size W W'):NodeAt W' ad n KA kc :=
 ⟨zaa h.kind hb,zaa h.num hb,zaa h.name hb,zaa h.attr hb,zaa h.kids hb,zaa h.at_ hb,h.ints.up hb,h.cap⟩
theorem row_cap {W:World} {base:Nat} {e:TypeId} {size n c:Nat} {A:Option Addr} {xs:List Value} (h:W.ownsRow base e size (.slice A n c) n xs):n≤c:=by
 rcases h.2 with⟨h1,h2⟩|⟨g,cap,cur,h1,_,_,hc,_⟩
 ·omega
 ·injection h1 with _ _ h3;omega
structure Nks (W:World) (A:Option Addr) (L:List Nk):Prop where
 at_:∀i n,L[i]? =some n→∃ad KA kc,A=some ad∧NodeAt W (ad.add (i*6)) n KA kc
theorem Nks.up {W W':World} {A:Option Addr} {L:List Nk} (h:Nks W A L) (hb:Below W.heap.size W W'):Nks W' A L:=⟨fun i n hn=>by
 obtain⟨ad,KA,c,h1,h2⟩:=h.at_ i n hn;exact⟨ad,KA,c,h1,h2.up hb⟩⟩
structure Lp where
 ua:Option Addr
 uc:Nat
 ra:Option Addr
 rc:Nat
 na:Option Addr
 nc:Nat
abbrev polcs (d:Po) (L:Lp):List Value:=[.string d.name,.slice L.ua d.uses.length L.uc,.slice L.ra d.reveal.length L.rc,.slice L.na d.nodes.length L.nc,.int .i64 d.root,.string d.scope,.int .i64 d.limit,.string d.escrow]
abbrev polV (d:Po) (L:Lp):Value:=.agg #[.string d.name,.slice L.ua d.uses.length L.uc,.slice L.ra d.reveal.length L.rc,.slice L.na d.nodes.length L.nc,.int .i64 d.root,.string d.scope,.int .i64 d.limit,.string d.escrow]
structure PolM (W:World) (d:Po) (L:Lp):Prop where
 us:Prs W L.ua d.uses
 rv:Prs W L.ra d.reveal
 ns:Nks W L.na d.nodes
theorem PolM.up {W W':World} {d:Po} {L:Lp} (h:PolM W d L) (hb:Below W.heap.size W W'):PolM W' d L:=⟨h.us.up hb,h.rv.up hb,h.ns.up hb⟩
structure NBd (n:Nk):Prop where
 name:n.name.size≤1000000
 attr:n.attr.size≤1000000
 kids:n.kids.length≤1000000
structure PBd (d:Po):Prop where
 name:d.name.size≤9223372036854775807
 scope:d.scope.size≤9223372036854775807
 escrow:d.escrow.size≤9223372036854775807
 ul:d.uses.length≤1000000
 rl:d.reveal.length≤1000000
 nl:d.nodes.length≤1000000
 us:∀x∈d.uses,x.1.size≤9223372036854775807∧x.2.size≤9223372036854775807
 rv:∀x∈d.reveal,x.1.size≤9223372036854775807∧x.2.size≤9223372036854775807
 ns:∀n∈d.nodes,NBd n
abbrev nkcs (n:Nk) (KA:Option Addr) (kc:Nat):List Value:=[.int .i64 n.kind,.int .i64 n.num,.string n.name,.string n.attr,.slice KA n.kids.length kc,.int .i64 n.at_]
abbrev nkV (n:Nk) (KA:Option Addr) (kc:Nat):Value:=.agg #[.int .i64 n.kind,.int .i64 n.num,.string n.name,.string n.attr,.slice KA n.kids.length kc,.int .i64 n.at_]
theorem zcu {α:Type} {l:List α} {i:Nat} {x:α} (h:l[i]? =some x):l.drop i=x::l.drop (i+1):=by
 obtain⟨hi,rfl⟩:=List.getElem?_eq_some_iff.1 h;exact List.drop_eq_getElem_cons hi
theorem zan {α:Type} {l:List α} {i:Nat} {x:α} (h:l[i]? =some x):l.take (i+1)=l.take i++[x]:=by
 rw[List.take_add_one,h];rfl
theorem zae {B:Nat} {A C:World} (h:Below B A C) (n:Nat):Below B A (C.drewN n):=h.trans ⟨rfl,rfl,rfl,Nat.le_refl _,fun _ _=>rfl⟩
theorem Blk.get5 {W:World} {g:Nat} {t:TypeId} {a b c d e:Value} (h:Blk W g t [a,b,c,d,e]):W.cell? ⟨g,0,none⟩=some a∧W.cell? ⟨g,1,none⟩=some b∧W.cell? ⟨g,2,none⟩=some c∧W.cell? ⟨g,3,none⟩=some d∧W.cell? ⟨g,4,none⟩=some e :=
 ⟨h.cell 0,h.cell 1,h.cell 2,h.cell 3,h.cell 4⟩
theorem strs_eq {s t:ByteArray}:(s.toList==t.toList)=decide (s=t):=by
 rw[Bool.eq_iff_iff,beq_iff_eq,decide_eq_true_iff,zbb,zbb];exact⟨eq_of_tl,fun h=>by rw[h]⟩
end
namespace Pa
abbrev Tx:=List UInt8
def kPolicy:Tx:=[112,111,108,105,99,121]
def kUses:Tx:=[117,115,101,115]
def kReveal:Tx:=[114,101,118,101,97,108]
def kProve:Tx:=[112,114,111,118,101]
def kScope:Tx:=[115,99,111,112,101]
def kLimit:Tx:=[108,105,109,105,116]
def kEscrow:Tx:=[101,115,99,114,111,119]
def kEnd:Tx:=[101,110,100]
def kAll:Tx:=[97,108,108]
def kAny:Tx:=[97,110,121]
def kAtleast:Tx:=[97,116,108,101,97,115,116]
def kNot:Tx:=[110,111,116]
def kTrue:Tx:=[116,114,117,101]
def kFalse:Tx:=[102,97,108,115,101]
def kBetween:Tx:=[98,101,116,119,101,101,110]
def kAnd:Tx:=[97,110,100]
def kIn:Tx:=[105,110]
def sEq:Tx:=[61]
def sNe:Tx:=[33,61]
def sLt:Tx:=[60]
def sLe:Tx:=[60,61]
def sGt:Tx:=[62]
def sGe:Tx:=[62,61]
def sDot:Tx:=[46]
def sColon:Tx:=[58]
def sComma:Tx:=[44]
def sOpen:Tx:=[40]
def sClose:Tx:=[41]
def sBra:Tx:=[123]
def sKet:Tx:=[125]
def cmps:List Tx:=[sEq,sNe,sLt,sLe,sGt,sGe]
structure Nd where
 kind:Nat
 num:Int
 name:Tx
 attr:Tx
 at_:Nat
inductive F where
 | nil
 | cons (n:Nd) (kids rest:F)
def F.app:F→F→F
 | .nil,g=>g
 | .cons n k r,g=>.cons n k (r.app g)
def F.cat:List F→F
 | []=>.nil
 | f::l=>f.app (F.cat l)
def F.len:F→Nat
 | .nil=>0
 | .cons _ _ r=>r.len+1
def F.size:F→Nat
 | .nil=>0
 | .cons _ k r=>k.size+r.size+1
theorem F.app_nil (f:F):f.app .nil=f:=by
 induction f with
 | nil=>rfl
 | cons n k r _ ih=>rw[F.app,ih]
theorem F.app_assoc (f g h:F):(f.app g).app h=f.app (g.app h):=by
 induction f with
 | nil=>rfl
 | cons n k r _ ih=>rw[F.app,F.app,F.app,ih]
theorem F.len_app (f g:F):(f.app g).len=f.len+g.len:=by
 induction f with
 | nil=>simp[F.app,F.len]
 | cons n k r _ ih=>rw[F.app,F.len,F.len,ih];omega
theorem F.size_app (f g:F):(f.app g).size=f.size+g.size:=by
 induction f with
 | nil=>simp[F.app,F.size]
 | cons n k r _ ih=>rw[F.app,F.size,F.size,ih];omega
theorem F.cat_snoc (l:List F) (f:F):F.cat (l++[f])=(F.cat l).app f:=by
 induction l with
 | nil=>exact F.app_nil f
 | cons a l ih=>rw[List.cons_append,F.cat,F.cat,ih,F.app_assoc]
def F.idx:Nat→F→List Nat
 | _,.nil=>[]
 | a,.cons _ k r=>a::r.idx (a+1+k.size)
def F.num:Nat→F→List (Nd×List Nat)
 | _,.nil=>[]
 | a,.cons n k r=>(n,k.idx (a+1))::(k.num (a+1)++r.num (a+1+k.size))
theorem F.num_len (f:F):∀a,(f.num a).length=f.size:=by
 induction f with
 | nil=>intro a;rfl
 | cons n k r fU fH=>intro a;rw[F.num,F.size,List.length_cons,List.length_append,fU,fH]
theorem F.idx_len (f:F):∀a,(f.idx a).length=f.len:=by
 induction f with
 | nil=>intro a;rfl
 | cons n k r _ fH=>intro a;rw[F.idx,F.len,List.length_cons,fH]
theorem F.idx_app (f g:F):∀a,(f.app g).idx a=f.idx a++g.idx (a+f.size):=by
 induction f with
 | nil=>intro a;simp[F.app,F.idx,F.size]
 | cons n k r _ ih=>intro a;rw[F.app,F.idx,F.idx,F.size,ih,List.cons_append];congr 3;omega
theorem F.num_app (f g:F):∀a,(f.app g).num a=f.num a++g.num (a+f.size):=by
 induction f with
 | nil=>intro a;simp[F.app,F.num,F.size]
 | cons n k r _ ih=>intro a;rw[F.app,F.num,F.num,F.size,ih,List.cons_append,List.append_assoc];congr 4;omega
def leaf (n:Nd):F:=.cons n .nil .nil
def atT:List Lx.Tok→Nat
 | []=>0
 | t::_=>t.at_
def isT (s:Tx):List Lx.Tok→Bool
 | []=>false
 | t::_=>t.kind==2&&t.text==s
def isW:List Lx.Tok→Bool
 | []=>false
 | t::_=>t.kind==0&&t.text.head? ==some 39
def isN:List Lx.Tok→Bool
 | []=>false
 | t::r=>t.kind==0&& !isW (t::r)
def isM:List Lx.Tok→Bool
 | []=>false
 | t::_=>t.kind==1
def numV:Tx→Int
 | []=>0
 | c::m=>if c=45 then -(Lx.dv m:Int)else(Lx.dv (c::m):Int)
def headX:List Lx.Tok→Tx
 | []=>[]
 | t::_=>t.text
abbrev Rd (α:Type):=Option α×List Lx.Tok
def nameR (ts:List Lx.Tok):Rd Tx:=if isN ts then(some (headX ts),ts.tail)else(none,ts)
def wordR (ts:List Lx.Tok):Rd Tx:=if isW ts then(some (headX ts).tail.dropLast,ts.tail)else(none,ts)
def numR (ts:List Lx.Tok):Rd Int:=if isM ts then(some (numV (headX ts)),ts.tail)else(none,ts)
def needR (s:Tx) (ts:List Lx.Tok):Rd Unit:=if isT s ts then(some (),ts.tail)else(none,ts)
def Rd.then {α β:Type} (r:Rd α) (f:α→List Lx.Tok→Rd β):Rd β :=
 match r with
 | (none,q)=>(none,q)
 | (some a,q)=>f a q
@[simp] theorem then_none {α β:Type} (q:List Lx.Tok) (f:α→List Lx.Tok→Rd β):Rd.then (none,q) f=(none,q):=rfl
@[simp] theorem then_some {α β:Type} (a:α) (q:List Lx.Tok) (f:α→List Lx.Tok→Rd β):Rd.then (some a,q) f=f a q:=rfl
def pairR (s:Tx) (ts:List Lx.Tok):Rd (Tx×Tx):=(nameR ts).then fun a q=>(needR s q).then fun _ q=>(nameR q).then fun b q=>(some (a,b),q)
def refR (ts:List Lx.Tok):Rd (Tx×Tx):=pairR sDot ts
def listR {α:Type} (rd:List Lx.Tok→Rd α):Nat→List Lx.Tok→Rd (List α)
 | 0,ts=>(none,ts)
 | k+1,ts=>(rd ts).then fun a q=>if isT sComma q then(listR rd k q.tail).then fun l q=>(some (a::l),q)else(some [a],q)
def valueR (ts:List Lx.Tok):Rd Nd :=
 if isN ts then(refR ts).then fun x q=>(some ⟨9,0,x.1,x.2,atT ts⟩,q)
 else if isW ts then(wordR ts).then fun x q=>(some ⟨11,0,x,[],atT ts⟩,q)
 else if isM ts then(numR ts).then fun x q=>(some ⟨10,x,[],[],atT ts⟩,q)
 else(none,ts)
def cmpOf:List Lx.Tok→Option Nat
 | []=>none
 | t::_=>if t.kind==2 then cmps.findIdx? (fun s=>s==t.text)else none
def leafR (ts:List Lx.Tok):Rd F:=(valueR ts).then fun n q=>(some (leaf n),q)
def condR (ts:List Lx.Tok):Rd F :=
 (valueR ts).then fun a q =>
  match cmpOf q with
  | some k=>(valueR q.tail).then fun b q=>(some (.cons ⟨6,k,[],[],atT ts⟩ ((leaf a).app (leaf b)) .nil),q)
  | none =>
   if isT kBetween q then(valueR q.tail).then fun b q=>(needR kAnd q).then fun _ q=>(valueR q).then fun c q=>(some (.cons ⟨7,0,[],[],atT ts⟩ ((leaf a).app ((leaf b).app (leaf c))) .nil),q)
   else if isT kIn q then(needR sBra q.tail).then fun _ q=>(listR leafR q.length q).then fun l q=>(needR sKet q).then fun _ q=>(some (.cons ⟨8,0,[],[],atT ts⟩ ((leaf a).app (F.cat l)) .nil),q)
   else(none,q)
def kidsR (rd:List Lx.Tok→Rd F) (n:Nd) (ts:List Lx.Tok):Rd F :=
 (needR sOpen ts).then fun _ q=>(listR rd q.length q).then fun l q=>(needR sClose q).then fun _ q=>(some (.cons n (F.cat l) .nil),q)
def exprR:Nat→List Lx.Tok→Rd F
 | 0,ts=>(none,ts)
 | k+1,ts =>
  if isT kAll ts then kidsR (exprR k) ⟨3,0,[],[],atT ts⟩ ts.tail
  else if isT kAny ts then kidsR (exprR k) ⟨4,0,[],[],atT ts⟩ ts.tail
  else if isT kAtleast ts then(numR ts.tail).then fun m q=>kidsR (exprR k) ⟨5,m,[],[],atT ts⟩ q
  else if isT kNot ts then(exprR k ts.tail).then fun f q=>(some (.cons ⟨2,0,[],[],atT ts⟩ f .nil),q)
  else if isT kTrue ts then(some (leaf ⟨0,0,[],[],atT ts⟩),ts.tail)
  else if isT kFalse ts then(some (leaf ⟨1,0,[],[],atT ts⟩),ts.tail)
  else if isT sOpen ts then(exprR k ts.tail).then fun f q=>(needR sClose q).then fun _ q=>(some f,q)
  else condR ts
structure Pl where
 name:Tx
 uses:List (Tx×Tx)
 reveal:List (Tx×Tx)
 scope:Tx
 limit:Int
 escrow:Tx
 root:F
def revealR (ts:List Lx.Tok):Rd (List (Tx×Tx)):=if isT kReveal ts then listR refR ts.length ts.tail else(some [],ts)
def proveR (ts:List Lx.Tok):Rd F:=if isT kProve ts then exprR ts.length ts.tail else(some (leaf ⟨0,0,[],[],atT ts⟩),ts)
def scopeR (ts:List Lx.Tok):Rd (Tx×Int):=if isT kScope ts then(wordR ts.tail).then fun s q=>(if isT kLimit q then(numR q.tail).then fun n q=>(some (s,n),q)else(some (s,0),q))else(some ([],0),ts)
def escrowR (ts:List Lx.Tok):Rd Tx:=if isT kEscrow ts then nameR ts.tail else(some [],ts)
def isE:List Lx.Tok→Bool
 | []=>false
 | t::_=>t.kind==3
end Pa
namespace Pa
structure WordT (t w:Tx):Prop where
 eq:t=39::(w++[39])
 all:∀c∈w,Lx.isWd c=true
 pos:0<w.length
 le:w.length≤32
structure NameT (t:Tx):Prop where
 all:∀c∈t,Lx.isNm c=true
 fst:∃c m,t=c::m∧Lx.isLet c=true
 le:t.length≤32
 kw:Lx.kw t=false
structure NumT (t:Tx) (neg:Bool) (d:Tx):Prop where
 eq:t=if neg then 45::d else d
 pos:0<d.length
 all:∀c∈d,Lx.isDig c=true
 le:Lx.dv d≤if neg then 2147483648 else 2147483647
inductive Fine (t:Lx.Tok):Prop
 | word (w:Tx) (hk:t.kind=0) (h:WordT t.text w)
 | name (hk:t.kind=0) (h:NameT t.text)
 | num (neg:Bool) (d:Tx) (hk:t.kind=1) (h:NumT t.text neg d)
 | sign (hk:t.kind=2) (h0:t.text≠[])
 | end_ (hk:t.kind=3) (h:t.text=[])
theorem isDig_ne {c:UInt8} (h:Lx.isDig c=true):c≠45:=by rintro rfl;exact absurd h zy0
structure Good (ts:List Lx.Tok):Prop where
 fine:∀t∈ts,Fine t
 ends:∃us e,ts=us++[e]∧e.kind=3∧∀t∈us,t.kind≤2
theorem Good.ne {ts:List Lx.Tok} (h:Good ts):ts≠[]:=by
 obtain⟨us,e,rfl,_⟩:=h.ends;simp
theorem Good.tail {t:Lx.Tok} {ts:List Lx.Tok} (h:Good (t::ts)) (hk:t.kind≠3):Good ts:=by
 refine⟨fun u hu=>h.fine u (List.mem_cons_of_mem _ hu),?_⟩;obtain⟨us,e,h1,h2,h3⟩:=h.ends;cases us with
 | nil =>
  rw[List.nil_append,List.cons.injEq]at h1;rw[h1.1]at hk;exact absurd h2 hk
 | cons u us =>
  rw[List.cons_append,List.cons.injEq]at h1;exact⟨us,e,h1.2,h2,fun t ht=>h3 t (List.mem_cons_of_mem _ ht)⟩
theorem Good.isT {s:Tx} {ts:List Lx.Tok} (h:Good ts) (hs:isT s ts=true):Good ts.tail:=by
 cases ts with
 | nil=>cases hs
 | cons t r =>
  refine h.tail ?_;have:t.kind=2:=by have:=hs;simp[Pa.isT]at this;exact this.1
  omega
theorem Good.isN {ts:List Lx.Tok} (h:Good ts) (hs:isN ts=true):Good ts.tail:=by
 cases ts with
 | nil=>cases hs
 | cons t r =>
  refine h.tail ?_;have:t.kind=0:=by have:=hs;simp[Pa.isN]at this;exact this.1
  omega
theorem Good.isW {ts:List Lx.Tok} (h:Good ts) (hs:isW ts=true):Good ts.tail:=by
 cases ts with
 | nil=>cases hs
 | cons t r =>
  refine h.tail ?_;have:t.kind=0:=by have:=hs;simp[Pa.isW]at this;exact this.1
  omega
theorem Good.isM {ts:List Lx.Tok} (h:Good ts) (hs:isM ts=true):Good ts.tail:=by
 cases ts with
 | nil=>cases hs
 | cons t r =>
  refine h.tail ?_;have:t.kind=1:=by simpa[Pa.isM]using hs
  omega
def Keeps {α:Type} (rd:List Lx.Tok→Rd α):Prop:=∀ts,Good ts→(rd ts).2 <:+ ts∧Good (rd ts).2
end Pa
namespace Pa
end Pa
namespace Pa
theorem dig_nat {c:UInt8} (h:Lx.isDig c=true):48≤c.toNat∧c.toNat≤57:=by
 unfold Lx.isDig at h;simp only[Bool.and_eq_true,decide_eq_true_eq,UInt8.le_iff_toNat_le]at h;exact h
def dvA (a:Nat) (l:Tx):Nat:=l.foldl (fun n c=>10*n+(c.toNat-48)) a
theorem dvA_le (l:Tx):∀a,a≤dvA a l:=by
 induction l with
 | nil=>intro a;exact Nat.le_refl _
 | cons c m ih =>
  intro a;have:=ih (10*a+(c.toNat-48));show a≤dvA (10*a+(c.toNat-48)) m;omega
theorem parse_dig:∀(l:Tx) (a:Nat),(∀c∈l,Lx.isDig c=true)→dvA a l≤2147483648→Lib.parseUint10 a l=.ok (dvA a l)
 | [],a,_,_=>rfl
 | c::m,a,h,dD=>by
  have hc:=dig_nat (h c (List.mem_cons_self ..));have h1:dvA (10*a+(c.toNat-48)) m≤2147483648:=dD;have h2:=dvA_le m (10*a+(c.toNat-48));have ih:=parse_dig m (10*a+(c.toNat-48)) (fun x hx=>h x (List.mem_cons_of_mem _ hx)) h1;rw[Lib.parseUint10,if_pos hc,if_neg om,if_neg om,Nat.mul_comm a 10,ih];rfl
theorem num_atoi {t:Tx} {neg:Bool} {d:Tx} (h:NumT t neg d):Lib.atoiAll t=.ok (numV t)∧numV t=(if neg then -(Lx.dv d:Int)else(Lx.dv d:Int)):=by
 obtain⟨he,hp,ha,hl⟩:=h;have h3:Lx.dv d≤2147483648:=by cases neg<;>simp at hl<;>omega
 have p8:Lib.parseMag d=.ok (Lx.dv d):=by
  unfold Lib.parseMag;rw[if_neg (by intro h;rw[h]at hp;simp at hp),parse_dig d 0 ha h3];rfl
 cases neg with
 | true =>
  simp only[if_true]at he;subst he;refine⟨?_,rfl⟩;unfold Lib.atoiAll;simp only[show(45:UInt8).toNat=45 from rfl,or_true,if_true,p8];rw[if_neg om,if_neg om];rfl
 | false =>
  simp only[Bool.false_eq_true,if_false]at he;subst he;cases t with
  | nil=>simp at hp
  | cons c m =>
   have hc:=dig_nat (ha c (List.mem_cons_self ..));have aT:c≠45:=isDig_ne (ha c (List.mem_cons_self ..));have hv:numV (c::m)=(Lx.dv (c::m):Int):=by rw[numV,if_neg aT]
   refine⟨?_,by rw[hv];rfl⟩;rw[hv];rw[Lib.atoiAll_plain c m om om,p8,Lib.signless];rw[if_neg om]
theorem isWd_ne {c:UInt8} (h:Lx.isWd c=true):c≠39:=by rintro rfl;exact absurd h zy0
theorem word_mid {t w:Tx} (h:WordT t w):t.tail.dropLast=w:=by rw[h.eq];simp
theorem word_trim {t w:Tx} (h:WordT t w):Lib.trimB t 39=w:=by
 obtain⟨he,ha,hp,hl⟩:=h;subst he;unfold Lib.trimB Lib.trimLeftB Lib.trimRightB;have h1:∀l:Tx,(∀c∈l,Lx.isWd c=true)→0<l.length→∀r:Tx,(l++r).dropWhile (· ==(39:UInt8))=l++r:=by
  intro l hl h0 r;cases l with
  | nil=>simp at h0
  | cons c m =>
   rw[List.cons_append,List.dropWhile_cons,if_neg];have:=isWd_ne (hl c (List.mem_cons_self ..));simpa using this
 have h2:(39::(w++[39])).reverse=39::(w.reverse++[39]):=by simp
 rw[h2,List.dropWhile_cons,if_pos zy0,h1 w.reverse (fun c hc=>ha c (List.mem_reverse.1 hc)) (by simpa using hp)];have h3:(w.reverse++[39]).reverse=39::w:=by simp
 rw[h3,List.dropWhile_cons,if_pos zy0];have:=h1 w ha hp [];rwa[List.append_nil]at this
end Pa
namespace Pa
def F.Ev (p:Nd→Prop):F→Prop
 | .nil=>True
 | .cons n k r=>p n∧k.Ev p∧r.Ev p
theorem F.ev_app {p:Nd→Prop} {f g:F} (hf:f.Ev p) (hg:g.Ev p):(f.app g).Ev p:=by
 induction f with
 | nil=>exact hg
 | cons n k r _ ih=>exact⟨hf.1,hf.2.1,ih hf.2.2⟩
theorem F.ev_cat {p:Nd→Prop}:∀{l:List F},(∀f∈l,f.Ev p)→(F.cat l).Ev p
 | [],_=>trivial
 | f::l,h=>F.ev_app (h f (List.mem_cons_self ..)) (F.ev_cat fun g hg=>h g (List.mem_cons_of_mem _ hg))
theorem F.ev_num {p:Nd→Prop} (f:F):∀a,f.Ev p→∀x∈f.num a,p x.1:=by
 induction f with
 | nil=>intro a _ x hx;cases hx
 | cons n k r fU fH =>
  intro a h x hx;rw[F.num]at hx;rcases List.mem_cons.1 hx with rfl|hx
  ·exact h.1
  ·rcases List.mem_append.1 hx with hx|hx
   ·exact fU _ h.2.1 x hx
   ·exact fH _ h.2.2 x hx
theorem F.len_size (f:F):f.len≤f.size:=by
 induction f with
 | nil=>exact Nat.le_refl 0
 | cons n k r _ ih=>rw[F.len,F.size];omega
theorem F.num_kids (f:F):∀a,∀x∈f.num a,x.2.length≤f.size:=by
 induction f with
 | nil=>intro a x hx;cases hx
 | cons n k r fU fH =>
  intro a x hx;rw[F.num]at hx;rw[F.size];rcases List.mem_cons.1 hx with rfl|hx
  ·show(k.idx (a+1)).length≤_;rw[F.idx_len];have:=k.len_size;omega
  ·rcases List.mem_append.1 hx with hx|hx
   ·have:=fU _ x hx;omega
   ·have:=fH _ x hx;omega
def NdB (n:Nd):Prop:=n.name.length≤32∧n.attr.length≤32
structure PlB (n:Nat) (p:Pl):Prop where
 name:p.name.length≤32
 scope:p.scope.length≤32
 escrow:p.escrow.length≤32
 ul:p.uses.length≤n
 rl:p.reveal.length≤n
 us:∀x∈p.uses,x.1.length≤32∧x.2.length≤32
 rv:∀x∈p.reveal,x.1.length≤32∧x.2.length≤32
 sz:p.root.size≤n
 ev:p.root.Ev NdB
end Pa
namespace Pa
def er (t:Lx.Tok):Lx.Tok:=⟨t.kind,t.text,0⟩
def Nd.er (n:Nd):Nd:=⟨n.kind,n.num,n.name,n.attr,0⟩
def F.er:F→F
 | .nil=>.nil
 | .cons n k r=>.cons n.er k.er r.er
def Rd.er {α:Type} (E:α→α) (r:Rd α):Rd α:=(r.1.map E,r.2.map Pa.er)
def Pl.er (p:Pl):Pl:=⟨p.name,p.uses,p.reveal,p.scope,p.limit,p.escrow,p.root.er⟩
end Pa
namespace Pa
def Lc (t:Lx.Tok) (r r':List Lx.Tok) {α:Type} (x x':Rd α):Prop:=∀o vs,x=(o,vs++t::r)→x'=(o,vs++t::r')
section
variable {t:Lx.Tok} {r r':List Lx.Tok} {α β:Type}
theorem Lc.then {x x':Rd α} {f f':α→List Lx.Tok→Rd β} (h:Lc t r r' x x') (hg:Good x.2) (hf:∀a q,Good q→(f a q).2 <:+ q) (h2:∀a w,x=(some a,w++t::r)→Good (w++t::r)→Lc t r r' (f a (w++t::r)) (f' a (w++t::r'))):Lc t r r' (x.then f) (x'.then f'):=by
 intro o vs hx;obtain⟨o1,q1⟩:=x;cases o1 with
 | none =>
  rw[then_none]at hx;simp only[Prod.mk.injEq]at hx;obtain⟨rfl,rfl⟩:=hx;rw[h none vs rfl,then_none]
 | some a =>
  rw[then_some]at hx;have h3:=hf a q1 hg;rw[hx]at h3;obtain⟨w,hw⟩:=h3;have hw:q1=(w++vs)++t::r:=by rw[←hw,List.append_assoc]
  subst hw;rw[h (some a) (w++vs) rfl,then_some];exact h2 a (w++vs) rfl hg o vs hx
theorem Lc.tail {rd rd':List Lx.Tok→Rd α} (us:List Lx.Tok) (hk:Keeps rd) (hg:Good (us++t::r).tail) (h:∀u w,us=u::w→Lc t r r' (rd (w++t::r)) (rd' (w++t::r'))):Lc t r r' (rd (us++t::r).tail) (rd' (us++t::r').tail):=by
 cases us with
 | nil =>
  intro o vs h1;have h2:=(hk _ hg).1;rw[h1]at h2;have:=h2.length_le;simp at this;omega
 | cons u us=>exact h u us rfl
def endR (p:Pl) (q:List Lx.Tok):Rd Pl:=if isE q then(some p,q)else(none,q)
def p6 (nm:Tx) (us:List (Tx×Tx)) (rv:List (Tx×Tx)) (f:F) (s:Tx×Int) (x:Tx) (q:List Lx.Tok):Rd Pl:=(needR kEnd q).then fun _ q=>endR ⟨nm,us,rv,s.1,s.2,x,f⟩ q
def p5 (nm:Tx) (us:List (Tx×Tx)) (rv:List (Tx×Tx)) (f:F) (s:Tx×Int) (q:List Lx.Tok):Rd Pl:=(escrowR q).then fun x q=>p6 nm us rv f s x q
def p4 (nm:Tx) (us:List (Tx×Tx)) (rv:List (Tx×Tx)) (f:F) (q:List Lx.Tok):Rd Pl:=(scopeR q).then fun s q=>p5 nm us rv f s q
def p3 (nm:Tx) (us:List (Tx×Tx)) (rv:List (Tx×Tx)) (q:List Lx.Tok):Rd Pl:=(proveR q).then fun f q=>p4 nm us rv f q
def p2 (nm:Tx) (us:List (Tx×Tx)) (q:List Lx.Tok):Rd Pl:=(revealR q).then fun rv q=>p3 nm us rv q
def p1 (nm:Tx) (q:List Lx.Tok):Rd Pl:=(listR (pairR sColon) q.length q).then fun us q=>p2 nm us q
def p0 (nm:Tx) (q:List Lx.Tok):Rd Pl:=(needR kUses q).then fun _ q=>p1 nm q
end
end Pa
section
open Go.RowKit Go.Maps Go.WideMaps
set_option linter.unusedSectionVars false
theorem zeroB (w:World):(zeroValue 4).run prog w=.ok (.bool false) w:=kr
structure KeyD (α:Type) where
 t:TypeId
 mt:TypeId
 law:Keyed prog t
 und:prog.underlying mt=some (.map t 4)
 val:α→Value
 kl:α→Lit
 ok:α→Prop
 key:∀x,ok x→keyOf prog t (val x)=some (kl x)
 inj:∀x y,ok x→ok y→kl x=kl y→x=y
section
variable {α:Type} [DecidableEq α] (D:KeyD α)
def KeyD.setD (S:List α):DataW Unit:=setOf (.lit (.bool true)) (S.map D.kl)
theorem KeyD.setD_snoc (S:List α) (s:α):D.setD (S++[s])=(D.setD S).put (D.kl s) (.lit (.bool true)):=by
 unfold KeyD.setD;rw[List.map_append];exact setOf_snoc _ _ _
theorem KeyD.isMap (S:List α):IsMap (D.setD S):=by
 unfold KeyD.setD setOf;have:∀(l:List Lit) (m:DataW Unit),IsMap m→IsMap (l.foldl (fun m x=>m.put x (.lit (.bool true))) m):=by
  intro l
  induction l with
  | nil=>intro m h;exact h
  | cons a l ih=>intro m h;exact ih _ (h.put _ _)
 exact this _ _ isMap_empty
theorem KeyD.isKey (s:α) (h:D.ok s):WideAt.IsKeyLit (D.kl s):=D.law.key (D.key s h)
theorem KeyD.at_ (s:α) (h:D.ok s):∀(n:Nat) (S:List α),(∀x∈S,D.ok x)→S.length=n→(D.setD S).atKey (D.kl s) (.lit (.bool false))=.lit (.bool (memD s S)):=by
 intro n
 induction n with
 | zero =>
   intro S _ hS;rw[List.eq_nil_of_length_eq_zero hS];simp[KeyD.setD,setOf,DataW.atKey,memD]
 | succ n ih =>
   intro S cI hS;obtain⟨T,t,rfl⟩:∃T t,S=T++[t]:=⟨S.dropLast,S.getLast (by intro h9;rw[h9]at hS;cases hS),(List.dropLast_concat_getLast _).symm⟩;have hT:T.length=n:=by simpa using hS
   have ht:=cI t zy1;rw[D.setD_snoc];by_cases cS:s=t
   ·subst cS;rw[atKey_put_same (D.isMap T) (D.isKey s h),memD_snoc];simp
   ·rw[atKey_put_other (fun e=>cS (D.inj _ _ h ht e)),ih T (fun x hx=>cI x (List.mem_append_left _ hx)) hT,memD_snoc];have:¬t=s:=fun h=>cS h.symm;simp[this]
def iset (b:Nat) (S:List α):It:=⟨[b],fun W=>(∀x∈S,D.ok x)∧W.ownsMap prog D.t (plainElem (H:=Unit) prog 4) b S.length (D.setD S),fun W W' h hp=>by
 obtain⟨ho,es,clock,hb,r⟩:=hp;exact⟨ho,es,clock,(h b (List.mem_singleton.2 rfl)).trans hb,r⟩,fun W hp b' hb=>by rw[List.mem_singleton.1 hb];exact World.ownsMap.lt hp.2⟩
theorem zb4 {W:World} {b:Nat} {S:List α} (h:(iset D b S).P W) (s:α) (hs:D.ok s):(Instr.lookup D.mt (.map (some b)) (D.val s) false).run prog W=.ok (.bool (memD s S)) W:=by
 obtain⟨v,ps,cJ,hv⟩:=World.ownsMap.lookup h.2 D.law D.und (zeroB W) (plainElem_bool underlying4 false) (D.key s hs);rw[D.at_ s hs _ S h.1 rfl]at hv;rw[cJ];have:v=.bool (memD s S):=by
  have hu:prog.underlying 4=some .bool:=underlying4;unfold plainElem at hv;rw[hu]at hv;cases v<;>simp at hv;simp[hv]
 rw[this]
theorem Hp.setNew {o:List Nat} {w W:World} {it:List It} (h:Hp o w it W):Hp o w (iset D W.heap.size []::it) (W.alloc (.map #[] 0)):=by
 have h1:Hp (ow []) W [iset D W.heap.size []] (W.alloc (.map #[] 0)):=by
  refine⟨⟨fun x hx=>?_,by simp[iset]⟩,⟨(Below.refl _ _).alloc (Nat.zero_le _) _,fun k hk _=>Below.heap_alloc _ _ _ hk,fun b hb=>.inr ?_⟩⟩
  ·rw[List.mem_singleton.1 hx];exact⟨fun x hx=>absurd hx List.not_mem_nil,World.ownsMap_made _ _ _ _⟩
  ·simp[iset]at hb;omega
 exact zvg
theorem Hp.setPut {o:List Nat} {w W W':World} {it:List It} (h:Hp o w it W) (i:Nat) {b:Nat} {S:List α} (hx:it[i]? =some (iset D b S)) {s:α} (hs:D.ok s) (af:W'.ownsMap prog D.t (plainElem (H:=Unit) prog 4) b (S.length+1) ((D.setD S).put (D.kl s) (.lit (.bool true)))) (hg:W.grownBy W' (some b)) :
 Hp o w (it.set i (iset D b (S++[s]))) W':=by
 have hP:(iset D b S).P W:=h.sep.ok _ (List.mem_of_getElem? hx);refine h.upd i hx (x':=iset D b (S++[s])) ?_ ⟨⟨hg.os,hg.tape,hg.output,hg.size,fun k hk=>absurd hk (Nat.not_lt_zero _)⟩,fun k hk ho=>hg.block k hk (fun h9=>ho ?_),fun b' hb=>.inl hb⟩ (by simp[iset])
 ·refine⟨fun x hx=>?_,?_⟩
  ·rcases List.mem_append.1 hx with hx|hx
   ·exact hP.1 x hx
   ·rw[List.mem_singleton.1 hx];exact hs
  ·show W'.ownsMap _ _ _ b (S++[s]).length (D.setD (S++[s]));rw[List.length_append,D.setD_snoc];exact af
 ·injection h9 with h9;rw[h9];simp[iset]
theorem iset_own {W:World} {b:Nat} {S:List α} (h:(iset D b S).P W):W.ownsMap prog D.t (plainElem (H:=Unit) prog 4) b S.length (D.setD S):=h.2
theorem addKeys:∀(xs L:List Lit),(∀x∈xs,∀y∈L,y≠x)→xs.Nodup→(xs.foldl addKey L).length=L.length+xs.length
 | [],L,_,_=>rfl
 | x::r,L,h,hn=>by
   have e:addKey L x=L++[x]:=by
    unfold addKey;rw[if_neg];rw[List.any_eq_true];rintro⟨y,hy,h9⟩;exact h x (List.mem_cons_self ..) y hy (WideAt.sameKey_eq h9)
   rw[List.nodup_cons]at hn;rw[List.foldl_cons,e,addKeys r (L++[x]) (fun z hz y hy=>by
    rcases List.mem_append.1 hy with hy|hy
    ·exact h z (List.mem_cons_of_mem _ hz) y hy
    ·rw[List.mem_singleton.1 hy];rintro rfl;exact hn.1 hz) hn.2]
   simp;omega
theorem KeyD.size {S:List α} (cI:∀x∈S,D.ok x) (hn:S.Nodup):Maps.size (D.setD S)=S.length:=by
 have hm:(S.map D.kl).Nodup:=by
  rw[List.nodup_iff_pairwise_ne,List.pairwise_map];refine(List.Pairwise.imp_of_mem ?_ (List.nodup_iff_pairwise_ne.1 hn));intro a b ha hb dt e;exact dt (D.inj a b (cI a ha) (cI b hb) e)
 rw[KeyD.setD,size_setOf _ _ (fun x hx=>by
  obtain⟨y,hy,rfl⟩:=List.mem_map.1 hx;exact D.isKey y (cI y hy)),addKeys _ [] (fun _ _ y hy=>absurd hy List.not_mem_nil) hm]
 simp
theorem iset_len {W:World} {b:Nat} {S:List α} (h:(iset D b S).P W) (hn:S.Nodup) (ty:TypeId):(Builtin.len_ #[D.mt] ty #[.map (some b)]).run prog W=.ok (.int .i64 (S.length:Int)) W:=by
 rw[World.ownsMap.len h.2 D.und ty,D.size h.1 hn]
end
def intK:KeyD Int where
 t:=3
 mt:=219
 law:=int_keyed underlying3
 und:=underlying219
 val n:=.int .i64 n
 kl n:=.int .i64 n
 ok n:=(Lit.int .i64 n).wf=true
 key n h:=keyOf_int_mk underlying3 h
 inj a b _ _ h:=by injection h
def strK:KeyD ByteArray where
 t:=9
 mt:=222
 law:=string_keyed underlying9
 und:=underlying222
 val s:=.string s
 kl s:=.string s.data.toList
 ok s:=s.size≤9223372036854775807
 key s h:=keyOf_string_mk underlying9 zy2
 inj a b _ _ h:=by
  injection h with h;have:=congrArg List.toArray h;simp at this;obtain⟨a⟩:=a;obtain⟨b⟩:=b;exact congrArg ByteArray.mk this
theorem laidOut:laidOutB prog=true:=kr
theorem refRow:(89:TypeId)<prog.types.size:=of_decide_eq_true kr
theorem refKt:prog.keyTypeAt 3 89=true:=kr
theorem refKt2:prog.keyType 89=true:=kr
theorem refLaw:Keyed prog 89:=Keyed.of_law (deep_law_laid laidOut (m:=3) om refRow refKt (by rw[underlying89]))
abbrev refV (x:Bp):Value:=.agg #[.string x.1,.string x.2]
theorem key_two {P:Program} {t s:TypeId} {f0 f1:Field} (hu:P.underlying t=some (.struct #[f0,f1])) (h1:P.keyType t=true) (h2:P.cellsOf t=2) (h3:P.cellsOf s=1) (e0:f0.type=s) (e1:f1.type=s) (o0:f0.offset=0) (o1:f1.offset=1) (n0:(f0.name != "_")=true) (n1:(f1.name != "_")=true)
 (hs:P.underlying s=some .string) (hm:0<P.types.size) (a b:ByteArray) (h4:a.size≤maxLen) (h5:b.size≤maxLen):keyOf P t (.agg #[.string a,.string b])=some (.string (keyBytes [.string a.data.toList,.string b.data.toList])):=by
 obtain⟨m,hm⟩:∃m,P.types.size=m+1:=⟨P.types.size-1,by omega⟩;simp[keyOf,hu,h1,Value.formed,h2,Program.keyLits,hm,Value.cells,e0,e1,o0,o1,h3,hs,h4,h5,n0,n1]
theorem refPos:0<prog.types.size:=Nat.lt_of_le_of_lt (Nat.zero_le _) refRow
theorem refKey (x:Bp) (h:x.1.size≤9223372036854775807∧x.2.size≤9223372036854775807):keyOf prog 89 (refV x)=some (.string (keyBytes [.string x.1.data.toList,.string x.2.data.toList])) :=
 key_two underlying89 refKt2 kr (s:=9) kr rfl rfl rfl rfl zy0 zy0 underlying9 refPos x.1 x.2 zy2 zy2
def refK:KeyD Bp where
 t:=89
 mt:=223
 law:=refLaw
 und:=underlying223
 val x:=refV x
 kl x:=.string (keyBytes [.string x.1.data.toList,.string x.2.data.toList])
 ok x:=x.1.size≤9223372036854775807∧x.2.size≤9223372036854775807
 key x h:=refKey x h
 inj x y hx hy h:=by
  have h2:=refLaw.inj (h▸refKey x hx) (refKey y hy);injection h2 with h2;simp at h2;exact Prod.ext h2.1 h2.2
end
end Go.Proofs.YtekkapgknohadaaGreatDoor
