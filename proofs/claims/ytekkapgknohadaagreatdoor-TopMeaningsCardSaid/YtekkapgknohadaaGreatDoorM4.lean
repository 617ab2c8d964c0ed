/- The printer's writer: a strings.Builder that lies in a larger variable. Its methods. -/
import Derived.Test.YtekkapgknohadaaGreatDoorM3
import Derived.Test.YtekkapgknohadaaGreatDoorM2
set_option linter.unusedVariables false
set_option maxRecDepth 100000
set_option maxHeartbeats 4000000
open Go.Proofs.Tryz
namespace Go.Proofs.YtekkapgknohadaaGreatDoor
section
open Go.Shelf Go.RowKit
def WrAt (B b:Nat) (p:Value) (Q:List Value) (l:List UInt8) (w:World):Prop :=
 B≤b∧Q.length=8∧∃v,w.heap[b]? =some (.cells (p::v::Q).toArray 102 (0,0))∧w.ownsRowF B 5 1 v (Lib.byteCells l).length (Lib.byteCells l)∧v.ownBlock≠some b
def IsW (B b:Nat) (Q:List Value) (l:List UInt8) (w:World):Prop :=
 WrAt B b (.pointer none) Q l w∨WrAt B b (.pointer (some ⟨b,0,none⟩)) Q l w
abbrev OthW (b:Nat) (w w':World):Prop:=Lib.OthersKept 5 (some b) w w'
theorem WrAt.used {B b:Nat} {p:Value} {Q:List Value} {l:List UInt8} {w:World} (h:WrAt B b p Q l w) (q:Value):WrAt B b q Q l (w.setCell ⟨b,0,none⟩ q):=by
 obtain⟨hB,hQ,v,hb,af,aT⟩:=h;refine⟨hB,hQ,v,?_,?_,aT⟩
 ·simp[World.setCell,Array.getElem?_modify,hb]
 ·refine af.kept (row:=some b) ⟨rfl,rfl,rfl,by simp[World.setCell],fun k _ hk=>Below.heap_setCell _ _ _ _ (fun e=>hk (by simp[e]))⟩ ?_;exact Or.inr aT
theorem WrAt.put {B b:Nat} {p v v':Value} {Q:List Value} {l':List UInt8} {w:World} (hB:B≤b) (hQ:Q.length=8) (hb:w.heap[b]? =some (.cells (p::v::Q).toArray 102 (0,0))) (af:w.ownsRowF B 5 1 v' (Lib.byteCells l').length (Lib.byteCells l')) :
 WrAt B b p Q l' (w.setCell ⟨b,1,none⟩ v'):=by
 have aT:=Lib.ownBlock_neF af hb zy0;refine⟨hB,hQ,v',?_,?_,aT⟩
 ·simp[World.setCell,Array.getElem?_modify,hb]
 ·exact af.kept (row:=some b) ⟨rfl,rfl,rfl,by simp[World.setCell],fun k _ hk=>Below.heap_setCell _ _ _ _ (fun e=>hk (by simp[e]))⟩ (Or.inr aT)
theorem WrAt.lt {B b:Nat} {p:Value} {Q:List Value} {l:List UInt8} {w:World} (h:WrAt B b p Q l w):b<w.heap.size:=by
 obtain⟨_,_,v,hb,_⟩:=h;rcases Nat.lt_or_ge b w.heap.size with h'|h'
 ·exact h'
 ·simp[Array.getElem?_eq_none h']at hb
theorem WrAt.alloc {B b:Nat} {p:Value} {Q:List Value} {l:List UInt8} {w:World} (h:WrAt B b p Q l w) (o:Obj):WrAt B b p Q l (w.alloc o):=by
 have aQ:=h.lt;obtain⟨hB,hQ,v,hb,af,aT⟩:=h;exact⟨hB,hQ,v,(Lib.alloc_old w o b aQ).trans hb,af.kept (World.grownBy_alloc w o none) (by cases hv:v.ownBlock<;>simp),aT⟩
theorem IsW.alloc {B b:Nat} {Q:List Value} {l:List UInt8} {w:World} (h:IsW B b Q l w) (o:Obj):IsW B b Q l (w.alloc o) :=
 h.elim (fun x=>.inl (x.alloc o)) (fun x=>.inr (x.alloc o))
theorem wr_size:∃j,prog.info? 100=some j∧j.size=2:=by
 have h:(prog.info? 100).map (·.size)=some 2:=kr;obtain⟨j,hj,hs⟩:=Option.map_eq_some_iff.1 h;exact⟨j,hj,hs⟩
theorem wr_lies:liesAt prog prog.depth 102 (10/prog.cellsOf 102) 0 100 1=true:=kr
theorem wrCheck_used (b:Nat) (w:World) (h0:w.cell? ⟨b,0,none⟩=some (.pointer (some ⟨b,0,none⟩))) :
 Calls prog 98 #[.pointer (some ⟨b,0,none⟩)] w fun e w'=>e=.returned (.tuple #[])∧w'=w:=by
 obtain⟨j,hj,hjs⟩:=wr_size;go_enter func98,ntmps98;go_wp2;rw[Lib.run_neq_ptr_same w _ underlying97 hj];go_wp2;go_end0;exact zv6
theorem wrCheck_fresh (b:Nat) (w:World) (h0:w.cell? ⟨b,0,none⟩=some (.pointer none)) (hsh:w.shape? b=some (102,10)) (hfz:w.frozen? ⟨b,0,none⟩=false) :
 Calls prog 98 #[.pointer (some ⟨b,0,none⟩)] w fun e w'=>e=.returned (.tuple #[])∧w'=w.setCell ⟨b,0,none⟩ (.pointer (some ⟨b,0,none⟩)):=by
 obtain⟨j,hj,hjs⟩:=wr_size;go_enter func98,ntmps98;go_wp2;rw[Lib.run_to_unsafe w ⟨b,0,none⟩ underlying97 underlying239 hj (by rw[hjs];decide) hsh (Nat.zero_lt_succ 9)];simp only[Result.andThen];rw[Oper.upon_value];go_wp2;rw[run_callFunc_extern func164 kr kr kr (e:=Extern.AbiNoEscape.same) kr];rw[Lib.run_noEscape];simp only[Result.andThen];rw[Oper.upon_value];go_wp2;rw[Lib.run_from_unsafe w ⟨b,0,none⟩ underlying239 underlying97 hj hsh wr_lies];simp only[Result.andThen];rw[Oper.upon_value];go_wp2;go_end0;exact zv6
theorem WrAt.cell {B b:Nat} {p:Value} {Q:List Value} {l:List UInt8} {w:World} (h:WrAt B b p Q l w):w.cell? ⟨b,0,none⟩=some p∧w.shape? b=some (102,10)∧w.frozen? ⟨b,0,none⟩=false:=by
 obtain⟨_,hQ,v,hb,_⟩:=h;refine⟨by simp[World.cell?,hb],by simp[World.shape?,hb,hQ],by simp[World.frozen?,hb]⟩
theorem wrCheck (B b:Nat) (Q:List Value) (l:List UInt8) (w:World) (h:IsW B b Q l w) :
 Calls prog 98 #[.pointer (some ⟨b,0,none⟩)] w fun e w'=>e=.returned (.tuple #[])∧WrAt B b (.pointer (some ⟨b,0,none⟩)) Q l w'∧Below B w w'∧OthW b w w':=by
 rcases h with h|h
 ·obtain⟨h0,h1,h2⟩:=h.cell;refine(wrCheck_fresh b w h0 h1 h2).mono ?_;rintro e w' ⟨rfl,rfl⟩;exact⟨rfl,h.used _,(Below.refl B w).setCell (p:=⟨b,0,none⟩) h.1 _,(Lib.OthersKept.refl _ _ w).setCell ⟨b,0,none⟩ rfl _⟩
 ·refine(wrCheck_used b w h.cell.1).mono ?_;rintro e w' ⟨rfl,rfl⟩;exact⟨rfl,h,Below.refl B _,Lib.OthersKept.refl _ _ _⟩
theorem wr_byte:∃i0,prog.info? 5=some i0∧i0.zero=some (.int .u8 0)∧i0.size=1∧i0.bytes=1:=by
 have h:(prog.info? 5).map (fun i=>(i.zero,i.size,i.bytes))=some (some (.int .u8 0),1,1):=kr;obtain⟨i,hi,hs⟩:=Option.map_eq_some_iff.1 h;simp only[Prod.mk.injEq]at hs;exact⟨i,hi,hs.1,hs.2.1,hs.2.2⟩
theorem wr_bytes_app (l m:List UInt8):Lib.byteCells l++Lib.byteCells m=Lib.byteCells (l++m):=by simp[Lib.byteCells]
theorem wrString (B b:Nat) (Q:List Value) (l:List UInt8) (s:ByteArray) (w:World) (h:IsW B b Q l w) (aD:l.length+s.size≤140737488355328) (hBw:B≤w.heap.size) :
 Calls prog 32 #[.pointer (some ⟨b,0,none⟩),.string s] w fun e w'=>e=.returned (.tuple #[.int .i64 s.size,.nilIface])∧IsW B b Q (l++s.data.toList) w'∧Below B w w'∧OthW b w w':=by
 obtain⟨i0,hi,bg,aY,bh⟩:=wr_byte;go_enter func32,ntmps32;go_wp2_with fail;refine(wrCheck B b Q l _ h).mono ?_;rintro e w1 ⟨rfl,h1,aC,an⟩;obtain⟨hB,hQ,v,dR,af,aT⟩:=h1;have c0:w1.cell? ⟨b,0,none⟩=some (.pointer (some ⟨b,0,none⟩)):=by rw[Lib.cell_of_heap dR];simp
 have c1:w1.cell? ⟨b,1,none⟩=some v:=by rw[Lib.cell_of_heap dR];simp
 go_wp2_with (at_builtin;refine Lib.wpList_append_own_stringF _ rfl _ _ 98 9 rfl B 5 i0 underlying98 underlying9 hi bg aY bh _ _ _ rfl af s rfl ?c3 ?c4 ?c5 ?_);case c3=>rw[Lib.byteCells_length];unfold maxLen;omega
 case c4=>rw[Lib.byteCells_length];omega
 case c5=>have:=aC.size;omega
 intro v' w2 gP ai _;have aQ:b<w1.heap.size:=by
  rcases Nat.lt_or_ge b w1.heap.size with h'|h'
  ·exact h'
  ·simp[Array.getElem?_eq_none h']at dR
 have aG:w2.heap[b]? =some (.cells (.pointer (some ⟨b,0,none⟩)::v::Q).toArray 102 (0,0)):=by
  rw[ai.block b aQ (fun e=>aT e.symm)];exact dR
 have d0:w2.cell? ⟨b,0,none⟩=some (.pointer (some ⟨b,0,none⟩)):=by rw[Lib.cell_of_heap aG];simp
 have d1:w2.cell? ⟨b,1,none⟩=some v:=by rw[Lib.cell_of_heap aG];simp
 have f1:w2.frozen? ⟨b,1,none⟩=false:=Lib.frozen_of_heap aG 1;obtain⟨ao,n',cap,rfl⟩:∃ao n' cap,v'=.slice ao n' cap:=by
  rcases gP.2 with⟨hv,_⟩|⟨g,cap,cur,fz,hv,_⟩
  ·exact⟨_,_,_,hv⟩
  ·exact⟨_,_,_,hv⟩
 go_wp2;go_ret2;have hss:Lib.strCells s=Lib.byteCells s.data.toList:=by simp[Lib.strCells,Lib.byteCells]
 refine⟨rfl,.inr ?_,?_,(an.grown ai (Lib.ownsRowF_kind af)).setCell ⟨b,1,none⟩ rfl _⟩
 ·refine WrAt.put hB hQ aG ?_;rw[hss,wr_bytes_app]at gP;have e:(Lib.byteCells l).length+s.size=(Lib.byteCells (l++s.data.toList)).length:=by
   rw[Lib.byteCells_length,Lib.byteCells_length,List.length_append];rfl
  rw[e]at gP;exact gP
 ·exact(aC.grown ai (by have:=aC.size;omega) (fun k hk=>(af.lt k hk).1)).setCell (p:=⟨b,1,none⟩) hB _
theorem wrDone (B b:Nat) (Q:List Value) (l:List UInt8) (w:World) (h:IsW B b Q l w) (h0:l≠[]) :
 Calls prog 45 #[.pointer (some ⟨b,0,none⟩)] w fun e w'=>e=.returned (.string ⟨l.toArray⟩)∧Below B w w':=by
 obtain⟨p,bp⟩:∃p,WrAt B b p Q l w:=by
  rcases h with h|h
  ·exact⟨_,h⟩
  ·exact⟨_,h⟩
 obtain⟨hB,hQ,v,dR,af,aT⟩:=bp;have gQ:l.length≠0:=by simpa using h0
 rw[Lib.byteCells_length]at af;obtain⟨g,cap,cur,fz,rfl,pi,hg,hfz,hnc,nX,hcs,pW⟩:∃g cap cur fz,v=.slice (some ⟨g,0,none⟩) l.length cap∧B≤g∧w.heap[g]? =some (.cells cur 5 fz)∧fz.2≤l.length*1∧l.length≤cap∧cap≤maxLen∧cur.size=cap*1∧cur.toList.take (l.length*1)=Lib.byteCells l:=by
  rcases af.2 with⟨_,hz⟩|⟨g,cap,cur,fz,hv,r⟩
  ·exact absurd hz gQ
  ·exact⟨g,cap,cur,fz,hv,r⟩
 have c1:w.drew.cell? ⟨b,1,none⟩=some (.slice (some ⟨g,0,none⟩) l.length cap):=by
  have:w.drew.heap[b]? =some (.cells (p:: .slice (some ⟨g,0,none⟩) l.length cap::Q).toArray 102 (0,0)):=dR;rw[Lib.cell_of_heap this];simp
 have hSD:(Builtin.unsafeSliceData_ #[98] 191 #[.slice (some ⟨g,0,none⟩) l.length cap]).run prog w.drew=.ok (.pointer (some ⟨g,0,none⟩)) w.drew :=
  Lib.run_unsafeSliceData_row _ _ _ _ _ _ om
 have hUS:(Builtin.unsafeString_ #[191,3] 9 #[.pointer (some ⟨g,0,none⟩),.int .i64 l.length]).run prog w.drew=.ok (.string ⟨l.toArray⟩) (w.drew.freeze ⟨g,0,none⟩ l.length):=by
  refine Lib.run_unsafeString_row w.drew 191 3 9 5 underlying191 kr g cur.size (by have lp:w.drew.heap[g]? =some (.cells cur 5 fz):=hg;simp[World.shape?,lp]) l h0 om (by unfold maxLen at nX;omega) ?_;intro j x hx;have:=af.cells (g:=g) rfl j (.int .u8 x.toNat) (by simp[Lib.byteCells,hx]);exact this
 have mixed:prog.follows Departure.mixedOrders=true:=kr;go_enter func45,ntmps45;go_wp2;go_region_o;all_goals (go_wp2;go_ret;exact⟨rfl,Lib.below_freeze (Below.drew (Below.refl B w)) (p:=⟨g,0,none⟩) pi _⟩)
end
section
open Go.Shelf Go.RowKit
def Wr (B b:Nat) (Q:List Value) (l t:List UInt8) (W:World) (e:Ending) (w':World):Prop :=
 e=.returned (.tuple #[])∧IsW B b Q (l++t) w'∧Below B W w'∧OthW b W w'
def KeepS (B b:Nat) (S:World→Prop):Prop:=∀W W',S W→Below B W W'→OthW b W W'→S W'
def zba (B b:Nat) (Q:List Value) (S:World→Prop) (f:FuncId) (args:Array Value) (t:List UInt8):Prop :=
 ∀(l:List UInt8) (W:World),S W→IsW B b Q l W→B≤W.heap.size→l.length+t.length≤1000000→Calls prog f args W fun e w'=>Wr B b Q l t W e w'
theorem Blk.othW {W W':World} {b g:Nat} {t:TypeId} {cs:List Value} (h:Blk W g t cs) (ho:OthW b W W') (hg:g≠b) (ht:t≠5):Blk W' g t cs :=
 ho g _ h (fun e=>hg (Option.some.inj e)) (fun c fz e=>by injection e with _ e1;exact ht e1)
theorem wr_str (B b:Nat) (Q:List Value) (l t:List UInt8) (W:World) (h:IsW B b Q l W) (hB:B≤W.heap.size) (aD:l.length+t.length≤1000000) (s:ByteArray) (hs:s=⟨t.toArray⟩) :
 Calls prog 32 #[.pointer (some ⟨b,0,none⟩),.string s] W fun e w'=>e=.returned (.tuple #[.int .i64 (t.length:Int),.nilIface])∧IsW B b Q (l++t) w'∧Below B W w'∧OthW b W w':=by
 subst hs;have e1:(⟨t.toArray⟩:ByteArray).size=t.length:=by simp[ByteArray.size]
 refine(wrString B b Q l ⟨t.toArray⟩ W h (by rw[e1];omega) hB).mono ?_;rintro e w' ⟨rfl,h1,h2,h3⟩;rw[e1];exact⟨rfl,by simpa using h1,h2,h3⟩
def cms:List (List UInt8)→List UInt8
 | []=>[]
 | [t]=>t
 | t::u::r=>t++([44,32]++cms (u::r))
theorem zcv (x:List UInt8):∀l:List (List UInt8),cms (l++[x])=if l=[]then x else cms l++([44,32]++x)
 | []=>rfl
 | [t]=>rfl
 | t::u::r=>by
  have ih:=zcv x (u::r);rw[if_neg zy1]at ih;rw[if_neg zy1];show t++([44,32]++cms ((u::r)++[x]))=t++([44,32]++cms (u::r))++([44,32]++x);rw[ih];simp only[List.append_assoc]
theorem commas_mono (t:Nat→List UInt8):∀{m n:Nat},m≤n→(cms ((List.range m).map t)).length≤(cms ((List.range n).map t)).length:=by
 intro m n h
 induction n with
 | zero =>
  obtain rfl:m=0:=om;exact Nat.le_refl _
 | succ n ih =>
  by_cases h1:m=n+1
  ·rw[h1];exact Nat.le_refl _
  ·have:=ih om;rw[List.range_succ,List.map_append,List.map_singleton,zcv];split
   ·rename_i h2;rw[h2]at this;have e:(cms []).length=0:=rfl;omega
   ·simp only[List.length_append];omega
theorem wlist_any (B b:Nat) (Q:List Value) (S:World→Prop) (hK:KeepS B b S) (n:Nat) (hn:n≤1000000) (f:FuncId) (he:∀args w,(callFunc f args).run prog w=.ok (.enter f args) w) (c0 c1:Value) (t:Nat→List UInt8)
 (hp:∀i,i<n→zba B b Q S f #[.int .i64 (i:Int),c0,c1] (t i)) :
 zba B b Q S 35 #[.pointer (some ⟨b,0,none⟩),.int .i64 (n:Int),.func (.func f) #[] #[c0,c1]] (cms ((List.range n).map t)):=by
 intro l W hS hW hB aD;have HP:=Lib.hid hp;have ss:=Lib.hid hK;clear hp hK;go_enter func35,ntmps35;go_wp2_with fail;go_loopg [8] n (fun m s8 wx=>∃j:Nat,j≤n∧m=n-j∧s8=.int .i64 (j:Int)∧IsW B b Q (l++cms ((List.range j).map t)) wx∧Below B W wx∧OthW b W wx∧S wx);case atStart=>exact⟨0,Nat.zero_le _,rfl,rfl,by simpa[cms]using hW,Below.refl _ _,Lib.OthersKept.refl _ _ _,hS⟩
 case round =>
  obtain⟨j,hj,rfl,rfl,hI,hb,ho,ie⟩:=hrel;clear hW hS;by_cases aW:j<n
  ·have tK:decide ((j:Int)<(n:Int))=true:=by rw[decide_eq_true_iff];omega
   have hbs:=hb.size;have HL:Hid (l.length+(cms ((List.range (j+1)).map t)).length≤1000000):=by
    refine Lib.hid ?_;have:=commas_mono t (show j+1≤n by omega);omega
   have e1:(List.range (j+1)).map t=(List.range j).map t++[t j]:=by rw[List.range_succ,List.map_append,List.map_singleton]
   by_cases bT:j=0
   ·have mO:decide (0<j)=false:=by rw[decide_eq_false_iff_not];omega
    have jm:¬0<j:=om;have HJ:Hid (l++cms ((List.range (j+1)).map t)=l++cms ((List.range j).map t)++t j):=by
     refine Lib.hid ?_;rw[e1,zcv,if_pos (by simp[bT]),bT];simp[cms]
    have HC:=Lib.hid (HP.out j aW (l++cms ((List.range j).map t)) wr ie hI om (by
     have:=HL.out;have h2:=congrArg List.length HJ.out;simp only[List.length_append]at h2 ⊢;omega))
    clear e1 bT hI HP;go_wp2_with fail;refine HC.out.mono ?_;rintro e w2 ⟨rfl,h1,h2,h3⟩;clear HC;go_wp2_with fail;go_roundg (n-(j+1));case measure=>omega
    case rel =>
     refine⟨j+1,aW,rfl,by first|rfl|simp,?_,hb.trans h2,ho.trans h3,ss.out _ _ ie h2 h3⟩;rw[HJ.out];exact h1
   ·have mO:decide (0<j)=true:=by rw[decide_eq_true_iff];omega
    have jm:0<j:=om;have HJ:Hid (l++cms ((List.range (j+1)).map t)=l++cms ((List.range j).map t)++[44,32]++t j):=by
     refine Lib.hid ?_;rw[e1,zcv,if_neg (by simp[bT])];simp only[List.append_assoc]
    have HA:=Lib.hid (wr_str B b Q (l++cms ((List.range j).map t)) [44,32] wr hI om (by
     have:=HL.out;have h2:=congrArg List.length HJ.out;simp only[List.length_append]at h2 ⊢;omega) ⟨#[44,32]⟩ rfl)
    have HC:=Lib.hid (fun W'=>HP.out j aW (l++cms ((List.range j).map t)++[44,32]) W');have pH:Hid ((l++cms ((List.range j).map t)++[44,32]).length+(t j).length≤1000000):=by
     refine Lib.hid ?_;have:=HL.out;have h2:=congrArg List.length HJ.out;simp only[List.length_append]at h2 ⊢;omega
    clear e1 bT hI HP;go_wp2_with fail;refine HA.out.mono ?_;rintro e w1 ⟨rfl,g1,g2,g3⟩;have fI:=Lib.hid (HC.out w1 (ss.out _ _ ie g2 g3) g1 (by have:=g2.size;omega) pH.out);clear HA HC g1;go_wp2_with fail;refine fI.out.mono ?_;rintro e w2 ⟨rfl,h1,h2,h3⟩;clear fI;go_wp2_with fail;go_roundg (n-(j+1));case measure=>omega
    case rel =>
     refine⟨j+1,aW,rfl,by first|rfl|simp,?_,(hb.trans g2).trans h2,(ho.trans g3).trans h3,ss.out _ _ (ss.out _ _ ie g2 g3) h2 h3⟩;rw[HJ.out];exact h1
  ·have bX:j=n:=om;subst bX;have tK:decide ((j:Int)<(j:Int))=false:=by simp
   go_wp2_with fail;go_end0;exact⟨rfl,hI,hb,ho⟩
end
section
open Go.Shelf Go.RowKit
def Wbox (b g:Nat) (W:World):Prop:=Blk W g 96 [.pointer (some ⟨b,0,none⟩)]
theorem IsW.ne {B b:Nat} {Q:List Value} {l:List UInt8} {W:World} (h:IsW B b Q l W) {g:Nat} {t:TypeId} {cs:List Value} (hg:Blk W g t cs) (ht:t≠102):g≠b:=by
 intro e;subst e;rcases h with⟨_,_,v,hb,_⟩|⟨_,_,v,hb,_⟩;all_goals
  rw[show W.heap[g]? =some (.cells cs.toArray t (0,0))from hg]at hb;injection hb with h1;injection h1 with _ h2;exact ht h2
theorem wword_any (s:ByteArray) (gw:Nat) (W:World):Calls prog 102 #[.string s,.pointer (some ⟨gw,0,none⟩)] W fun e w' =>
 e=.returned (.func (.func 103) #[] #[.pointer (some ⟨gw,0,none⟩),.pointer (some ⟨W.heap.size,0,none⟩)])∧w'=W.alloc (.cells #[.string s] 9):=by
 go_enter func102,ntmps102;go_wp2_with fail;go_ret;exact zv6
theorem gate_any (s:ByteArray) (gw gn:Nat) (W:World):Calls prog 99 #[.string s,.pointer (some ⟨gw,0,none⟩),.pointer (some ⟨gn,0,none⟩)] W fun e w' =>
 e=.returned (.func (.func 100) #[] #[.pointer (some ⟨gw,0,none⟩),.pointer (some ⟨W.heap.size,0,none⟩),.pointer (some ⟨gn,0,none⟩)])∧w'=W.alloc (.cells #[.string s] 9):=by
 go_enter func99,ntmps99;go_wp2_with fail;go_ret;exact zv6
theorem word_run (B b:Nat) (Q:List Value) (gw gs:Nat) (t:List UInt8) (s:ByteArray) (hs:s=⟨t.toArray⟩) :
 zba B b Q (fun W=>Wbox b gw W∧Blk W gs 9 [.string s]) 103 #[.pointer (some ⟨gw,0,none⟩),.pointer (some ⟨gs,0,none⟩)] t:=by
 rintro l W ⟨hw,hg⟩ hI hB aD;have c0:W.cell? ⟨gw,0,none⟩=some (.pointer (some ⟨b,0,none⟩)):=Blk.cell hw 0;have c1:W.cell? ⟨gs,0,none⟩=some (.string s):=Blk.cell hg 0;have HA:=Lib.hid (wr_str B b Q l t W.drew hI hB aD s hs);clear hs;go_enter func103,ntmps103;have k0:W.drew.cell? ⟨gw,0,none⟩=some (.pointer (some ⟨b,0,none⟩)):=c0;have k1:W.drew.cell? ⟨gs,0,none⟩=some (.string s):=c1;have n0:gw≠b:=hI.ne hw zy0;have n1:gs≠b:=hI.ne hg zy0;go_upto_region 0 with fail
 first|go_region_held3 (fun w'=>w'.cell? ⟨gw,0,none⟩=some (.pointer (some ⟨b,0,none⟩))∧w'.cell? ⟨gs,0,none⟩=some (.string s)) (first|exact⟨k0,k1⟩|exact⟨(Blk.othW (W:=W.drew) hw zya n0 zy0).cell 0,(Blk.othW (W:=W.drew) hg zya n1 zy0).cell 0⟩)
  (first|(go_at_call 32;refine HA.out.mono ?_;rintro e w1 ⟨rfl,g1,g2,g3⟩))|fail
 all_goals
  go_wp2_with fail;go_end0;exact⟨rfl,g1,(Below.drew (Below.refl B W)).trans g2,g3⟩
def ShowsI (S:World→Prop) (ka:Option Addr) (ks:List Int):Prop :=
 ∀W,S W→∀i x,ks[i]? =some x→∃ad,ka=some ad∧W.cell? (ad.add i)=some (.int .i64 x)
end
section
open Go.Shelf Go.RowKit
end
section
open Go.Shelf Go.RowKit
theorem OthW.trans2 {b:Nat} {w1 w2 w3:World} (k:OthW b w1 w2) (j:OthW b w2 w3):OthW b w1 w3:=Lib.OthersKept.trans k j
theorem infix_run (B b:Nat) (Q:List Value) (S:World→Prop) (hK:KeepS B b S) (x y:Int) (sg t u:List UInt8) (hsg:sg.length≤1000)
 (hx:zba B b Q S 40 #[.pointer (some ⟨b,0,none⟩),.int .i64 x] t) (hy:zba B b Q S 40 #[.pointer (some ⟨b,0,none⟩),.int .i64 y] u) :
 zba B b Q S 106 #[.pointer (some ⟨b,0,none⟩),.int .i64 x,.string (bs sg),.int .i64 y] (t++([32]++sg++[32])++u):=by
 intro l W hS hI hB aD;simp only[List.length_append,List.length_cons,List.length_nil]at aD;have HS:=Lib.hid hK;have HA:=Lib.hid (hx l W hS hI hB om);have HY:=Lib.hid hy;have bu:(bs sg).size≤1000:=by rw[size_bs];exact hsg
 have aY:¬9223372036854775807<1+(bs sg).size:=om;have bh:¬9223372036854775807<1+(bs sg).size+1:=om;clear hK hx hy;go_enter func106,ntmps106;go_wp2_with fail;refine HA.out.mono ?_;rintro e w1 ⟨rfl,g1,g2,g3⟩;clear HA;have fF:=Nat.le_trans hB g2.size;have bi:=HS.out _ _ hS g2 g3;have hq:(⟨#[32]⟩:ByteArray)++bs sg++⟨#[32]⟩=⟨([32]++sg++[32]).toArray⟩:=by
  apply ByteArray.ext;rw[ByteArray.data_append,ByteArray.data_append];simp[bs]
 have HB:=Lib.hid (wr_str B b Q (l++t) ([32]++sg++[32]) w1 g1 fF zyj _ hq);clear hq;go_wp2_with fail;refine HB.out.mono ?_;rintro e w2 ⟨rfl,f1,f2,f3⟩;clear HB;have HC:=Lib.hid (HY.out _ w2 (HS.out _ _ bi f2 f3) f1 (Nat.le_trans fF f2.size) zyj);go_wp2_with fail;refine HC.out.mono ?_;rintro e w3 ⟨rfl,e1,e2,e3⟩;clear HC;go_wp2_with fail;go_end0;refine⟨rfl,?_,(g2.trans f2).trans e2,(OthW.trans2 g3 f3).trans2 e3⟩;have e9:l++(t++([32]++sg++[32])++u)=l++t++([32]++sg++[32])++u:=by simp only[List.append_assoc]
 exact e9▸e1
end
section
open Go.Shelf Go.RowKit
end
section
open Go.RowKit Go.Shelf Go.Sort
structure Glob (W:World):Prop where
 tab:Lib.TabIs prog W "internal/strconv.uint64pow10" .u64 Lib.pow10Tab
theorem var_up {W W':World} {n:String} {cs:Array Value} (h:W.var? prog n=some cs) (hb:Below W.heap.size W W'):W'.var? prog n=some cs:=by
 unfold World.var? at h ⊢;cases hg:prog.globalNamed n with
 | none=>rw[hg]at h;cases h
 | some g =>
  rw[hg]at h;simp only[Option.bind_some]at h ⊢;have aQ:g<W.heap.size:=by
   rcases Nat.lt_or_ge g W.heap.size with h1|h1
   ·exact h1
   ·rw[Array.getElem?_eq_none h1]at h;cases h
  rw[hb.block g aQ];exact h
theorem Glob.up {W W':World} (h:Glob W) (hb:Below W.heap.size W W'):Glob W':=⟨var_up h.tab hb⟩
theorem below_gr (w:World) (k:Nat) (os:Array Obj):Below w.heap.size w (grow (w.drewN k) os):=by
 refine⟨rfl,rfl,rfl,?_,fun i hi=>?_⟩
 ·show w.heap.size≤(w.heap++os).size;simp
 ·show(w.heap++os)[i]? =w.heap[i]?;rw[Array.getElem?_append_left hi]
theorem itoa_any (n:Int) (h0: -9223372036854775808≤n) (h1:n≤9223372036854775807) (w:World) (hG:Glob w) :
 Calls prog 42 #[.int .i64 n] w fun e w'=>e=.returned (.string (bs (Lib.itoa n)))∧Below w.heap.size w w':=by
 refine(strconv_Itoa n h0 h1 w hG.tab).mono ?_;rintro e w' ⟨rfl,k,os,rfl⟩;exact⟨rfl,below_gr w k os⟩
end
section
open Go.Shelf Go.RowKit
theorem cmp_run5 (B b:Nat) (Q:List Value) (S:World→Prop) (hK:KeepS B b S) (gw gn:Nat) (n0 n2 n3 n5:Value) (ka:Option Addr) (c:Nat) (x y:Int) (hs:ShowsI S ka [x,y]) (t u:List UInt8)
 (hx:zba B b Q S 40 #[.pointer (some ⟨b,0,none⟩),.int .i64 x] t) (hy:zba B b Q S 40 #[.pointer (some ⟨b,0,none⟩),.int .i64 y] u) :
 zba B b Q (fun W=>S W∧Wbox b gw W∧Blk W gn 68 [n0,.int .i64 5,n2,n3,.slice ka 2 c,n5]) 105 #[.pointer (some ⟨gw,0,none⟩),.pointer (some ⟨gn,0,none⟩)] (t++([32]++[62,61]++[32])++u):=by
 rintro l W ⟨hS,hw,fx⟩ hI hB aD;obtain⟨W2,ij⟩:∃W2,W2=W.alloc (.cells #[.string ⟨#[61]⟩,.string ⟨#[33,61]⟩,.string ⟨#[60]⟩,.string ⟨#[60,61]⟩,.string ⟨#[62]⟩,.string ⟨#[62,61]⟩] 188):=⟨_,rfl⟩;have aG:Below B W W2:=by rw[ij];exact(Below.refl B W).alloc hB _
 have jE:OthW b W W2:=by rw[ij];exact(Lib.OthersKept.refl _ _ W).alloc _
 have eU:IsW B b Q l W2:=by rw[ij];exact hI.alloc _
 have jb:Blk W2 W.heap.size 188 [.string ⟨#[61]⟩,.string ⟨#[33,61]⟩,.string ⟨#[60]⟩,.string ⟨#[60,61]⟩,.string ⟨#[62]⟩,.string ⟨#[62,61]⟩]:=by rw[ij];exact Blk.new W 188 [.string ⟨#[61]⟩,.string ⟨#[33,61]⟩,.string ⟨#[60]⟩,.string ⟨#[60,61]⟩,.string ⟨#[62]⟩,.string ⟨#[62,61]⟩]
 have dW:B≤W2.heap.size:=Nat.le_trans hB aG.size;have bK:S W2:=hK W W2 hS aG jE;have d0:gw≠b:=hI.ne hw zy0;have d2:gn≠b:=hI.ne fx zy0;have d3:W.heap.size≠b:=eU.ne jb zy0;have fq:Wbox b gw W2:=Blk.othW hw jE d0 zy0;have eW:=Blk.othW fx jE d2 zy0;have HS:=Lib.hid hK;have HC:=Lib.hid hs;have lj:S W2.drew:=hK W2 W2.drew bK (Below.drew (Below.refl B W2)) (Lib.OthersKept.refl _ _ W2).drew;obtain⟨ad,rfl,cx⟩:=hs W2.drew lj 0 x rfl;obtain⟨ad',e',cy⟩:=hs W2.drew lj 1 y rfl;injection e' with e';subst e';have HA:=Lib.hid (infix_run B b Q S hK x y [62,61] t u zy0 hx hy l W2.drew lj eU dW aD);rw[show bs [62,61]=(⟨#[62,61]⟩:ByteArray)from rfl]at HA;have k0:W2.drew.cell? ⟨gw,0,none⟩=some (.pointer (some ⟨b,0,none⟩)):=Blk.cell fq 0;have k1:W2.drew.cell? ⟨gn,4,none⟩=some (.slice (some ad) 2 c):=Blk.cell eW 4;have k2:W2.drew.cell? ⟨gn,1,none⟩=some (.int .i64 5):=Blk.cell eW 1;have k3:W2.drew.cell? ad=some (.int .i64 x):=cx;have k4:W2.drew.cell? ⟨W.heap.size,5,none⟩=some (.string ⟨#[62,61]⟩):=Blk.cell jb 5;clear hK hx hy hs;go_enter func105,ntmps105;go_upto_region 1 with fail;rw[←ij];clear ij
 first|go_region_held3 (fun w'=>w'.cell? ⟨gw,0,none⟩=some (.pointer (some ⟨b,0,none⟩))∧w'.cell? ⟨gn,4,none⟩=some (.slice (some ad) 2 c)∧w'.cell? ⟨gn,1,none⟩=some (.int .i64 5)∧w'.cell? (ad.add 0)=some (.int .i64 x)∧w'.cell? ad=some (.int .i64 x)∧w'.cell? ⟨ad.block,ad.off+1,none⟩=some (.int .i64 y)∧w'.cell? ⟨W.heap.size,5,none⟩=some (.string ⟨#[62,61]⟩)) (first|exact⟨k0,k1,k2,cx,k3,cy,k4⟩|(refine⟨(Blk.othW (W:=W2.drew) fq zya d0 zy0).cell 0,(Blk.othW (W:=W2.drew) eW zya d2 zy0).cell 4,(Blk.othW (W:=W2.drew) eW zya d2 zy0).cell 1,?_⟩;obtain⟨ad1,e1,cx1⟩:=HC.out _ (HS.out _ _ lj zya zya) 0 x rfl;obtain⟨ng,e2,cx2⟩:=HC.out _ (HS.out _ _ lj zya zya) 1 y rfl;injection e1 with e1;injection e2 with e2;subst e1;subst e2;exact⟨cx1,cx1,cx2,(Blk.othW (W:=W2.drew) jb zya d3 zy0).cell 5⟩))
  (first|(go_at_call 106;refine HA.out.mono ?_;rintro e w1 ⟨rfl,g1,g2,g3⟩))|fail
 all_goals
  go_wp2_with fail;go_end0;exact⟨rfl,g1,aG.trans ((Below.drew (Below.refl B W2)).trans g2),OthW.trans2 jE g3⟩
theorem ShowsI.tail {S:World→Prop} {ad:Addr} {x:Int} {ks:List Int} (h:ShowsI S (some ad) (x::ks)):ShowsI S (some (ad.add 1)) ks:=by
 intro W hS i y hy;obtain⟨ad',e,h1⟩:=h W hS (i+1) y hy;injection e with e;subst e;refine⟨_,rfl,?_⟩;have:(ad.add 1).add i=ad.add (i+1):=by
  unfold Addr.add;split
  ·rename_i h;subst h;simp
  ·simp;omega
 rw[this];exact h1
end
end Go.Proofs.YtekkapgknohadaaGreatDoor
