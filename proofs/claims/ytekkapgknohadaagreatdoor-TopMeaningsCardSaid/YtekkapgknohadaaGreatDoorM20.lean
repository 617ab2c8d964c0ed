/- typing: lists of strings, values and their types, agree, numbers, first. -/
import Derived.Test.YtekkapgknohadaaGreatDoorM19
set_option linter.unusedVariables false
set_option maxRecDepth 20000
set_option maxHeartbeats 8000000
open Go.Proofs.Tryz
namespace Go.Proofs.YtekkapgknohadaaGreatDoor
namespace Nf
open Go.RowKit Go.Shelf
open Lib (hid)
theorem equal_str (A B:Option Addr) (c d:Nat) (x y:List ByteArray) (W:World) (hx:Strs W A x) (hy:Strs W B y) (gu:x.length≤1000000) (hyl:y.length≤1000000) :
 Calls prog 264 #[.slice A x.length c,.slice B y.length d] W fun e w'=>e=.returned (.bool (decide (x=y)))∧Below W.heap.size W w':=by
 by_cases hl:x.length=y.length
 ·have aT:((x.length:Int)==(y.length:Int))=true:=by rw[hl];simp
  have wm:=hid hl;clear hl;go_enter func264,ntmps264;go_upto_region 4 with fail;go_loopg [13] x.length (fun m s13 wx=>∃i:Nat,i≤x.length∧m=x.length-i∧s13=.int .i64 (i:Int)∧Below W.heap.size W wx∧Hid (∀j,j<i→x[j]? =y[j]?));case atStart=>exact⟨0,Nat.zero_le _,rfl,rfl,Below.refl _ _,hid (fun j hj=>absurd hj (Nat.not_lt_zero _))⟩
  case round =>
   obtain⟨i,hi,rfl,rfl,hb,HI⟩:=hrel;by_cases ay:i<x.length
   ·have aM:(i:Int)<(x.length:Int):=om;have aL:(0:Int)≤(i:Int):=om;have hiy:(i:Int)<(y.length:Int):=by have:=wm.out;omega
    obtain⟨a1,ha⟩:∃a,x[i]? =some a:=⟨_,List.getElem?_eq_getElem ay⟩;obtain⟨b1,aX⟩:∃b,y[i]? =some b:=⟨_,List.getElem?_eq_getElem (by have:=wm.out;omega)⟩;obtain⟨ad,rfl,ca⟩:=(hx.up hb).at_ i _ ha;obtain⟨bd,rfl,da⟩:=(hy.up hb).at_ i _ aX;have ku:=strs_eqd a1 b1;by_cases h1:a1=b1
    ·subst h1;have ed:Hid (∀j,j<i+1→x[j]? =y[j]?):=by
      refine hid fun j hj=>?_;rcases Nat.lt_or_ge j i with h|h
      ·exact HI.out j h
      ·obtain rfl:j=i:=om;rw[ha,aX]
     clear ha aX ku;go_upto_region 6 with fail;go_quiet (fail);go_wp2_with fail;go_roundg (x.length-(i+1));case measure=>omega
     case rel=>exact⟨i+1,ay,rfl,by first|rfl|simp,by first|exact zae hb _|exact hb|exact hb.drew,ed⟩
    ·rw[decide_eq_false h1]at ku;have HD:Hid (decide (x=y)=false):=hid (by
      rw[decide_eq_false_iff_not];rintro rfl;rw[ha]at aX;exact h1 (Option.some.inj aX))
     clear ha aX;go_upto_region 6 with fail;go_quiet (fail);go_wp2_with fail;go_ret;exact⟨za9 zu9,by first|exact zae hb _|exact hb|exact hb.drew⟩
   ·obtain rfl:i=x.length:=om;have aM:¬(x.length:Int)<(x.length:Int):=om;have HD:Hid (decide (x=y)=true):=hid (by rw[decide_eq_true_iff];exact eq_take wm.out HI.out);go_wp2_with fail;go_ret;exact⟨za9 zu9,hb⟩
 ·have aT:((x.length:Int)==(y.length:Int))=false:=by simp;omega
  have HD:Hid (decide (x=y)=false):=hid (by rw[decide_eq_false_iff_not];rintro rfl;exact hl rfl);go_enter func264,ntmps264;go_wp2_with fail;go_ret;exact⟨za9 zu9,Below.refl _ _⟩
theorem index_str (A:Option Addr) (c:Nat) (l:List ByteArray) (s:ByteArray) (W:World) (hx:Strs W A l) (hl:l.length≤1000000) :
 Calls prog 152 #[.slice A l.length c,.string s] W fun e w'=>(∃y:Int,e=.returned (.int .i64 y)∧((0≤y)↔memD s l=true))∧w'=W:=by
 go_enter func152,ntmps152;go_upto_region 2 with fail;go_loopg [8] l.length (fun m s8 wx=>∃i:Nat,i≤l.length∧m=l.length-i∧s8=.int .i64 (i:Int)∧wx=W∧Hid (memD s (l.take i)=false));case atStart=>exact⟨0,Nat.zero_le _,rfl,rfl,rfl,hid rfl⟩
 case round =>
  obtain⟨i,hi,rfl,rfl,rfl,HI⟩:=hrel;by_cases ay:i<l.length
  ·have aM:(i:Int)<(l.length:Int):=om;have aL:(0:Int)≤(i:Int):=om;obtain⟨a,ha⟩:∃a,l[i]? =some a:=⟨_,List.getElem?_eq_getElem ay⟩;obtain⟨ad,rfl,ca⟩:=hx.at_ i _ ha;have ku:=strs_eqd s a;by_cases h1:s=a
   ·subst h1;rw[decide_eq_true rfl]at ku;have HM:Hid (memD s l=true):=hid (memD_iff.2 (List.mem_of_getElem? ha));clear ha;go_wp2_with fail;go_ret;exact⟨⟨_,rfl,by rw[HM.out];simp⟩,rfl⟩
   ·rw[decide_eq_false h1]at ku;have ed:Hid (memD s (l.take (i+1))=false):=hid (by rw[zan ha,memD_snoc,HI.out];simpa using fun e=>h1 e.symm);clear ha h1;go_wp2_with fail;go_roundg (l.length-(i+1));case measure=>omega
    case rel=>exact⟨i+1,ay,rfl,by first|rfl|simp,rfl,ed⟩
  ·have aM:¬(i:Int)<(l.length:Int):=om;have HM:Hid (memD s l=false):=hid (by rw[←HI.out,List.take_of_length_le om]);go_wp2_with fail;go_ret;exact⟨⟨_,rfl,by rw[HM.out];decide⟩,rfl⟩
theorem contains_str (A:Option Addr) (c:Nat) (l:List ByteArray) (s:ByteArray) (W:World) (hx:Strs W A l) (hl:l.length≤1000000) :
 Calls prog 86 #[.slice A l.length c,.string s] W fun e w'=>e=.returned (.bool (memD s l))∧w'=W:=by
 have HC:=hid (index_str A c l s W hx hl);go_enter func86,ntmps86;go_wp2_with fail;refine HC.out.mono ?_;rintro e w1 ⟨⟨y,rfl,hy⟩,rfl⟩;by_cases h:0≤y
 ·have HY:=hid (hy.1 h);clear hy;go_wp2_with fail;go_ret;exact⟨by rw[HY.out];simp,rfl⟩
 ·have HY:Hid (memD s l=false):=hid (by rw[Bool.eq_false_iff];exact fun e=>h (hy.2 e));clear hy;go_wp2_with fail;go_ret;exact⟨by rw[HY.out];simp[h],rfl⟩
inductive TyIs (w0:World):Ty→Bool→Option Addr→Nat→Nat→ByteArray→Prop
 | num (A:Option Addr) (n c:Nat) (s:ByteArray):TyIs w0 .num true A n c s
 | word (s:ByteArray):TyIs w0 (.word s) false none 0 0 s
 | ref (a:Addr) (l:List ByteArray) (c:Nat) (h:Strs w0 (some a) l) (hl:l.length≤64):TyIs w0 (.ref l) false (some a) l.length c ⟨#[]⟩
abbrev tyC (b:Bool) (A:Option Addr) (n c:Nat) (s:ByteArray):List Value:=[.bool b,.slice A n c,.string s]
theorem agree_any (w0 w:World) (h0:Below w0.heap.size w0 w) {t u:Ty} {b b':Bool} {A A':Option Addr} {n c n' c':Nat} {s s':ByteArray} (ht:TyIs w0 t b A n c s) (hu:TyIs w0 u b' A' n' c' s') :
 Calls prog 247 #[.agg (tyC b A n c s).toArray,.agg (tyC b' A' n' c' s').toArray] w fun e w'=>(∃y,e=.returned (.int .i64 y)∧(y=0↔agree t u=true))∧Below w.heap.size w w':=by
 have hk:=((Hp.start w).new 275 (tyC b A n c s)).new 275 (tyC b' A' n' c' s');have hb:=hk.below0;obtain⟨g,hg⟩:∃g,w.heap.size=g:=⟨_,rfl⟩;simp only[sizeA,hg]at hk;have d0:=(hk.blk 1 rfl).cell 0;have d1:=(hk.blk 1 rfl).cell 1;have d2:=(hk.blk 1 rfl).cell 2;have e0:=(hk.blk 0 rfl).cell 0;have e1:=(hk.blk 0 rfl).cell 1;have e2:=(hk.blk 0 rfl).cell 2;simp only[List.getElem?_cons_zero,List.getElem?_cons_succ]at d0 d1 d2 e0 e1 e2;cases ht with
 | num A n c s =>
   cases hu with
   | num A' n' c' s' =>
     exact zt66
   | word s' =>
     exact zt53
   | ref a l c' h hl =>
     exact zt53
 | word s =>
   cases hu with
   | num A' n' c' s' =>
     exact zt53
   | word s' =>
     exact zt66
   | ref a l c' h hl =>
     have HC:=hid (contains_str (some a) c' l s _ ((h.up h0).up hb) om);obtain⟨R,hR⟩:∃R,memD s l=R:=⟨_,rfl⟩;rw[hR]at HC;have HA:Hid (agree (.word s) (.ref l)=R):=hid hR;exact zt10
 | ref a l c h hl =>
   cases hu with
   | num A' n' c' s' =>
     exact zt53
   | word s' =>
     have HC:=hid (contains_str (some a) c l s' _ ((h.up h0).up hb) om);obtain⟨R,hR⟩:∃R,memD s' l=R:=⟨_,rfl⟩;rw[hR]at HC;have HA:Hid (agree (.ref l) (.word s')=R):=hid hR;exact zt10
   | ref a' l' c' h' kO =>
     have HC:=hid (equal_str (some a) (some a') c c' l l' _ ((h.up h0).up hb) ((h'.up h0).up hb) om om);obtain⟨R,hR⟩:∃R,decide (l=l')=R:=⟨_,rfl⟩;rw[hR]at HC;have HA:Hid (agree (.ref l) (.ref l')=R):=hid hR;clear hR;cases R;all_goals
      go_enter func247,ntmps247;go_wp2_with fail;refine HC.out.mono ?_;rintro e w1 ⟨rfl,aC⟩;go_wp2_with fail;go_ret;first
       | exact⟨⟨0,rfl,by rw[HA.out];simp⟩,by first|exact hb|(subst hg;exact hb)|exact hb.trans (aC.mono hb.size)|(subst hg;exact hb.trans (aC.mono hb.size))⟩
       | exact⟨⟨9,rfl,by rw[HA.out];simp⟩,by first|exact hb|(subst hg;exact hb)⟩
       | exact⟨⟨10,rfl,by rw[HA.out];simp⟩,by first|exact hb.trans (aC.mono hb.size)|(subst hg;exact hb.trans (aC.mono hb.size))⟩
end Nf
namespace Nf
open Go.RowKit Go.Shelf
structure Env (w0:World) (d:Po) (L:Lp) (A:Option Addr) (c:Nat) (S:List Sm):Prop where
 s:Schs w0 A S
 p:PolM w0 d L
 sl:S.length≤1000000
 cap:S.length≤c
 m:∀m∈S,MBd m
 pd:PBd d
 words:∀a t fd,findS S d.uses a t=some fd→fd.kind≠0→0<fd.words.length∧fd.words.length≤64
def tyK (S:List Sm) (U:List Bp) (n:Nk):Option Ty:=if n.kind=10 then some .num else if n.kind=11 then some (.word n.name)else(findS S U n.name n.attr).map fun f=>if f.kind=0 then .num else .ref f.words
def ValOut (w0:World) (o:Option Ty) (e:Ending):Prop:=match o with
 | some t=>∃b A n c s,e=.returned (.tuple #[.agg (tyC b A n c s).toArray,.bool true])∧TyIs w0 t b A n c s
 | none=>∃b A n c s,e=.returned (.tuple #[.agg (tyC b A n c s).toArray,.bool false])
theorem value_any {d:Po} {L:Lp} {A:Option Addr} {c:Nat} {S:List Sm} {w0:World} (E:Env w0 d L A c S) (i:Nat) (n:Nk) (hn:d.nodes[i]? =some n) (w:World) (h0:Below w0.heap.size w0 w) :
 Calls prog 209 #[fitV d L A S.length c,.int .i64 (i:Int)] w fun e w'=>ValOut w0 (tyK S d.uses n) e∧Below w.heap.size w w':=by
 obtain⟨ua,uc,ra,rc,na,nc⟩:=L;obtain⟨ad,KA,kc,hA,aP⟩:=E.p.ns.at_ i n hn;change na=some ad at hA;subst hA;have ay:=(List.getElem?_eq_some_iff.1 hn).1;have aM:(i:Int)<(d.nodes.length:Int):=om;have aL:(0:Int)≤(i:Int):=om;have hk:=(((Hp.start w).new 172 (fitC d ⟨ua,uc,ra,rc,some ad,nc⟩ A S.length c)).new 275 (tyC false none 0 0 ⟨#[]⟩)).new 68 (nkcs n KA kc);have hN:=(aP.up h0).up (((Hp.start w).new 172 (fitC d ⟨ua,uc,ra,rc,some ad,nc⟩ A S.length c)).new 275 (tyC false none 0 0 ⟨#[]⟩)).below0;obtain⟨g,hg⟩:∃g,w.heap.size=g:=⟨_,rfl⟩;simp only[sizeA,hg]at hk;have d0:=hN.kind;have d1:=hN.num;have d2:=hN.name;have d3:=hN.attr;have d4:=hN.kids;have d5:=hN.at_;clear hn hN aP ay;go_enter func209,ntmps209;go_upto_region 2 with fail;obtain⟨q,hq⟩:∃f,g+1=f:=⟨_,rfl⟩;obtain⟨h,hh⟩:∃f,q+1=f:=⟨_,rfl⟩;simp only[hq,hh]at hk ⊢;generalize hW:((w.alloc (.cells #[.string d.name,.slice ua d.uses.length uc,.slice ra d.reveal.length rc,.slice (some ad) d.nodes.length nc,.int .i64 d.root,.string d.scope,.int .i64 d.limit,.string d.escrow,.slice A S.length c] 172)).alloc (.cells #[.bool false,.slice none 0 0,.string ⟨#[]⟩] 275)).alloc (.cells #[.int .i64 n.kind,.int .i64 n.num,.string n.name,.string n.attr,.slice KA n.kids.length kc,.int .i64 n.at_] 68)=W1 at *;have ar:Hp [] w [iblk h 68 (nkcs n KA kc),iblk q 275 (tyC false none 0 0 ⟨#[]⟩),iblk g 172 (fitC d ⟨ua,uc,ra,rc,some ad,nc⟩ A S.length c)] W1:=hk;clear hk hW hq hh d0 d1 d2 d3 d4 d5;obtain⟨d0,d1,d2,d3,d4,d5⟩:=Blk.get6 (ar.blk 0 rfl);have HV:Hid (tyK S d.uses n=if n.kind=10 then some .num else if n.kind=11 then some (.word n.name)else(findS S d.uses n.name n.attr).map fun f=>if f.kind=0 then .num else .ref f.words):=Lib.hid rfl;cases an:(n.kind==10)with
 | true =>
   rw[if_pos (by simpa using an)]at HV;go_wp2_with (refine wpList_store_row rfl 275 (.tmp 4) (.tmp 20) rfl q (tyC true none 0 0 ⟨#[]⟩).toArray rfl rfl 275 (tyC false none 0 0 ⟨#[]⟩).toArray (ar.blk 1 rfl) kr kr kr ?_);have bD:=ar.rowAt 1 rfl (tyC true none 0 0 ⟨#[]⟩);have e0:=(bD.blk 1 rfl).cell 0;have e1:=(bD.blk 1 rfl).cell 1;have e2:=(bD.blk 1 rfl).cell 2;simp only[List.getElem?_cons_zero,List.getElem?_cons_succ]at e0 e1 e2;refine bodyPost_ret (v:=.tuple #[.agg (tyC true none 0 0 ⟨#[]⟩).toArray,.bool true]) zyg rfl ?_;have hb:Below w.heap.size w _:=bD.below0;rw[HV.out];refine⟨⟨true,none,0,0,⟨#[]⟩,rfl,.num ..⟩,by first|exact hb|(subst hg;exact hb)⟩
 | false =>
   rw[if_neg (by simpa using an)]at HV;cases ah:(n.kind==11)with
   | true =>
     rw[if_pos (by simpa using ah)]at HV;go_wp2_with (refine wpList_store_row rfl 275 (.tmp 4) (.tmp 25) rfl q (tyC false none 0 0 n.name).toArray rfl rfl 275 (tyC false none 0 0 ⟨#[]⟩).toArray (ar.blk 1 rfl) kr kr kr ?_);have bD:=ar.rowAt 1 rfl (tyC false none 0 0 n.name);have e0:=(bD.blk 1 rfl).cell 0;have e1:=(bD.blk 1 rfl).cell 1;have e2:=(bD.blk 1 rfl).cell 2;simp only[List.getElem?_cons_zero,List.getElem?_cons_succ]at e0 e1 e2;refine bodyPost_ret (v:=.tuple #[.agg (tyC false none 0 0 n.name).toArray,.bool true]) zyg rfl ?_;have hb:Below w.heap.size w _:=bD.below0;rw[HV.out];refine⟨⟨false,none,0,0,n.name,rfl,.word _⟩,by first|exact hb|(subst hg;exact hb)⟩
   | false =>
     rw[if_neg (by simpa using ah)]at HV;have HF:=Lib.hid (find_fit d ⟨ua,uc,ra,rc,some ad,nc⟩ A c S n.name n.attr E.sl (fun m hm=>(E.m m hm).len) E.pd.ul w0 W1 E.s E.p.us (h0.trans (ar.below0.mono h0.size)));have HWD:=Lib.hid (E.words n.name n.attr);obtain⟨c0,c1,c2,c3,c4,c5,c6,c7,c8⟩:=blk9 (ar.blk 2 rfl);clear E;obtain⟨O,hO⟩:∃O,findS S d.uses n.name n.attr=O:=⟨_,rfl⟩;rw[hO]at HV HF HWD;clear hO;go_wp2_with fail;refine HF.out.mono ?_;rintro e w3 ⟨ho,aJ⟩;have aj:=ar.next aJ;clear ar HF aJ c0 c1 c2 c3 c4 c5 c6 c7 c8 d0 d1 d2 d3 d4 d5;cases O with
     | none =>
       obtain rfl:e=_:=ho;have aq:=(aj.new 122 [.int .i64 0,.int .i64 0]).new 57 zFl;simp only[sizeA]at aq;have f0:=(aq.blk 0 rfl).cell 1;have f1:=(aq.blk 0 rfl).cell 4;simp only[List.getElem?_cons_zero,List.getElem?_cons_succ]at f0 f1;clear aj;go_wp2_with (refine wpList_store_row rfl 275 (.tmp 4) (.tmp 42) rfl q (tyC true none 0 0 ⟨#[]⟩).toArray rfl rfl 275 (tyC false none 0 0 ⟨#[]⟩).toArray (aq.blk 3 rfl) kr kr kr ?_);have bD:=aq.rowAt 3 rfl (tyC true none 0 0 ⟨#[]⟩);have e0:=(bD.blk 3 rfl).cell 0;have e1:=(bD.blk 3 rfl).cell 1;have e2:=(bD.blk 3 rfl).cell 2;simp only[List.getElem?_cons_zero,List.getElem?_cons_succ]at e0 e1 e2;refine bodyPost_ret (v:=.tuple #[.agg (tyC true none 0 0 ⟨#[]⟩).toArray,.bool false]) zyg rfl ?_;have hb:Below w.heap.size w _:=bD.below0;rw[HV.out];refine⟨⟨_,_,_,_,_,rfl⟩,by first|exact hb|(subst hg;exact hb)⟩
     | some fd =>
       obtain⟨WA,wc,x,y,h1,hs⟩:=ho;subst h1;have aq:=(aj.new 122 [.int .i64 x,.int .i64 y]).new 57 (fcs fd WA wc);simp only[sizeA]at aq;have f0:=(aq.blk 0 rfl).cell 1;have f1:=(aq.blk 0 rfl).cell 4;simp only[List.getElem?_cons_zero,List.getElem?_cons_succ]at f0 f1;clear aj;cases hz:(fd.kind==0)with
       | true =>
         have HV:Hid (tyK S d.uses n=some .num):=Lib.hid (by rw[HV.out,Option.map_some,if_pos (by simpa using hz)]);go_wp2_with (refine wpList_store_row rfl 275 (.tmp 4) (.tmp 42) rfl q (tyC true WA fd.words.length wc ⟨#[]⟩).toArray rfl rfl 275 (tyC false none 0 0 ⟨#[]⟩).toArray (aq.blk 3 rfl) kr kr kr ?_);have bD:=aq.rowAt 3 rfl (tyC true WA fd.words.length wc ⟨#[]⟩);have e0:=(bD.blk 3 rfl).cell 0;have e1:=(bD.blk 3 rfl).cell 1;have e2:=(bD.blk 3 rfl).cell 2;simp only[List.getElem?_cons_zero,List.getElem?_cons_succ]at e0 e1 e2;refine bodyPost_ret (v:=.tuple #[.agg (tyC true WA fd.words.length wc ⟨#[]⟩).toArray,.bool true]) zyg rfl ?_;have hb:Below w.heap.size w _:=bD.below0;rw[HV.out];refine⟨⟨_,_,_,_,_,rfl,.num ..⟩,by first|exact hb|(subst hg;exact hb)⟩
       | false =>
         have bg:¬fd.kind=0:=by simpa using hz
         have HV:Hid (tyK S d.uses n=some (.ref fd.words)):=Lib.hid (by rw[HV.out,Option.map_some,if_neg bg]);obtain⟨l1,l2⟩:=HWD.out fd rfl bg;obtain⟨wa,rfl,-⟩:=hs.at_ 0 _ (List.getElem?_eq_getElem l1);clear bg l1;go_wp2_with (refine wpList_store_row rfl 275 (.tmp 4) (.tmp 42) rfl q (tyC false (some wa) fd.words.length wc ⟨#[]⟩).toArray rfl rfl 275 (tyC false none 0 0 ⟨#[]⟩).toArray (aq.blk 3 rfl) kr kr kr ?_);have bD:=aq.rowAt 3 rfl (tyC false (some wa) fd.words.length wc ⟨#[]⟩);have e0:=(bD.blk 3 rfl).cell 0;have e1:=(bD.blk 3 rfl).cell 1;have e2:=(bD.blk 3 rfl).cell 2;simp only[List.getElem?_cons_zero,List.getElem?_cons_succ]at e0 e1 e2;refine bodyPost_ret (v:=.tuple #[.agg (tyC false (some wa) fd.words.length wc ⟨#[]⟩).toArray,.bool true]) zyg rfl ?_;have hb:Below w.heap.size w _:=bD.below0;rw[HV.out];refine⟨⟨_,_,_,_,_,rfl,.ref wa fd.words wc hs l2⟩,by first|exact hb|(subst hg;exact hb)⟩
end Nf
namespace Nf
open Go.RowKit Go.Shelf
open Lib (hid)
theorem all_bad2 {α:Type} {p:α→Bool} {l:List α} {i:Nat} {x:α} (h:l[i]? =some x) (hp:p x=true):l.any p=true:=List.any_eq_true.2 ⟨x,List.mem_of_getElem? h,hp⟩
theorem any_take {α:Type} {p:α→Bool} {l:List α} {i:Nat} {x:α} (h:l[i]? =some x):(l.take (i+1)).any p=((l.take i).any p||p x):=by
 rw[zan h,List.any_append];simp
def badF (f:Fd):Bool:=decide (70<f.words.length)||decide (80<f.name.size)
def badM (m:Sm):Bool:=decide (20<m.fields.length)||decide (80<m.name.size)||m.fields.any badF
theorem few11_any (f:Fd) (WA:Option Addr) (c:Nat) (w:World) :
 Calls prog 22 #[.agg (fcs f WA c).toArray] w fun e w'=>e=.returned (.bool (badF f))∧Below w.heap.size w w':=by
 have hk:=(Hp.start w).new 57 (fcs f WA c);have hb:=hk.below0;obtain⟨d0,d1,d2,d3,d4⟩:=Blk.get5 (hk.blk 0 rfl);clear hk;by_cases h1:70<f.words.length
 ·have i1:(70:Int)<(f.words.length:Int):=om;have HV:Hid (badF f=true):=hid (by unfold badF;rw[decide_eq_true h1];rfl);clear h1;exact zt79
 ·have i1:¬(70:Int)<(f.words.length:Int):=om;by_cases h2:80<f.name.size
  ·have i2:(80:Int)<(f.name.size:Int):=om;have HV:Hid (badF f=true):=hid (by unfold badF;rw[decide_eq_true h2,Bool.or_true]);clear h1 h2;exact zt79
  ·have i2:¬(80:Int)<(f.name.size:Int):=om;have HV:Hid (badF f=false):=hid (by unfold badF;rw[decide_eq_false h1,decide_eq_false h2];rfl);clear h1 h2;exact zt79
theorem enters_few11:∀args w,(callFunc 22 args).run prog w=.ok (.enter 22 args) w:=enters_of func22 kr rfl
theorem fewIdxF_any (A:Option Addr) (c:Nat) (l:List Fd) (hl:l.length≤1000000) (W:World) (hx:Flds W A l) :
 Calls prog 64 #[.slice A l.length c,.func (.func 22) #[] #[]] W fun e w'=>(∃y:Int,e=.returned (.int .i64 y)∧(0≤y↔l.any badF=true))∧Below W.heap.size W w':=by
 have gU:=enters_few11;obtain⟨R,hR⟩:∃R,l.any badF=R:=⟨_,rfl⟩;rw[hR];have HR:=hid hR;clear hR;go_enter func64,ntmps64;go_upto_region 2 with fail;go_loopg [8] l.length (fun m s8 wx=>∃i:Nat,i≤l.length∧m=l.length-i∧s8=.int .i64 (i:Int)∧Below W.heap.size W wx∧Hid ((l.take i).any badF=false));case atStart=>exact⟨0,Nat.zero_le _,rfl,rfl,Below.refl _ _,hid rfl⟩
 case round =>
  obtain⟨i,hi,rfl,rfl,hb,HI⟩:=hrel;by_cases ay:i<l.length
  ·have aM:(i:Int)<(l.length:Int):=om;have aL:(0:Int)≤(i:Int):=om;obtain⟨t,ht⟩:∃t,l[i]? =some t:=⟨_,List.getElem?_eq_getElem ay⟩;obtain⟨ad,WA,wc,rfl,dA⟩:=hx.at_ i t ht;have cO:=dA.up hb;have c0:=cO.name;have c1:=cO.kind;have c2:=cO.min;have c3:=cO.max;have c4:=cO.words;have HC:=hid (few11_any t WA wc wr);obtain⟨Q,hQ⟩:∃Q,badF t=Q:=⟨_,rfl⟩;rw[hQ]at HC;cases Q with
   | true =>
     have HM:Hid (R=true):=hid (by rw[←HR.out];exact all_bad2 ht hQ);clear ht hQ;exact zt45
   | false =>
     have ed:Hid ((l.take (i+1)).any badF=false):=hid (by rw[any_take ht,HI.out,hQ];rfl);clear ht hQ;exact zt18
  ·exact zt60
theorem containsF_any (A:Option Addr) (c:Nat) (l:List Fd) (hl:l.length≤1000000) (W:World) (hx:Flds W A l) :
 Calls prog 21 #[.slice A l.length c,.func (.func 22) #[] #[]] W fun e w'=>e=.returned (.bool (l.any badF))∧Below W.heap.size W w':=by
 have HC:=hid (fewIdxF_any A c l hl W hx);obtain⟨R,hR⟩:∃R,l.any badF=R:=⟨_,rfl⟩;rw[hR]at HC ⊢;clear hR;go_enter func21,ntmps21;go_wp2_with fail;refine HC.out.mono ?_;rintro e w1 ⟨⟨y,rfl,hy⟩,hb⟩;by_cases h:0≤y
 ·exact zt49
 ·exact zt54
theorem few1_any (m:Sm) (FA:Option Addr) (c:Nat) (w:World) (hF:Flds w FA m.fields) :
 Calls prog 20 #[smV m FA c] w fun e w'=>e=.returned (.bool (badM m))∧Below w.heap.size w w':=by
 have hk:=(Hp.start w).new 53 [.string m.name,.slice FA m.fields.length c];have hb:=hk.below0;have d0:=(hk.blk 0 rfl).cell 0;have d1:=(hk.blk 0 rfl).cell 1;simp only[List.getElem?_cons_zero,List.getElem?_cons_succ]at d0 d1;by_cases h1:20<m.fields.length
 ·have i1:(20:Int)<(m.fields.length:Int):=om;have HV:Hid (badM m=true):=hid (by unfold badM;rw[decide_eq_true h1];rfl);clear h1 hk;go_enter func20,ntmps20;go_wp2_with fail;go_ret;exact zvo
 ·have i1:¬(20:Int)<(m.fields.length:Int):=om;by_cases h2:80<m.name.size
  ·have i2:(80:Int)<(m.name.size:Int):=om;have HV:Hid (badM m=true):=hid (by unfold badM;rw[decide_eq_true h2,Bool.or_true];rfl);clear h1 h2 hk;go_enter func20,ntmps20;go_wp2_with fail;go_ret;exact zvo
  ·have i2:¬(80:Int)<(m.name.size:Int):=om;have HC:=hid (containsF_any FA c m.fields om _ (hF.up hb));have HV:Hid (badM m=m.fields.any badF):=hid (by unfold badM;rw[decide_eq_false h1,decide_eq_false h2];rfl);generalize m.fields.any badF=R at *;clear h1 h2 hk;go_enter func20,ntmps20;go_wp2_with fail;refine HC.out.mono ?_;rintro e w1 ⟨rfl,aC⟩;go_wp2_with fail;go_ret;exact⟨za9 zy6,hb.trans (aC.mono hb.size)⟩
theorem enters_few1:∀args w,(callFunc 20 args).run prog w=.ok (.enter 20 args) w:=enters_of func20 kr rfl
theorem fewIdxS_any (A:Option Addr) (c:Nat) (l:List Sm) (hl:l.length≤1000000) (W:World) (hx:Schs W A l) :
 Calls prog 63 #[.slice A l.length c,.func (.func 20) #[] #[]] W fun e w'=>(∃y:Int,e=.returned (.int .i64 y)∧(0≤y↔l.any badM=true))∧Below W.heap.size W w':=by
 have gU:=enters_few1;obtain⟨R,hR⟩:∃R,l.any badM=R:=⟨_,rfl⟩;rw[hR];have HR:=hid hR;clear hR;go_enter func63,ntmps63;go_upto_region 2 with fail;go_loopg [8] l.length (fun m s8 wx=>∃i:Nat,i≤l.length∧m=l.length-i∧s8=.int .i64 (i:Int)∧Below W.heap.size W wx∧Hid ((l.take i).any badM=false));case atStart=>exact⟨0,Nat.zero_le _,rfl,rfl,Below.refl _ _,hid rfl⟩
 case round =>
  obtain⟨i,hi,rfl,rfl,hb,HI⟩:=hrel;by_cases ay:i<l.length
  ·have aM:(i:Int)<(l.length:Int):=om;have aL:(0:Int)≤(i:Int):=om;obtain⟨t,ht⟩:∃t,l[i]? =some t:=⟨_,List.getElem?_eq_getElem ay⟩;obtain⟨ad,FA,fc,rfl,c0,c1,lJ⟩:=(hx.up hb).at_ i t ht;have HC:=hid (few1_any t FA fc wr lJ);obtain⟨Q,hQ⟩:∃Q,badM t=Q:=⟨_,rfl⟩;rw[hQ]at HC;cases Q with
   | true =>
     have HM:Hid (R=true):=hid (by rw[←HR.out];exact all_bad2 ht hQ);clear ht hQ;exact zt45
   | false =>
     have ed:Hid ((l.take (i+1)).any badM=false):=hid (by rw[any_take ht,HI.out,hQ];rfl);clear ht hQ;exact zt18
  ·exact zt60
theorem containsS_any (A:Option Addr) (c:Nat) (l:List Sm) (hl:l.length≤1000000) (W:World) (hx:Schs W A l) :
 Calls prog 19 #[.slice A l.length c,.func (.func 20) #[] #[]] W fun e w'=>e=.returned (.bool (l.any badM))∧Below W.heap.size W w':=by
 have HC:=hid (fewIdxS_any A c l hl W hx);obtain⟨R,hR⟩:∃R,l.any badM=R:=⟨_,rfl⟩;rw[hR]at HC ⊢;clear hR;go_enter func19,ntmps19;go_wp2_with fail;refine HC.out.mono ?_;rintro e w1 ⟨⟨y,rfl,hy⟩,hb⟩;by_cases h:0≤y
 ·exact zt49
 ·exact zt54
def fewS (S:List Sm):Bool:=decide (S.length≤8)&& !(S.any badM)
theorem fewS_bd {S:List Sm} (h:fewS S=true):S.length≤8∧∀m∈S,MBd m:=by
 unfold fewS at h;simp only[Bool.and_eq_true,decide_eq_true_eq,Bool.not_eq_true']at h;refine⟨h.1,fun m hm=>?_⟩;have h2:badM m=false:=by
  rw[Bool.eq_false_iff];intro e;have:=List.any_eq_true.2 ⟨m,hm,e⟩;rw[h.2]at this;cases this
 unfold badM at h2;simp only[Bool.or_eq_false_iff,decide_eq_false_iff_not]at h2;refine⟨by omega,by omega,fun f hf=>?_⟩;have h3:badF f=false:=by
  rw[Bool.eq_false_iff];intro e;have:=List.any_eq_true.2 ⟨f,hf,e⟩;rw[h2.2]at this;cases this
 unfold badF at h3;simp only[Bool.or_eq_false_iff,decide_eq_false_iff_not]at h3;exact⟨by omega,by omega⟩
end Nf
end Go.Proofs.YtekkapgknohadaaGreatDoor
