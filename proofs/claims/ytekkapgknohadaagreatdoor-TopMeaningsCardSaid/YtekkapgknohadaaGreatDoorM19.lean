/- Schemas in memory; typing: named, find, ready. -/
import Derived.Test.YtekkapgknohadaaGreatDoorM18
import Derived.Test.YtekkapgknohadaaGreatDoorM4
set_option linter.unusedVariables false
set_option maxRecDepth 20000
set_option maxHeartbeats 16000000
open Go.Proofs.Tryz
namespace Go.Proofs.YtekkapgknohadaaGreatDoor
section
open Go.RowKit
theorem tk2 (i:Nat) {P:Program} {ops:Array Oper} {Q:Exit→Act→World→Prop} {md:Region.Mode} {S:World→Prop} {oi:Oper} {v:Value} {fuel:Nat} {listed:Array Bool} {a:Act} {w:World} (hi:ops[i]?=some oi) (h:wpAnyH P md ops Q S fuel (listed.setIfInBounds i true) (a.put oi.dst v) w) (hs:Region.noSelect ops=true:=by kernel_rfl) (hf:Region.free md ops listed i=true:=by kernel_rfl) (hr:(Region.ready md ops listed).contains i=true:=by kernel_rfl) (hQ:∀ c a w,Q (.panic c) (a.put oi.dst v) w→Q (.panic c) a w:=by exact fun _ _ _ h=>h) (hS:S w:=by assumption) (hy:YieldsIf P ops S oi v a:=by exact Or.inl ⟨by rfl,by (intro w hSw; (try dsimp only at hSw); (try obtain ⟨hSw1,hSw2⟩:=hSw); go_simp; (try with_reducible rfl))⟩):wpAnyH P md ops Q S (fuel + 1) listed a w:=wpAnyH_take hi hs hf hr hQ hy hS h
end
namespace Nf
open Go.RowKit Go.Shelf
open Lib (hid)
structure Schs (W:World) (A:Option Addr) (S:List Sm):Prop where
 at_:∀i m,S[i]? =some m→∃ad FA c,A=some ad∧W.cell? (ad.add (i*2))=some (.string m.name)∧W.cell? ⟨(ad.add (i*2)).block,(ad.add (i*2)).off+1,none⟩=some (.slice FA m.fields.length c)∧Flds W FA m.fields
theorem Schs.up {W W':World} {A:Option Addr} {S:List Sm} (h:Schs W A S) (hb:Below W.heap.size W W'):Schs W' A S:=⟨fun i m hm=>by
 obtain⟨ad,FA,c,h1,h2,h3,h4⟩:=h.at_ i m hm;exact⟨ad,FA,c,h1,zaa h2 hb,zaa h3 hb,h4.up hb⟩⟩
theorem Schs.take {W:World} {A:Option Addr} {S:List Sm} (h:Schs W A S) (n:Nat):Schs W A (S.take n):=⟨fun i m hm=>h.at_ i m (by
 rw[List.getElem?_take]at hm;split at hm
 ·exact hm
 ·cases hm)⟩
structure MBd (m:Sm):Prop where
 name:m.name.size≤1000000
 len:m.fields.length≤1000000
 fld:∀f∈m.fields,FBd f
theorem MBd.sbd {m:Sm} (h:MBd m):SBd m.name m.fields:=⟨h.name,h.len,h.fld⟩
abbrev zS:List Value:=[.string ⟨#[]⟩,.slice none 0 0]
abbrev smV (m:Sm) (FA:Option Addr) (c:Nat):Value:=.agg #[.string m.name,.slice FA m.fields.length c]
def NamedOut (w0:World) (o:Option Sm) (e:Ending):Prop:=match o with
 | some m=>∃FA c,e=.returned (.tuple #[smV m FA c,.bool true])∧Flds w0 FA m.fields
 | none=>e=.returned (.tuple #[.agg zS.toArray,.bool false])
theorem find_take {α:Type} {p:α→Bool} {l:List α} {i:Nat} {x:α} (h:l[i]? =some x) (hn:(l.take i).find? p=none):(if p x then l.find? p=some x else(l.take (i+1)).find? p=none):=by
 have e:l=l.take i++x::l.drop (i+1):=by rw[←zcu h,List.take_append_drop]
 split
 ·rename_i hp;rw[e,List.find?_append,hn,List.find?_cons_of_pos hp];rfl
 ·rename_i hp;rw[zan h,List.find?_append,hn,List.find?_cons_of_neg hp];rfl
theorem zbq (A:Option Addr) (c:Nat) (S:List Sm) (s:ByteArray) (hL:S.length≤1000000) (w0 w:World) (hS:Schs w0 A S) (h0:Below w0.heap.size w0 w) :
 Calls prog 154 #[.slice A S.length c,.string s] w fun e w'=>NamedOut w0 (zaq S s) e∧Below w.heap.size w w':=by
 have hk:=(Hp.start w).new 53 zS;obtain⟨g,hg⟩:∃g,w.heap.size=g:=⟨_,rfl⟩;rw[hg]at hk;go_enter func154,ntmps154;go_upto_region 2 with fail;try simp only[hg]
 have ar:Hp [] w [iblk g 53 zS] (w.alloc (.cells #[.string ⟨#[]⟩,.slice none 0 0] 53)):=hk;clear hk;generalize w.alloc (.cells #[.string ⟨#[]⟩,.slice none 0 0] 53)=W1 at *;go_loopg [10] S.length (fun m fu wx=>∃i:Nat,i≤S.length∧m=S.length-i∧fu=.int .i64 (i:Int)∧Hp [] w [iblk g 53 zS] wx∧Hid (zaq (S.take i) s=none));case atStart=>exact⟨0,Nat.zero_le _,rfl,rfl,ar,hid rfl⟩
 case round =>
  obtain⟨i,hi,rfl,rfl,hM,HE⟩:=hrel;clear ar;by_cases ay:i<S.length
  ·have aM:(i:Int)<(S.length:Int):=om;have aL:(0:Int)≤(i:Int):=om;obtain⟨m,hm⟩:∃m,S[i]? =some m:=⟨_,List.getElem?_eq_getElem ay⟩;obtain⟨ad,FA,fc,rfl,c0,c1,hF⟩:=hS.at_ i m hm;replace c0:=zaa (zaa c0 h0) hM.below0;replace c1:=zaa (zaa c1 h0) hM.below0;have HT:=hid (find_take (p:=fun(m:Sm)=>decide (m.name=s)) hm HE.out);have aA:=hM.new 53 [.string m.name,.slice FA m.fields.length fc];have eX:=@strs_eq m.name s;clear hm HE;go_upto_region 4 with fail;generalize wr.alloc (.cells #[.string m.name,.slice FA m.fields.length fc] 53)=W2 at *;generalize wr.heap.size=g2 at *;have d0:=(aA.blk 0 rfl).cell 0;have d1:=(aA.blk 0 rfl).cell 1;simp only[List.getElem?_cons_zero,List.getElem?_cons_succ]at d0 d1;clear c0 c1 hM;by_cases hq:m.name=s
   ·rw[decide_eq_true hq]at eX;rw[if_pos (by simpa using hq)]at HT;clear hq;go_wp2_with (refine wpList_store_row rfl 53 (.tmp 4) (.tmp 18) rfl g [.string m.name,.slice FA m.fields.length fc].toArray rfl rfl 53 zS.toArray (aA.blk 1 rfl) kr kr kr ?_);have az:=aA.rowAt 1 rfl [.string m.name,.slice FA m.fields.length fc];have e0:=(az.blk 1 rfl).cell 0;have e1:=(az.blk 1 rfl).cell 1;simp only[List.getElem?_cons_zero,List.getElem?_cons_succ]at e0 e1;refine bodyPost_ret (v:=.tuple #[smV m FA fc,.bool true]) (by simp[results,go_sem,e0,e1]) rfl ?_;have e:zaq S s=some m:=HT.out;rw[e];have hb:Below w.heap.size w _:=az.below0;exact⟨⟨FA,fc,rfl,hF⟩,by first|exact hb|(subst hg;exact hb)⟩
   ·rw[decide_eq_false hq]at eX;rw[if_neg (by simpa using hq)]at HT;clear hq;exact zt68
  ·have aM:¬(i:Int)<(S.length:Int):=om;have HR:Hid (zaq S s=none):=hid (by rw[←HE.out,List.take_of_length_le om]);clear HE;go_wp2_with (refine wpList_store_row rfl 53 (.tmp 4) (.tmp 20) rfl g zS.toArray rfl rfl 53 zS.toArray (hM.blk 0 rfl) kr kr kr ?_);have az:=hM.rowAt 0 rfl zS;have e0:=(az.blk 0 rfl).cell 0;have e1:=(az.blk 0 rfl).cell 1;simp only[List.getElem?_cons_zero,List.getElem?_cons_succ]at e0 e1;refine bodyPost_ret (v:=.tuple #[.agg zS.toArray,.bool false]) (by simp[results,go_sem,e0,e1]) rfl ?_;rw[HR.out];exact⟨rfl,by first|exact az.below0|(subst hg;exact az.below0)⟩
abbrev zFl:List Value:=[.string ⟨#[]⟩,.int .i64 0,.int .i64 0,.int .i64 0,.slice none 0 0]
abbrev fitV (d:Po) (L:Lp) (A:Option Addr) (n c:Nat):Value:=.agg #[.string d.name,.slice L.ua d.uses.length L.uc,.slice L.ra d.reveal.length L.rc,.slice L.na d.nodes.length L.nc,.int .i64 d.root,.string d.scope,.int .i64 d.limit,.string d.escrow,.slice A n c]
abbrev fitC (d:Po) (L:Lp) (A:Option Addr) (n c:Nat):List Value:=[.string d.name,.slice L.ua d.uses.length L.uc,.slice L.ra d.reveal.length L.rc,.slice L.na d.nodes.length L.nc,.int .i64 d.root,.string d.scope,.int .i64 d.limit,.string d.escrow,.slice A n c]
abbrev plV (x y:Int):Value:=.agg #[.int .i64 x,.int .i64 y]
def FindOut (w0:World) (o:Option Fd) (e:Ending):Prop:=match o with
 | some f=>∃WA wc x y,e=.returned (.tuple #[plV x y,.agg (fcs f WA wc).toArray,.bool true])∧Strs w0 WA f.words
 | none=>e=.returned (.tuple #[plV 0 0,.agg zFl.toArray,.bool false])
def AtF (S:List Sm) (U:List Bp) (a t:ByteArray) (u k:Nat):Prop:=∃s m,U[u]? =some (a,s)∧(U.take u).find? (fun x=>decide (x.1=a))=none∧zaq S s=some m∧findF m.fields t=some k
def FindOutP (S:List Sm) (U:List Bp) (a t:ByteArray) (w0:World) (o:Option Fd) (e:Ending):Prop:=match o with
 | some f=>∃WA wc,∃u k:Nat,AtF S U a t u k∧e=.returned (.tuple #[plV (u:Int) ((k:Int)+2),.agg (fcs f WA wc).toArray,.bool true])∧Strs w0 WA f.words
 | none=>e=.returned (.tuple #[plV 0 0,.agg zFl.toArray,.bool false])
theorem FindOutP.weak {S:List Sm} {U:List Bp} {a t:ByteArray} {w0:World} {o:Option Fd} {e:Ending} (h:FindOutP S U a t w0 o e):FindOut w0 o e:=by
 cases o with
 | none=>exact h
 | some f =>
   obtain⟨WA,wc,u,k,-,h1,h2⟩:=h;exact⟨WA,wc,_,_,h1,h2⟩
theorem findF_at:∀(l:List Fd) (s:ByteArray),l.find? (fun f=>decide (f.name=s))=(findF l s).bind fun k=>l[k]?
 | [],s=>rfl
 | f::l,s=>by
   rw[findF];by_cases h:f.name=s
   ·rw[List.find?_cons_of_pos zyc,if_pos h];rfl
   ·rw[List.find?_cons_of_neg zyc,if_neg h,findF_at l s];cases findF l s<;>simp
theorem blk9 {w:World} {g:Nat} {t:TypeId} {a b c d e f i j k:Value} (h:Blk w g t [a,b,c,d,e,f,i,j,k]):w.cell? ⟨g,0,none⟩=some a∧w.cell? ⟨g,1,none⟩=some b∧w.cell? ⟨g,2,none⟩=some c∧w.cell? ⟨g,3,none⟩=some d∧w.cell? ⟨g,4,none⟩=some e∧w.cell? ⟨g,5,none⟩=some f∧w.cell? ⟨g,6,none⟩=some i∧w.cell? ⟨g,7,none⟩=some j∧w.cell? ⟨g,8,none⟩=some k :=
 ⟨h.cell 0,h.cell 1,h.cell 2,h.cell 3,h.cell 4,h.cell 5,h.cell 6,h.cell 7,h.cell 8⟩
theorem find_fitP (d:Po) (L:Lp) (A:Option Addr) (c:Nat) (S:List Sm) (a t:ByteArray) (hL:S.length≤1000000) (hM:∀m∈S,m.fields.length≤1000000) (hU:d.uses.length≤1000000) (w0 w:World) (hS:Schs w0 A S) (hP:Prs w0 L.ua d.uses) (h0:Below w0.heap.size w0 w) :
 Calls prog 88 #[fitV d L A S.length c,.agg #[.string a,.string t]] w fun e w'=>FindOutP S d.uses a t w0 (findS S d.uses a t) e∧Below w.heap.size w w':=by
 have hk:=((((Hp.start w).new 172 (fitC d L A S.length c)).new 89 [.string a,.string t]).new 122 [.int .i64 0,.int .i64 0]).new 57 zFl;obtain⟨g,hg⟩:∃g,w.heap.size=g:=⟨_,rfl⟩;simp only[sizeA,hg]at hk;go_enter func88,ntmps88;go_upto_region 1 with fail;obtain⟨r,hr⟩:∃f,g+1=f:=⟨_,rfl⟩;obtain⟨p,hp⟩:∃f,r+1=f:=⟨_,rfl⟩;obtain⟨f,hf⟩:∃f,p+1=f:=⟨_,rfl⟩;simp only[hf,hp,hr]at hk ⊢;generalize hW:(((w.alloc (.cells #[.string d.name,.slice L.ua d.uses.length L.uc,.slice L.ra d.reveal.length L.rc,.slice L.na d.nodes.length L.nc,.int .i64 d.root,.string d.scope,.int .i64 d.limit,.string d.escrow,.slice A S.length c] 172)).alloc (.cells #[.string a,.string t] 89)).alloc (.cells #[.int .i64 0,.int .i64 0] 122)).alloc (.cells #[.string ⟨#[]⟩,.int .i64 0,.int .i64 0,.int .i64 0,.slice none 0 0] 57)=W1 at *;have ar:Hp [] w [iblk f 57 zFl,iblk p 122 [.int .i64 0,.int .i64 0],iblk r 89 [.string a,.string t],iblk g 172 (fitC d L A S.length c)] W1:=hk;clear hk hW hf hp hr;obtain⟨c0,c1,c2,c3,c4,c5,c6,c7,c8⟩:=blk9 (ar.blk 3 rfl);go_upto_region 2 with fail;clear c0 c1 c2 c3 c4 c5 c6 c7 c8;go_loopg [17] d.uses.length (fun m kh wx=>∃i:Nat,i≤d.uses.length∧m=d.uses.length-i∧kh=.int .i64 (i:Int)∧Hp [] w [iblk f 57 zFl,iblk p 122 [.int .i64 0,.int .i64 0],iblk r 89 [.string a,.string t],iblk g 172 (fitC d L A S.length c)] wx∧Hid ((d.uses.take i).find? (fun u=>decide (u.1=a))=none));case atStart=>exact⟨0,Nat.zero_le _,rfl,rfl,ar,hid rfl⟩
 case round =>
  obtain⟨i,hi,rfl,rfl,hK,HE⟩:=hrel;clear ar;by_cases ay:i<d.uses.length
  ·have aM:(i:Int)<(d.uses.length:Int):=om;have aL:(0:Int)≤(i:Int):=om;obtain⟨⟨x1,x2⟩,hx⟩:∃x,d.uses[i]? =some x:=⟨_,List.getElem?_eq_getElem ay⟩;obtain⟨ad,hA,ca,cb⟩:=(((hP.up h0).up hK.below0).at_ i _ hx);have HT:=hid (find_take (p:=fun(u:Bp)=>decide (u.1=a)) hx HE.out);obtain⟨c0,c1,c2,c3,c4,c5,c6,c7,c8⟩:=blk9 (hK.blk 3 rfl);rw[hA]at c1;simp only at ca cb;have aA:=hK.new 50 [.string x1,.string x2];have eX:=@strs_eq x1 a;have HX:=hid (And.intro hx HE.out);clear hx HE;go_upto_region 4 with fail;generalize wr.alloc (.cells #[.string x1,.string x2] 50)=W2 at *;generalize wr.heap.size=g2 at *;clear hK ca cb c0 c1 c2 c3 c4 c5 c6 c7 c8;obtain⟨c0,c1,c2,c3,c4,c5,c6,c7,c8⟩:=blk9 (aA.blk 4 rfl);have r0:=(aA.blk 3 rfl).cell 0;have r1:=(aA.blk 3 rfl).cell 1;have v0:=(aA.blk 0 rfl).cell 0;have v1:=(aA.blk 0 rfl).cell 1;simp only[List.getElem?_cons_zero,List.getElem?_cons_succ]at r0 r1 v0 v1;by_cases hq:x1=a
   ·rw[decide_eq_true hq]at eX;rw[if_pos (by simpa using hq)]at HT;have kR:Hid (d.uses[i]? =some (a,x2)∧(d.uses.take i).find? (fun u=>decide (u.1=a))=none):=hid ⟨by rw[←hq];exact HX.out.1,HX.out.2⟩;clear hq HX;have HT:Hid (d.uses.find? (fun u=>decide (u.1=a))=some (x1,x2)):=HT;have HN:=hid (zbq A c S x2 hL w0 W2 hS (h0.trans (aA.below0.mono h0.size)));have HF:Hid (findS S d.uses a t=match zaq S x2 with|none=>none|some m=>m.fields.find? fun f=>decide (f.name=t)):=hid (by unfold findS;rw[HT.out];rfl);cases hn:zaq S x2 with
    | none =>
      rw[hn]at HN HF;go_wp2_with fail;refine HN.out.mono ?_;rintro e w3 ⟨h1,aJ⟩;obtain rfl:e=_:=h1;have az:=aA.next aJ;have aR:=az.new 53 zS;clear HN aA aJ c0 c1 c2 c3 c4 c5 c6 c7 c8 r0 r1 v0 v1 hn;have HR:=HF;go_wp2_with (first|(refine wpList_store_row rfl 122 (.tmp 4) (.tmp 55) rfl p [.int .i64 0,.int .i64 0].toArray rfl rfl 122 [.int .i64 0,.int .i64 0].toArray (aR.blk 3 rfl) kr kr kr ?_)|(refine wpList_store_row rfl 57 (.tmp 5) (.tmp 56) rfl f zFl.toArray rfl rfl 57 zFl.toArray ((aR.rowAt 3 rfl [.int .i64 0,.int .i64 0]).blk 2 rfl) kr kr kr ?_));have bD:=(aR.rowAt 3 rfl [.int .i64 0,.int .i64 0]).rowAt 2 rfl zFl;exact zt94
    | some m =>
      rw[hn]at HN HF;have HN9:=hid hn;have oD:=hM m (by unfold zaq at hn;exact List.mem_of_find?_eq_some hn);have HF:Hid (findS S d.uses a t=m.fields.find? fun f=>decide (f.name=t)):=HF;rw[findF_at]at HF;go_wp2_with fail;refine HN.out.mono ?_;rintro e w3 ⟨⟨FA,fc,h1,iW⟩,aJ⟩;obtain rfl:e=_:=h1;have az:=aA.next aJ;have aR:=az.new 53 [.string m.name,.slice FA m.fields.length fc];clear HN aA aJ c0 c1 c2 c3 c4 c5 c6 c7 c8 r0 r1 v0 v1 hn;go_upto_region 7 with fail;generalize w3.alloc (.cells #[.string m.name,.slice FA m.fields.length fc] 53)=W4 at *;generalize w3.heap.size=g4 at *;have r1:=(aR.blk 4 rfl).cell 1;have s0:=(aR.blk 0 rfl).cell 0;have s1:=(aR.blk 0 rfl).cell 1;simp only[List.getElem?_cons_zero,List.getElem?_cons_succ]at r1 s0 s1;have HG:=hid (find_any m.name t FA fc m.fields oD W4 (iW.up (h0.trans (aR.below0.mono h0.size))));have HV:Hid (findV m.fields t=match findF m.fields t with|some k=>.tuple #[.int .i64 (k:Int),.bool true]|none=>.tuple #[.int .i64 0,.bool false]):=hid rfl;cases hf:findF m.fields t with
      | none =>
        rw[hf]at HF HV;rw[HV.out]at HG;have HR:Hid (findS S d.uses a t=none):=HF;go_wp2_with fail;refine HG.out.mono ?_;rintro e w5 ⟨rfl,aS⟩;have bE:=aR.next aS;clear HG aR az aS r1 s0 s1 hf HV;go_wp2_with (first|(refine wpList_store_row rfl 122 (.tmp 4) (.tmp 55) rfl p [.int .i64 0,.int .i64 0].toArray rfl rfl 122 [.int .i64 0,.int .i64 0].toArray (bE.blk 3 rfl) kr kr kr ?_)|(refine wpList_store_row rfl 57 (.tmp 5) (.tmp 56) rfl f zFl.toArray rfl rfl 57 zFl.toArray ((bE.rowAt 3 rfl [.int .i64 0,.int .i64 0]).blk 2 rfl) kr kr kr ?_));have bD:=(bE.rowAt 3 rfl [.int .i64 0,.int .i64 0]).rowAt 2 rfl zFl;exact zt94
      | some k =>
        obtain⟨bk,⟨fd,bJ,-⟩,-⟩:=find_lt _ _ _ hf;rw[hf]at HF HV;rw[HV.out]at HG;have eh:Hid (AtF S d.uses a t i k):=hid ⟨x2,m,kR.out.1,kR.out.2,HN9.out,hf⟩;have HR:Hid (findS S d.uses a t=some fd):=hid (by rw[HF.out,Option.bind_some,bJ]);have ar:(0:Int)≤(k:Int):=om;have hki:(k:Int)<(m.fields.length:Int):=om;go_wp2_with fail;refine HG.out.mono ?_;rintro e w5 ⟨rfl,aS⟩;have bE:=aR.next aS;obtain⟨fad,WA,wc,rfl,dA⟩:=iW.at_ k fd bJ;have cO:=(dA.up h0).up bE.below0;have HW:=hid dA.strs;clear HG aR az aS r1 s0 s1 hf HV bJ;go_upto_region 9 with fail;have s1:=(bE.blk 0 rfl).cell 1;simp only[List.getElem?_cons_zero,List.getElem?_cons_succ]at s1;have d0:=cO.name;have d1:=cO.kind;have d2:=cO.min;have d3:=cO.max;have d4:=cO.words;have fq:IntKind.i64.wrap ((k:Int)+2)=(k:Int)+2:=IntWalk.i64_in _ om;have hD:=bE.drew;refine wp_region_held_drew (S:=(fun w'=>w'.cell? ⟨g4,1,none⟩=some (.slice (some fad) m.fields.length fc)∧FieldAt w' (fad.add (k*5)) fd WA wc)) kr ?_ (fun ae=>?_)
        ·exact⟨s1,(dA.up h0).up hD.below0⟩
        refine tkW 0 (v:=?_) rfl (Or.inl ⟨by rfl,?_⟩) ?_;rotate_left
        ·(intro w bf;(try dsimp only at bf);(obtain⟨q0,q9⟩:=bf;have q1:=q9.name;have q2:=q9.kind;have q3:=q9.min;have q4:=q9.max;have q5:=q9.words);go_simp;(try with_reducible rfl))
        refine zvr ?_;refine tkW 1 (v:=?_) rfl (Or.inl ⟨by rfl,?_⟩) ?_;rotate_left
        ·(intro w bf;(try dsimp only at bf);(obtain⟨q0,q9⟩:=bf;have q1:=q9.name;have q2:=q9.kind;have q3:=q9.min;have q4:=q9.max;have q5:=q9.words);go_simp;(try with_reducible rfl))
        refine zvq ?_;refine tkW 2 (v:=?_) rfl (Or.inl ⟨by rfl,?_⟩) ?_;rotate_left
        ·(intro w bf;(try dsimp only at bf);(obtain⟨q0,q9⟩:=bf;have q1:=q9.name;have q2:=q9.kind;have q3:=q9.min;have q4:=q9.max;have q5:=q9.words);go_simp;(try with_reducible rfl))
        refine zvq ?_;refine tkW 3 (v:=?_) rfl (Or.inl ⟨by rfl,?_⟩) ?_;rotate_left
        ·(intro w bf;(try dsimp only at bf);(obtain⟨q0,q9⟩:=bf;have q1:=q9.name;have q2:=q9.kind;have q3:=q9.min;have q4:=q9.max;have q5:=q9.words);go_simp;(try with_reducible rfl))
        refine zvq ?_;refine tkW 4 (v:=?_) rfl (Or.inl ⟨by rfl,?_⟩) ?_;rotate_left
        ·(intro w bf;(try dsimp only at bf);(obtain⟨q0,q9⟩:=bf;have q1:=q9.name;have q2:=q9.kind;have q3:=q9.min;have q4:=q9.max;have q5:=q9.words);go_simp;(try with_reducible rfl))
        refine zvq ?_;refine tkW 5 (v:=?_) rfl (Or.inl ⟨by rfl,?_⟩) ?_;rotate_left
        ·(intro w bf;(try dsimp only at bf);(obtain⟨q0,q9⟩:=bf;have q1:=q9.name;have q2:=q9.kind;have q3:=q9.min;have q4:=q9.max;have q5:=q9.words);go_simp;(try with_reducible rfl))
        refine zvq ?_;refine tkW 6 (v:=?_) rfl (Or.inl ⟨by rfl,?_⟩) ?_;rotate_left
        ·(intro w bf;(try dsimp only at bf);(obtain⟨q0,q9⟩:=bf;have q1:=q9.name;have q2:=q9.kind;have q3:=q9.min;have q4:=q9.max;have q5:=q9.words);go_simp;(try with_reducible rfl))
        refine zvq ?_;refine tkW 7 (v:=?_) rfl (Or.inl ⟨by rfl,?_⟩) ?_;rotate_left
        ·(intro w bf;(try dsimp only at bf);(obtain⟨q0,q9⟩:=bf;have q1:=q9.name;have q2:=q9.kind;have q3:=q9.min;have q4:=q9.max;have q5:=q9.words);go_simp;(try with_reducible rfl))
        refine zvq ?_;refine tkW 8 (v:=?_) rfl (Or.inl ⟨by rfl,?_⟩) ?_;rotate_left
        ·(intro w bf;(try dsimp only at bf);(obtain⟨q0,q9⟩:=bf;have q1:=q9.name;have q2:=q9.kind;have q3:=q9.min;have q4:=q9.max;have q5:=q9.words);go_simp;(try with_reducible rfl))
        refine zvq ?_;refine tkO 9 rfl fun K hK=>?_;rw[if_pos rr];refine wp_store_row 122 (.tmp 4) (.tmp 48) rr p [.int .i64 (i:Int),.int .i64 ((k:Int)+2)].toArray rr rr 122 [.int .i64 0,.int .i64 0].toArray (hD.blk 3 rfl) kr kr kr ?_;have eN:=hD.rowAt 3 rfl [.int .i64 (i:Int),.int .i64 ((k:Int)+2)];refine hK.out _ _ ⟨(eN.blk 0 rfl).cell 1,(dA.up h0).up eN.below0⟩ fun ae=>?_;clear hK K;refine tkO 10 rfl fun K hK=>?_;rw[if_pos rr];refine wp_store_row 57 (.tmp 5) (.tmp 53) rr f (fcs fd WA wc).toArray rr rr 57 zFl.toArray (eN.blk 2 rfl) kr kr kr ?_;have eG:=eN.rowAt 2 rfl (fcs fd WA wc);refine hK.out _ _ ⟨(eG.blk 0 rfl).cell 1,(dA.up h0).up eG.below0⟩ fun ae=>?_;clear hK K;refine tkW 11 (v:=?_) rfl (Or.inl ⟨by rfl,?_⟩) ?_;rotate_left
        ·(intro w bf;(try dsimp only at bf);(obtain⟨q0,q9⟩:=bf;have q1:=q9.name;have q2:=q9.kind;have q3:=q9.min;have q4:=q9.max;have q5:=q9.words);go_simp;(try with_reducible rfl))
        refine zvq ?_;refine wpAnyH_done kr ?_ _;go_wp2_with fail;have e0:=(eG.blk 3 rfl).cell 0;have e1:=(eG.blk 3 rfl).cell 1;obtain⟨f0,f1,f2,f3,f4⟩:=Blk.get5 (eG.blk 2 rfl);simp only[List.getElem?_cons_zero,List.getElem?_cons_succ]at e0 e1;refine bodyPost_ret (v:=.tuple #[plV i (k+2),.agg (fcs fd WA wc).toArray,.bool true]) zyh rfl ?_;rw[HR.out];have hb:Below w.heap.size w _:=eG.below0;exact⟨⟨WA,wc,i,k,eh.out,rfl,HW.out⟩,by first|exact hb|(subst hg;exact hb)⟩
   ·rw[decide_eq_false hq]at eX;rw[if_neg (by simpa using hq)]at HT;clear hq;go_wp2_with fail;go_roundg (d.uses.length-(i+1));case measure=>omega
    case rel=>exact⟨i+1,ay,rfl,by first|rfl|simp,aA.tail,HT⟩
  ·have aM:¬(i:Int)<(d.uses.length:Int):=om;have HR:Hid (findS S d.uses a t=none):=hid (by unfold findS;have:=HE.out;rw[List.take_of_length_le om]at this;rw[this]);clear HE;go_wp2_with (first|(refine wpList_store_row rfl 122 (.tmp 4) (.tmp 55) rfl p [.int .i64 0,.int .i64 0].toArray rfl rfl 122 [.int .i64 0,.int .i64 0].toArray (hK.blk 1 rfl) kr kr kr ?_)|(refine wpList_store_row rfl 57 (.tmp 5) (.tmp 56) rfl f zFl.toArray rfl rfl 57 zFl.toArray ((hK.rowAt 1 rfl [.int .i64 0,.int .i64 0]).blk 0 rfl) kr kr kr ?_));have bD:=(hK.rowAt 1 rfl [.int .i64 0,.int .i64 0]).rowAt 0 rfl zFl;have e0:=(bD.blk 1 rfl).cell 0;have e1:=(bD.blk 1 rfl).cell 1;obtain⟨f0,f1,f2,f3,f4⟩:=Blk.get5 (bD.blk 0 rfl);exact zt16
theorem find_fit (d:Po) (L:Lp) (A:Option Addr) (c:Nat) (S:List Sm) (a t:ByteArray) (hL:S.length≤1000000) (hM:∀m∈S,m.fields.length≤1000000) (hU:d.uses.length≤1000000) (w0 w:World) (hS:Schs w0 A S) (hP:Prs w0 L.ua d.uses) (h0:Below w0.heap.size w0 w) :
 Calls prog 88 #[fitV d L A S.length c,.agg #[.string a,.string t]] w fun e w'=>FindOut w0 (findS S d.uses a t) e∧Below w.heap.size w w' :=
 (find_fitP d L A c S a t hL hM hU w0 w hS hP h0).mono fun _ _ h=>⟨h.1.weak,h.2⟩
end Nf
namespace Nf
open Go.RowKit Go.ChangeShapes Go.WideShapes Go.Deep Go.Joins
theorem glob_of_laid {W:World} {x1 x2:String×DataW Unit} {rest:List (String×DataW Unit)}
 (h:laidMet prog (x1::x2::("internal/strconv.uint64pow10",Lib.tabData .u64 Lib.pow10Tab)::rest) W):Glob W:=by
 have h3:=h.tail.tail;have hT:(prog.globalNamed "internal/strconv.uint64pow10").bind (fun g=>(prog.globals[g]?).map (·.type))=some 303:=kr;cases hg:prog.globalNamed "internal/strconv.uint64pow10" with
 | none=>rw[hg]at hT;cases hT
 | some g =>
  rw[hg]at hT;exact⟨Lib.tabIs_of_head (t:=303) (e:=279) (n:=20) hg hT kr kr kr kr h3⟩
theorem zcw {α:Type} {R:Nat→α→Prop}:∀(n:Nat),(∀i,i<n→∃x,R i x)→∃l:List α,l.length=n∧∀i x,l[i]? =some x→R i x
 | 0,_=>⟨[],rfl,fun i x h=>by simp at h⟩
 | n+1,h=>by
  obtain⟨l,h1,h2⟩:=zcw n (fun i hi=>h i om);obtain⟨x,hx⟩:=h n om;refine⟨l++[x],by simp[h1],fun i y hy=>?_⟩;rcases Nat.lt_or_ge i l.length with hl|hl
  ·rw[List.getElem?_append_left hl]at hy;exact h2 i y hy
  ·exact zt41
theorem five_of {α:Type} {l:List α} (h:l.length=5):∃a b c d e,l=[a,b,c,d,e]:=by
 match l,h with
 | [a,b,c,d,e],_=>exact⟨a,b,c,d,e,rfl⟩
theorem two_of {α:Type} {l:List α} (h:l.length=2):∃a b,l=[a,b]:=by
 match l,h with
 | [a,b],_=>exact⟨a,b,rfl⟩
theorem add_at (a:Addr) (k:Nat) (hk:0<k):a.add k=⟨a.block,a.off+k,none⟩:=by
 unfold Addr.add;rw[if_neg om]
theorem add_zero (a:Addr):a.add 0=a:=by simp[Addr.add]
section
variable {H:Type} {enc:TypeId×Value→H} {P:Program} {W:World} {base:Nat} {spare:Nat→Bool} {held:Bool}
theorem trod_struct5 {t:TypeId} {f0 f1 f2 f3 f4:Field} {fuel:Nat} {cs:List Value} {x:DataW H×List MemPlace} (ht:P.underlying t=some (.struct #[f0,f1,f2,f3,f4])) (h:DataW.trod enc P W base spare held fuel t cs=some x) :
 ∃y0 y1 y2 y3 y4 n,DataW.trod enc P W base spare held n f0.type ((cs.drop f0.offset).take (P.cellsOf f0.type))=some y0 ∧
  DataW.trod enc P W base spare held n f1.type ((cs.drop f1.offset).take (P.cellsOf f1.type))=some y1∧DataW.trod enc P W base spare held n f2.type ((cs.drop f2.offset).take (P.cellsOf f2.type))=some y2 ∧
  DataW.trod enc P W base spare held n f3.type ((cs.drop f3.offset).take (P.cellsOf f3.type))=some y3∧DataW.trod enc P W base spare held n f4.type ((cs.drop f4.offset).take (P.cellsOf f4.type))=some y4:=by
 obtain⟨xs,n,_,rfl,hl,aD,hf⟩:=DataW.trod_struct ht h
 match xs,aD with
 | [y0,y1,y2,y3,y4],_=>exact⟨y0,y1,y2,y3,y4,n,by simpa using hf 0 f0 rfl,by simpa using hf 1 f1 rfl,by simpa using hf 2 f2 rfl,by simpa using hf 3 f3 rfl,by simpa using hf 4 f4 rfl⟩
end
section
variable {H:Type} {enc:TypeId×Value→H} {W:World} {base:Nat} {spare:Nat→Bool} {held:Bool}
theorem open_strs {fuel:Nat} {cs:List Value} {x:DataW H×List MemPlace} (h:DataW.trod enc prog W base spare held fuel 55 cs=some x):∃A c l,cs=[.slice A l.length c]∧Strs W A l:=by
 rcases open_slice underlying55 h with⟨rfl,_⟩|⟨a,len,cap,m,n,D,Pl,rfl,hb,hl,hm,di,hx,hi⟩
 ·exact⟨none,0,[],rfl,⟨fun i s hs=>by simp at hs⟩⟩
 ·obtain⟨l,h1,h2⟩:=zcw (R:=fun i (z:ByteArray)=>W.cell? (a.add i)=some (.string z)) len (fun i fp=>by
   obtain⟨cs',hc,ht⟩:=hi i zyl;obtain⟨z,rfl,-,-⟩:=DataW.trod_string underlying9 ht;have cG:prog.cellsOf 9=1:=kr;rw[cG]at hc;obtain⟨_,_,aH⟩:=World.cells?_some hc;have h9:=aH 0 om;rw[Nat.mul_one,add_zero]at h9;exact⟨z,h9⟩)
  exact⟨some a,cap,l,by rw[h1],⟨fun i s hs=>⟨a,rfl,h2 i s hs⟩⟩⟩
theorem open_flds {fuel:Nat} {cs:List Value} {x:DataW H×List MemPlace} (h:DataW.trod enc prog W base spare held fuel 51 cs=some x):∃A c L,cs=[.slice A L.length c]∧Flds W A L:=by
 rcases open_slice underlying51 h with⟨rfl,_⟩|⟨a,len,cap,m,n,D,Pl,rfl,hb,hl,hm,di,hx,hi⟩
 ·exact⟨none,0,[],rfl,⟨fun i s hs=>by simp at hs⟩⟩
 ·obtain⟨l,h1,h2⟩:=zcw (R:=fun i (f:Fd)=>∃WA c,FieldAt W (a.add (i*5)) f WA c) len (fun i fp=>by
   obtain⟨cs',hc,ht⟩:=hi i zyl;have cG:prog.cellsOf 57=5:=kr;rw[cG]at hc;obtain⟨_,aD,aH⟩:=World.cells?_some hc;obtain⟨y0,y1,y2,y3,y4,k,q0,q1,q2,q3,q4⟩:=trod_struct5 underlying57 ht;obtain⟨u0,u1,u2,u3,u4,rfl⟩:=five_of aD;have e0:prog.cellsOf 3=1:=kr;have e1:prog.cellsOf 9=1:=kr;have e2:prog.cellsOf 55=1:=kr;simp only[e0,e1,e2,List.drop_zero,List.take_succ_cons,List.take_zero,List.drop_succ_cons]at q0 q1 q2 q3 q4;obtain⟨z0,r0,-,-⟩:=DataW.trod_string underlying9 q0;obtain⟨z1,r1,-,-⟩:=DataW.trod_int underlying3 q1;obtain⟨z2,r2,-,-⟩:=DataW.trod_int underlying3 q2;obtain⟨z3,r3,-,-⟩:=DataW.trod_int underlying3 q3;obtain⟨KA,kc,kl,r4,hk⟩:=open_strs q4;cases r0;cases r1;cases r2;cases r3;cases r4;have dV:∀j,0<j→j<5→W.cell? ⟨(a.add (i*5)).block,(a.add (i*5)).off+j,none⟩=([.string z0,.int .i64 z1,.int .i64 z2,.int .i64 z3,.slice KA kl.length kc]:List Value)[j]? :=fun j h0 h5=>by
    have h9:=aH j om;rw[add_at _ j h0]at h9;exact h9
   have h9:=aH 0 om;rw[add_zero]at h9;exact⟨⟨z0,z1,z2,z3,kl⟩,KA,kc,h9,dV 1 om om,dV 2 om om,dV 3 om om,dV 4 om om,hk⟩)
  refine⟨some a,cap,l,by rw[h1],⟨fun i f hf=>?_⟩⟩;obtain⟨WA,c,hh⟩:=h2 i f hf;exact⟨a,WA,c,rfl,hh⟩
theorem open_sms {fuel:Nat} {cs:List Value} {x:DataW H×List MemPlace} (h:DataW.trod enc prog W base spare held fuel 22 cs=some x):∃A c S,cs=[.slice A S.length c]∧Schs W A S∧S.length≤c:=by
 rcases open_slice underlying22 h with⟨rfl,_⟩|⟨a,len,cap,m,n,D,Pl,rfl,hb,hl,hm,di,hx,hi⟩
 ·exact⟨none,0,[],rfl,⟨fun i s hs=>by simp at hs⟩,Nat.le_refl _⟩
 ·obtain⟨l,h1,h2⟩:=zcw (R:=fun i (m:Sm)=>∃FA c,W.cell? (a.add (i*2))=some (.string m.name)∧W.cell? ⟨(a.add (i*2)).block,(a.add (i*2)).off+1,none⟩=some (.slice FA m.fields.length c)∧Flds W FA m.fields) len (fun i fp=>by
   obtain⟨cs',hc,ht⟩:=hi i zyl;have cG:prog.cellsOf 53=2:=kr;rw[cG]at hc;obtain⟨_,aD,aH⟩:=World.cells?_some hc;obtain⟨y0,y1,n,-,-,q0,q1⟩:=trod_struct2 underlying53 ht;obtain⟨u0,u1,rfl⟩:=two_of aD;have e0:prog.cellsOf 9=1:=kr;have e1:prog.cellsOf 51=1:=kr;simp only[e0,e1,List.drop_zero,List.take_succ_cons,List.take_zero,List.drop_succ_cons]at q0 q1;obtain⟨z0,r0,-,-⟩:=DataW.trod_string underlying9 q0;obtain⟨FA,fc,F,h1,h2⟩:=open_flds q1;cases r0;cases h1;have h9:=aH 0 om;rw[add_zero]at h9;have h8:=aH 1 om;rw[add_at _ 1 om]at h8;exact⟨⟨z0,F⟩,FA,fc,h9,h8,h2⟩)
  refine⟨some a,cap,l,by rw[h1],⟨fun i f hf=>?_⟩,by omega⟩;obtain⟨FA,c,hh⟩:=h2 i f hf;exact⟨a,FA,c,rfl,hh⟩
theorem open_schemas {v:Value} {d:DataW H} {p:List MemPlace} {r:Reach} {b0:Nat} (hv:Value.okWide prog W r b0 22 v) (h:DataW.Trod enc prog W base spare held 22 v d p):∃A c S,v=.slice A S.length c∧Schs W A S∧S.length≤c:=by
 obtain⟨fuel,hf⟩:=h;obtain⟨A,c,l,h1,h2⟩:=open_sms hf;obtain⟨b,n,k,rfl⟩:=okWide_slice underlying22 hv;simp only[Value.cells]at h1;cases h1;exact⟨A,c,l,rfl,h2⟩
end
end Nf
namespace Nf
open Go.RowKit Go.Shelf
open Lib (hid)
def chkB (m:Sm):Bool:=decide (schemaE m.name m.fields=0)
def ReadyOut (v:Value) (b:Bool) (e:Ending):Prop:=∃y,e=.returned (.tuple #[v,.int .i64 y])∧(y=0↔b=true)
abbrev zP9:List Value:=[.string ⟨#[]⟩,.slice none 0 0,.slice none 0 0,.slice none 0 0,.int .i64 0,.string ⟨#[]⟩,.int .i64 0,.string ⟨#[]⟩,.slice none 0 0]
theorem named_ok {w0:World} {O:Option Sm} {e:Ending} (h:NamedOut w0 O e):∃s FA n c,e=.returned (.tuple #[.agg #[.string s,.slice FA n c],.bool O.isSome]):=by
 cases O with
 | none=>exact⟨_,_,_,_,h⟩
 | some m=>obtain⟨FA,c,h1,-⟩:=h;exact⟨_,_,_,_,h1⟩
theorem all_take {α:Type} {p:α→Bool} {l:List α} {i:Nat} {x:α} (h:l[i]? =some x):(l.take (i+1)).all p=((l.take i).all p&&p x):=by
 rw[zan h,List.all_append];simp
theorem all_bad {α:Type} {p:α→Bool} {l:List α} {i:Nat} {x:α} (h:l[i]? =some x) (hp:p x=false):l.all p=false:=by
 rw[Bool.eq_false_iff];intro h9;have:=List.all_eq_true.1 h9 x (List.mem_of_getElem? h);rw[hp]at this;cases this
theorem ready_any (d:Po) (L:Lp) (A:Option Addr) (c:Nat) (S:List Sm) (hL:S.length≤1000000) (ez:S.length≤c) (hB:∀m∈S,MBd m) (hD:PBd d) (w0 w:World) (hS:Schs w0 A S) (hP:PolM w0 d L) (h0:Below w0.heap.size w0 w) :
 Calls prog 87 #[polV d L,.slice A S.length c] w fun e w'=>ReadyOut (fitV d L A S.length c) (zah chkB S d) e∧Below w.heap.size w w':=by
 have hk:=((((Hp.start w).new 29 (polcs d L)).new 172 zP9).new 172 (fitC d L A S.length c));obtain⟨g,hg⟩:∃g,w.heap.size=g:=⟨_,rfl⟩;simp only[sizeA,hg]at hk;have HU:=hid hD.ul;obtain⟨R,hR⟩:∃R,zah chkB S d=R:=⟨_,rfl⟩;have HR:Hid ((decide (checkP d=0)&&S.all chkB&&distL [] S&&d.uses.all fun u=>(zaq S u.2).isSome)=R):=hid hR;rw[hR];clear hR;go_enter func87,ntmps87;go_upto_region 2 with fail;obtain⟨q,hq⟩:∃f,g+1=f:=⟨_,rfl⟩;obtain⟨h,hh⟩:∃f,q+1=f:=⟨_,rfl⟩;simp only[hq,hh]at hk ⊢;generalize hW:((w.alloc (.cells #[.string d.name,.slice L.ua d.uses.length L.uc,.slice L.ra d.reveal.length L.rc,.slice L.na d.nodes.length L.nc,.int .i64 d.root,.string d.scope,.int .i64 d.limit,.string d.escrow] 29)).alloc (.cells #[.string ⟨#[]⟩,.slice none 0 0,.slice none 0 0,.slice none 0 0,.int .i64 0,.string ⟨#[]⟩,.int .i64 0,.string ⟨#[]⟩,.slice none 0 0] 172)).alloc (.cells #[.string d.name,.slice L.ua d.uses.length L.uc,.slice L.ra d.reveal.length L.rc,.slice L.na d.nodes.length L.nc,.int .i64 d.root,.string d.scope,.int .i64 d.limit,.string d.escrow,.slice A S.length c] 172)=W1 at *;have ar:Hp [] w [iblk h 172 (fitC d L A S.length c),iblk q 172 zP9,iblk g 29 (polcs d L)] W1:=hk;clear hk hW hq hh;have HC:=hid (pcheck_any d L hD W1 ((hP.up h0).up ar.below0));obtain⟨c0,c1,c2,c3,c4,c5,c6,c7⟩:=(ar.blk 2 rfl).get8;obtain⟨E,hE⟩:∃E,checkP d=E:=⟨_,rfl⟩;rw[hE]at HC HR;clear hE;go_wp2_with fail;refine HC.out.mono ?_;rintro e w2 ⟨rfl,aG⟩;have ah:=ar.next aG;clear HC ar aG c0 c1 c2 c3 c4 c5 c6 c7;cases hE:(E != 0)with
 | true =>
   have jG:¬E=0:=by simpa using hE
   obtain⟨l0,l1,l2,l3,l4,l5,l6,l7,l8⟩:=blk9 (ah.blk 0 rfl);go_wp2_with (refine wpList_store_row rfl 172 (.tmp 4) (.tmp 26) rfl q (fitC d L A S.length c).toArray rfl rfl 172 zP9.toArray (ah.blk 1 rfl) kr kr kr ?_);have bD:=ah.rowAt 1 rfl (fitC d L A S.length c);obtain⟨m0,m1,m2,m3,m4,m5,m6,m7,m8⟩:=blk9 (bD.blk 1 rfl);refine bodyPost_ret (v:=.tuple #[fitV d L A S.length c,.int .i64 E]) zyb rfl ?_;have hb:Below w.heap.size w _:=bD.below0;refine⟨⟨E,rfl,?_⟩,by first|exact hb|(subst hg;exact hb)⟩;rw[←HR.out,decide_eq_false jG];simpa using jG
 | false =>
   have jG:E=0:=by simpa using hE
   subst jG;have xf:Hid ((S.all chkB&&distL [] S&&d.uses.all fun u=>(zaq S u.2).isSome)=R):=hid (by rw[←HR.out];simp);clear HR;go_upto_region 6 with fail;clear hE;go_loopg [30] S.length (fun m uW wx=>∃i:Nat,i≤S.length∧m=S.length-i∧uW=.int .i64 (i:Int)∧Hp [] w [iblk h 172 (fitC d L A S.length c),iblk q 172 zP9,iblk g 29 (polcs d L)] wx∧Hid ((S.take i).all chkB=true));case atStart=>exact⟨0,Nat.zero_le _,rfl,rfl,ah,hid rfl⟩
   case round =>
    obtain⟨i,hi,rfl,rfl,hM,HE⟩:=hrel;clear ah;by_cases ay:i<S.length
    ·have aM:(i:Int)<(S.length:Int):=om;have aL:(0:Int)≤(i:Int):=om;obtain⟨m,hm⟩:∃m,S[i]? =some m:=⟨_,List.getElem?_eq_getElem ay⟩;obtain⟨ad,FA,fc,rfl,c0,c1,hF⟩:=((hS.up h0).up hM.below0).at_ i m hm;have HT:=hid (all_take (p:=chkB) hm);have HB:=hid (fun h=>all_bad (p:=chkB) hm h);have xb:=(hB m (List.mem_of_getElem? hm)).sbd;have aA:=hM.new 53 [.string m.name,.slice FA m.fields.length fc];have aX:=(Below.refl wr.heap.size wr).alloc (Nat.le_refl _) (.cells #[.string m.name,.slice FA m.fields.length fc] 53);have hF1:=hF.up aX;clear hm hF aX;go_upto_region 8 with fail;generalize wr.alloc (.cells #[.string m.name,.slice FA m.fields.length fc] 53)=W2 at *;generalize wr.heap.size=g2 at *;clear c0 c1 hM;have d0:=(aA.blk 0 rfl).cell 0;have d1:=(aA.blk 0 rfl).cell 1;simp only[List.getElem?_cons_zero,List.getElem?_cons_succ]at d0 d1;have HC:=hid (check_any m.name FA fc m.fields xb W2 hF1);have lm:Hid (chkB m=decide (schemaE m.name m.fields=0)):=hid rfl;generalize schemaE m.name m.fields=E at *;go_wp2_with fail;refine HC.out.mono ?_;rintro e w4 ⟨rfl,aK⟩;have bn:=aA.next aK;clear HC aA aK hF1 d0 d1;cases hE:(E != 0)with
     | true =>
       have jG:¬E=0:=by simpa using hE
       obtain⟨l0,l1,l2,l3,l4,l5,l6,l7,l8⟩:=blk9 (bn.blk 1 rfl);go_wp2_with (refine wpList_store_row rfl 172 (.tmp 4) (.tmp 38) rfl q (fitC d L (some ad) S.length c).toArray rfl rfl 172 zP9.toArray (bn.blk 2 rfl) kr kr kr ?_);have bD:=bn.rowAt 2 rfl (fitC d L (some ad) S.length c);obtain⟨m0,m1,m2,m3,m4,m5,m6,m7,m8⟩:=blk9 (bD.blk 2 rfl);refine bodyPost_ret (v:=.tuple #[fitV d L (some ad) S.length c,.int .i64 E]) zyb rfl ?_;have hb:Below w.heap.size w _:=bD.below0;refine⟨⟨E,rfl,?_⟩,by first|exact hb|(subst hg;exact hb)⟩;rw[←xf.out,HB.out (by rw[lm.out,decide_eq_false jG])];simpa using jG
     | false =>
       have jG:E=0:=by simpa using hE
       have cg:Hid ((S.take (i+1)).all chkB=true):=hid (by rw[HT.out,HE.out,lm.out,decide_eq_true jG];rfl);clear jG lm HB HT HE;go_wp2_with fail;go_roundg (S.length-(i+1));case measure=>omega
       case rel=>exact⟨i+1,ay,rfl,by first|rfl|simp,bn.tail,cg⟩
    ·have aM:¬(i:Int)<(S.length:Int):=om;have gR:Hid ((distL [] S&&d.uses.all fun u=>(zaq S u.2).isSome)=R):=hid (by
      have:=HE.out;rw[List.take_of_length_le om]at this;rw[←xf.out,this];rfl)
     clear HE xf;go_upto_region 13 with fail;clear aM ay hi;have ah:=hM;clear hM;go_loopg [43] S.length (fun m s43 wx=>∃i:Nat,i≤S.length∧m=S.length-i∧s43=.int .i64 (i:Int)∧Hp [] w [iblk h 172 (fitC d L A S.length c),iblk q 172 zP9,iblk g 29 (polcs d L)] wx∧Hid (distL [] S=distL (S.take i) (S.drop i)));case atStart=>exact⟨0,Nat.zero_le _,rfl,rfl,ah,hid rfl⟩
     case round =>
      obtain⟨i,hi,rfl,rfl,hM,HE⟩:=hrel;clear ah;by_cases ay:i<S.length
      ·have aM:(i:Int)<(S.length:Int):=om;have aL:(0:Int)≤(i:Int):=om;have hic:(i:Int)≤(c:Int):=om;obtain⟨m,hm⟩:∃m,S[i]? =some m:=⟨_,List.getElem?_eq_getElem ay⟩;obtain⟨ad,FA,fc,rfl,c0,c1,hF⟩:=((hS.up h0).up hM.below0).at_ i m hm;have HT:Hid (distL [] S=((zaq (S.take i) m.name).isNone&&distL (S.take (i+1)) (S.drop (i+1)))):=hid (by rw[HE.out,zcu hm,distL,zan hm]);have aA:=hM.new 53 [.string m.name,.slice FA m.fields.length fc];clear hm hF HE;go_upto_region 15 with fail;generalize wr.alloc (.cells #[.string m.name,.slice FA m.fields.length fc] 53)=W2 at *;generalize wr.heap.size=g2 at *;clear c0 c1 hM;have aQ:(S.take i).length=i:=by rw[List.length_take];omega
       have HN:=hid (fun(W:World) (hb:Below w.heap.size w W)=>zbq (some ad) c (S.take i) m.name om w0 W (hS.take i) (h0.trans (hb.mono h0.size)));rw[aQ]at HN;obtain⟨O,hO⟩:∃O,zaq (S.take i) m.name=O:=⟨_,rfl⟩;rw[hO]at HN HT;clear hO aQ;have eN:=aA.drew;have d0:=(aA.blk 0 rfl).cell 0;obtain⟨l0,l1,l2,l3,l4,l5,l6,l7,l8⟩:=blk9 (aA.blk 1 rfl);simp only[List.getElem?_cons_zero]at d0;go_cut [13,14]from 48 to 57 (fun s13 s14 wx=>s14=.bool O.isSome∧Hp [] w [iblk h 172 (fitC d L (some ad) S.length c),iblk q 172 zP9,iblk g 29 (polcs d L)] wx)
       case first=>as_aux_lemma =>
        refine wp_region_held_drew (S:=(fun w'=>w'.cell? ⟨h,8,none⟩=some (.slice (some ad) S.length c)∧w'.cell? ⟨g2,0,none⟩=some (.string m.name))) kr ?_ (fun ae=>?_)
        ·exact⟨l8,d0⟩
        refine tk2 0 rfl ?_;refine zvr ?_;refine tk2 1 rfl ?_;refine zvq ?_;refine tk2 2 rfl ?_;refine zvq ?_;refine tk2 3 rfl ?_;refine zvq ?_;refine tk2 4 rfl ?_;refine zvq ?_;refine tk2 5 rfl ?_;refine zvq ?_;refine tkR [6,10] ?_;refine AllReadyH.cons rfl (fun K hK=>?_) ?_
        ·go_simp;refine(HN.out _ eN.below0).mono ?_;rintro e w3 ⟨eP,aJ⟩;obtain⟨x,YA,yn,yc,rfl⟩:=named_ok eP;have aj:=eN.next aJ;refine hK.out _ _ ⟨(aj.blk 1 rfl).cell 8,(aj.blk 0 rfl).cell 0⟩ fun ae=>?_;clear hK K;refine tk2 7 rfl ?_;refine zvq ?_;refine tk2 8 rfl ?_;refine zvq ?_;refine tk2 9 rfl ?_;refine zvq ?_;refine tkO 10 rfl fun K hK=>?_;go_simp;have hA:=aj.new 53 zS;refine hK.out _ _ ⟨(hA.blk 2 rfl).cell 8,(hA.blk 1 rfl).cell 0⟩ fun ae=>?_;clear hK K;refine tkO 11 rfl fun K hK=>?_;rw[if_pos rr];refine wp_store_row 53 (.tmp 13) (.tmp 56) rr w3.heap.size #[.string x,.slice YA yn yc] rr rr 53 zS.toArray (hA.blk 0 rfl) kr kr kr ?_;have hZ:=hA.rowAt 0 rfl [.string x,.slice YA yn yc];exact zt38
        refine AllReadyH.cons rfl (fun K hK=>?_) ?_
        ·go_simp;have hA:=(aA.new 53 zS).drew;refine hK.out _ _ ⟨(hA.blk 2 rfl).cell 8,(hA.blk 1 rfl).cell 0⟩ fun ae=>?_;clear hK K;refine tkO 6 rfl fun K hK=>?_;go_simp;refine(HN.out _ hA.below0).mono ?_;rintro e w3 ⟨eP,aJ⟩;obtain⟨x,YA,yn,yc,rfl⟩:=named_ok eP;have aj:=hA.next aJ;refine hK.out _ _ ⟨(aj.blk 2 rfl).cell 8,(aj.blk 1 rfl).cell 0⟩ fun ae=>?_;clear hK K;refine tk2 7 rfl ?_;refine zvq ?_;refine tk2 8 rfl ?_;refine zvq ?_;refine tk2 9 rfl ?_;refine zvq ?_;refine tkO 11 rfl fun K hK=>?_;rw[if_pos rr];refine wp_store_row 53 (.tmp 13) (.tmp 56) rr W2.heap.size #[.string x,.slice YA yn yc] rr rr 53 zS.toArray (aj.blk 0 rfl) kr kr kr ?_;have hZ:=aj.rowAt 0 rfl [.string x,.slice YA yn yc];exact zt38
        exact zv9
       case rest=>as_aux_lemma =>
        obtain⟨rfl,aR⟩:=hcut;clear aA eN d0 l0 l1 l2 l3 l4 l5 l6 l7 l8 HN;cases O with
        | some x =>
          have HF:Hid (distL [] S=false):=hid (by rw[HT.out];rfl);obtain⟨l0,l1,l2,l3,l4,l5,l6,l7,l8⟩:=blk9 (aR.blk 0 rfl);go_wp2_with (refine wpList_store_row rfl 172 (.tmp 4) (.tmp 59) rfl q (fitC d L (some ad) S.length c).toArray rfl rfl 172 zP9.toArray (aR.blk 1 rfl) kr kr kr ?_);have bD:=aR.rowAt 1 rfl (fitC d L (some ad) S.length c);obtain⟨m0,m1,m2,m3,m4,m5,m6,m7,m8⟩:=blk9 (bD.blk 1 rfl);refine bodyPost_ret (v:=.tuple #[fitV d L (some ad) S.length c,.int .i64 8]) zyb rfl ?_;have hb:Below w.heap.size w _:=bD.below0;refine⟨⟨8,rfl,?_⟩,by first|exact hb|(subst hg;exact hb)⟩;rw[←gR.out,HF.out];simp
        | none =>
          have cg:Hid (distL [] S=distL (S.take (i+1)) (S.drop (i+1))):=hid (by rw[HT.out];rfl);clear HT;go_wp2_with fail;go_roundg (S.length-(i+1));case measure=>omega
          case rel=>exact⟨i+1,ay,rfl,by first|rfl|simp,aR,cg⟩
      ·have aM:¬(i:Int)<(S.length:Int):=om;have HR3:Hid ((d.uses.all fun u=>(zaq S u.2).isSome)=R):=hid (by
        have:=HE.out;rw[List.drop_of_length_le om,distL]at this;rw[←gR.out,this];rfl)
       clear HE gR;have c1:wr.cell? ⟨g,1,none⟩=some (.slice L.ua d.uses.length L.uc):=(hM.blk 2 rfl).cell 1;go_upto_region 20 with fail;clear aM ay hi c1;go_loopg [64] d.uses.length (fun m s64 wx=>∃i:Nat,i≤d.uses.length∧m=d.uses.length-i∧s64=.int .i64 (i:Int)∧Hp [] w [iblk h 172 (fitC d L A S.length c),iblk q 172 zP9,iblk g 29 (polcs d L)] wx∧Hid ((d.uses.take i).all (fun u=>(zaq S u.2).isSome)=true));case atStart=>exact⟨0,Nat.zero_le _,rfl,rfl,hM,hid rfl⟩
       case round =>
        obtain⟨i,hi,rfl,rfl,hK,HE⟩:=hrel;clear hM;by_cases ay:i<d.uses.length
        ·have aM:(i:Int)<(d.uses.length:Int):=om;have aL:(0:Int)≤(i:Int):=om;have jA:=HU.out;obtain⟨⟨x1,x2⟩,hx⟩:∃x,d.uses[i]? =some x:=⟨_,List.getElem?_eq_getElem ay⟩;obtain⟨ua,uc,ra,rc,na,nc⟩:=L;obtain⟨ad,hA,ca,cb⟩:=((hP.up h0).up hK.below0).us.at_ i _ hx;change ua=some ad at hA;subst hA;have HT:=hid (all_take (p:=fun(u:Bp)=>(zaq S u.2).isSome) hx);have HB:=hid (fun h=>all_bad (p:=fun(u:Bp)=>(zaq S u.2).isSome) hx h);have mx:=hK.new 50 [.string x1,.string x2];have l8:=(hK.blk 0 rfl).cell 8;simp only[List.getElem?_cons_zero,List.getElem?_cons_succ]at l8;simp only at ca cb HT HB;clear hx;have c1:=(hK.blk 2 rfl).cell 1;simp only[List.getElem?_cons_zero,List.getElem?_cons_succ]at c1;go_upto_region 22 with fail;generalize wr.alloc (.cells #[.string x1,.string x2] 50)=W2 at *;generalize wr.heap.size=g2 at *;clear ca cb hK l8 c1;have v1:=(mx.blk 0 rfl).cell 1;have l8:=(mx.blk 1 rfl).cell 8;simp only[List.getElem?_cons_zero,List.getElem?_cons_succ]at l8 v1;have HN:=hid (zbq A c S x2 hL w0 W2 hS (h0.trans (mx.below0.mono h0.size)));obtain⟨O,hO⟩:∃O,zaq S x2=O:=⟨_,rfl⟩;rw[hO]at HN HT HB;clear hO;go_wp2_with fail;refine HN.out.mono ?_;rintro e w4 ⟨eP,aK⟩;obtain⟨x,YA,yn,yc,rfl⟩:=named_ok eP;have hK2:=mx.next aK;have rK:=hK2.new 53 [.string x,.slice YA yn yc];clear HN mx aK v1 l8 eP;cases O with
         | none =>
           have HF:Hid ((d.uses.all fun u=>(zaq S u.2).isSome)=false):=hid (HB.out rfl);obtain⟨l0,l1,l2,l3,l4,l5,l6,l7,l8⟩:=blk9 (rK.blk 2 rfl);go_wp2_with (refine wpList_store_row rfl 172 (.tmp 4) (.tmp 78) rfl q (fitC d ⟨some ad,uc,ra,rc,na,nc⟩ A S.length c).toArray rfl rfl 172 zP9.toArray (rK.blk 3 rfl) kr kr kr ?_);have bD:=rK.rowAt 3 rfl (fitC d ⟨some ad,uc,ra,rc,na,nc⟩ A S.length c);obtain⟨m0,m1,m2,m3,m4,m5,m6,m7,m8⟩:=blk9 (bD.blk 3 rfl);refine bodyPost_ret (v:=.tuple #[fitV d ⟨some ad,uc,ra,rc,na,nc⟩ A S.length c,.int .i64 9]) zyb rfl ?_;have hb:Below w.heap.size w _:=bD.below0;refine⟨⟨9,rfl,?_⟩,by first|exact hb|(subst hg;exact hb)⟩;rw[←HR3.out,HF.out];simp
         | some m =>
           have cg:Hid ((d.uses.take (i+1)).all (fun u=>(zaq S u.2).isSome)=true):=hid (by rw[HT.out,HE.out];rfl);clear HT HB HE;go_wp2_with fail;go_roundg (d.uses.length-(i+1));case measure=>omega
           case rel=>exact⟨i+1,ay,rfl,by first|rfl|simp,rK.tail.tail,cg⟩
        ·have aM:¬(i:Int)<(d.uses.length:Int):=om;have HF:Hid (R=true):=hid (by
          have:=HE.out;rw[List.take_of_length_le om]at this;rw[←HR3.out,this])
         clear HE;obtain⟨l0,l1,l2,l3,l4,l5,l6,l7,l8⟩:=blk9 (hK.blk 0 rfl);go_wp2_with (refine wpList_store_row rfl 172 (.tmp 4) (.tmp 80) rfl q (fitC d L A S.length c).toArray rfl rfl 172 zP9.toArray (hK.blk 1 rfl) kr kr kr ?_);have bD:=hK.rowAt 1 rfl (fitC d L A S.length c);obtain⟨m0,m1,m2,m3,m4,m5,m6,m7,m8⟩:=blk9 (bD.blk 1 rfl);refine bodyPost_ret (v:=.tuple #[fitV d L A S.length c,.int .i64 0]) zyb rfl ?_;have hb:Below w.heap.size w _:=bD.below0;refine⟨⟨0,rfl,?_⟩,by first|exact hb|(subst hg;exact hb)⟩;simp[HF.out]
end Nf
end Go.Proofs.YtekkapgknohadaaGreatDoor
