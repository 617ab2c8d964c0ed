/- meaning: conditions over conditions. -/
import Derived.Test.YtekkapgknohadaaGreatDoorM26
set_option linter.unusedVariables false
set_option maxRecDepth 20000
set_option maxHeartbeats 8000000
open Go.Proofs.Tryz
namespace Go.Proofs.YtekkapgknohadaaGreatDoor
namespace Nf
open Go.RowKit Go.Shelf
open Lib (hid)
open Pa (F Nd Tx)
structure MEnv (w0:World) (d:Po) (L:Lp) (A:Option Addr) (c:Nat) (S:List Sm) (FA:Option Addr) (fc:Nat) (Fs:List (List Int)):Prop where
 e:Env w0 d L A c S
 r:Rows w0 FA Fs
 ad:AdmF S d.uses Fs
def blvB (l:List Bool):List Value:=l.map Value.bool
abbrev tA (gt:Nat):Option Addr:=some ⟨gt,0,none⟩
abbrev mits (d:Po) (L:Lp) (A:Option Addr) (c:Nat) (S:List Sm) (FA:Option Addr) (fc:Nat) (Fs:List (List Int)) (g gt:Nat) (T:List Bool):List It:=[iblk gt 4 (blvB T),iblk g 203 (evC d L A S.length c FA Fs.length fc (tA gt) d.nodes.length d.nodes.length)]
structure MAt (w0:World) (d:Po) (L:Lp) (A:Option Addr) (c:Nat) (S:List Sm) (FA:Option Addr) (fc:Nat) (Fs:List (List Int)) (g gt:Nat) (T:List Bool) (W:World):Prop where
 b:Below w0.heap.size w0 W
 g1:w0.heap.size≤g
 g2:w0.heap.size≤gt
 len:T.length=d.nodes.length
 sep:Sep W (mits d L A c S FA fc Fs g gt T)
def MethP (w0:World) (d:Po) (L:Lp) (A:Option Addr) (c:Nat) (S:List Sm) (FA:Option Addr) (fc:Nat) (Fs:List (List Int)) (f:FuncId) (a:Int) (v:Value):Prop :=
 ∀(g gt:Nat) (T:List Bool) (W:World),MAt w0 d L A c S FA fc Fs g gt T W→Calls prog f #[.pointer (some ⟨g,0,none⟩),.int .i64 a] W fun e w'=>∃T',T'.length=d.nodes.length∧e=.returned v∧Hp [gt,g] W (mits d L A c S FA fc Fs g gt T') w'
def HoldsP (w0:World) (d:Po) (L:Lp) (A:Option Addr) (c:Nat) (S:List Sm) (FA:Option Addr) (fc:Nat) (Fs:List (List Int)) (a:Int) (r:Bool):Prop :=
 ∀(g gt:Nat) (T:List Bool) (W:World),MAt w0 d L A c S FA fc Fs g gt T W→Calls prog 117 #[.pointer (some ⟨g,0,none⟩),.int .i64 a] W fun e w'=>∃T',T'.length=d.nodes.length∧T'[a.toNat]? =some r∧e=.returned (.bool r)∧Hp [gt,g] W (mits d L A c S FA fc Fs g gt T') w'
section
variable {w0:World} {d:Po} {L:Lp} {A:Option Addr} {c:Nat} {S:List Sm} {FA:Option Addr} {fc:Nat} {Fs:List (List Int)}
theorem MAt.hp {g gt:Nat} {T:List Bool} {W:World} (h:MAt w0 d L A c S FA fc Fs g gt T W):Hp [gt,g] W (mits d L A c S FA fc Fs g gt T) W:=Hp.self h.sep
theorem MAt.next {g gt:Nat} {T T':List Bool} {W W':World} {x:List It} (h:MAt w0 d L A c S FA fc Fs g gt T W) (hl:T'.length=d.nodes.length) (hp:Hp [gt,g] W (mits d L A c S FA fc Fs g gt T'++x) W'):MAt w0 d L A c S FA fc Fs g gt T' W' :=
 ⟨h.b.trans (Hp.below (Hp.sub hp) h.b.size zuc),h.g1,h.g2,hl,(Hp.sub hp).sep⟩
theorem MAt.next0 {g gt:Nat} {T T':List Bool} {W W':World} (h:MAt w0 d L A c S FA fc Fs g gt T W) (hl:T'.length=d.nodes.length) (hp:Hp [gt,g] W (mits d L A c S FA fc Fs g gt T') W'):MAt w0 d L A c S FA fc Fs g gt T' W':=h.next (x:=[]) hl (by rw[List.append_nil];exact hp)
theorem Hp.then {o o':List Nat} {w W W':World} {a b:List It} (h:Hp o w a W) (ho:ow a=o') (h':Hp o' W b W'):Hp o w b W':=by
 subst ho;have:=Hp.call (r:=[]) (a':=b) (by rw[List.append_nil];exact h) h';rwa[List.append_nil]at this
theorem mcount_any (M:MEnv w0 d L A c S FA fc Fs) (i:Nat) (n:Nk) (hn:d.nodes[i]? =some n) (p:Int→Bool) (HK:∀k∈n.kids,HoldsP w0 d L A c S FA fc Fs k (p k)) (bk:n.kids.length≤1000000):MethP w0 d L A c S FA fc Fs 253 (i:Int) (.int .i64 ((n.kids.filter p).length:Int)):=by
 intro g gt T W bp;obtain⟨ua,uc,ra,rc,na,nc⟩:=L;obtain⟨ad,KA,kc,hA,aP⟩:=M.e.p.ns.at_ i n hn;change na=some ad at hA;subst hA;have ay:=(List.getElem?_eq_some_iff.1 hn).1;have aM:(i:Int)<(d.nodes.length:Int):=om;have aL:(0:Int)≤(i:Int):=om;have cT:=hid aP;have HH:=hid HK;have hS:=bp.hp;obtain⟨c0,c1,c2,c3,c4,c5,c6,c7,c8,c9,dU⟩:=blkE (hS.blk 1 rfl);have d4:=(aP.up bp.b).kids;clear hn aP ay HK;go_enter func253,ntmps253;go_upto_region 3 with fail;clear c0 c1 c2 c3 c4 c5 c6 c7 c8 c9 dU d4;go_loopg [5,18] n.kids.length (fun m s5 kE wx=>∃(j:Nat) (T':List Bool),j≤n.kids.length∧m=n.kids.length-j∧kE=.int .i64 (j:Int)∧s5=.int .i64 (((n.kids.take j).filter p).length:Int)∧Hid (T'.length=d.nodes.length)∧Hp [gt,g] W (mits d ⟨ua,uc,ra,rc,some ad,nc⟩ A c S FA fc Fs g gt T') wx);case atStart=>exact⟨0,T,Nat.zero_le _,rfl,rfl,rfl,hid bp.len,hS⟩
 case round =>
  obtain⟨j,T',hj,rfl,rfl,rfl,HT,hM⟩:=hrel;clear hS;by_cases aW:j<n.kids.length
  ·have bX:(j:Int)<(n.kids.length:Int):=om;have bT:(0:Int)≤(j:Int):=om;obtain⟨k,cU⟩:∃k,n.kids[j]? =some k:=⟨_,List.getElem?_eq_getElem aW⟩;have az:=bp.next0 HT.out hM;obtain⟨ka,cM,ck⟩:=(cT.out.up az.b).ints.at_ j k cU;subst cM;have HC:=hid (HH.out k (List.mem_of_getElem? cU) g gt T' wr az);have cG:((n.kids.take j).filter p).length≤1000000:=Nat.le_trans (List.length_filter_le _ _) (by rw[List.length_take];omega);have ep:Hid (((n.kids.take (j+1)).filter p).length=((n.kids.take j).filter p).length+(p k).toNat):=hid (by
    rw[zan cU,List.filter_append,List.length_append,List.filter_cons];cases p k<;>simp)
   generalize ((n.kids.take j).filter p).length=q at *;generalize p k=r at *;clear cU az;go_wp2_with fail;refine HC.out.mono ?_;rintro e w3 ⟨T2,h1,-,rfl,h2⟩;have aR:=Hp.then hM rfl h2;have nO:=hid h1;clear HC hM h1 h2 ck;cases r with
   | true =>
     exact zt51
   | false =>
     exact zt51
  ·have bX:¬(j:Int)<(n.kids.length:Int):=om;have HR:Hid (((n.kids.take j).filter p).length=(n.kids.filter p).length):=hid (by rw[List.take_of_length_le om]);go_wp2_with fail;go_ret;exact⟨T',HT.out,by first|rfl|(rw[HR.out];rfl),hM⟩
theorem malways_any (a:Int):MethP w0 d L A c S FA fc Fs 219 a (.bool true):=by
 intro g gt T W bp;have hS:=bp.hp;have HT:=hid bp.len;clear bp;go_enter func219,ntmps219;go_wp2_with fail;go_ret;exact⟨T,HT.out,rfl,hS⟩
theorem mnever_any (a:Int):MethP w0 d L A c S FA fc Fs 220 a (.bool false):=by
 intro g gt T W bp;have hS:=bp.hp;have HT:=hid bp.len;clear bp;go_enter func220,ntmps220;go_wp2_with fail;go_ret;exact⟨T,HT.out,rfl,hS⟩
theorem mnot_any (i:Nat) (q:Nat) (HC:MethP w0 d L A c S FA fc Fs 253 (i:Int) (.int .i64 (q:Int))):MethP w0 d L A c S FA fc Fs 221 (i:Int) (.bool (decide (q=0))):=by
 intro g gt T W bp;have HD:=hid (HC g gt T W bp);clear HC bp;have hq:((q:Int)==0)=decide (q=0):=by rw[Bool.eq_iff_iff];simp
 go_enter func221,ntmps221;exact zt48
theorem msome_any (i:Nat) (q:Nat) (HC:MethP w0 d L A c S FA fc Fs 253 (i:Int) (.int .i64 (q:Int))):MethP w0 d L A c S FA fc Fs 223 (i:Int) (.bool (decide (0<q))):=by
 intro g gt T W bp;have HD:=hid (HC g gt T W bp);clear HC bp;have hq:decide ((0:Int)<(q:Int))=decide (0<q):=by rw[decide_eq_decide];omega
 go_enter func223,ntmps223;exact zt48
theorem mevery_any (M:MEnv w0 d L A c S FA fc Fs) (i:Nat) (n:Nk) (hn:d.nodes[i]? =some n) (q:Nat) (HC:MethP w0 d L A c S FA fc Fs 253 (i:Int) (.int .i64 (q:Int))):MethP w0 d L A c S FA fc Fs 222 (i:Int) (.bool (decide (q=n.kids.length))):=by
 intro g gt T W bp;obtain⟨ua,uc,ra,rc,na,nc⟩:=L;obtain⟨ad,KA,kc,hA,aP⟩:=M.e.p.ns.at_ i n hn;change na=some ad at hA;subst hA;have ay:=(List.getElem?_eq_some_iff.1 hn).1;have aM:(i:Int)<(d.nodes.length:Int):=om;have aL:(0:Int)≤(i:Int):=om;have cT:=hid aP;have hS:=bp.hp.drew;have eJ:=bp.next0 bp.len hS;have HD:=hid (HC g gt T _ eJ);have eT:=hid eJ;have e0:=blkE (hS.blk 1 rfl);have e1:=(aP.up eJ.b).kids;have hq:((q:Int)==(n.kids.length:Int))=decide (q=n.kids.length):=by rw[Bool.eq_iff_iff];simp;omega
 clear hn aP ay HC bp eJ;go_enter func222,ntmps222;go_upto_region 1 with fail;go_region_held3 (fun w'=>(w'.cell? ⟨g,0,none⟩=some (.string d.name)∧w'.cell? ⟨g,1,none⟩=some (.slice (ua) d.uses.length uc)∧w'.cell? ⟨g,2,none⟩=some (.slice ra d.reveal.length rc)∧w'.cell? ⟨g,3,none⟩=some (.slice (some ad) d.nodes.length nc)∧w'.cell? ⟨g,4,none⟩=some (.int .i64 d.root)∧w'.cell? ⟨g,5,none⟩=some (.string d.scope)∧w'.cell? ⟨g,6,none⟩=some (.int .i64 d.limit)∧w'.cell? ⟨g,7,none⟩=some (.string d.escrow)∧w'.cell? ⟨g,8,none⟩=some (.slice A S.length c)∧w'.cell? ⟨g,9,none⟩=some (.slice FA Fs.length fc)∧w'.cell? ⟨g,10,none⟩=some (.slice (tA gt) d.nodes.length d.nodes.length))∧w'.cell? ⟨(ad.add (i*6)).block,(ad.add (i*6)).off+4,none⟩=some (.slice KA n.kids.length kc)) (first|exact⟨e0,e1⟩|exact⟨blkE (az.blk 1 rfl),(cT.out.up (eT.out.next0 HT.out h2).b).kids⟩) (first|(go_at_call 253;refine HD.out.mono ?_;rintro e w3 ⟨T2,h1,rfl,h2⟩;have HT:=hid h1;clear h1;have az:=Hp.then hS rfl h2));all_goals
  go_wp2_with fail;go_ret;exact⟨T2,HT.out,by first|rfl|rw[hq],az⟩
theorem matLeast_any (M:MEnv w0 d L A c S FA fc Fs) (i:Nat) (n:Nk) (hn:d.nodes[i]? =some n) (q:Nat) (HC:MethP w0 d L A c S FA fc Fs 253 (i:Int) (.int .i64 (q:Int))):MethP w0 d L A c S FA fc Fs 224 (i:Int) (.bool (decide (n.num≤(q:Int)))):=by
 intro g gt T W bp;obtain⟨ua,uc,ra,rc,na,nc⟩:=L;obtain⟨ad,KA,kc,hA,aP⟩:=M.e.p.ns.at_ i n hn;change na=some ad at hA;subst hA;have ay:=(List.getElem?_eq_some_iff.1 hn).1;have aM:(i:Int)<(d.nodes.length:Int):=om;have aL:(0:Int)≤(i:Int):=om;have cT:=hid aP;have hS:=bp.hp.drew;have eJ:=bp.next0 bp.len hS;have HD:=hid (HC g gt T _ eJ);have eT:=hid eJ;have e0:=blkE (hS.blk 1 rfl);have e1:=(aP.up eJ.b).num;clear hn aP ay HC bp eJ;go_enter func224,ntmps224;go_upto_region 1 with fail;go_region_held3 (fun w'=>(w'.cell? ⟨g,0,none⟩=some (.string d.name)∧w'.cell? ⟨g,1,none⟩=some (.slice (ua) d.uses.length uc)∧w'.cell? ⟨g,2,none⟩=some (.slice ra d.reveal.length rc)∧w'.cell? ⟨g,3,none⟩=some (.slice (some ad) d.nodes.length nc)∧w'.cell? ⟨g,4,none⟩=some (.int .i64 d.root)∧w'.cell? ⟨g,5,none⟩=some (.string d.scope)∧w'.cell? ⟨g,6,none⟩=some (.int .i64 d.limit)∧w'.cell? ⟨g,7,none⟩=some (.string d.escrow)∧w'.cell? ⟨g,8,none⟩=some (.slice A S.length c)∧w'.cell? ⟨g,9,none⟩=some (.slice FA Fs.length fc)∧w'.cell? ⟨g,10,none⟩=some (.slice (tA gt) d.nodes.length d.nodes.length))∧w'.cell? ⟨(ad.add (i*6)).block,(ad.add (i*6)).off+1,none⟩=some (.int .i64 n.num)) (first|exact⟨e0,e1⟩|exact⟨blkE (az.blk 1 rfl),(cT.out.up (eT.out.next0 HT.out h2).b).num⟩) (first|(go_at_call 253;refine HD.out.mono ?_;rintro e w3 ⟨T2,h1,rfl,h2⟩;have HT:=hid h1;clear h1;have az:=Hp.then hS rfl h2));all_goals
  go_wp2_with fail;go_ret;exact⟨T2,HT.out,rfl,az⟩
end
end Nf
namespace Nf
open Go.RowKit Go.Shelf
open Lib (hid)
open Pa (F Nd Tx)
def ValP (w0:World) (d:Po) (L:Lp) (A:Option Addr) (c:Nat) (S:List Sm) (FA:Option Addr) (fc:Nat) (Fs:List (List Int)) (k:Int) (v:Value):Prop :=
 ∀(g:Nat) (TA:Option Addr) (tn tc:Nat) (W:World),Below w0.heap.size w0 W→Blk W g 203 (evC d L A S.length c FA Fs.length fc TA tn tc)→Calls prog 254 #[.pointer (some ⟨g,0,none⟩),.int .i64 k] W fun e w'=>e=.returned v∧Below W.heap.size W w'
theorem mka0 (a:Addr):a.add 0=a:=by simp[Addr.add]
theorem mka1 (a:Addr) (k:Nat) (hk:0<k):a.add k=⟨a.block,a.off+k,none⟩:=by
 unfold Addr.add;rw[if_neg om]
section
variable {w0:World} {d:Po} {L:Lp} {A:Option Addr} {c:Nat} {S:List Sm} {FA:Option Addr} {fc:Nat} {Fs:List (List Int)}
theorem MAt.base {g gt:Nat} {T:List Bool} {W W':World} {x:List It} (h:MAt w0 d L A c S FA fc Fs g gt T W) (hp:Hp [gt,g] W (x++mits d L A c S FA fc Fs g gt T) W'):Below w0.heap.size w0 W' :=
 h.b.trans (Hp.below hp h.b.size zuc)
theorem nil_n (x:Int):∀w:World,(nilAhead 452 323 (.int .i64 x) "domino/meaning.compare").run prog w=.ok (some false) w:=fun w=>kr
theorem nil_w (x:ByteArray):∀w:World,(nilAhead 452 324 (.string x) "domino/meaning.compare").run prog w=.ok (some false) w:=fun w=>kr
theorem meth_n (x:Int):∀w:World,(method 452 323 (.int .i64 x) "domino/meaning.compare").run prog w=.ok (293,.int .i64 x) w:=fun w=>kr
theorem meth_w (x:ByteArray):∀w:World,(method 452 324 (.string x) "domino/meaning.compare").run prog w=.ok (296,.string x) w:=fun w=>kr
theorem built_cmp (a b c d e f:Bool):prog.built 312 [(0,.bool a),(1,.bool b),(2,.bool c),(3,.bool d),(4,.bool e),(5,.bool f)]=some #[.bool a,.bool b,.bool c,.bool d,.bool e,.bool f]:=kr
theorem ix_cmp (a b c d e f:Bool) (h:Int) (h0:0≤h) (h5:h≤5):∀w:World,(Instr.index 312 (.agg #[.bool a,.bool b,.bool c,.bool d,.bool e,.bool f]) (.int .i64 h)).run prog w=.ok (.bool (if h=0 then a else if h=1 then b else if h=2 then c else if h=3 then d else if h=4 then e else f)) w:=by
 exact zt42
def cmpI (h r:Int):Bool:=if h=0 then r==0 else if h=1 then r != 0 else if h=2 then decide (r<0)else if h=3 then decide (r≤0)else if h=4 then decide (0<r)else decide (0≤r)
structure CmpF (T0:TypeId) (pl vb:Value) (f:FuncId) (R:Int→Prop):Prop where
 nil:∀w:World,(nilAhead 452 T0 pl "domino/meaning.compare").run prog w=.ok (some false) w
 meth:∀w:World,(method 452 T0 pl "domino/meaning.compare").run prog w=.ok (f,pl) w
 ent:∀(x:Array Value) (w:World),(callFunc f x).run prog w=.ok (.enter f x) w
 call:∀w:World,Calls prog f #[pl,vb] w fun e w'=>(∃r,e=.returned (.int .i64 r)∧R r)∧w'=w
theorem cmpF_n (x y:Int):CmpF 323 (.int .i64 x) (.iface 323 (.int .i64 y)) 293 (CmpR (.n x) (.n y)):=⟨nil_n x,meth_n x,fun _ _=>kr,ncmp_any x y⟩
theorem cmpF_w (x y:ByteArray):CmpF 324 (.string x) (.iface 324 (.string y)) 296 (CmpR (.w x) (.w y)):=⟨nil_w x,meth_w x,fun _ _=>kr,wcmp_any x y⟩
theorem cmp_num {x y r h:Int} (hr:CmpR (.n x) (.n y) r) (h0:0≤h) (h5:h≤5):cmpI h r=cmpB h x y:=by
 obtain⟨h1,h2⟩:=hr;unfold cmpB cmpI;rcases(by omega:h=0∨h=1∨h=2∨h=3∨h=4∨h=5)with rfl|rfl|rfl|rfl|rfl|rfl;all_goals simp
 all_goals first|(rw[Bool.eq_iff_iff];simp;omega)|omega
theorem cmp_word {s t:ByteArray} {r h:Int} (hr:CmpR (.w s) (.w t) r) (hh:h=0∨h=1):cmpI h r=cmpW h (.w s) (.w t):=by
 have h1:r=0↔s=t:=hr;unfold cmpW cmpI;rcases hh with rfl|rfl
 ·simp only[if_true];rw[Bool.eq_iff_iff];simp[h1]
 ·simp only[show¬((1:Int)=0) by decide,if_true,if_false];rw[Bool.eq_iff_iff];simp[h1]
end
theorem mcompare_any {w0:World} {d:Po} {L:Lp} {A:Option Addr} {c:Nat} {S:List Sm} {FA:Option Addr} {fc:Nat} {Fs:List (List Int)} (M:MEnv w0 d L A c S FA fc Fs) (i:Nat) (n:Nk) (hn:d.nodes[i]? =some n) (k0 k1:Int) (bz:n.kids=[k0,k1]) (T0:TypeId) (pl vb:Value) (f:FuncId) (R:Int→Prop) (B:Bool) (h0:ValP w0 d L A c S FA fc Fs k0 (.iface T0 pl)) (h1:ValP w0 d L A c S FA fc Fs k1 vb) (hf:CmpF T0 pl vb f R) (hl:0≤n.num) (hh:n.num≤5) (hB:∀r,R r→cmpI n.num r=B):MethP w0 d L A c S FA fc Fs 225 (i:Int) (.bool B):=by
 intro g gt T W bp;obtain⟨ua,uc,ra,rc,na,nc⟩:=L;obtain⟨ad,KA,kc,hA,aP⟩:=M.e.p.ns.at_ i n hn;change na=some ad at hA;subst hA;have ay:=(List.getElem?_eq_some_iff.1 hn).1;have aM:(i:Int)<(d.nodes.length:Int):=om;have aL:(0:Int)≤(i:Int):=om;obtain⟨ka,rfl,fj⟩:=aP.ints.at_ 0 k0 zui;obtain⟨qm,e9,gI⟩:=aP.ints.at_ 1 k1 zui;obtain rfl:=Option.some.inj e9;rw[mka0]at fj;rw[mka1 _ _ zy0]at gI;obtain⟨nk,nn,nm,nt,nks,bI⟩:=n;obtain rfl:nks=[k0,k1]:=bz;have hS:=bp.hp;obtain⟨c0,c1,c2,c3,c4,c5,c6,c7,c8,c9,dU⟩:=blkE (hS.blk 1 rfl);have hN:=aP.up bp.b;have d0:=hN.kind;have d1:=hN.num;have d2:=hN.name;have d3:=hN.attr;have d4:W.cell? ⟨(ad.add (i*6)).block,(ad.add (i*6)).off+4,none⟩=some (.slice (some ka) 2 kc):=hN.kids;have d5:=hN.at_;have bi:=hS.new 68 [.int .i64 nk,.int .i64 nn,.string nm,.string nt,.slice (some ka) 2 kc,.int .i64 bI];have HX:=hid (fun(W':World) (x:List It) (h:Hp [gt,g] W (x++mits d ⟨ua,uc,ra,rc,some ad,nc⟩ A c S FA fc Fs g gt T) W')=>bp.base h);have HT:=hid bp.len;have gN:=hid fj;have iD:=hid gI;simp only at hl hh d0 d1 d2 d3 d5;clear hn aP hN ay bp e9 fj gI;go_enter func225,ntmps225;go_upto_region 2 with fail;clear c0 c1 c2 c3 c4 c5 c6 c7 c8 c9 dU d0 d1 d2 d3 d4 d5 hS;have bi:Hp [gt,g] W ([iblk W.heap.size 68 [.int .i64 nk,.int .i64 nn,.string nm,.string nt,.slice (some ka) 2 kc,.int .i64 bI]]++mits d ⟨ua,uc,ra,rc,some ad,nc⟩ A c S FA fc Fs g gt T) (W.alloc (.cells #[.int .i64 nk,.int .i64 nn,.string nm,.string nt,.slice (some ka) 2 kc,.int .i64 bI] 68)):=bi;generalize W.alloc (.cells #[.int .i64 nk,.int .i64 nn,.string nm,.string nt,.slice (some ka) 2 kc,.int .i64 bI] 68)=W1 at *;generalize W.heap.size=gn at *;have dj:=hid (fun(W':World) (h:Hp [gt,g] W ([iblk gn 68 [.int .i64 nk,.int .i64 nn,.string nm,.string nt,.slice (some ka) 2 kc,.int .i64 bI]]++mits d ⟨ua,uc,ra,rc,some ad,nc⟩ A c S FA fc Fs g gt T) W')=>h0 g _ _ _ W' (HX.out _ _ h) (h.blk 2 rfl));have ig:=hid (fun(W':World) (h:Hp [gt,g] W ([iblk gn 68 [.int .i64 nk,.int .i64 nn,.string nm,.string nt,.slice (some ka) 2 kc,.int .i64 bI]]++mits d ⟨ua,uc,ra,rc,some ad,nc⟩ A c S FA fc Fs g gt T) W')=>h1 g _ _ _ W' (HX.out _ _ h) (h.blk 2 rfl));have nQ:=hf.nil;have sP:=hf.meth;have gU:=hf.ent;have HF:=hid hf.call;have HB:=hid hB;clear h0 h1 hf hB;go_cut [6] (fun s6 wx=>∃r,s6=.int .i64 r∧R r∧Hp [gt,g] W ([iblk gn 68 [.int .i64 nk,.int .i64 nn,.string nm,.string nt,.slice (some ka) 2 kc,.int .i64 bI]]++mits d ⟨ua,uc,ra,rc,some ad,nc⟩ A c S FA fc Fs g gt T) wx);case first =>
  have hd:=bi.drew;clear bi;have k0d:=zaa gN.out (HX.out _ _ hd);have k1d:=zaa iD.out (HX.out _ _ hd);have n4:W1.drew.cell? ⟨gn,4,none⟩=some (.slice (some ka) 2 kc):=(hd.blk 0 rfl).cell 4
  go_region_held3 (fun w'=>w'.cell? ⟨gn,4,none⟩=some (.slice (some ka) 2 kc)∧w'.cell? ka=some (.int .i64 k0)∧w'.cell? ⟨ka.block,ka.off+1,none⟩=some (.int .i64 k1)) (first|exact⟨n4,k0d,k1d⟩|exact⟨(hd.blk 0 rfl).cell 4,zaa gN.out (HX.out _ _ hd),zaa iD.out (HX.out _ _ hd)⟩)
   (first
    | (go_at_call 254;(first|(with_reducible refine(dj.out _ hd).mono ?_)|(with_reducible refine(ig.out _ hd).mono ?_));rintro e w3 ⟨rfl,aJ⟩;replace hd:=hd.next aJ;clear aJ)
    | (refine(HF.out _).mono ?_;rintro e w4 ⟨⟨r,rfl,hr⟩,rfl⟩))
  all_goals
   go_wp2_with fail;go_meet;exact⟨r,rfl,hr,hd⟩
 case rest =>
 clear bi dj ig HF nQ sP gU;obtain⟨r,rfl,hr,hd⟩:=hcut;have cV:=built_cmp (r==0) (r != 0) (decide (r<0)) (decide (r≤0)) (decide (0<r)) (decide (0≤r));have bZ:=ix_cmp (r==0) (r != 0) (decide (r<0)) (decide (r≤0)) (decide (0<r)) (decide (0≤r)) nn hl hh;have jC:=hid (HB.out r hr);have n1:wc.cell? ⟨gn,1,none⟩=some (.int .i64 nn):=(hd.blk 0 rfl).cell 1;generalize hC:(if nn=0 then r==0 else if nn=1 then r != 0 else if nn=2 then decide (r<0)else if nn=3 then decide (r≤0)else if nn=4 then decide (0<r)else decide (0≤r))=C at *;have HB3:Hid (C=B):=hid (hC.symm.trans jC.out);clear hr hl hh hC HB jC;go_wp2_with fail;go_ret;exact⟨T,HT.out,by first|rfl|(rw[←HB3.out];rfl),hd.tail⟩
end Nf
namespace Nf
open Go.RowKit Go.Shelf
open Lib (hid)
open Pa (F Nd Tx)
theorem mkaS (a:Addr) (j:Nat):a.add (j+1)=⟨a.block,a.off+1+j,none⟩:=by
 rw[mka1 a (j+1) om,show a.off+(j+1)=a.off+1+j by omega]
theorem min_any {w0:World} {d:Po} {L:Lp} {A:Option Addr} {c:Nat} {S:List Sm} {FA:Option Addr} {fc:Nat} {Fs:List (List Int)} (M:MEnv w0 d L A c S FA fc Fs) (i:Nat) (n:Nk) (hn:d.nodes[i]? =some n) (k0:Int) (ks:List Int) (bz:n.kids=k0::ks) (bk:ks.length≤1000000) (ah:1≤ks.length) (T0:TypeId) (pl:Value) (f:FuncId) (vf:Int→Value) (Rf:Int→Int→Prop) (p:Int→Bool) (h0:ValP w0 d L A c S FA fc Fs k0 (.iface T0 pl)) (h1:∀k∈ks,ValP w0 d L A c S FA fc Fs k (vf k)) (hf:∀k∈ks,CmpF T0 pl (vf k) f (Rf k)) (hp:∀k∈ks,∀r,Rf k r→(r==0)=p k):MethP w0 d L A c S FA fc Fs 227 (i:Int) (.bool (ks.any p)):=by
 intro g gt T W bp;obtain⟨ua,uc,ra,rc,na,nc⟩:=L;obtain⟨ad,KA,kc,hA,aP⟩:=M.e.p.ns.at_ i n hn;change na=some ad at hA;subst hA;have ay:=(List.getElem?_eq_some_iff.1 hn).1;have aM:(i:Int)<(d.nodes.length:Int):=om;have aL:(0:Int)≤(i:Int):=om;obtain⟨ka,rfl,fj⟩:=aP.ints.at_ 0 k0 zui;rw[mka0]at fj;have ez:=aP.cap;obtain⟨nk,nn,nm,nt,nks,bI⟩:=n;obtain rfl:nks=k0::ks:=bz;replace ez:ks.length+1≤kc:=ez;have hS:=bp.hp;obtain⟨c0,c1,c2,c3,c4,c5,c6,c7,c8,c9,dU⟩:=blkE (hS.blk 1 rfl);have hN:=aP.up bp.b;have d0:=hN.kind;have d1:=hN.num;have d2:=hN.name;have d3:=hN.attr;have d4:W.cell? ⟨(ad.add (i*6)).block,(ad.add (i*6)).off+4,none⟩=some (.slice (some ka) (ks.length+1) kc):=hN.kids;have d5:=hN.at_;have bi:=hS.new 68 [.int .i64 nk,.int .i64 nn,.string nm,.string nt,.slice (some ka) (ks.length+1) kc,.int .i64 bI];have HX:=hid (fun(W':World) (x:List It) (h:Hp [gt,g] W (x++mits d ⟨ua,uc,ra,rc,some ad,nc⟩ A c S FA fc Fs g gt T) W')=>bp.base h);have HT:=hid bp.len;have gN:=hid fj;have HI:=hid (fun(j:Nat) (k:Int) (h:ks[j]? =some k)=>(by
  obtain⟨a,e,h9⟩:=aP.ints.at_ (j+1) k h;obtain rfl:=Option.some.inj e;rw[mkaS]at h9;exact h9:w0.cell? ⟨ka.block,ka.off+1+j,none⟩=some (.int .i64 k)))
 simp only at d0 d1 d2 d3 d5;clear hn aP hN ay bp fj;go_enter func227,ntmps227;go_upto_region 2 with fail;clear c0 c1 c2 c3 c4 c5 c6 c7 c8 c9 dU d0 d1 d2 d3 d4 d5 hS;have bi:Hp [gt,g] W ([iblk W.heap.size 68 [.int .i64 nk,.int .i64 nn,.string nm,.string nt,.slice (some ka) (ks.length+1) kc,.int .i64 bI]]++mits d ⟨ua,uc,ra,rc,some ad,nc⟩ A c S FA fc Fs g gt T) (W.alloc (.cells #[.int .i64 nk,.int .i64 nn,.string nm,.string nt,.slice (some ka) (ks.length+1) kc,.int .i64 bI] 68)):=bi;generalize W.alloc (.cells #[.int .i64 nk,.int .i64 nn,.string nm,.string nt,.slice (some ka) (ks.length+1) kc,.int .i64 bI] 68)=W1 at *;generalize W.heap.size=gn at *;have dj:=hid (h0 g _ _ _ W1 (HX.out _ _ bi) (bi.blk 2 rfl));have ig:=hid (fun(k:Int) (hk:k∈ks) (W':World) (h:Hp [gt,g] W ([iblk gn 68 [.int .i64 nk,.int .i64 nn,.string nm,.string nt,.slice (some ka) (ks.length+1) kc,.int .i64 bI]]++mits d ⟨ua,uc,ra,rc,some ad,nc⟩ A c S FA fc Fs g gt T) W')=>h1 k hk g _ _ _ W' (HX.out _ _ h) (h.blk 2 rfl));have HF:=hid hf;have HP:=hid hp;clear h0 h1 hf hp;have k0d:=zaa gN.out (HX.out _ _ bi);have n4:W1.cell? ⟨gn,4,none⟩=some (.slice (some ka) (ks.length+1) kc):=(bi.blk 0 rfl).cell 4;go_wp2_with fail;refine dj.out.mono ?_;rintro e w2 ⟨rfl,aG⟩;have hd:=bi.next aG;clear dj bi aG k0d n4;have n4:w2.cell? ⟨gn,4,none⟩=some (.slice (some ka) (ks.length+1) kc):=(hd.blk 0 rfl).cell 4;have gD:¬kc=1:=om;have dD:(1:Int)≤((ks.length+1:Nat):Int):=om;go_upto_region 4 with fail;clear gD dD n4;go_loopg [27] ks.length (fun m tV wx=>∃j:Nat,j≤ks.length∧m=ks.length-j∧tV=.int .i64 (j:Int)∧Hp [gt,g] W ([iblk gn 68 [.int .i64 nk,.int .i64 nn,.string nm,.string nt,.slice (some ka) (ks.length+1) kc,.int .i64 bI]]++mits d ⟨ua,uc,ra,rc,some ad,nc⟩ A c S FA fc Fs g gt T) wx∧Hid ((ks.take j).any p=false));case atStart=>exact⟨0,Nat.zero_le _,rfl,rfl,hd,hid rfl⟩
 case round =>
  obtain⟨j,hj,rfl,rfl,hM,ed⟩:=hrel;clear hd;by_cases aW:j<ks.length
  ·have bX:(j:Int)<(ks.length:Int):=om;have bT:(0:Int)≤(j:Int):=om;obtain⟨k,cU⟩:∃k,ks[j]? =some k:=⟨_,List.getElem?_eq_getElem aW⟩;have dZ:=List.mem_of_getElem? cU;have ck:=zaa (HI.out j k cU) (HX.out _ _ hM);have sm:=hid (HP.out k dZ);have hf:=HF.out k dZ;have nQ:=hf.nil;have sP:=hf.meth;have gU:=hf.ent;have HCF:=hid hf.call;have fI:=hid (ig.out k dZ);have pm:Hid (p k=false→(ks.take (j+1)).any p=false):=hid fun h=>by rw[zan cU,List.any_append,ed.out,Bool.false_or,List.any_cons,h];rfl
   have ep:Hid (p k=true→ks.any p=true):=hid fun h=>List.any_eq_true.2 ⟨k,dZ,h⟩;clear hf cU dZ;go_upto_region 6 with fail;have hd:=hM.drew;clear hM ck;go_cut [39]from 31 to 39 (fun s39 wx=>s39=.bool (p k)∧Hp [gt,g] W ([iblk gn 68 [.int .i64 nk,.int .i64 nn,.string nm,.string nt,.slice (some ka) (ks.length+1) kc,.int .i64 bI]]++mits d ⟨ua,uc,ra,rc,some ad,nc⟩ A c S FA fc Fs g gt T) wx)
   case first =>
    go_region_held3 (fun w'=>True) (exact trivial)
     (first
      | (go_at_call 254;refine(fI.out _ hd).mono ?_;rintro e w3 ⟨rfl,aJ⟩;replace hd:=hd.next aJ;clear aJ)
      | (refine(HCF.out _).mono ?_;rintro e w4 ⟨⟨r,rfl,hr⟩,rfl⟩))
    all_goals
     go_wp2_with fail;go_meet;exact⟨by rw[sm.out r hr],hd⟩
   case rest =>
   clear hd fI HCF nQ sP gU sm;obtain⟨rfl,hd⟩:=hcut;cases n6:p k with
   | true =>
     have HE:=hid (ep.out n6);go_wp2_with fail;go_ret;exact⟨T,HT.out,by rw[HE.out];rfl,hd.tail⟩
   | false =>
     have HE:=hid (pm.out n6);go_wp2_with fail;go_roundg (ks.length-(j+1));case measure=>omega
     case rel=>exact⟨j+1,aW,rfl,by first|rfl|simp,hd,HE⟩
  ·have bX:¬(j:Int)<(ks.length:Int):=om;have HE:Hid (ks.any p=false):=hid (by rw[←ed.out,List.take_of_length_le om]);go_wp2_with fail;go_ret;exact⟨T,HT.out,by rw[HE.out];rfl,hM.tail⟩
end Nf
namespace Nf
open Go.RowKit Go.Shelf
open Pa (F Nd Tx)
abbrev fnV (f:FuncId):Value:=.func (.func f) #[] #[]
abbrev methA:Array Value:=#[fnV 219,fnV 220,fnV 221,fnV 222,fnV 223,fnV 224,fnV 225,fnV 226,fnV 227]
theorem built_meth:prog.built 249 [(0,fnV 219),(1,fnV 220),(2,fnV 221),(3,fnV 222),(4,fnV 223),(5,fnV 224),(6,fnV 225),(7,fnV 226),(8,fnV 227)]=some methA:=kr
theorem methods_any (w:World):Calls prog 174 #[] w fun e w'=>e=.returned (.agg methA)∧Below w.heap.size w w':=by
 have cV:=built_meth;have hk:=(Hp.start w).new 249 [.nilFunc,.nilFunc,.nilFunc,.nilFunc,.nilFunc,.nilFunc,.nilFunc,.nilFunc,.nilFunc];go_enter func174,ntmps174;go_upto_region 1 with fail;have ar:Hp [] w [iblk w.heap.size 249 [.nilFunc,.nilFunc,.nilFunc,.nilFunc,.nilFunc,.nilFunc,.nilFunc,.nilFunc,.nilFunc]] (w.alloc (.cells #[.nilFunc,.nilFunc,.nilFunc,.nilFunc,.nilFunc,.nilFunc,.nilFunc,.nilFunc,.nilFunc] 249)):=hk;clear hk;generalize w.alloc (.cells #[.nilFunc,.nilFunc,.nilFunc,.nilFunc,.nilFunc,.nilFunc,.nilFunc,.nilFunc,.nilFunc] 249)=W1 at *;obtain⟨q,hq⟩:∃q,w.heap.size=q:=⟨_,rfl⟩;simp only[hq]at ar ⊢;go_wp2_with (refine wpList_store_row rfl 249 (.tmp 0) (.tmp 1) rfl q methA rfl rfl 249 #[.nilFunc,.nilFunc,.nilFunc,.nilFunc,.nilFunc,.nilFunc,.nilFunc,.nilFunc,.nilFunc] (ar.blk 0 rfl) kr kr kr ?_);have ah:=ar.rowAt 0 rfl methA.toList;have e0:=(ah.blk 0 rfl).cell 0;have e1:=(ah.blk 0 rfl).cell 1;have e2:=(ah.blk 0 rfl).cell 2;have e3:=(ah.blk 0 rfl).cell 3;have e4:=(ah.blk 0 rfl).cell 4;have e5:=(ah.blk 0 rfl).cell 5;have e6:=(ah.blk 0 rfl).cell 6;have e7:=(ah.blk 0 rfl).cell 7;have e8:=(ah.blk 0 rfl).cell 8;simp only[List.getElem?_cons_zero,List.getElem?_cons_succ]at e0 e1 e2 e3 e4 e5 e6 e7 e8;refine bodyPost_ret (v:=.agg methA) (by simp[results,results174,go_sem,e0,e1,e2,e3,e4,e5,e6,e7,e8]) rfl ?_;have hb:=ah.below0;exact⟨rfl,by first|exact hb|(subst hq;exact hb)⟩
theorem blvB_set (T:List Bool) (i:Nat) (r:Bool):(blvB T).set i (.bool r)=blvB (T.set i r):=by unfold blvB;rw[List.map_set]
theorem mholds_node {w0:World} {d:Po} {L:Lp} {A:Option Addr} {c:Nat} {S:List Sm} {FA:Option Addr} {fc:Nat} {Fs:List (List Int)} (M:MEnv w0 d L A c S FA fc Fs) (i:Nat) (n:Nk) (hn:d.nodes[i]? =some n) (f:FuncId) (r:Bool) (bZ:∀w:World,(Instr.index 249 (.agg methA) (.int .i64 n.kind)).run prog w=.ok (fnV f) w) (gU:∀(x:Array Value) (w:World),(callFunc f x).run prog w=.ok (.enter f x) w) (HM:MethP w0 d L A c S FA fc Fs f (i:Int) (.bool r)):HoldsP w0 d L A c S FA fc Fs (i:Int) r:=by
 intro g gt T W bp;obtain⟨ua,uc,ra,rc,na,nc⟩:=L;obtain⟨ad,KA,kc,hA,aP⟩:=M.e.p.ns.at_ i n hn;change na=some ad at hA;subst hA;have ay:=(List.getElem?_eq_some_iff.1 hn).1;have aM:(i:Int)<(d.nodes.length:Int):=om;have aL:(0:Int)≤(i:Int):=om;have cT:=Lib.hid aP;have hS:=bp.hp.drew;have eT:=Lib.hid (bp.next0 bp.len hS);have e0:=blkE (hS.blk 1 rfl);have e1:=(aP.up eT.out.b).kind;have HI:=Lib.hid ay;have HML:=Lib.hid HM;clear hn aP ay bp HM;go_enter func117,ntmps117;go_upto_region 1 with fail
 go_region_held3 (fun w'=>(w'.cell? ⟨g,0,none⟩=some (.string d.name)∧w'.cell? ⟨g,1,none⟩=some (.slice (ua) d.uses.length uc)∧w'.cell? ⟨g,2,none⟩=some (.slice ra d.reveal.length rc)∧w'.cell? ⟨g,3,none⟩=some (.slice (some ad) d.nodes.length nc)∧w'.cell? ⟨g,4,none⟩=some (.int .i64 d.root)∧w'.cell? ⟨g,5,none⟩=some (.string d.scope)∧w'.cell? ⟨g,6,none⟩=some (.int .i64 d.limit)∧w'.cell? ⟨g,7,none⟩=some (.string d.escrow)∧w'.cell? ⟨g,8,none⟩=some (.slice A S.length c)∧w'.cell? ⟨g,9,none⟩=some (.slice FA Fs.length fc)∧w'.cell? ⟨g,10,none⟩=some (.slice (tA gt) d.nodes.length d.nodes.length))∧w'.cell? (ad.add (i*6))=some (.int .i64 n.kind)) (first|exact⟨e0,e1⟩|exact⟨blkE (hS.blk 1 rfl),(cT.out.up eT.out.b).kind⟩|exact⟨blkE ((hS.set 0 rfl i (.bool r)).blk 1 rfl),(cT.out.up (eT.out.b.setCell (p:=⟨gt,i,none⟩) eT.out.g2 (.bool r))).kind⟩)
  (first
   | (go_at_call 174;refine(methods_any _).mono ?_;rintro e w3 ⟨rfl,aJ⟩;replace hS:=hS.next aJ;replace eT:=Lib.hid (eT.out.next0 eT.out.len (Hp.next (Hp.self eT.out.sep) aJ));clear aJ)
   | (refine(HML.out g gt _ _ eT.out).mono ?_;rintro e w4 ⟨T2,h1,rfl,h2⟩;replace hS:=Hp.then hS rfl h2;replace eT:=Lib.hid (eT.out.next0 h1 h2);have z0:=(hS.blk 0 rfl).cell i;have y0:=(hS.blk 0 rfl).frozen i;obtain⟨b0,cW⟩:∃b0,T2[i]? =some b0:=⟨_,List.getElem?_eq_getElem (by rw[h1];exact HI.out)⟩;rw[blvB,List.getElem?_map,cW]at z0;simp only[Option.map_some]at z0))
 all_goals
  have aQ:i<T2.length:=by rw[eT.out.len];exact HI.out
  have hM:=hS.set 0 rfl i (.bool r);simp only[List.set_cons_zero]at hM;rw[blvB_set]at hM;have dU:(w4.setCell ⟨gt,i,none⟩ (.bool r)).cell? ⟨g,10,none⟩=some (.slice (tA gt) d.nodes.length d.nodes.length):=(hM.blk 1 rfl).cell 10;have z1:(w4.setCell ⟨gt,i,none⟩ (.bool r)).cell? ⟨gt,i,none⟩=some (.bool r):=by
   rw[(hM.blk 0 rfl).cell i,blvB,List.getElem?_map,List.getElem?_set_self aQ];rfl
  have HL:Hid ((T2.set i r).length=d.nodes.length∧(T2.set i r)[i]? =some r):=Lib.hid ⟨by rw[List.length_set];exact eT.out.len,List.getElem?_set_self aQ⟩;clear hS eT z0 y0 aQ e0 e1 cW;generalize w4.setCell ⟨gt,i,none⟩ (.bool r)=W5 at *;go_wp2_with fail;go_ret;exact⟨_,HL.out.1,HL.out.2,rfl,hM⟩
end Nf
end Go.Proofs.YtekkapgknohadaaGreatDoor
