/- Tokens in memory; what Scan returns. -/
import Derived.Test.YtekkapgknohadaaGreatDoorM7
import Derived.Test.YtekkapgknohadaaGreatDoorM5
set_option linter.unusedVariables false
set_option maxRecDepth 20000
set_option maxHeartbeats 8000000
open Go.Proofs.Tryz
namespace Go.Proofs.YtekkapgknohadaaGreatDoor
section
open Go.RowKit
def TokIn (W:World) (g:Nat) (ts:List Lx.Tok):Prop:=g<W.heap.size∧∀j u,(tokL ts)[j]? =some u→W.cell? ⟨g,j,none⟩=some u
theorem TokIn.below {W W':World} {B g:Nat} {ts:List Lx.Tok} (h:TokIn W g ts) (hb:Below B W W') (hB:W.heap.size≤B):TokIn W' g ts :=
 ⟨Nat.lt_of_lt_of_le h.1 hb.size,fun j u hu=>(hb.cell (p:=⟨g,j,none⟩) (Nat.lt_of_lt_of_le h.1 hB)).trans (h.2 j u hu)⟩
theorem tokL_at (ts:List Lx.Tok) (k:Nat) (h:k<ts.length):(tokL ts)[k*3]? =some (.int .i64 (ts[k].kind:Int))∧(tokL ts)[k*3+1]? =some (.string (bs ts[k].text))∧(tokL ts)[k*3+2]? =some (.int .i64 (ts[k].at_:Int)):=by
 induction ts generalizing k with
 | nil=>simp at h
 | cons t ts ih =>
   cases k with
   | zero=>exact⟨rfl,rfl,rfl⟩
   | succ k =>
     have h1:=ih k zyc;have e:tokL (t::ts)=.int .i64 (t.kind:Int):: .string (bs t.text):: .int .i64 (t.at_:Int)::tokL ts:=rfl;rw[e,show(k+1)*3=k*3+1+1+1 by omega];simpa using h1
theorem TokIn.at {W:World} {g:Nat} {ts:List Lx.Tok} (h:TokIn W g ts) (k:Nat) (hk:k<ts.length):W.cell? ⟨g,k*3,none⟩=some (.int .i64 (ts[k].kind:Int))∧W.cell? ⟨g,k*3+1,none⟩=some (.string (bs ts[k].text))∧W.cell? ⟨g,k*3+2,none⟩=some (.int .i64 (ts[k].at_:Int)) :=
 ⟨h.2 _ _ (tokL_at ts k hk).1,h.2 _ _ (tokL_at ts k hk).2.1,h.2 _ _ (tokL_at ts k hk).2.2⟩
theorem own_tok {W:World} {base:Nat} {v:Value} {ts:List Lx.Tok} (h:W.ownsRow base 154 3 v ts.length (tokL ts)) (hn:0<ts.length):∃g cap,v=.slice (some ⟨g,0,none⟩) ts.length cap∧base≤g∧TokIn W g ts∧ts.length≤cap∧cap≤maxLen:=by
 rcases h.2 with⟨_,h0⟩|⟨g,cap,cur,hv,hb,hg,hc,hm,bu,cZ⟩
 ·omega
 ·refine⟨g,cap,hv,hb,⟨?_,?_⟩,hc,hm⟩
  ·rcases Nat.lt_or_ge g W.heap.size with h'|h'
   ·exact h'
   ·rw[Array.getElem?_eq_none h']at hg;cases hg
  ·intro j u hu;have hj:j<(tokL ts).length:=(List.getElem?_eq_some_iff.1 hu).1;rw[tokL_len]at hj;rw[←cZ,List.getElem?_take_of_lt hj]at hu;simp only[World.cell?,hg];simpa using hu
end
section
open Go.RowKit
end
section
open Go.RowKit Go.Shelf
open Lib (hid)
abbrev ptr (g:Nat):Value:=.pointer (some ⟨g,0,none⟩)
structure PR where
 gp:Nat
 gt:Nat
 cap:Nat
 all:List Lx.Tok
structure PRok (R:PR) (ts:List Lx.Tok) (W:World):Prop where
 blk:Blk W R.gp 78 [.slice (some ⟨R.gt,0,none⟩) R.all.length R.cap,.int .i64 ((R.all.length-ts.length:Nat):Int)]
 tok:TokIn W R.gt R.all
 suf:ts <:+ R.all
 good:Pa.Good ts
 len:R.all.length≤65537
 le:R.all.length≤R.cap
 ne:R.gp≠R.gt
theorem tokin_same {W W':World} {g:Nat} {ts:List Lx.Tok} (h:TokIn W g ts) (e:W'.heap[g]? =W.heap[g]?):TokIn W' g ts:=by
 refine⟨?_,fun j u hu=>?_⟩
 ·have h1:=h.1;rcases Nat.lt_or_ge g W'.heap.size with h2|h2
  ·exact h2
  ·rw[Array.getElem?_eq_none h2,Array.getElem?_eq_getElem h1]at e;cases e
 ·have h1:=h.2 j u hu;simp only[World.cell?]at h1 ⊢;rw[e];exact h1
def ipr (R:PR) (ts:List Lx.Tok):It:=⟨[R.gp,R.gt],PRok R ts,fun W W' h hp=>⟨(h R.gp zy1).trans hp.blk,tokin_same hp.tok (h R.gt zy1),hp.suf,hp.good,hp.len,hp.le,hp.ne⟩,
 fun W hp b hb=>by
  rcases List.mem_cons.1 hb with rfl|hb
  ·exact hp.blk.lt
  ·rw[List.mem_singleton.1 hb];exact hp.tok.1⟩
theorem PRok.self {R:PR} {ts:List Lx.Tok} {W:World} (h:PRok R ts W):Hp [R.gp,R.gt] W [ipr R ts] W:=by
 have:=Hp.self (it:=[ipr R ts]) ⟨fun x hx=>by rw[List.mem_singleton.1 hx];exact h,by simp[ipr,h.ne]⟩;exact this
section
variable {o:List Nat} {w W W':World} {R:PR} {ts ts':List Lx.Tok} {r it:List It}
theorem Hp.pr (h:Hp o w (ipr R ts::r) W):PRok R ts W:=h.sep.ok _ (List.mem_cons_self ..)
theorem Hp.rd (h:Hp o w (ipr R ts::r) W) (h':Hp [R.gp,R.gt] W (ipr R ts'::it) W'):Hp o w (ipr R ts'::(it++r)) W':=Hp.call (a:=[ipr R ts]) h h'
theorem Hp.rd1 (h:Hp o w (ipr R ts::r) W) (h':Hp [R.gp,R.gt] W [ipr R ts'] W'):Hp o w (ipr R ts'::r) W':=Hp.call (a:=[ipr R ts]) h h'
theorem Hp.adv (h:Hp o w (ipr R ts::r) W) (hs:ts' <:+ ts) (hg:Pa.Good ts') {n:Int} (hn:n=((R.all.length-ts'.length:Nat):Int)):Hp o w (ipr R ts'::r) (W.setCell ⟨R.gp,1,none⟩ (.int .i64 n)):=by
 subst hn;have hp:=h.pr;refine h.upd 0 rfl (x:=ipr R ts) (x':=ipr R ts') ?_ ⟨(Below.refl _ _).setCell (Nat.zero_le _) _,fun k hk ho=>Below.heap_setCell _ _ _ _ (by simp[ipr]at ho;exact ho.1),fun b hb=>.inl hb⟩ (by simp[ipr,hp.ne]);exact⟨hp.blk.set_ 1 _,tokin_same hp.tok (Below.heap_setCell _ _ _ _ (fun e=>hp.ne e.symm)),hs.trans hp.suf,hg,hp.len,hp.le,hp.ne⟩
structure At (R:PR) (t:Lx.Tok) (k:Nat) (W:World):Prop where
 c0:W.cell? ⟨R.gp,0,none⟩=some (.slice (some ⟨R.gt,0,none⟩) R.all.length R.cap)
 c1:W.cell? ⟨R.gp,1,none⟩=some (.int .i64 (k:Int))
 f1:W.frozen? ⟨R.gp,1,none⟩=false
 k0:(0:Int)≤(k:Int)
 k1:(k:Int)<(R.all.length:Int)
 t0:W.cell? ⟨R.gt,k*3,none⟩=some (.int .i64 (t.kind:Int))
 t1:W.cell? ⟨R.gt,k*3+1,none⟩=some (.string (bs t.text))
 t2:W.cell? ⟨R.gt,k*3+2,none⟩=some (.int .i64 (t.at_:Int))
theorem PRok.at {t:Lx.Tok} {q:List Lx.Tok} (h:PRok R (t::q) W):∃k,At R t k W∧R.all.length-(t::q).length=k∧k+1=R.all.length-q.length∧k<65537:=by
 obtain⟨u,hu⟩:=h.suf;have hl:=congrArg List.length hu;rw[List.length_append,List.length_cons]at hl;have hk:R.all.length-(t::q).length=u.length:=by rw[List.length_cons];omega
 have ht:=h.tok.at u.length om;have he:R.all[u.length]'om=t:=by
  simp only[←hu];rw[List.getElem_append_right (Nat.le_refl _)];simp
 rw[he]at ht;have aD:=h.len;refine⟨u.length,⟨h.blk.cell 0,?_,h.blk.frozen 1,by omega,by omega,ht.1,ht.2.1,ht.2.2⟩,hk,by omega,by omega⟩;have:=h.blk.cell 1;rw[hk]at this;exact this
theorem PRok.atk {t:Lx.Tok} {q:List Lx.Tok} (h:PRok R (t::q) W) {k:Nat} (hk:R.all.length-(t::q).length=k):At R t k W:=by
 obtain⟨k',h1,h2,-⟩:=h.at;have:k'=k:=h2.symm.trans hk;subst this;exact h1
theorem PRok.next (h:PRok R ts W) (hb:Below W.heap.size W W'):PRok R ts W':=(h.self.next hb).pr
structure At2 (R:PR) (t:Lx.Tok) (k:Nat) (W:World):Prop where
 c0:W.cell? ⟨R.gp,0,none⟩=some (.slice (some ⟨R.gt,0,none⟩) R.all.length R.cap)
 c1:W.cell? ⟨R.gp,1,none⟩=some (.int .i64 ((k:Int)+1))
 t1:W.cell? ⟨R.gt,k*3+1,none⟩=some (.string (bs t.text))
theorem PRok.at2 {t:Lx.Tok} {q:List Lx.Tok} (h:PRok R (t::q) W) {k:Nat} (hk:R.all.length-(t::q).length=k) (ah:k+1=R.all.length-q.length) {W':World} (h':PRok R q W'):At2 R t k W':=by
 obtain⟨u,hu⟩:=h.suf;have hl:=congrArg List.length hu;rw[List.length_append,List.length_cons]at hl;have hku:k=u.length:=by rw[←hk,List.length_cons];omega
 have ht:=h'.tok.at u.length om;have he:R.all[u.length]'om=t:=by
  simp only[←hu];rw[List.getElem_append_right (Nat.le_refl _)];simp
 rw[he]at ht;subst hku;refine⟨h'.blk.cell 0,?_,ht.2.1⟩;have:=h'.blk.cell 1;rw[←ah]at this;simpa using this
end
theorem PRok.cons {R:PR} {ts:List Lx.Tok} {W:World} (h:PRok R ts W):∃t q,ts=t::q:=by
 cases ts with
 | nil=>exact absurd rfl h.good.ne
 | cons t q=>exact⟨t,q,rfl⟩
theorem Blk.row {W:World} {g:Nat} {t:TypeId} {cs:List Value} (h:Blk W g t cs) (ds:List Value):Blk (W.setRow g ds.toArray) g t ds:=setRow_heap W g _ _ _ _ h
theorem below_row {n g:Nat} (h:n≤g) (cells:Array Value) {W:World}:Below n W (W.setRow g cells) :=
 ⟨rfl,rfl,rfl,by simp[World.setRow],fun k hk=>by simp only[World.setRow,Array.getElem?_modify];rw[if_neg om]⟩
def tokV (t:Lx.Tok):Value:=.agg #[.int .i64 (t.kind:Int),.string (bs t.text),.int .i64 (t.at_:Int)]
theorem tf0 (a b c:Value) (w:World):(Instr.field 154 (.agg #[a,b,c]) 0).run prog w=.ok a w:=kr
theorem tf1 (a b c:Value) (w:World):(Instr.field 154 (.agg #[a,b,c]) 1).run prog w=.ok b w:=kr
theorem tf2 (a b c:Value) (w:World):(Instr.field 154 (.agg #[a,b,c]) 2).run prog w=.ok c w:=kr
attribute [local go_sem] tf0 tf1 tf2
theorem za1 (R:PR) (t:Lx.Tok) (q:List Lx.Tok) (W:World) (h:PRok R (t::q) W):Calls prog 75 #[ptr R.gp] W fun e w'=>e=.returned (tokV t)∧Below W.heap.size W w':=by
 obtain⟨k,-,an,-,hk⟩:=h.at;go_enter func75,ntmps75;go_wp2_with fail;have hb:=Below.alloc (Below.refl W.heap.size W) (Nat.le_refl _) (.cells #[.int .i64 0,.string ⟨#[]⟩,.int .i64 0] 154);have h1:=h.next hb;have hB:Blk (W.alloc (.cells #[.int .i64 0,.string ⟨#[]⟩,.int .i64 0] 154)) W.heap.size 154 [.int .i64 0,.string ⟨#[]⟩,.int .i64 0]:=Blk.new _ _ _;generalize W.alloc (.cells #[.int .i64 0,.string ⟨#[]⟩,.int .i64 0] 154)=W1 at *;obtain⟨c0,c1,f1,k0,k1,t0,t1,t2⟩:=h1.atk an;clear h h1 an;generalize hg:W.heap.size=g at *;go_still_tail 10,kr;change wpList _ _ _ _ _ W1.drew;have hB:=hB.drew;have hb:=hb.drew;generalize W1.drew=W2 at *;go_wp2_with (refine wpList_store_row rfl 154 (.tmp 2) (.tmp 12) rfl g ([.int .i64 (t.kind:Int),.string (bs t.text),.int .i64 (t.at_:Int)]:List Value).toArray rfl rfl 154 ([.int .i64 0,.string ⟨#[]⟩,.int .i64 0]:List Value).toArray hB kr kr kr ?_);obtain⟨e0,e1,e2⟩:=(Blk.row hB [.int .i64 (t.kind:Int),.string (bs t.text),.int .i64 (t.at_:Int)]).get3;refine bodyPost_ret (v:=tokV t) (by simp[results,results75,go_sem,e0,e1,e2,tokV]) rfl ⟨rfl,?_⟩;rw[←hg]at hb ⊢;exact hb.trans (below_row (Nat.le_refl _) _)
def panP (n:Nat):Ending:=.panicked [{ v:=.iface 80 (.agg #[.int .i64 (n:Int)]),recovered:=false }]
theorem kindI {k n:Nat}:((k:Int)==(n:Int))=(k==n):=by rw[Bool.eq_iff_iff];simp;omega
theorem strEq (a b:Pa.Tx):((bs a).toList==(bs b).toList)=(a==b):=by rw[zbb,zbb,tl_bs,tl_bs]
theorem is_any (s:Pa.Tx) (R:PR) (ts:List Lx.Tok) (W:World) (h:PRok R ts W):Calls prog 141 #[ptr R.gp,.string (bs s)] W fun e w'=>e=.returned (.bool (Pa.isT s ts))∧Below W.heap.size W w':=by
 obtain⟨t,q,rfl⟩:=h.cons;have H:=hid (za1 R t q _ h);cases hk:(t.kind==2)with
 | false =>
  have hd:((t.kind:Int)==2)=false:=(kindI (n:=2)).trans hk;have HR:Hid (Pa.isT s (t::q)=false):=hid (by rw[Pa.isT,hk];rfl);clear hk;go_enter func141,ntmps141;exact zt32
 | true =>
  have hd:((t.kind:Int)==2)=true:=(kindI (n:=2)).trans hk;have HR:Hid (Pa.isT s (t::q)=(t.text==s)):=hid (by rw[Pa.isT,hk];rfl);have HN:=hid (fun w' hb=>za1 R t q w' (h.next hb));clear hk;go_enter func141,ntmps141;go_wp2_with fail;refine H.out.mono ?_;rintro e w1 ⟨rfl,hb⟩;unfold tokV;go_wp2_with fail;refine(HN.out w1 hb).mono ?_;rintro e w2 ⟨rfl,aG⟩;unfold tokV;go_wp2_with fail;go_ret;rw[HR.out,←strEq t.text s];exact⟨rfl,hb.trans (aG.mono hb.size)⟩
def takeT (s:Pa.Tx) (ts:List Lx.Tok):List Lx.Tok:=if Pa.isT s ts then ts.tail else ts
theorem Hp.step {o:List Nat} {w W:World} {R:PR} {t:Lx.Tok} {q:List Lx.Tok} {it:List It} (h:Hp o w (ipr R (t::q)::it) W) (hk:t.kind≠3) {k:Nat} (ah:k+1=R.all.length-q.length) {n:Int} (hn:n=(k:Int)+1):Hp o w (ipr R q::it) (W.setCell ⟨R.gp,1,none⟩ (.int .i64 n)) :=
 h.adv (List.suffix_cons _ _) (h.pr.good.tail hk) (by rw[hn,←ah];simp)
theorem take_any (s:Pa.Tx) (R:PR) (ts:List Lx.Tok) (W:World) (h:PRok R ts W):Calls prog 73 #[ptr R.gp,.string (bs s)] W fun e w'=>e=.returned (.bool (Pa.isT s ts))∧Hp [R.gp,R.gt] W [ipr R (takeT s ts)] w':=by
 obtain⟨t,q,rfl⟩:=h.cons;have H:=hid h.self;have HI:=hid (is_any s R _ W h);cases hi:Pa.isT s (t::q)with
 | false =>
  rw[hi]at HI;have HR:Hid (takeT s (t::q)=t::q):=hid (by rw[takeT,hi];rfl);clear hi;go_enter func73,ntmps73;go_wp2_with fail;refine HI.out.mono ?_;rintro e w1 ⟨rfl,hb⟩;go_wp2_with fail;go_ret;rw[HR.out];exact⟨rfl,H.out.next hb⟩
 | true =>
  rw[hi]at HI;have HR:Hid (takeT s (t::q)=q):=hid (by rw[takeT,hi];rfl);have hk:t.kind≠3:=by simp[Pa.isT]at hi;omega
  clear hi;obtain⟨k,-,an,ah,aj⟩:=h.at;go_enter func73,ntmps73;go_wp2_with fail;refine HI.out.mono ?_;rintro e w1 ⟨rfl,hb⟩;have hH:=H.out.next hb;obtain⟨c0,c1,f1,k0,k1,t0,t1,t2⟩:=hH.pr.atk an;have HH:=hid (hH.step hk ah (n:=(k:Int)+1) rfl);clear hk ah t0 t1 t2 c0 hb hH an;go_wp2_with fail;go_ret;rw[HR.out];exact⟨rfl,HH.out⟩
end
section
open Go.RowKit Go.Shelf
open Lib (hid)
attribute [local go_sem] tf0 tf1 tf2
theorem prefix39 (t:Pa.Tx):Lib.hasPrefix t [39]=(t.head? ==some 39):=by
 cases t with
 | nil=>rfl
 | cons c m =>
  show(39==c&&true)=(some c==some 39);rw[Bool.and_true];show(39==c)=(c==39);exact Bool.eq_iff_iff.2 (by rw[beq_iff_eq,beq_iff_eq];exact eq_comm)
theorem isM_num {t:Lx.Tok} {q:List Lx.Tok} (hi:Pa.isM (t::q)=true) (hf:Pa.Fine t):∃neg d,Pa.NumT t.text neg d:=by
 simp only[Pa.isM,beq_iff_eq]at hi;cases hf with
 | word w hk h=>omega
 | name hk h=>omega
 | num neg d hk h=>exact⟨neg,d,h⟩
 | sign hk h0=>omega
 | end_ hk h=>omega
theorem isWord_any (R:PR) (ts:List Lx.Tok) (W:World) (h:PRok R ts W):Calls prog 145 #[ptr R.gp] W fun e w'=>e=.returned (.bool (Pa.isW ts))∧Below W.heap.size W w':=by
 obtain⟨t,q,rfl⟩:=h.cons;have H:=hid (za1 R t q _ h);cases hk:(t.kind==0)with
 | false =>
  have hd:((t.kind:Int)==0)=false:=(kindI (n:=0)).trans hk;have HR:Hid (Pa.isW (t::q)=false):=hid (by rw[Pa.isW,hk];rfl);clear hk;go_enter func145,ntmps145;exact zt32
 | true =>
  have hd:((t.kind:Int)==0)=true:=(kindI (n:=0)).trans hk;have HR:Hid (Pa.isW (t::q)=Lib.hasPrefix t.text [39]):=hid (by rw[Pa.isW,hk,prefix39];rfl);have HN:=hid (fun w' hb=>za1 R t q w' (h.next hb));have HP:=hid (fun w=>strings_HasPrefix (bs t.text) ⟨#[39]⟩ w);clear hk;go_enter func145,ntmps145;go_wp2_with fail;refine H.out.mono ?_;rintro e w1 ⟨rfl,hb⟩;unfold tokV;go_wp2_with fail;refine(HN.out w1 hb).mono ?_;rintro e w2 ⟨rfl,aG⟩;unfold tokV;go_wp2_with fail;refine(HP.out _).mono ?_;rintro e w3 ⟨rfl,hw⟩;subst hw;have e1:(bs t.text).data.toList=t.text:=tl_bs t.text;have aJ:=hb.trans (aG.mono hb.size);rw[e1];go_wp2_with fail;go_ret;rw[HR.out];exact⟨rfl,aJ⟩
theorem isName_any (R:PR) (ts:List Lx.Tok) (W:World) (h:PRok R ts W):Calls prog 140 #[ptr R.gp] W fun e w'=>e=.returned (.bool (Pa.isN ts))∧Below W.heap.size W w':=by
 obtain⟨t,q,rfl⟩:=h.cons;have H:=hid (za1 R t q _ h);have HW:=hid (fun w' hb=>isWord_any R _ w' (h.next hb));cases hk:(t.kind==0)with
 | false =>
  have hd:((t.kind:Int)==0)=false:=(kindI (n:=0)).trans hk;have HR:Hid (Pa.isN (t::q)=false):=hid (by rw[Pa.isN,hk];rfl);clear hk;go_enter func140,ntmps140;exact zt32
 | true =>
  have hd:((t.kind:Int)==0)=true:=(kindI (n:=0)).trans hk;have HR:Hid (Pa.isN (t::q)= !Pa.isW (t::q)):=hid (by rw[Pa.isN,hk];rfl);clear hk;generalize Pa.isW (t::q)=bw at *;go_enter func140,ntmps140;go_wp2_with fail;refine H.out.mono ?_;rintro e w1 ⟨rfl,hb⟩;unfold tokV;go_wp2_with fail;refine(HW.out w1 hb).mono ?_;rintro e w2 ⟨rfl,aG⟩;go_wp2_with fail;go_ret;rw[HR.out];exact⟨rfl,hb.trans (aG.mono hb.size)⟩
theorem atoiP_any (t:Lx.Tok) (q:List Lx.Tok) (hi:Pa.isM (t::q)=true) (hf:Pa.Fine t) (hl:t.text.length≤100000) (w:World):Calls prog 147 #[.string (bs t.text)] w fun e w'=>e=.returned (.tuple #[.int .i64 (Pa.numV t.text),.nilIface])∧Below w.heap.size w w':=by
 obtain⟨neg,d,hn⟩:=isM_num hi hf;have e1:(bs t.text).data.toList=t.text:=tl_bs t.text;refine(strconv_Atoi_ok (bs t.text) (by rw[size_bs];omega) _ (by rw[e1];exact(Pa.num_atoi hn).1) w).mono ?_;rintro e w' ⟨rfl,hw⟩;refine⟨rfl,?_⟩;rcases hw with rfl|⟨u,rfl⟩
 ·exact Below.refl _ _
 ·exact Lib.bytesWorld_below _ _ _
end
section
open Go.RowKit Go.Shelf
open Lib (hid)
theorem pletter_any (n:Nat) (w:World):Calls prog 197 #[.int .u8 (n:Int)] w fun e w'=>e=.returned (.bool (ltN n))∧w'=w:=by
 by_cases a:(97:Int)≤(n:Int)<;>by_cases b:(n:Int)≤122<;>by_cases c:(65:Int)≤(n:Int)<;>by_cases d:(n:Int)≤90 <;>
 first
 | (exfalso;omega)
 | (go_enter func197,ntmps197
    go_wp2_with fail;go_ret;exact⟨zao (by rw[Bool.eq_iff_iff];simp[ltN];omega),rfl⟩)
theorem pdigit_any (n:Nat) (w:World):Calls prog 198 #[.int .u8 (n:Int)] w fun e w'=>e=.returned (.bool (dgN n))∧w'=w:=by
 by_cases a:(48:Int)≤(n:Int)<;>by_cases b:(n:Int)≤57 <;>
 first
 | (exfalso;omega)
 | (go_enter func198,ntmps198
    go_wp2_with fail;go_ret;exact⟨zao (by rw[Bool.eq_iff_iff];simp[dgN];omega),rfl⟩)
theorem zbp (s:ByteArray) (hs:s.size≤9223372036854775807) (w:World):Calls prog 148 #[.string s] w fun e w'=>e=.returned (.bool (nameP s))∧Below w.heap.size w w':=by
 go_enter func148,ntmps148;go_upto_region 2 with fail;go_loopg [6] s.size (fun m s3 wx=>∃i:Nat,i≤s.size∧m=s.size-i∧s3=.int .i64 (i:Int)∧wx=w∧Hid (allN nmN ((tl s).take i)=true∧∀(h:0<s.size),0<i→ltN s[0].toNat=true));case atStart=>exact⟨0,Nat.zero_le _,rfl,rfl,rfl,hid ⟨rfl,fun _ h=>absurd h (Nat.lt_irrefl _)⟩⟩
 case round =>
  obtain⟨i,hi,rfl,rfl,rfl,HA⟩:=hrel;by_cases ay:i<s.size
  ·have aM:(i:Int)<(s.size:Int):=om;have bq:0<s.size:=om;have HT:=hid (allN_take (p:=nmN) ay);have HB:=hid (fun h=>allN_bad (p:=nmN) ay h);have HL:=hid (pletter_any s[i].toNat wr);have HD:=hid (pdigit_any s[i].toNat wr);have HN:Hid (nmN s[i].toNat=(ltN s[i].toNat||dgN s[i].toNat|| !((s[i].toNat:Int) != 95))):=hid (by
    unfold nmN;congr 1;rw[Bool.eq_iff_iff];simp;omega)
   have HZ:Hid (i=0→ltN s[i].toNat=false→nameP s=false):=hid (fun h1 h2=>by
    subst h1;unfold nameP;rw[dif_pos bq,h2];simp)
   have HF:Hid (nmN s[i].toNat=false→nameP s=false):=hid (fun h=>by
    unfold nameP;rw[dif_pos bq,HB.out h];simp)
   have HO:Hid (nmN s[i].toNat=true→(i=0→ltN s[i].toNat=true)→allN nmN ((tl s).take (i+1))=true∧∀(h:0<s.size),0<i+1→ltN s[0].toNat=true):=hid (fun h1 h2=>⟨by rw[HT.out,HA.out.1,h1];rfl,fun h _=>by
    by_cases hz:i=0
    ·subst hz;exact h2 rfl
    ·exact HA.out.2 h om⟩)
   clear HT HB HA;generalize ltN s[i].toNat=l at *;generalize dgN s[i].toNat=d at *;generalize nmN s[i].toNat=nn at *;go_wp2_with fail;refine HL.out.mono ?_;rintro e w1 ⟨rfl,hw⟩;subst hw;clear HL;cases l with
   | true =>
     have kp:=hid (HO.out (by rw[HN.out];rfl) (fun _=>rfl));exact zt72
   | false =>
     by_cases hz:i=0
     ·have HR:=hid (HZ.out hz rfl);have aY:((i:Int)==0)=true:=by rw[hz];rfl
      clear hz;go_wp2_with fail;go_ret;rw[HR.out];exact zv0
     ·have aY:((i:Int)==0)=false:=by rw[beq_eq_false_iff_ne];omega
      cases hu:((s[i].toNat:Int) != 95)with
      | false =>
        have kp:=hid (HO.out (by rw[HN.out,hu];cases d<;>rfl) (fun h=>absurd h hz));clear hz;go_wp2_with fail;first
         | (refine HD.out.mono ?_
            rintro e w2 ⟨rfl,hw⟩;subst hw;go_wp2_with fail;go_roundg (s.size-(i+1));case measure=>omega
            case rel=>exact⟨i+1,ay,rfl,by first|rfl|simp,rfl,kp⟩)
         | (go_roundg (s.size-(i+1))
            case measure=>omega
            case rel=>exact⟨i+1,ay,rfl,by first|rfl|simp,rfl,kp⟩)
      | true =>
        cases d with
        | true =>
          have kp:=hid (HO.out (by rw[HN.out];rfl) (fun h=>absurd h hz));clear hz;go_wp2_with fail;refine HD.out.mono ?_;rintro e w2 ⟨rfl,hw⟩;subst hw;exact zt72
        | false =>
          have HR:=hid (HF.out (by rw[HN.out,hu];rfl));clear hz;go_wp2_with fail;refine HD.out.mono ?_;rintro e w2 ⟨rfl,hw⟩;subst hw;go_wp2_with fail;go_ret;rw[HR.out];exact zv0
  ·have aM:¬(i:Int)<(s.size:Int):=om;have dm:=(allN_full (p:=nmN) ay).symm.trans HA.out.1;by_cases h0:s.size=0
   ·obtain⟨e1,e2⟩:=str_empty h0;have HV:Hid (nameP s=false):=hid (by unfold nameP;rw[dif_neg om]);exact zt57
   ·obtain⟨e1,e2⟩:=str_full (s:=s) om;have bq:0<s.size:=om;have hl:=HA.out.2 bq om;by_cases h1:s.size≤32
    ·have lB:(s.size:Int)≤32:=om;have HV:Hid (nameP s= !Lx.kw (tl s)):=hid (by unfold nameP;rw[dif_pos bq,decide_eq_true h1,dm,hl];rfl);have HK:=hid (zcs s wr);clear h0 dm hl;go_wp2_with fail;refine HK.out.mono ?_;rintro e w3 ⟨rfl,hw3⟩;subst hw3;have aJ:=Below.refl w3.heap.size w3;go_wp2_with fail;go_ret;rw[HV.out];exact⟨rfl,aJ⟩
    ·have lB:¬(s.size:Int)≤32:=om;have HV:Hid (nameP s=false):=hid (by unfold nameP;rw[dif_pos bq,decide_eq_false h1];simp);clear h0 dm hl;go_wp2_with fail;go_ret;rw[HV.out];exact zv0
theorem pword_any (s:ByteArray) (hs:s.size≤9223372036854775807) (w:World):Calls prog 149 #[.string s] w fun e w'=>e=.returned (.bool (wordP s))∧Below w.heap.size w w':=by
 go_enter func149,ntmps149;go_upto_region 2 with fail;go_loopg [6] s.size (fun m s3 wx=>∃i:Nat,i≤s.size∧m=s.size-i∧s3=.int .i64 (i:Int)∧wx=w∧Hid (allN wdN ((tl s).take i)=true));case atStart=>exact⟨0,Nat.zero_le _,rfl,rfl,rfl,hid rfl⟩
 case round =>
  obtain⟨i,hi,rfl,rfl,rfl,HA⟩:=hrel;by_cases ay:i<s.size
  ·have aM:(i:Int)<(s.size:Int):=om;have HT:=hid (allN_take (p:=wdN) ay);have HB:=hid (fun h=>allN_bad (p:=wdN) ay h);have HL:=hid (pletter_any s[i].toNat wr);have HD:=hid (pdigit_any s[i].toNat wr);have HN:Hid (wdN s[i].toNat=(ltN s[i].toNat||dgN s[i].toNat|| !((s[i].toNat:Int) != 95)|| !((s[i].toNat:Int) != 45))):=hid (by
    unfold wdN nmN;congr 1
    ·congr 1;rw[Bool.eq_iff_iff];simp;omega
    ·rw[Bool.eq_iff_iff];simp;omega)
   have HF:Hid (wdN s[i].toNat=false→wordP s=false):=hid (fun h=>by unfold wordP;rw[HB.out h];simp);have HO:Hid (wdN s[i].toNat=true→allN wdN ((tl s).take (i+1))=true):=hid (fun h=>by rw[HT.out,HA.out,h];rfl);clear HT HB HA;generalize ltN s[i].toNat=l at *;generalize dgN s[i].toNat=d at *;generalize wdN s[i].toNat=nn at *;cases hu:((s[i].toNat:Int) != 95)<;>cases hv:((s[i].toNat:Int) != 45)<;>cases l<;>cases d;all_goals
    go_wp2_with fail;refine HL.out.mono ?_;rintro e w1 ⟨rfl,hw⟩;subst hw;clear HL;go_wp2_with fail;first
     | (go_roundg (s.size-(i+1))
        case measure=>omega
        case rel=>exact⟨i+1,ay,rfl,by first|rfl|simp,rfl,hid (HO.out (by rw[HN.out,hu,hv];rfl))⟩)
     | (refine HD.out.mono ?_
        rintro e w2 ⟨rfl,hw⟩;subst hw;go_wp2_with fail;first
         | (go_roundg (s.size-(i+1))
            case measure=>omega
            case rel=>exact⟨i+1,ay,rfl,by first|rfl|simp,rfl,hid (HO.out (by rw[HN.out,hu,hv];rfl))⟩)
         | (go_ret
            rw[HF.out (by rw[HN.out,hu,hv];rfl)];exact⟨rfl,Below.refl _ _⟩))
  ·have aM:¬(i:Int)<(s.size:Int):=om;have dm:=(allN_full (p:=wdN) ay).symm.trans HA.out;by_cases h0:s.size=0
   ·obtain⟨e1,e2⟩:=str_empty h0;have HV:Hid (wordP s=false):=hid (by unfold wordP;rw[h0];rfl);exact zt57
   ·obtain⟨e1,e2⟩:=str_full (s:=s) om;by_cases h1:s.size≤32
    ·have lB:(s.size:Int)≤32:=om;have HV:Hid (wordP s=true):=hid (by unfold wordP;rw[decide_eq_true (by omega:0<s.size),decide_eq_true h1,dm];rfl);exact zt57
    ·have lB:¬(s.size:Int)≤32:=om;have HV:Hid (wordP s=false):=hid (by unfold wordP;rw[decide_eq_false h1];simp);exact zt57
end
section
open Go.RowKit Go.Shelf
attribute [local go_sem] tf0 tf1 tf2
end
section
open Go.RowKit Go.Shelf
attribute [local go_sem] tf0 tf1 tf2
inductive LF where
 | nil
 | cons (n:Pa.Nd) (g:Nat) (kv:Value) (kids rest:LF)
def LF.out:LF→Pa.F
 | .nil=>.nil
 | .cons n _ _ k r=>.cons n k.out r.out
def LF.app:LF→LF→LF
 | .nil,y=>y
 | .cons n g kv k r,y=>.cons n g kv k (r.app y)
def LF.roots:LF→List Nat
 | .nil=>[]
 | .cons _ g _ _ r=>g::r.roots
abbrev ptrs (l:List Nat):List Value:=l.map ptr
abbrev tcs (n:Pa.Nd) (kv:Value):List Value:=[.int .i64 (n.kind:Int),.int .i64 n.num,Sv n.name,Sv n.attr,.slice none 0 0,.int .i64 (n.at_:Int),kv]
abbrev itree (n:Pa.Nd) (g:Nat) (kv:Value):It:=iblk g 163 (tcs n kv)
abbrev iptrs (v:Value) (l:List Nat):It:=irow 159 1 v l.length (ptrs l)
def LF.its:LF→List It
 | .nil=>[]
 | .cons n g kv k r=>itree n g kv::iptrs kv k.roots::(k.its++r.its)
theorem LF.out_app (x y:LF):(x.app y).out=x.out.app y.out:=by
 induction x with
 | nil=>rfl
 | cons n g kv k r _ ih=>rw[LF.app,LF.out,LF.out,Pa.F.app,ih]
theorem LF.roots_app (x y:LF):(x.app y).roots=x.roots++y.roots:=by
 induction x with
 | nil=>rfl
 | cons n g kv k r _ ih=>rw[LF.app,LF.roots,LF.roots,ih];rfl
theorem LF.its_app (x y:LF):(x.app y).its=x.its++y.its:=by
 induction x with
 | nil=>rfl
 | cons n g kv k r _ ih=>rw[LF.app,LF.its,LF.its,ih,List.cons_append,List.cons_append,List.append_assoc]
theorem LF.roots_len (x:LF):x.roots.length=x.out.len:=by
 induction x with
 | nil=>rfl
 | cons n g kv k r _ ih=>rw[LF.roots,LF.out,Pa.F.len,List.length_cons,ih]
def TOut (R:PR) (W:World) (r:Pa.Rd Pa.F) (e:Ending) (w':World):Prop :=
 match r.1 with
 | none=>e=panP (Pa.atT r.2)∧Hp [R.gp,R.gt] W [ipr R r.2] w'
 | some f=>∃x g,LF.out x=f∧x.roots=[g]∧e=.returned (ptr g)∧Hp [R.gp,R.gt] W (ipr R r.2::x.its) w'
theorem TOut.leaf {R:PR} {W:World} {r:Pa.Rd Pa.F} {n:Pa.Nd} {q:List Lx.Tok} {w':World} {g:Nat} (h:r=(some (Pa.leaf n),q)) (hH:Hp [R.gp,R.gt] W [ipr R q,itree n g (.slice none 0 0)] w'):TOut R W r (.returned (ptr g)) w':=by
 subst h;refine⟨.cons n g (.slice none 0 0) .nil .nil,g,rfl,rfl,rfl,?_⟩;exact(hH.nilrow 159 1).perm ((List.Perm.swap _ _ _).trans (List.Perm.cons _ (List.Perm.swap _ _ _)))
abbrev zNd:List Value:=[.int .i64 0,.int .i64 0,.string ⟨#[]⟩,.string ⟨#[]⟩,.slice none 0 0,.int .i64 0]
abbrev ncs (n:Pa.Nd):List Value:=[.int .i64 (n.kind:Int),.int .i64 n.num,Sv n.name,Sv n.attr,.slice none 0 0,.int .i64 (n.at_:Int)]
end
section
open Go.RowKit Go.Shelf
theorem Hp.newrow {o:List Nat} {w W:World} {it:List It} (h:Hp o w it W) (e:TypeId) (xs:List Value) (hm:xs.length≤maxLen):Hp o w (irow e 1 (.slice (some ⟨W.heap.size,0,none⟩) xs.length xs.length) xs.length xs::it) (W.alloc (.cells xs.toArray e)):=by
 have hB:Blk (W.alloc (.cells xs.toArray e)) W.heap.size e xs:=Blk.new _ _ _;have h1:Hp (ow []) W [irow e 1 (.slice (some ⟨W.heap.size,0,none⟩) xs.length xs.length) xs.length xs] (W.alloc (.cells xs.toArray e)):=by
  refine⟨⟨fun x hx=>?_,by simp[irow,Value.ownBlock]⟩,⟨(Below.refl _ _).alloc (Nat.zero_le _) _,fun k hk _=>Below.heap_alloc _ _ _ hk,fun b hb=>.inr ?_⟩⟩
  ·rw[List.mem_singleton.1 hx];exact⟨by rw[Nat.mul_one],.inr ⟨W.heap.size,xs.length,xs.toArray,rfl,Nat.zero_le _,hB,Nat.le_refl _,hm,by simp,by simp⟩⟩
  ·simp[irow,Value.ownBlock]at hb;omega
 exact zvg
theorem new1p (w:World) (t:TypeId) (a:Value):∀(j:Nat) u,[a][j]? =some u→(w.alloc (.cells #[a] t)).cell? ((⟨w.heap.size,0,none⟩:Addr).add j)=some u:=by
 exact zt34
end
section
open Go.RowKit Go.Shelf
theorem idx_bs (t:Pa.Tx):∀(l:List Pa.Tx) (i:Nat),Lib.idxFromS (l.map bs) (bs t) i=(match l.findIdx? (fun s=>s==t)with
 | some k=>((i+k:Nat):Int)
 | none=>-1)
 | [],i=>rfl
 | a::l,i=>by
  rw[List.map_cons,Lib.idxFromS,List.findIdx?_cons];by_cases h:a=t
  ·subst h;simp
  ·have h2:¬bs a=bs t:=fun e=>h (bs_inj.1 e);have h3:(a==t)=false:=by simpa using h
   rw[if_neg h2,idx_bs t l (i+1),h3];cases hf:l.findIdx? (fun s=>s==t)with
   | none=>simp
   | some k =>
    show((i+1+k:Nat):Int)=((i+(k+1):Nat):Int);congr 1;omega
abbrev cmpsV:List Value:=[.string ⟨#[61]⟩,.string ⟨#[33,61]⟩,.string ⟨#[60]⟩,.string ⟨#[60,61]⟩,.string ⟨#[62]⟩,.string ⟨#[62,61]⟩]
abbrev icmps (g:Nat):It:=iblk g 9 cmpsV
theorem cmps_cells {W:World} {g:Nat} (h:Blk W g 9 cmpsV):∀j,j<(Pa.cmps.map bs).length→W.cell? ⟨g,0+j,none⟩=some (.string ((Pa.cmps.map bs).getD j ByteArray.empty)):=by
 intro j hj;rw[Nat.zero_add,h.cell j];have hj:j<6:=hj
 match j,hj with
 | 0,_=>rfl
 | 1,_=>rfl
 | 2,_=>rfl
 | 3,_=>rfl
 | 4,_=>rfl
 | 5,_=>rfl
theorem cmps_take:(Pa.cmps.map bs).take 6=Pa.cmps.map bs:=rfl
def cmpT (t:Pa.Tx):Option Nat:=Pa.cmps.findIdx? fun s=>s==t
theorem contains_any (t:Pa.Tx) (g:Nat) (W:World) (h:Blk W g 9 cmpsV):Calls prog 86 #[.slice (some ⟨g,0,none⟩) 6 6,.string (bs t)] W fun e w'=>e=.returned (.bool (cmpT t).isSome)∧w'=W:=by
 refine(slices_Contains_string g 0 6 6 (Pa.cmps.map bs) (bs t) W zy0 zy0 (cmps_cells h)).mono ?_;rintro e w' ⟨rfl,rfl⟩;refine⟨?_,rfl⟩;refine zao ?_;rw[cmps_take,Lib.containsS,Lib.idxOfS,idx_bs];show _=(cmpT t).isSome;unfold cmpT;cases Pa.cmps.findIdx? (fun s=>s==t)with
 | none=>rfl
 | some k=>simp
theorem index_any (t:Pa.Tx) (k:Nat) (hk:cmpT t=some k) (g:Nat) (W:World) (h:Blk W g 9 cmpsV):Calls prog 152 #[.slice (some ⟨g,0,none⟩) 6 6,.string (bs t)] W fun e w'=>e=.returned (.int .i64 (k:Int))∧w'=W:=by
 refine(slices_Index_string g 0 6 6 (Pa.cmps.map bs) (bs t) W zy0 zy0 (cmps_cells h)).mono ?_;rintro e w' ⟨rfl,rfl⟩;refine⟨?_,rfl⟩;refine zay ?_;rw[cmps_take,Lib.idxOfS,idx_bs];unfold cmpT at hk;rw[hk];simp
theorem comparisons_any (W:World):Calls prog 187 #[] W fun e w'=>e=.returned (.slice (some ⟨W.heap.size,0,none⟩) 6 6)∧Hp [] W [icmps W.heap.size] w':=by
 go_enter func187,ntmps187;go_wp2_with fail;go_ret;exact⟨rfl,(Hp.start W).new 9 cmpsV⟩
end
section
open Go.RowKit Go.Shelf
attribute [local go_sem] tf0 tf1 tf2
theorem TOut.node {R:PR} {W:World} {r:Pa.Rd Pa.F} {n:Pa.Nd} {f:Pa.F} {q:List Lx.Tok} {w':World} {g:Nat} {kv:Value} (h:r=(some (.cons n f .nil),q)) (x:LF) (hx:LF.out x=f) (hH:Hp [R.gp,R.gt] W (ipr R q::itree n g kv::iptrs kv x.roots::x.its) w'):TOut R W r (.returned (ptr g)) w':=by
 subst h;refine⟨.cons n g kv x .nil,g,?_,rfl,rfl,?_⟩
 ·show Pa.F.cons n (LF.out x) .nil=_;rw[hx]
 ·show Hp _ W (ipr R q::itree n g kv::iptrs kv x.roots::(x.its++[])) w';rw[List.append_nil];exact hH
theorem cond_done {o:List Nat} {W wE:World} {R:PR} {q:List Lx.Tok} {gn:Nat} {t:TypeId} {cs:List Value} {kv:Value} {r:List It} (nd:Pa.Nd) (h:Hp o W (ipr R q::iblk gn t cs::r) wE):Hp o W (ipr R q::itree nd wE.heap.size kv::r) (wE.alloc (.cells (tcs nd kv).toArray 163)):=by
 refine((h.new 163 (tcs nd kv)).perm ?_).sub (r:=[iblk gn t cs]);refine(List.Perm.swap _ _ _).trans (List.Perm.cons _ ?_);show(itree nd _ _::iblk gn t cs::r).Perm (itree nd _ _::(r++[iblk gn t cs]));exact List.Perm.cons _ (List.perm_append_singleton _ _).symm
theorem zbl {W:World} {b g i j:Nat} {v:Value} (h:W.cell? ⟨b,j,none⟩=some v) (aT:g≠b) (u:Value):(W.setCell ⟨g,i,none⟩ u).cell? ⟨b,j,none⟩=some v:=by
 rw[←h];simp only[World.cell?,World.setCell];rw[Array.getElem?_modify,if_neg aT]
abbrev itok (g:Nat) (t:Lx.Tok):It:=iblk g 154 [.int .i64 (t.kind:Int),.string (bs t.text),.int .i64 (t.at_:Int)]
end
section
open Go.RowKit Go.Shelf
attribute [local go_sem] tf0 tf1 tf2
abbrev ibox (g gp:Nat):It:=iblk g 76 [ptr gp]
abbrev ivar (g go:Nat):It:=iblk g 159 [ptr go]
end
section
open Go.RowKit Go.Shelf
attribute [local go_sem] tf0 tf1 tf2
theorem TOut.lift {R:PR} {w W W':World} {ts:List Lx.Tok} {r:Pa.Rd Pa.F} {e:Ending} {a:List It} (hk:Hp [R.gp,R.gt] W (ipr R ts::a) w) (h:TOut R w r e W'):TOut R W r e W':=by
 unfold TOut at h ⊢;obtain⟨oo,q⟩:=r;cases oo with
 | none=>exact⟨h.1,(hk.rd1 h.2).sub (r:=a)⟩
 | some f =>
  obtain⟨x,g,h1,h2,h3,h4⟩:=h;exact⟨x,g,h1,h2,h3,Hp.sub (r:=a) (hk.rd h4)⟩
end
section
open Go.RowKit Go.Shelf
abbrev NV:=(Pa.Nd×List Nat)×(Option Addr×Nat)
abbrev nats (l:List Nat):List Value:=l.map fun(n:Nat)=>.int .i64 (n:Int)
abbrev nvc (x:NV):List Value:=[.int .i64 (x.1.1.kind:Int),.int .i64 x.1.1.num,Sv x.1.1.name,Sv x.1.1.attr,.slice x.2.1 x.1.2.length x.2.2,.int .i64 (x.1.1.at_:Int)]
def zag (P:List NV):List Value:=P.flatMap nvc
abbrev inodes (v:Value) (P:List NV):It:=irow 68 6 v P.length (zag P)
abbrev inats (v:Value) (l:List Nat):It:=irow 3 1 v l.length (nats l)
def krows (P:List NV):List It:=P.map fun x=>inats (.slice x.2.1 x.1.2.length x.2.2) x.1.2
theorem zcr (P:List NV) (x:NV):zag (P++[x])=zag P++nvc x:=by simp[zag]
theorem krows_app (P Q:List NV):krows (P++Q)=krows P++krows Q:=by simp[krows]
theorem za0 (P:List NV):(zag P).length=P.length*6:=by
 induction P with
 | nil=>rfl
 | cons x P ih =>
  have e:zag (x::P)=nvc x++zag P:=rfl;exact zt82
theorem node_info:(prog.info? 68).map (fun i=>(i.zero,i.size,i.bytes))=some (some (.agg zNd.toArray),6,80):=kr
theorem int_info:(prog.info? 3).map (fun i=>(i.zero,i.size,i.bytes))=some (some (.int .i64 0),1,8):=kr
abbrev tits (n:Pa.Nd) (g:Nat) (kv:Value) (k:LF):List It:=itree n g kv::iptrs kv k.roots::k.its
def NumOK (n:Pa.Nd) (g:Nat) (kv:Value) (k:LF):Prop:=∀(P:List NV) (v:Value) (W:World),P.length+(Pa.F.cons n k.out .nil).size≤1000000→Sep W (inodes v P::tits n g kv k) →
 Calls prog 80 #[ptr g,v] W fun e w'=>∃Q v',Q.map Prod.fst=(Pa.F.cons n k.out .nil).num P.length∧e=.returned v'∧Hp (ow (inodes v P::tits n g kv k)) W (inodes v' (P++Q)::(tits n g kv k++krows Q)) w'
def LF.All (p:Pa.Nd→Nat→Value→LF→Prop):LF→Prop
 | .nil=>True
 | .cons n g kv k r=>p n g kv k∧k.All p∧r.All p
theorem LF.split (x:LF):∀i,i<x.roots.length→∃(a:LF) (n:Pa.Nd) (g:Nat) (kv:Value) (k b:LF),x=a.app (.cons n g kv k b)∧a.roots.length=i:=by
 induction x with
 | nil=>intro i h;simp[LF.roots]at h
 | cons n g kv k r _ ih =>
  intro i h;cases i with
  | zero=>exact⟨.nil,n,g,kv,k,r,rfl,rfl⟩
  | succ i =>
   obtain⟨a,n2,g2,ei,k2,b,h1,h2⟩:=ih i (by simpa[LF.roots]using h);exact⟨.cons n g kv k a,n2,g2,ei,k2,b,by rw[h1];rfl,by simp[LF.roots,h2]⟩
theorem LF.All.at {p:Pa.Nd→Nat→Value→LF→Prop} {a b k:LF} {n:Pa.Nd} {g:Nat} {kv:Value} (h:(a.app (.cons n g kv k b)).All p):p n g kv k:=by
 induction a with
 | nil=>exact h.1
 | cons n2 g2 ei k2 r _ ih=>exact ih h.2.2
end
section
open Go.RowKit Go.Shelf
theorem new6p (w:World) (t:TypeId) (a b c d f i:Value):∀(j:Nat) u,[a,b,c,d,f,i][j]? =some u→(w.alloc (.cells #[a,b,c,d,f,i] t)).cell? ((⟨w.heap.size,0,none⟩:Addr).add j)=some u:=by
 intro j u hu;have e:(⟨w.heap.size,0,none⟩:Addr).add j=⟨w.heap.size,j,none⟩:=by unfold Addr.add;split<;>simp_all
 rw[e,(show Blk (w.alloc (.cells #[a,b,c,d,f,i] t)) w.heap.size t [a,b,c,d,f,i]from Blk.new w t [a,b,c,d,f,i]).cell j];exact hu
theorem zb2 {W:World} {e:TypeId} {size n m:Nat} {v:Value} {xs:List Value} (h:W.ownsRow 0 e size v n xs) (hm:n=m):W.ownsRow 0 e size v m xs:=hm▸h
theorem len_size (f:Pa.F):f.len≤f.size:=by
 induction f with
 | nil=>exact Nat.le_refl 0
 | cons n k r _ ih=>rw[Pa.F.len,Pa.F.size];omega
theorem perm_go {α:Type} (X Y T U:α) (A B D K:List α):(X::Y::(T::U::(A++(B++D))++K)).Perm ((X::B)++(Y::T::U::(A++D++K))):=by
 have h:=(List.perm_append_comm (l₁:=[Y,T,U]++A) (l₂:=B)).append_right (D++K);simp only[List.append_assoc,List.cons_append,List.nil_append]at h ⊢;exact List.Perm.cons X h
theorem perm_back {α:Type} (X Y T U:α) (A B D K L:List α):((X::(B++L))++(Y::T::U::(A++D++K))).Perm (X::Y::(T::U::(A++(B++D))++(K++L))):=by
 have h1:((X::(B++L))++(Y::T::U::(A++D++K))).Perm ((X::B)++(Y::T::U::(A++D++(K++L)))):=by
  have h:=(List.perm_append_comm (l₁:=L) (l₂:=Y::T::U::(A++D++K))).append_left (X::B);simp only[List.append_assoc,List.cons_append]at h ⊢;exact h
 exact h1.trans (perm_go X Y T U A B D (K++L)).symm
theorem LF.app_assoc (x y z:LF):(x.app y).app z=x.app (y.app z):=by
 induction x with
 | nil=>rfl
 | cons n g kv k r _ ih=>rw[LF.app,LF.app,LF.app,ih]
abbrev nv0 (n:Pa.Nd):NV:=((n,[]),(none,0))
theorem num_any (n:Pa.Nd) (g:Nat) (kv:Value) (k:LF) (ih:k.All NumOK):NumOK n g kv k:=by
 intro P v W hb hS;have ar:=Hp.self hS;generalize ow (inodes v P::tits n g kv k)=o at *;clear hS;obtain⟨A,c,rfl⟩:=zab (ar.row 0 rfl);obtain⟨KA,kc,rfl⟩:=zab (ar.row 2 rfl);obtain⟨i0,aL,bg,aY,bh⟩:=info_parts node_info;obtain⟨j0,bT,dE,fB,dH⟩:=info_parts int_info;obtain⟨d0,d1,d2,d3,d4,d5,d6⟩:=(ar.blk 1 rfl).get7;have bu:=ar.size;have HB:=Lib.hid hb;have aC:P.length≤999999:=by
  have:(Pa.F.cons n k.out .nil).size=k.out.size+0+1:=rfl;omega
 have bk:k.roots.length≤1000000:=by
  have h1:(Pa.F.cons n k.out .nil).size=k.out.size+0+1:=rfl;have h2:=len_size k.out;rw[LF.roots_len];omega
 clear hb;go_enter func80,ntmps80;go_wp2_with (at_builtin;refine zac rfl _ _ 27 rfl 0 68 i0 _ 6 80 underlying27 aL bg aY bh rfl zy0 _ P.length (zag P) rfl ((ar.alloc _).row 0 rfl) ⟨W.heap.size,0,none⟩ 1 1 (ncs n) rfl rfl (new6p _ _ _ _ _ _ _ _) zyd zy0 zy2 om (Nat.zero_le _) ?_;intro v' w1 af ai aH;obtain⟨A1,c1,rfl⟩:=zab af;have an:=(ar.alloc (.cells (ncs n).toArray 68)).grown 0 rfl af ai aH;obtain⟨d0,d1,d2,d3,d4,d5,d6⟩:=(an.blk 1 rfl).get7;clear af ai aH);have lf:=Lib.hid ih;clear ih;have ah:Hp o W (inodes (.slice A1 (P.length+1) c1) (P++[nv0 n])::inats (.slice none 0 0) []::(tits n g (.slice KA k.roots.length kc) k++krows [])) w1:=by
  have h1:=an.nilrow 3 1;have e1:(P++[nv0 n]).length=P.length+1:=by simp
  have e2:zag (P++[nv0 n])=zag P++ncs n:=by rw[zcr];rfl
  unfold inodes;rw[e1,e2];show Hp o W (_::inats (.slice none 0 0) []::(tits n g (.slice KA k.roots.length kc) k++[])) w1;rw[List.append_nil];exact h1.perm (List.Perm.swap _ _ _)
 clear an ar d0 d1 d2 d3 d4 d5 d6;go_loopg [1,6,23] (k.roots.length+1) (fun m s1 s6 wA wx=>∃(a b:LF) (Q:List NV) (OA VK:Option Addr) (oc vc:Nat),m=b.roots.length+1∧s1=.slice OA (P.length+1+Q.length) oc∧s6=.slice VK a.roots.length vc∧wA=.int .i64 (a.roots.length:Int)∧a.roots.length+b.roots.length=k.roots.length∧Hid (k=a.app b∧Q.map Prod.fst=a.out.num (P.length+1))∧Hp o W (inodes (.slice OA (P.length+1+Q.length) oc) (P++[nv0 n]++Q)::inats (.slice VK a.roots.length vc) (a.out.idx (P.length+1))::(tits n g (.slice KA k.roots.length kc) k++krows Q)) wx);case atStart=>exact⟨.nil,k,[],A1,none,c1,0,rfl,rfl,rfl,rfl,by simp[LF.roots],Lib.hid ⟨rfl,rfl⟩,by rw[List.append_nil];exact ah⟩
 case round =>
  obtain⟨a,b,Q,OA,VK,oc,vc,rfl,rfl,rfl,rfl,dt,HE,hM⟩:=hrel;clear ah;have jY:=hM.size;cases b with
  | nil =>
   have hd:decide ((a.roots.length:Int)<(k.roots.length:Int))=false:=by
    have e:(LF.nil).roots.length=0:=rfl;rw[e]at dt;simp;omega
   have cg:Hid (k=a∧Q.map Prod.fst=a.out.num (P.length+1)):=Lib.hid ⟨by
    rw[HE.out.1];clear hM HE dt hd
    induction a with
    | nil=>rfl
    | cons n g kv k r _ ih=>rw[LF.app,ih],HE.out.2⟩
   clear HE;have aD:(P++[nv0 n]++Q).length=P.length+1+Q.length:=by simp;omega
   have cA:=zb2 (hM.row 0 rfl) aD;obtain⟨go,oc',fS,-⟩:=zak cA om;have me:OA=some ⟨go,0,none⟩:=by injection fS
   subst me;clear fS;have e:zag (P++[nv0 n]++Q)=zag P++(ncs n++zag Q):=by simp[zag]
   have lm:wr.cell? ⟨go,P.length*6+4,none⟩=some (.slice none 0 0):=zal cA (by
    rw[e,List.getElem?_append_right zu6,za0,Nat.add_sub_cancel_left];rfl)
   have oI:=zbw cA (P.length*6+4);have pp:(P.length:Int)<(P.length:Int)+1+(Q.length:Int):=om;have mO:¬a.roots.length<k.roots.length:=by
    have e:(LF.nil).roots.length=0:=rfl;rw[e]at dt;omega
   have az:Hp o W (irow 68 6 (.slice (some ⟨go,0,none⟩) (P.length+1+Q.length) oc) (P.length+1+Q.length) (zag (P++[nv0 n]++Q))::inats (.slice VK a.roots.length vc) (a.out.idx (P.length+1))::(tits n g (.slice KA k.roots.length kc) k++krows Q)) wr:=by
    have h1:=hM;unfold inodes at h1;rw[aD]at h1;exact h1
   have ay:(a.out.idx (P.length+1)).length=a.roots.length:=by rw[Pa.F.idx_len,LF.roots_len]
   have HM:=Lib.hid (az.rowset 0 rfl (P.length*6+4) om (.slice VK a.roots.length vc));have HL:=Lib.hid (And.intro aD (And.intro e ay));clear hM az cA e aD ay hd dt jY;go_wp2_with fail;go_ret;refine⟨((n,a.out.idx (P.length+1)),(VK,vc))::Q,_,?_,rfl,?_⟩
   ·rw[List.map_cons,cg.out.2,cg.out.1];show _=(n,_)::(a.out.num (P.length+1)++[]);rw[List.append_nil]
   ·have h1:=HM.out;have e2:(P++((n,a.out.idx (P.length+1)),(VK,vc))::Q).length=P.length+1+Q.length:=by simp;omega
    have e3:(zag (P++[nv0 n]++Q)).set (P.length*6+4) (.slice VK a.roots.length vc)=zag (P++((n,a.out.idx (P.length+1)),(VK,vc))::Q):=by
     rw[HL.out.2.1,List.set_append_right _ _ zu6,za0,Nat.add_sub_cancel_left];have e4:zag (P++((n,a.out.idx (P.length+1)),(VK,vc))::Q)=zag P++(nvc ((n,a.out.idx (P.length+1)),(VK,vc))++zag Q):=by simp[zag]
     rw[e4];show _=zag P++([_,_,_,_,.slice VK (a.out.idx (P.length+1)).length vc,_]++zag Q);rw[HL.out.2.2];rfl
    unfold inodes;rw[e2,←e3];refine h1.perm (List.Perm.cons _ ?_);show(inats (.slice VK a.roots.length vc) (a.out.idx (P.length+1))::(tits n g (.slice KA k.roots.length kc) k++krows Q)).Perm (tits n g (.slice KA k.roots.length kc) k++(inats (.slice VK (a.out.idx (P.length+1)).length vc) (a.out.idx (P.length+1))::krows Q));rw[HL.out.2.2];exact List.perm_middle.symm
  | cons n2 g2 ei k2 r2 =>
   have aQ:(a.roots.length:Int)<(k.roots.length:Int):=by
    have e:(LF.cons n2 g2 ei k2 r2).roots.length=r2.roots.length+1:=rfl;rw[e]at dt;omega
   have gK:(0:Int)≤(a.roots.length:Int):=om;have hN:NumOK n2 g2 ei k2:=by
    have h1:=lf.out;rw[HE.out.1]at h1;exact h1.at
   obtain⟨gk,kc',d',-⟩:=zak (hM.row 3 rfl) om;have cM:KA=some ⟨gk,0,none⟩:=by injection d'
   subst cM;clear d';have lK:wr.cell? ⟨gk,a.roots.length,none⟩=some (ptr g2):=zal (hM.row 3 rfl) (by
    have:k.roots=a.roots++g2::r2.roots:=by rw[HE.out.1,LF.roots_app];rfl
    rw[this];simp[ptrs])
   have HN:=Lib.hid hN;clear hN;go_wp2_with (at_builtin;refine zac rfl _ _ 61 rfl 0 3 j0 _ 1 8 underlying61 bT dE fB dH rfl zy0 _ a.roots.length (nats (a.out.idx (P.length+1))) rfl (zb2 ((hM.alloc _).row 1 rfl) (by rw[Pa.F.idx_len,LF.roots_len])) ⟨wr.heap.size,0,none⟩ 1 1 [.int .i64 ((P.length:Int)+1+(Q.length:Int))] rfl rfl (new1p _ _ _) zy3 zy0 zy2 om (Nat.zero_le _) ?_;intro v' w3 af ai aH);obtain⟨dn,du,rfl⟩:=zab af;have jh:Q.length=a.out.size:=by
    have:=congrArg List.length HE.out.2;rwa[List.length_map,Pa.F.num_len]at this
   have az:=(hM.alloc (.cells #[.int .i64 ((P.length:Int)+1+(Q.length:Int))] 3)).grown 1 rfl af ai aH;clear af ai aH lK;have cL:k.out.size=a.out.size+(k2.out.size+r2.out.size+1):=by rw[HE.out.1,LF.out_app,Pa.F.size_app];rfl
   have mG:k.its=a.its++(tits n2 g2 ei k2++r2.its):=by rw[HE.out.1,LF.its_app];rfl
   have gB:(a.app (LF.cons n2 g2 ei k2 .nil)).roots=a.roots++[g2]:=by rw[LF.roots_app];rfl
   have dY:nats ((a.app (LF.cons n2 g2 ei k2 .nil)).out.idx (P.length+1))=nats (a.out.idx (P.length+1))++[.int .i64 ((P.length:Int)+1+(Q.length:Int))]:=by
    rw[LF.out_app,Pa.F.idx_app,jh];show nats (_++[P.length+1+a.out.size])=_;simp[nats]
   have ay:((a.app (LF.cons n2 g2 ei k2 .nil)).out.idx (P.length+1)).length=a.roots.length+1:=by
    rw[Pa.F.idx_len,←LF.roots_len,gB];simp
   have aR:Hp o W ((inodes (.slice OA (P.length+1+Q.length) oc) (P++[nv0 n]++Q)::tits n2 g2 ei k2)++(inats (.slice dn (a.roots.length+1) du) ((a.app (LF.cons n2 g2 ei k2 .nil)).out.idx (P.length+1))::itree n g (.slice (some ⟨gk,0,none⟩) k.roots.length kc)::iptrs (.slice (some ⟨gk,0,none⟩) k.roots.length kc) k.roots::(a.its++r2.its++krows Q))) w3:=by
    refine Hp.perm ?_ (perm_go _ _ _ _ _ _ _ _);unfold inats;rw[dY,ay,←mG];exact az
   clear az hM;have pY:(P++[nv0 n]++Q).length+(Pa.F.cons n2 k2.out .nil).size≤1000000:=by
    have h1:(Pa.F.cons n2 k2.out .nil).size=k2.out.size+0+1:=rfl;have h2:(Pa.F.cons n k.out .nil).size=k.out.size+0+1:=rfl;have h3:=HB.out;exact zt78
   refine(HN.out _ _ w3 pY ⟨fun x hx=>aR.sep.ok x (List.mem_append_left _ hx),(List.nodup_append.1 (by have:=aR.sep.ap;rw[zar]at this;exact this)).1⟩).mono ?_;rintro e w4 ⟨Q2,v2,iA,rfl,hH⟩;obtain⟨jq,iY,rfl⟩:=zab (hH.row 0 rfl);have bn:=Hp.call aR hH;clear aR hH HN;have bE:Hp o W (inodes (.slice jq (P++[nv0 n]++Q++Q2).length iY) (P++[nv0 n]++(Q++Q2))::inats (.slice dn (a.roots.length+1) du) ((a.app (LF.cons n2 g2 ei k2 .nil)).out.idx (P.length+1))::(tits n g (.slice (some ⟨gk,0,none⟩) k.roots.length kc) k++krows (Q++Q2))) w4:=by
    have h1:=bn.perm (perm_back _ _ _ _ _ _ _ _ _);rw[krows_app];rw[←mG]at h1;rw[←List.append_assoc (P++[nv0 n])];exact h1
   have aD:(P++[nv0 n]++Q++Q2).length=P.length+1+(Q++Q2).length:=by simp;omega
   have eQ:(a.app (LF.cons n2 g2 ei k2 .nil)).roots.length=a.roots.length+1:=by rw[gB];simp
   have HX:Hid ((k=(a.app (LF.cons n2 g2 ei k2 .nil)).app r2∧(Q++Q2).map Prod.fst=(a.app (LF.cons n2 g2 ei k2 .nil)).out.num (P.length+1))∧(a.app (LF.cons n2 g2 ei k2 .nil)).roots.length+r2.roots.length=k.roots.length∧a.roots.length+1=(a.app (LF.cons n2 g2 ei k2 .nil)).roots.length):=Lib.hid (by
    refine⟨⟨?_,?_⟩,?_,eQ.symm⟩
    ·rw[LF.app_assoc,HE.out.1];rfl
    ·rw[LF.out_app,Pa.F.num_app,List.map_append,HE.out.2,iA];congr 2;exact zt78
    ·have e:(LF.cons n2 g2 ei k2 r2).roots.length=r2.roots.length+1:=rfl;rw[e]at dt;omega)
   rw[aD]at bE ⊢;clear bn aD eQ gB mG dY ay cL jh iA pY HE dt;generalize a.app (LF.cons n2 g2 ei k2 .nil)=a2 at *;generalize Q++Q2=Q3 at *;go_wp2_with fail;go_roundg (r2.roots.length+1);case measure =>
    have e:(LF.cons n2 g2 ei k2 r2).roots.length=r2.roots.length+1:=rfl;rw[e];omega
   case rel =>
    refine⟨a2,r2,Q3,jq,dn,iY,du,rfl,rfl,?_,?_,HX.out.2.1,Lib.hid HX.out.1,?_⟩
    ·rw[HX.out.2.2]
    ·rw[←HX.out.2.2];rfl
    ·rw[HX.out.2.2]at bE;exact bE
theorem all_num (x:LF):x.All NumOK:=by
 induction x with
 | nil=>trivial
 | cons n g kv k r fU fH=>exact⟨num_any n g kv k fU,fU,fH⟩
end
section
open Go.RowKit Go.Shelf
attribute [local go_sem] tf0 tf1 tf2
def pcells (l:List (Pa.Tx×Pa.Tx)):List Value:=l.flatMap fun x=>[Sv x.1,Sv x.2]
abbrev iuses (v:Value) (l:List (Pa.Tx×Pa.Tx)):It:=irow 50 2 v l.length (pcells l)
abbrev irefs (v:Value) (l:List (Pa.Tx×Pa.Tx)):It:=irow 89 2 v l.length (pcells l)
theorem use_info:(prog.info? 50).map (fun i=>(i.zero,i.size,i.bytes))=some (some (.agg #[.string ⟨#[]⟩,.string ⟨#[]⟩]),2,32):=kr
abbrev plc (nm:Pa.Tx) (vu vr vn:Value) (sc:Pa.Tx) (lim:Int) (esc:Pa.Tx):List Value:=[Sv nm,vu,vr,vn,.int .i64 0,Sv sc,.int .i64 lim,Sv esc]
theorem Blk.get8 {w:World} {g:Nat} {t:TypeId} {a b c d e f i j:Value} (h:Blk w g t [a,b,c,d,e,f,i,j]):w.cell? ⟨g,0,none⟩=some a∧w.cell? ⟨g,1,none⟩=some b∧w.cell? ⟨g,2,none⟩=some c∧w.cell? ⟨g,3,none⟩=some d∧w.cell? ⟨g,4,none⟩=some e∧w.cell? ⟨g,5,none⟩=some f∧w.cell? ⟨g,6,none⟩=some i∧w.cell? ⟨g,7,none⟩=some j:=⟨h.cell 0,h.cell 1,h.cell 2,h.cell 3,h.cell 4,h.cell 5,h.cell 6,h.cell 7⟩
end
namespace Fm
open Go.RowKit
theorem cell_lt {W:World} {a:Addr} {v:Value} (h:W.cell? a=some v):a.block<W.heap.size:=by
 rcases Nat.lt_or_ge a.block W.heap.size with h1|h1
 ·exact h1
 ·unfold World.cell? at h;rw[Array.getElem?_eq_none h1]at h;cases h
abbrev GV:=Gt×Value
def ivals (l:List Int):List Value:=l.map (.int .i64 ·)
def gcell (x:GV):List Value:=[.int .i64 x.1.need,x.2,.int .i64 x.1.leaf]
def gcells (P:List GV):List Value:=P.flatMap gcell
def kidIt (x:GV):It:=irow 3 1 x.2 x.1.kids.length (ivals x.1.kids)
def kidIts (P:List GV):List It:=P.map kidIt
abbrev gts (P:List GV):List Gt:=P.map Prod.fst
theorem gcells_append (P Q:List GV):gcells (P++Q)=gcells P++gcells Q:=List.flatMap_append
theorem gcells_at:∀{P:List GV} {i:Nat} {x:GV},P[i]? =some x→(gcells P)[i*3]? =some (.int .i64 x.1.need)∧(gcells P)[i*3+1]? =some x.2∧(gcells P)[i*3+2]? =some (.int .i64 x.1.leaf)
 | y::P,0,x,h=>by
   cases h;exact⟨rfl,rfl,rfl⟩
 | y::P,i+1,x,h=>by
   obtain⟨a,b,c⟩:=gcells_at (P:=P) (i:=i) (x:=x) zyc;have e:gcells (y::P)=[.int .i64 y.1.need,y.2,.int .i64 y.1.leaf]++gcells P:=rfl;have q:∀j,(gcells (y::P))[3+j]? =(gcells P)[j]? :=fun j=>by
    rw[e,List.getElem?_append_right zy1];simp
   refine⟨?_,?_,?_⟩
   ·rw[show(i+1)*3=3+i*3 by omega,q];exact a
   ·rw[show(i+1)*3+1=3+(i*3+1) by omega,q];exact b
   ·rw[show(i+1)*3+2=3+(i*3+2) by omega,q];exact c
theorem gate_info:(prog.info? 256).map (fun i=>(i.zero,i.size,i.bytes))=some (some (.agg #[.int .i64 0,.slice none 0 0,.int .i64 0]),3,40):=kr
theorem int_info:(prog.info? 3).map (fun i=>(i.zero,i.size,i.bytes))=some (some (.int .i64 0),1,8):=kr
theorem new3' (w:World) (t:TypeId) (a b c:Value):∀(j:Nat) u,[a,b,c][j]? =some u→(w.alloc (.cells #[a,b,c] t)).cell? ((⟨w.heap.size,0,none⟩:Addr).add j)=some u:=by
 intro j u hu;have e:(⟨w.heap.size,0,none⟩:Addr).add j=⟨w.heap.size,j,none⟩:=by unfold Addr.add;split<;>simp_all
 rw[e,(show Blk (w.alloc (.cells #[a,b,c] t)) w.heap.size t [a,b,c]from Blk.new w t [a,b,c]).cell j];exact hu
theorem new1' (w:World) (t:TypeId) (a:Value):∀(j:Nat) u,[a][j]? =some u→(w.alloc (.cells #[a] t)).cell? ((⟨w.heap.size,0,none⟩:Addr).add j)=some u:=by
 exact zt34
theorem Gates.read {w W:World} {A:Option Addr} {F:List Gt} (hG:Gates w w.heap.size A F) (hb:Below w.heap.size w W) {k:Nat} {g:Gt} (hg:F[k]? =some g) :
 ∃ad,A=some ad∧∃KA kc,W.cell? (ad.add (k*3))=some (.int .i64 g.need)∧W.cell? ⟨(ad.add (k*3)).block,(ad.add (k*3)).off+1,none⟩=some (.slice KA g.kids.length kc) ∧
  W.cell? ⟨(ad.add (k*3)).block,(ad.add (k*3)).off+2,none⟩=some (.int .i64 g.leaf)∧Ints w w.heap.size KA g.kids:=by
 obtain⟨ad,hA,dt,dK⟩:=hG.some_ (by rintro rfl;simp at hg);obtain⟨KA,kc,gk',gi⟩:=(dK k g hg).kids;have ga:=(dK k g hg).keep hb (Nat.le_refl _) (by rw[za2];exact dt);refine⟨ad,hA,KA,kc,ga.need,?_,ga.leaf,gi⟩;rw[hb.cell (p:=⟨(ad.add (k*3)).block,(ad.add (k*3)).off+1,none⟩) zyy];exact gk'
theorem Ints.read {w W:World} {B:Nat} {A:Option Addr} {l:List Int} (hI:Ints w B A l) (hb:Below B w W) {j:Nat} {x:Int} (hx:l[j]? =some x):∃ad,A=some ad∧W.cell? (ad.add j)=some (.int .i64 x):=by
 obtain⟨ka,cM,ej,cJ⟩:=hI.some_ (by rintro rfl;simp at hx);refine⟨ka,cM,?_⟩;rw[hb.cell (p:=ka.add j) (by rw[za2];exact ej)];exact cJ j _ zuj
theorem clone_hp {w w1:World} {e:TypeId} {k n:Nat} {v:Value} {xs:List Value} {o:Obj} (h:w1.ownsRow w.heap.size e k v n xs) (hg:(w.alloc o).grownBy w1 (some w.heap.size)):Hp [] w [irow e k v n xs] w1:=by
 have hs:(w.alloc o).heap.size=w.heap.size+1:=by simp
 have bu:=hg.size;refine⟨⟨fun x hx=>?_,?_⟩,⟨⟨hg.os,hg.tape,hg.output,by omega,fun k hk=>absurd hk (Nat.not_lt_zero _)⟩,fun j hj _=>?_,fun b hb=>.inr ?_⟩⟩
 ·rw[List.mem_singleton.1 hx];refine⟨h.1,?_⟩;rcases h.2 with hn|⟨g,cap,cur,hv,hb,rest⟩
  ·exact .inl hn
  ·exact .inr ⟨g,cap,cur,hv,Nat.zero_le _,rest⟩
 ·show(v.ownBlock.toList++[]).Nodup;cases v.ownBlock<;>simp
 ·rw[hg.block j om (fun h9=>by injection h9 with h9;omega)];exact Below.heap_alloc w o j hj
 ·have gG:v.ownBlock=some b:=by simpa[irow,Option.mem_toList]using hb
  exact(h.lt b gG).1
theorem clone_ints (ad:Addr) (n c:Nat) (news:List Value) (hl:news.length=n*1) (hn:n≤1000000) (w:World) (bY:∀j u,news[j]? =some u→w.cell? (ad.add j)=some u) (h1:∀u∈news,u.oneCell'=true) (hb:news≠[]→ad.block<w.heap.size) :
 Calls prog 218 #[.slice (some ad) n c] w fun e w'=>∃v,e=.returned v∧Hp [] w [irow 3 1 v n news] w':=by
 obtain⟨i0,aL,bg,aY,bh⟩:=info_parts int_info;have hq:∀(w:World) (a:Option Addr) (n c n' c':Nat),(binOp .eql 61 (.slice a n c) (.slice none n' c')).run prog w=.ok (.bool a.isNone) w:=fun w a n c n' c'=>Lib.run_eql_slice_nil w _ _ a n c n' c' underlying61;have hk:∀j u,news[j]? =some u→(w.alloc (.cells #[] 3)).cell? (ad.add j)=some u:=fun j u hj=>by
  rw[Below.cell (B:=w.heap.size) ((Below.refl _ _).alloc (Nat.le_refl _) _) (by rw[za2];exact hb (by rintro rfl;simp at hj))];exact bY j u hj
 go_enter func218,ntmps218;go_wp2_with (at_builtin;refine wpList_append_own _ rfl _ _ 61 rfl w.heap.size 3 i0 _ 1 8 underlying61 aL bg aY bh rfl zy0 _ _ _ rfl (World.ownsRow_made w #[] 0 (Nat.le_refl _) (Nat.zero_le _) rfl) ad n c news rfl ?qc1 ?qc2 ?qc3 ?qc4 ?qc5 ?qc6 ?_);case qc1=>exact hl
 case qc2=>exact hk
 case qc3=>exact h1
 case qc4=>unfold maxLen;omega
 case qc5=>omega
 case qc6=>simp
 intro v' w1 af ai ki;go_wp2_with fail;go_ret;refine⟨v',rfl,?_⟩;have h9:w1.ownsRow w.heap.size 3 1 v' n news:=by simpa using af
 exact clone_hp h9 ai
theorem clone_ints_nil (n c:Nat) (w:World):Calls prog 218 #[.slice none n c] w fun e w'=>e=.returned (.slice none 0 0)∧w'=w:=by
 have hq:∀(w:World) (a:Option Addr) (n c n' c':Nat),(binOp .eql 61 (.slice a n c) (.slice none n' c')).run prog w=.ok (.bool a.isNone) w:=fun w a n c n' c'=>Lib.run_eql_slice_nil w _ _ a n c n' c' underlying61;go_enter func218,ntmps218;go_wp2_with fail;go_ret;exact zv6
theorem ints_row {w W:World} {B:Nat} {KA:Option Addr} {l:List Int} (h:Ints w B KA l) (hb:Below B w W):∀ka,KA=some ka→∀j u,(ivals l)[j]? =some u→W.cell? (ka.add j)=some u:=by
 intro ka jt j u hu;rw[ivals,List.getElem?_map]at hu;obtain⟨x,hx,rfl⟩:=Option.map_eq_some_iff.1 hu;obtain⟨ka',mg,hc⟩:=h.read hb hx;rw[jt]at mg;cases mg;exact hc
theorem clone_kids {w W:World} {B:Nat} {KA:Option Addr} {l:List Int} {c:Nat} (h:Ints w B KA l) (hb:Below B w W) (hB:B≤W.heap.size) (hl:l.length≤1000000) :
 Calls prog 218 #[.slice KA l.length c] W fun e w'=>∃v,e=.returned v∧Hp [] W [irow 3 1 v l.length (ivals l)] w':=by
 cases cM:KA with
 | none =>
   have gQ:l=[]:=by
    apply Classical.byContradiction;intro h9;obtain⟨ad,h1,_⟩:=h.some_ h9;rw[cM]at h1;cases h1
   subst gQ;refine(clone_ints_nil 0 c W).mono ?_;rintro e w' ⟨rfl,rfl⟩;exact⟨_,rfl,(Hp.start w').nilrow 3 1⟩
 | some ka =>
   refine clone_ints ka l.length c (ivals l) (by simp[ivals]) hl W (ints_row h hb ka cM) (by intro u hu;obtain⟨x,_,rfl⟩:=List.mem_map.1 hu;rfl) (fun aT=>?_);have gQ:l≠[]:=by rintro rfl;exact aT rfl
   obtain⟨ad,h1,h2,_⟩:=h.some_ gQ;rw[cM]at h1;cases h1;omega
structure Forms (W:World) (A:Option Addr) (L:List (List Gt)):Prop where
 some_:L≠[]→∃ad,A=some ad∧ad.block<W.heap.size∧∀i F,L[i]? =some F→∃GA c,W.cell? (ad.add i)=some (.slice GA F.length c)∧Gates W W.heap.size GA F
theorem Forms.up {W W':World} {A:Option Addr} {L:List (List Gt)} (h:Forms W A L) (hb:Below W.heap.size W W'):Forms W' A L:=⟨fun hl=>by
 obtain⟨ad,h1,h2,h3⟩:=h.some_ hl;refine⟨ad,h1,Nat.lt_of_lt_of_le h2 hb.size,fun i F hF=>?_⟩;obtain⟨GA,c,h4,h5⟩:=h3 i F hF;exact⟨GA,c,(hb.cell (p:=ad.add i) (by rw[za2];exact h2)).trans h4,h5.keep' hb⟩⟩
theorem Forms.at_ {W:World} {A:Option Addr} {L:List (List Gt)} (h:Forms W A L) {i:Nat} {F:List Gt} (hF:L[i]? =some F):∃ad GA c,A=some ad∧W.cell? (ad.add i)=some (.slice GA F.length c)∧Gates W W.heap.size GA F:=by
 have hl:L≠[]:=by rintro rfl;simp at hF
 obtain⟨ad,h1,h2,h3⟩:=h.some_ hl;obtain⟨GA,c,h4,h5⟩:=h3 i F hF;exact⟨ad,GA,c,h1,h4,h5⟩
abbrev fit (vg:Value) (P:List GV):List It:=irow 256 3 vg P.length (gcells P)::kidIts P
def JoinOut (r:List Gt×Int) (e:Ending) (w w':World):Prop:=∃vg P,gts P=r.1∧e=.returned (.tuple #[.agg #[vg],.int .i64 r.2])∧Hp [] w (fit vg P) w'
abbrev jits (need:Int) (ks:List Int) (vg vk:Value) (P:List GV):List It:=irow 256 3 vg (P.length+1) (gcells ((⟨need,ks,0⟩,vk)::P))::irow 3 1 vk ks.length (ivals ks)::kidIts P
theorem row_new (W:World) (e:TypeId) (size n:Nat) (cs:List Value) (hl:cs.length=n*size) (hn:n≤1000000):(W.alloc (.cells cs.toArray e)).ownsRow 0 e size (.slice (some ⟨W.heap.size,0,none⟩) n n) n cs:=by
 refine⟨hl,.inr ⟨W.heap.size,n,cs.toArray,rfl,Nat.zero_le _,?_,Nat.le_refl _,by unfold maxLen;omega,by simpa using hl,by rw[←hl];simp⟩⟩;exact Blk.new W e cs
theorem gcells_push (P:List GV) (x:GV):gcells (P++[x])=gcells P++gcell x:=by rw[gcells_append];simp[gcells]
theorem jits_push {o:List Nat} {w W:World} {need:Int} {ks:List Int} {vg vk vx:Value} {P:List GV} {g:Gt} {n nk:Nat} {vs:List Value} {b1 b2 b3:It} (ft:nk=g.kids.length) (hn:n=P.length+2) (o9:vs=gcells ((⟨need,ks,0⟩,vk)::P)++gcell (g,vx))
 (h:Hp o w (b1::irow 3 1 vx nk (ivals g.kids)::b2::b3::irow 256 3 vg n vs::irow 3 1 vk ks.length (ivals ks)::kidIts P) W):Hp o w (b3::jits need ks vg vk (P++[(g,vx)])) W:=by
 subst hn;subst o9;subst ft;have h1:=h.tail;have h2:=h1.perm (List.perm_append_singleton _ _).symm;have h3:Hp o w (b2::(b3::jits need ks vg vk (P++[(g,vx)]))) W:=by
  have e:(b2::(b3::jits need ks vg vk (P++[(g,vx)])))=(b2::b3::irow 256 3 vg (P.length+2) (gcells ((⟨need,ks,0⟩,vk)::P)++gcell (g,vx))::irow 3 1 vk ks.length (ivals ks)::kidIts P)++[irow 3 1 vx g.kids.length (ivals g.kids)]:=by
   rw[←gcells_push];simp[jits,kidIts,kidIt]
  rw[e];exact h2
 exact h3.tail
theorem cell_al {W:World} {p:Addr} {v:Value} (h:W.cell? p=some v) (o:Obj):(W.alloc o).cell? p=some v:=by
 rw[Below.cell (B:=W.heap.size) ((Below.refl _ _).alloc (Nat.le_refl _) o) (World.block_lt_of_cell? _ _ h)];exact h
theorem zbl {W:World} {p q:Addr} {v:Value} (h:W.cell? p=some v) (hq:q.block≠p.block) (u:Value):(W.setCell q u).cell? p=some v:=by
 rw[←h];simp only[World.cell?];rw[Below.heap_setCell _ _ _ _ (fun e=>hq e.symm)]
def addP (b:Int) (i:Nat) (l:List Int):List Int:=(l.take i).map (· +b)++l.drop i
theorem addP_all (b:Int) (l:List Int) {i:Nat} (h:l.length≤i):addP b i l=l.map (· +b):=by
 unfold addP;rw[List.take_of_length_le h,List.drop_of_length_le h,List.append_nil]
theorem addP_at {b x:Int} {l:List Int} {i:Nat} (h:l[i]? =some x):(addP b i l)[i]? =some x∧(addP b i l).set i (x+b)=addP b (i+1) l:=by
 obtain⟨hi,rfl⟩:=List.getElem?_eq_some_iff.1 h;have hl:((l.take i).map (· +b)).length=i:=by simp;omega
 unfold addP;constructor
 ·rw[List.getElem?_append_right om,hl,Nat.sub_self,List.drop_eq_getElem_cons hi];rfl
 ·rw[List.set_append_right _ _ om,hl,Nat.sub_self,List.drop_eq_getElem_cons hi,List.set_cons_zero,take_last h,List.map_append,List.append_assoc];rfl
theorem newrowF {o:List Nat} {w W W':World} {it:List It} (h:Hp o w it W) {e:TypeId} {size n cap H:Nat} {xs:List Value} (hH:W.heap.size=H) (hr:W'.ownsRow 0 e size (.slice (some ⟨H,0,none⟩) n cap) n xs) (hb:Below W.heap.size W W') :
 Hp o w (irow e size (.slice (some ⟨H,0,none⟩) n cap) n xs::it) W':=by
 subst hH;have h1:Hp (ow []) W [irow e size (.slice (some ⟨W.heap.size,0,none⟩) n cap) n xs] W':=by
  refine⟨⟨fun x hx=>?_,by simp[irow,Value.ownBlock]⟩,⟨hb.mono (Nat.zero_le _),fun k hk _=>hb.block k hk,fun b gG=>.inr ?_⟩⟩
  ·rw[List.mem_singleton.1 hx];exact hr
  ·simp[irow,Value.ownBlock]at gG;omega
 exact zvg
structure FewJ (L:List (List Gt)):Prop where
 ne:L≠[]
 ok:∀F∈L,(leavesP F).2=true∧F≠[]
 kid:∀F∈L,∀g∈F,(∀x∈g.kids,0≤x∧x<F.length)∧g.kids.length≤512
 rank:∀F∈L,∀(j:Nat) (g:Gt),F[j]? =some g→g.kids=[]→g.leaf=(leafN (F.take j):Int)
 tot:(joinF L).1.length≤511
 lv:(joinF L).2.2≤256
theorem joinF_bd (L:List (List Gt)):(joinF L).2.1.length=L.length∧(joinF L).2.2≤(joinF L).1.length:=by
 have key:∀(L:List (List Gt)) (s:JS),s.2.2≤s.1.length→(L.foldl jstep s).2.1.length=s.2.1.length+L.length∧(L.foldl jstep s).2.2≤(L.foldl jstep s).1.length:=by
  intro L
  induction L with
  | nil=>intro s hs;simpa using hs
  | cons F L ih =>
    intro s hs;have hl:=leafN_le F;obtain⟨b,c⟩:=ih (jstep s F) (by simp only[jstep,List.length_append,zb3];omega);rw[List.foldl_cons];simp only[jstep,List.length_append,List.length_cons,List.length_nil]at b ⊢;refine⟨by omega,c⟩
 obtain⟨b,c⟩:=key L ([],[],0) (Nat.le_refl _);exact⟨by simpa[joinF]using b,c⟩
theorem joinF_take (L:List (List Gt)):∀i,(joinF (L.take i)).1.length≤(joinF L).1.length:=by
 have key:∀(L:List (List Gt)) (s:JS),s.1.length≤(L.foldl jstep s).1.length:=by
  intro L
  induction L with
  | nil=>intro s;exact Nat.le_refl _
  | cons F L ih=>intro s;exact Nat.le_trans (by simp only[jstep,List.length_append];omega) (ih (jstep s F))
 intro i;have e:joinF L=(L.drop i).foldl jstep (joinF (L.take i)):=by
  unfold joinF;rw[←List.foldl_append,List.take_append_drop]
 rw[e];exact key _ _
theorem joinF_one {L:List (List Gt)} {i:Nat} {F:List Gt} (h:L[i]? =some F):(joinF (L.take i)).1.length+F.length≤(joinF L).1.length∧(joinF (L.take (i+1)))=jstep (joinF (L.take i)) F:=by
 have e:=joinF_take L (i+1);rw[take_last h,joinF_last]at e;simp only[jstep,List.length_append,zb3]at e;exact⟨e,by rw[take_last h,joinF_last]⟩
theorem joinF_len {L:List (List Gt)} (h:∀F∈L,F≠[]):L.length≤(joinF L).1.length:=by
 have key:∀(L:List (List Gt)) (s:JS),(∀F∈L,F≠[])→s.1.length+L.length≤(L.foldl jstep s).1.length:=by
  intro L
  induction L with
  | nil=>intro s _;exact Nat.le_refl _
  | cons F L ih =>
    intro s hL;have hF:=List.length_pos_iff.2 (hL F (List.mem_cons_self ..));have:=ih (jstep s F) (fun G hG=>hL G (List.mem_cons_of_mem _ hG));rw[List.foldl_cons];simp only[jstep,List.length_append,zb3,List.length_cons]at this ⊢;omega
 have:=key L ([],[],0) h;simpa[joinF]using this
theorem leaf_any (w:World):Calls prog 171 #[] w fun e w'=>∃vg,e=.returned (.agg #[vg])∧Hp [] w (fit vg [(⟨0,[],0⟩,.slice none 0 0)]) w':=by
 have h1:=(Hp.start w).new 44 [.slice (some ⟨w.heap.size+1,0,none⟩) 1 1];have h2:=newrowF h1 (H:=w.heap.size+1) zy1 (by simpa using row_new (w.alloc (.cells #[.slice (some ⟨w.heap.size+1,0,none⟩) 1 1] 44)) 256 3 1 [.int .i64 0,.slice none 0 0,.int .i64 0] rfl om) ((Below.refl _ _).alloc (Nat.le_refl _) _);have h3:=h2.nilrow 3 1;have hk:Hp [] w (fit (.slice (some ⟨w.heap.size+1,0,none⟩) 1 1) [(⟨0,[],0⟩,.slice none 0 0)]) ((w.alloc (.cells #[.slice (some ⟨w.heap.size+1,0,none⟩) 1 1] 44)).alloc (.cells #[.int .i64 0,.slice none 0 0,.int .i64 0] 256)):=Hp.sub (r:=[iblk w.heap.size 44 [.slice (some ⟨w.heap.size+1,0,none⟩) 1 1]]) (h3.perm (List.Perm.swap _ _ _));have d0:=(h3.blk 2 rfl).cell 0;simp only[List.getElem?_cons_zero]at d0;have HK:=Lib.hid hk;clear h1 h2 h3 hk;go_enter func171,ntmps171;go_wp2_with fail;refine bodyPost_ret (v:=.agg #[.slice (some ⟨w.heap.size+1,0,none⟩) 1 1]) (by simp[results,results171,go_sem,d0]) rfl ?_;exact⟨_,rfl,HK.out⟩
theorem gates_ok {W:World} {A:Option Addr} {n c:Nat} {P:List GV} (h0:W.ownsRow 0 256 3 (.slice A n c) P.length (gcells P)) (hk:∀x∈kidIts P,x.P W):Gates W W.heap.size A (gts P):=by
 refine⟨fun aT=>?_⟩;have hr:=h0;have bq:0<P.length:=by
  rcases Nat.eq_zero_or_pos P.length with h9|h9
  ·exact absurd (by rw[List.eq_nil_of_length_eq_zero h9];rfl) aT
  ·exact h9
 obtain⟨g,cap,hv,-⟩:=zak hr bq;injection hv with hA hn hc;subst hA;subst hn;subst hc;refine⟨_,rfl,(hr.lt g rfl).2,fun i y hy=>?_⟩;rw[List.getElem?_map]at hy;obtain⟨z,hz,rfl⟩:=Option.map_eq_some_iff.1 hy;obtain⟨a1,a2,a3⟩:=gcells_at hz;have e0:∀j,(⟨g,0,none⟩:Addr).add j=⟨g,j,none⟩:=fun j=>by unfold Addr.add;split<;>simp_all
 have hk:W.ownsRow 0 3 1 z.2 z.1.kids.length (ivals z.1.kids):=hk (kidIt z) (List.mem_map.2 ⟨z,List.mem_of_getElem? hz,rfl⟩);obtain⟨KA,kc,iF⟩:=zab hk;rw[e0];refine⟨zal hr a1,⟨KA,kc,?_,⟨fun hl=>?_⟩⟩,zal hr a3⟩
 ·rw[←iF];exact zal hr a2
 ·have hkp:0<z.1.kids.length:=by
   rcases Nat.eq_zero_or_pos z.1.kids.length with h9|h9
   ·exact absurd (List.eq_nil_of_length_eq_zero h9) hl
   ·exact h9
  obtain⟨gk,ck,hv,-⟩:=zak hk hkp;rw[iF]at hv;injection hv with hA _ _;rw[iF]at hk;subst hA;refine⟨_,rfl,(hk.lt gk rfl).2,fun j v hv=>?_⟩;exact hk.cells rfl j v hv
end Fm
namespace Fm
open Go.RowKit
theorem fl_kl:∀(g:G) (b c:Nat),∀x∈g.fl b c,x.kids.length≤g.size
 | .nil,_,_,x,h=>by cases h
 | .cons n k r,b,c,x,h=>by
   rw[G.size];rw[G.fl]at h;rcases List.mem_cons.1 h with rfl|h
   ·have:=G.len_size k;simp only[G.idx_len];omega
   ·rcases List.mem_append.1 h with h|h
    ·have:=fl_kl k _ _ x h;omega
    ·have:=fl_kl r _ _ x h;omega
theorem fl_rank:∀(g:G) (b c j:Nat) (x:Gt),(g.fl b c)[j]? =some x→x.kids=[]→x.leaf=((c+leafN ((g.fl b c).take j):Nat):Int)
 | .nil,_,_,j,x,h,_=>by simp[G.fl]at h
 | .cons n k r,b,c,j,x,h,hx=>by
   rw[G.fl]at h ⊢;cases j with
   | zero =>
     simp only[List.getElem?_cons_zero,Option.some.injEq]at h;subst h;simp only at hx ⊢;rw[G.idx_nil]at hx;rw[if_pos hx];rfl
   | succ j =>
     rw[List.getElem?_cons_succ]at h;rw[List.take_succ_cons];have e:∀(y:Gt) (l:List Gt),leafN (y::l)=(if y.kids=[]then 1 else 0)+leafN l:=fun y l=>by
      show leafN ([y]++l)=_;rw[leafN_app];congr 1;show(List.filter isLf [y]).length=_;by_cases q:y.kids=[]
      ·simp[isLf,q]
      ·simp[isLf,q]
     rw[e];simp only[G.idx_nil];by_cases hj:j<k.size
     ·rw[List.getElem?_append_left (by rw[G.fl_len];exact hj)]at h;rw[List.take_append_of_le_length zu1];have:=fl_rank k _ _ _ _ h hx;have hn:k.none=false:=by
       cases k with
       | nil=>simp[G.size]at hj
       | cons _ _ _=>rfl
      rw[this,hn];simp
     ·rw[List.getElem?_append_right zu1,G.fl_len]at h;have:=fl_rank r _ _ _ _ h hx;have ht:List.take j (k.fl (b+1) c)=k.fl (b+1) c:=List.take_of_length_le zu1;rw[this,List.take_append,ht,leafN_app,leafN_fl,G.fl_len];generalize leafN (List.take (j-k.size) (r.fl (b+1+k.size) (c+if k.none=true then 1 else k.lv)))=q;cases hn:k.none with
      | true =>
        rw[G.none_iff]at hn;subst hn;simp only[G.lv,if_true];omega
      | false =>
        simp only[Bool.false_eq_true,if_false];omega
def flT (g:G):List (List Gt):=g.tops.map fun t=>t.fl 0 0
theorem flT_len (g:G):(flT g).length=g.len:=by unfold flT;rw[List.length_map,G.tops_len]
theorem flT_app (g h:G):flT (g.app h)=flT g++flT h:=by
 induction g with
 | nil=>rfl
 | cons n k r _ ih=>rw[G.app];show _::flT (r.app h)=_;rw[ih];rfl
theorem fewj_of {g:G} (ho:g.Ok) (h0:0<g.len) (hs:g.size≤250):FewJ (flT g):=by
 have hm:∀F∈flT g,∃t:G,F=t.fl 0 0∧t.Ok∧t.len=1∧t.size≤250:=by
  intro F hF;obtain⟨t,ht,rfl⟩:=List.mem_map.1 hF;obtain⟨h1,h2,h3,-⟩:=G.tops_mem g ho t ht;exact⟨t,rfl,h1,h2,by omega⟩
 refine⟨?_,?_,?_,?_,?_,?_⟩
 ·intro h;have:=flT_len g;rw[h]at this;simp at this;omega
 ·intro F hF;obtain⟨t,rfl,h1,h2,h3⟩:=hm F hF;have h4:=G.lv_size t;have h5:=G.len_size t;refine⟨by rw[leaves_fl h1 h2 om],fun h=>?_⟩;have:=G.fl_len t 0 0;rw[h]at this;simp at this;omega
 ·intro F hF x hx;obtain⟨t,rfl,h1,h2,h3⟩:=hm F hF;obtain⟨i,hi⟩:=List.mem_iff_getElem?.1 hx;refine⟨fun y hy=>?_,by have:=fl_kl t 0 0 x hx;omega⟩;have:=fl_kids t 0 0 i x hi y hy;rw[G.fl_len];omega
 ·intro F hF j x hj hx;obtain⟨t,rfl,h1,h2,h3⟩:=hm F hF;rw[fl_rank t 0 0 j x hj hx,Nat.zero_add]
 ·unfold flT;rw[joinF_fl];simp only[G.fl_len];omega
 ·unfold flT;rw[joinF_fl];have:=G.lv_size g;simp only;omega
theorem join_tree {g:G} (h0:0<g.len) (need:Int):((⟨need,(joinF (flT g)).2.1,0⟩:Gt)::(joinF (flT g)).1)=(G.cons need g .nil).fl 0 0:=by
 unfold flT;rw[joinF_fl];have hn:g.none=false:=by
  cases g with
  | nil=>simp[G.len]at h0
  | cons _ _ _=>rfl
 rw[G.fl,hn];simp[G.fl]
end Fm
end Go.Proofs.YtekkapgknohadaaGreatDoor
