/- The lexer: Scan. -/
import Derived.Test.YtekkapgknohadaaGreatDoorM6
set_option linter.unusedVariables false
set_option maxRecDepth 100000
set_option maxHeartbeats 2000000
open Go.Proofs.Tryz
namespace Go.Proofs.YtekkapgknohadaaGreatDoor
section
open Go.RowKit
open Lib (hid)
section
variable {P:Program}
theorem run_loadVar_part (w:World) (g off:Nat) (ty:TypeId) (cs:List Value) (d:TypeDesc) (hg:∀j v,cs[j]? =some v→w.cell? ⟨g,off+j,none⟩=some v)
 (hu:P.underlying ty=some d) (hd:(match d with| .struct _| .array _ _=>true|_=>false)=true) (hi:(P.info? ty).map (·.size)=some cs.length) :
 (loadVar ty ⟨g,off,none⟩).run P w=.ok (.agg cs.toArray) w:=by
 have hl:(loadCells ⟨g,off,none⟩ cs.length).run P w=.ok cs.toArray w :=
  run_loadCells_list (P:=P) w ⟨g,off,none⟩ cs (fun j v hv=>by
   have we:(⟨g,off,none⟩:Addr).add j=⟨g,off+j,none⟩:=by unfold Addr.add;split<;>simp_all
   rw[we];exact hg j v hv)
 cases hq:P.info? ty with
 | none=>simp[hq]at hi
 | some i =>
  have hs:i.size=cs.length:=by simpa[hq]using hi
  have wC:(isAgg ty).run P w=.ok true w:=by
   unfold isAgg;rw[Sem.run_bind,run_underlying hu w];cases d<;>simp_all
  simp[loadVar,Sem.run_bind,wC,sizeOf,typeInfo,hq,hs,hl]
theorem wpList_load_part {ops:Array Oper} {rest:List Oper} {o:Oper} {a:Act} {w:World} {Q:Exit→Act→World→Prop} (wt:o.guard=none) (ty:TypeId) (x:Operand) (ho:o.op=.load ty x)
 (g off:Nat) (hx:a.eval x=.pointer (some ⟨g,off,none⟩)) (cs:List Value) (d:TypeDesc) (hg:∀j v,cs[j]? =some v→w.cell? ⟨g,off+j,none⟩=some v)
 (hu:P.underlying ty=some d) (hd:(match d with| .struct _| .array _ _=>true|_=>false)=true) (hi:(P.info? ty).map (·.size)=some cs.length)
 (h:wpList P ops Q rest (a.put o.dst (.agg cs.toArray)) w):wpList P ops Q (o::rest) a w :=
 wpList_plain wt fun _ hK=>by
  unfold Oper.wp execOp;simp only[ho,hx,Instr.loadAt,Instr.sureAddr,Sem.run_bind,Sem.run_pure,Result.andThen_ok,run_loadVar_part w g off ty cs d hg hu hd hi];exact hK _ _ h
end
def scn0:List Value:=.string ⟨#[]⟩::(zeroL++[.int .i64 0])
theorem scn_fold (s:ByteArray):List.foldl (fun(cs:Array Value) (x:Value×Nat)=>cs.setIfInBounds (1+x.snd) x.fst) (scn0.toArray.setIfInBounds 0 (.string s)) tabV.zipIdx=(scnL s 0).toArray:=kr
theorem scn_tab {w:World} {g:Nat} {s:ByteArray} {a:Nat} (h:Scn w g s a):∀j v,tabV[j]? =some v→w.cell? ⟨g,1+j,none⟩=some v:=by
 intro j v hv;have h2:tabV.length=256:=by simp[tabV]
 have h3:j<tabV.length:=(List.getElem?_eq_some_iff.1 hv).1;rw[h.cell,scnL,Nat.add_comm 1 j,List.getElem?_cons_succ,List.getElem?_append_left h3];exact hv
theorem sk_zero (l:List UInt8) (a:Nat):Lx.sk false (l.drop (a+Lx.sk false (l.drop a)))=0:=by
 obtain⟨b',h1,h2⟩:=Lx.sk_own (l.drop a);rw[List.drop_drop]at h2;cases b' with
 | false=>exact h2
 | true=>rw[Lx.sk_true_pos h2];rfl
def tokL (l:List Lx.Tok):List Value:=l.flatMap fun t=>[.int .i64 (t.kind:Int),.string (bs t.text),.int .i64 (t.at_:Int)]
theorem tokL_len (l:List Lx.Tok):(tokL l).length=l.length*3:=by
 induction l with
 | nil=>rfl
 | cons t l ih=>simp only[tokL,List.flatMap_cons,List.length_append,List.length_cons,List.length_nil]at ih ⊢;omega
theorem tokL_snoc (l:List Lx.Tok) (t:Lx.Tok):tokL (l++[t])=tokL l++[.int .i64 (t.kind:Int),.string (bs t.text),.int .i64 (t.at_:Int)]:=by simp[tokL]
def fnV (f g:Nat):Value:=.func (.func f) #[.pointer (some ⟨g,0,none⟩)] #[]
def frmL (g:Nat):List Value:=[.func (.func 66) #[.pointer (some ⟨g,0,none⟩)] #[],.func (.func 67) #[.pointer (some ⟨g,0,none⟩)] #[],.func (.func 68) #[.pointer (some ⟨g,0,none⟩)] #[],.func (.func 69) #[.pointer (some ⟨g,0,none⟩)] #[]]
structure LS (w:World) (g:Nat) (s:ByteArray) (a:Nat) (v:Value) (out:List Lx.Tok) (W:World):Prop where
 scn:Scn W g s a
 tab:Blk W (g+1) 147 tabV
 frm:Blk W (g+1+1) 152 (frmL g)
 own:W.ownsRow (g+3) 154 3 v out.length (tokL out)
 below:Below w.heap.size w W
 hg:w.heap.size≤g
def ScanPost (s:ByteArray) (w:World) (e:Ending) (w':World):Prop:=match Lx.sc (tl s)with
 | .ok ts=>∃v,e=.returned (.tuple #[v,.int .i64 0,.int .i64 0])∧w'.ownsRow w.heap.size 154 3 v ts.length (tokL ts)∧Below w.heap.size w w'
 | .err a n=>e=.returned (.tuple #[.slice none 0 0,.int .i64 (a:Int),.int .i64 (n:Int)])∧Below w.heap.size w w'
def ScRel (w:World) (g:Nat) (s:ByteArray) (v:Value) (W:World):Prop:=∃a out,LS w g s a v out W∧Lx.SI (tl s) a out∧out.length≤a
theorem LS.start {w w1:World} {s:ByteArray} {S T Z:List Value} (hb:Below w.heap.size w w1) (hS:S=scnL s 0) (hT:T=tabV) (hZ:Z=zeroL) (o:Array Value) :
 LS w w1.heap.size s 0 (.slice none 0 0) [] (((((w1.alloc (.cells S.toArray 150)).alloc (.cells Z.toArray 147)).setRow (w1.heap.size+1) T.toArray).alloc (.cells o 152)).setRow (w1.heap.size+1+1) (frmL w1.heap.size).toArray):=by
 subst hS hT hZ;have e2:(((w1.alloc (.cells (scnL s 0).toArray 150)).alloc (.cells zeroL.toArray 147)).setRow (w1.heap.size+1) tabV.toArray).heap.size=w1.heap.size+1+1:=by simp
 have bu:=hb.size;refine⟨?_,?_,?_,World.ownsRow_nil _ _ _ _,?_,hb.size⟩
 ·unfold Scn Blk;rw[setRow_other _ _ _ _ om,Below.heap_alloc _ _ _ (by rw[e2];omega),setRow_other _ _ _ _ om];exact(Blk.new w1 150 (scnL s 0)).alloc _
 ·unfold Blk;rw[setRow_other _ _ _ _ om,Below.heap_alloc _ _ _ (by rw[e2];omega)];exact setRow_heap _ _ _ _ _ _ (heap_alloc2_new _ _ _)
 ·unfold Blk;refine setRow_heap _ _ o _ _ _ ?_;rw[←e2];exact heap_alloc_new _ _
 ·refine below_setRow (Below.alloc (below_setRow ((hb.alloc bu _).alloc zy8 _) om _) (by rw[e2];omega) _) om _
theorem LS.far {w:World} {g:Nat} {s:ByteArray} {a:Nat} {v:Value} {out:List Lx.Tok} {W:World} (h:LS w g s a v out W):v.ownBlock=none∨v.ownBlock≠some g:=by
 cases hv:v.ownBlock with
 | none=>exact .inl rfl
 | some k=>exact .inr (by intro h2;have:=(h.own.lt k hv).1;simp at h2;omega)
theorem LS.grow {w:World} {g:Nat} {s:ByteArray} {a b:Nat} {v:Value} {out:List Lx.Tok} {W W':World} (h:LS w g s a v out W) (hS:Scn W' g s b) (hg:W.grownBy W' (some g)):LS w g s b v out W' :=
 ⟨hS,(hg.block _ h.tab.lt zy1).trans h.tab,(hg.block _ h.frm.lt zy8).trans h.frm,h.own.kept hg h.far,h.below.grown hg (Nat.le_trans h.hg (Nat.le_of_lt h.scn.lt)) (fun k hk=>by cases hk;exact h.hg),h.hg⟩
theorem LS.next {w:World} {g:Nat} {s:ByteArray} {a:Nat} {v:Value} {out:List Lx.Tok} {W W':World} (h:LS w g s a v out W) (hb:Below W.heap.size W W'):LS w g s a v out W' :=
 h.grow (h.scn.below hb h.scn.lt) (gb_below hb)
theorem LS.setAt {w:World} {g:Nat} {s:ByteArray} {a:Nat} {v:Value} {out:List Lx.Tok} {W:World} (h:LS w g s a v out W) (b:Nat):LS w g s b v out (W.setCell ⟨g,257,none⟩ (.int .i64 (b:Int))) :=
 h.grow (h.scn.set b) (gb_set _)
theorem LS.push {w:World} {g:Nat} {s:ByteArray} {a:Nat} {v v':Value} {out:List Lx.Tok} {W W':World} (t:Lx.Tok) (o:Obj) (h:LS w g s a v out W) (af:W'.ownsRow (g+3) 154 3 v' (out.length+1) (tokL out++[.int .i64 (t.kind:Int),.string (bs t.text),.int .i64 (t.at_:Int)])) (hg:(W.alloc o).grownBy W' v.ownBlock):LS w g s a v' (out++[t]) W':=by
 have aQ:=h.scn.lt;have iJ:=h.tab.lt;have dX:=h.frm.lt;have aT:∀k,k<g+3→some k≠v.ownBlock:=fun k hk h2=>by have:=(h.own.lt k h2.symm).1;omega
 refine⟨(hg.block _ zy8 (aT g om)).trans (h.scn.alloc o),(hg.block _ zy8 (aT _ om)).trans (h.tab.alloc o),(hg.block _ zy8 (aT _ om)).trans (h.frm.alloc o),?_,?_,h.hg⟩
 ·rw[tokL_snoc,List.length_append];exact af
 ·exact(h.below.alloc (by have:=h.hg;omega) o).grown hg (by have:=h.hg;simp;omega) (fun k hk=>by have:=(h.own.lt k hk).1;have:=h.hg;omega)
theorem ext_str (s:ByteArray) (b n:Nat):Value.string (s.extract b (b+n))=.string (bs (((tl s).drop b).take n)):=by rw[←bs_tl (s.extract b (b+n)),zbi,Nat.add_sub_cancel_left]
theorem tok_info:(prog.info? 154).map (fun i=>(i.zero,i.size,i.bytes))=some (some (.agg #[.int .i64 0,.string ⟨#[]⟩,.int .i64 0]),3,32):=kr
theorem addr_add (g o i:Nat):(⟨g,o,none⟩:Addr).add i=⟨g,o+i,none⟩:=by unfold Addr.add;split<;>simp_all
theorem new3 (W:World) (t:TypeId) (x y z:Value):∀j u,[x,y,z][j]? =some u→(W.alloc (.cells #[x,y,z] t)).cell? ((⟨W.heap.size,0,none⟩:Addr).add j)=some u:=by
 intro j u hu;rw[addr_add,Nat.zero_add];exact((Blk.new W t [x,y,z]).cell j).trans hu
theorem ScanPost.ok {s:ByteArray} {w w':World} {v:Value} {ts:List Lx.Tok} {b:Nat} (h:Lx.sc (tl s)=.ok ts) (af:w'.ownsRow b 154 3 v ts.length (tokL ts)) (hb:w.heap.size≤b) (qg:Below w.heap.size w w'):ScanPost s w (.returned (.tuple #[v,.int .i64 0,.int .i64 0])) w':=by
 unfold ScanPost;rw[h];exact⟨v,rfl,Joins.ownsRow_le af hb,qg⟩
theorem ScanPost.err {s:ByteArray} {w w':World} {a n:Nat} {x y:Int} (h:Lx.sc (tl s)=.err a n) (hx:x=a) (hy:y=n) (qg:Below w.heap.size w w'):ScanPost s w (.returned (.tuple #[.slice none 0 0,.int .i64 x,.int .i64 y])) w':=by
 unfold ScanPost;rw[h,hx,hy];exact⟨rfl,qg⟩
theorem scan_any (s:ByteArray) (w:World) (hs:s.size≤65536):Calls prog 23 #[.string s] w (ScanPost s w):=by
 obtain⟨T,hT⟩:∃T,T=tabV:=⟨_,rfl⟩;obtain⟨S,hS⟩:∃S,S=scnL s 0:=⟨_,rfl⟩;obtain⟨Z,hZ⟩:∃Z,Z=zeroL:=⟨_,rfl⟩;obtain⟨Z4,rR⟩:∃Z,Z=scn0.toArray:=⟨_,rfl⟩;have qQ:List.foldl (fun(cs:Array Value) (x:Value×Nat)=>cs.setIfInBounds (1+x.snd) x.fst) (Z4.setIfInBounds 0 (.string s)) T.zipIdx=S.toArray:=by rw[hT,hS,rR];exact scn_fold s
 have uI:T.toArray.size=256:=by rw[hT];kernel_rfl
 have hT7:T.length=256:=by rw[hT];kernel_rfl
 have hZ6:Z.toArray.size=T.toArray.size:=by rw[uI,hZ];kernel_rfl
 have mi:Z4.size=258:=by rw[rR];kernel_rfl
 have aT:(Z4=#[])=False:=by rw[eq_iff_iff,iff_false];intro h;rw[h]at mi;exact absurd mi zy0
 have cG:∀W:World,Calls prog 65 #[] W fun e w'=>e=.returned (.agg T.toArray)∧Below W.heap.size W w':=by rw[hT];exact classes_any
 have hz:∀W:World,(zeroValue 147).run prog W=.ok (.agg Z.toArray) W:=fun _=>by rw[hZ];kernel_rfl
 have wH:∀W:World,(zeroValue 150).run prog W=.ok (.agg Z4) W:=fun _=>by rw[rR];kernel_rfl
 have nZ:T.toArray.all (·.oneCell')=true:=by rw[hT];kernel_rfl
 have bu:(prog.info? 147).map (·.size)=some T.length:=by rw[hT7];kernel_rfl
 have jY:(prog.info? 147).map (·.size)=some T.toArray.size:=by rw[uI];kernel_rfl
 have HC:=hid cG;have HS:=hid hS;have HT:=hid hT;have HZ:=hid hZ;have HZ6:=hid hZ6;have H1:=hid nZ;have im:=hid bu;have qM:=hid jY;clear cG hS hT hZ rR hZ6 nZ bu jY;go_enter func23,ntmps23;go_wp2_with fail;go_step3;go_wp2_with fail;refine(HC.out _).mono ?_;rintro e w1 ⟨rfl,aC⟩;have hp:Hid (∀j v,T[j]? =some v→(w1.alloc (.cells S.toArray 150)).cell? ⟨w1.heap.size,1+j,none⟩=some v):=by
  have h:=scn_tab (Blk.new w1 150 (scnL s 0));rw[←HS.out,←HT.out]at h;exact h
 have hq:Hid (((w1.alloc (.cells S.toArray 150)).alloc (.cells Z.toArray 147)).heap[w1.heap.size+1]? =some (.cells Z.toArray 147 (0,0))):=heap_alloc2_new _ _ _;have hr:Hid (((((w1.alloc (.cells S.toArray 150)).alloc (.cells Z.toArray 147)).setRow (w1.heap.size+1) T.toArray).alloc (.cells #[.nilFunc,.nilFunc,.nilFunc,.nilFunc] 152)).heap[w1.heap.size+1+1]? =some (.cells #[.nilFunc,.nilFunc,.nilFunc,.nilFunc] 152 (0,0))):=by
  have e:(((w1.alloc (.cells S.toArray 150)).alloc (.cells Z.toArray 147)).setRow (w1.heap.size+1) T.toArray).heap.size=w1.heap.size+1+1:=by simp
  show _=_;rw[←e];exact heap_alloc_new _ _
 have oX:Hid ((prog.info? 152).map (·.size)=some (frmL w1.heap.size).toArray.size):=hid kr;have km:Hid ((#[.nilFunc,.nilFunc,.nilFunc,.nilFunc]:Array Value).size=(frmL w1.heap.size).toArray.size):=rfl;have rb:Hid ((frmL w1.heap.size).toArray.all (·.oneCell')=true):=hid kr;go_wp2_with (first|(refine wpList_load_part rfl 147 (.tmp 24) rfl w1.heap.size 1 rfl T _ hp.out underlying147 rfl im.out ?_)|(refine wpList_store_row rfl 147 (.tmp 6) (.tmp 25) rfl (w1.heap.size+1) T.toArray rfl rfl 147 Z.toArray hq.out qM.out HZ6.out H1.out ?_)|(refine wpList_store_row rfl 152 (.tmp 7) (.tmp 34) rfl (w1.heap.size+1+1) (frmL w1.heap.size).toArray rfl rfl 152 #[.nilFunc,.nilFunc,.nilFunc,.nilFunc] hr.out oX.out km.out rb.out ?_));have hL:=LS.start aC HS.out HT.out HZ.out #[.nilFunc,.nilFunc,.nilFunc,.nilFunc];clear hp hq hr oX km rb HS HT HZ HZ6 H1 im qM HC qQ uI hT7 mi aT hz wH;have jy:=aC.size;clear aC;generalize ((((w1.alloc (.cells S.toArray 150)).alloc (.cells Z.toArray 147)).setRow (w1.heap.size+1) T.toArray).alloc (.cells #[.nilFunc,.nilFunc,.nilFunc,.nilFunc] 152)).setRow (w1.heap.size+1+1) (frmL w1.heap.size).toArray=W0 at *;generalize w1.heap.size=g at *;go_step3;go_wp2_with fail;go_loopw [8] (ScRel w g s) (fun _ W=>s.size-atOf g W);case atStart=>exact⟨0,[],hL,Lx.SI.start _,Nat.le_refl _⟩
 case round =>
  clear hL;obtain⟨a,out,hL,hI,mR⟩:=hrel;have HM:=hid (zbu hL.scn);have dD:=hI.le;rw[zad]at dD;go_wp2_with fail;refine(skip_any g s a _ hL.scn hs dD).mono ?_;rintro e w2 ⟨rfl,bK,cK⟩;have cD:=hL.grow bK cK;have eU:=hI.skipAll;have ah:=hid (sk_zero (tl s) a);clear hL hI bK cK;have dt:a≤a+Lx.sk false ((tl s).drop a):=Nat.le_add_right _ _;generalize a+Lx.sk false ((tl s).drop a)=b at *;have xh:=eU.le;rw[zad]at xh;have c2:w2.cell? ⟨g,257,none⟩=some (.int .i64 (b:Int)):=(cD.scn.cell _).trans (zap s b);obtain⟨i0,aL,bg,aY,bh⟩:=info_parts tok_info;by_cases ii:b=s.size
  ·have h1:((b:Int)==(s.size:Int))=true:=by simp;omega
   have HE:=hid ii;clear ii;go_wp2_with (first|(at_builtin;refine wpList_append_own _ rfl _ _ 73 rfl (g+3) 154 i0 _ 3 32 underlying73 aL bg aY bh rfl zy0 _ _ _ rfl (cD.own.alloc _) ⟨w2.heap.size,0,none⟩ 1 1 [.int .i64 3,.string ⟨#[]⟩,.int .i64 (b:Int)] rfl rfl (new3 _ _ _ _ _) ?c2 ?c3 ?c4 ?c5 ?_));case c2=>intro u hu;simp at hu;rcases hu with rfl|rfl|rfl<;>rfl
   case c3=>unfold maxLen;omega
   case c4=>omega
   case c5=>have:=cD.frm.lt;simp;omega
   intro v' w3 ld eD _;have bQ:=cD.push ⟨3,[],b⟩ _ ld eD;clear ld eD;go_wp2_with fail;rw[Exit.noGoto_ret];go_ret3;exact ScanPost.ok (eU.atEnd (by rw[zad];exact HE.out)) bQ.own om bQ.below
  ·have h1:((b:Int)==(s.size:Int))=false:=by simp;omega
   have hb:b<s.size:=om;clear ii;have rA:Hid ((prog.info? 152).map (·.size)=some (frmL g).toArray.size):=hid kr;have hO:=out_of g s b hs hb;go_wp2_with (refine wpList_load_row rfl 152 (.tmp 7) rfl (g+1+1) rfl 152 (frmL g).toArray (0,0) _ cD.frm underlying152 rfl rA.out ?_);refine wp_loop_rounds 5 ?_;rw[rounds_succ];have hix0:∀W:World,(Instr.index 152 (.agg (frmL g).toArray) (.int .i64 0)).run prog W=.ok (.func (.func 66) #[.pointer (some ⟨g,0,none⟩)] #[]) W:=fun _=>kr;have uH:∀W:World,(Instr.index 152 (.agg (frmL g).toArray) (.int .i64 1)).run prog W=.ok (.func (.func 67) #[.pointer (some ⟨g,0,none⟩)] #[]) W:=fun _=>kr;have vG:∀W:World,(Instr.index 152 (.agg (frmL g).toArray) (.int .i64 2)).run prog W=.ok (.func (.func 68) #[.pointer (some ⟨g,0,none⟩)] #[]) W:=fun _=>kr;have vB:∀W:World,(Instr.index 152 (.agg (frmL g).toArray) (.int .i64 3)).run prog W=.ok (.func (.func 69) #[.pointer (some ⟨g,0,none⟩)] #[]) W:=fun _=>kr;cases hO with
   | err0 e he h0 ht =>
    have vZ:((e:Int) != 0)=true:=by simp;omega
    have H0:=hid h0;clear h0 uH vG vB;go_wp2_with fail;refine(H0.out _ cD.scn).mono ?_;rintro e' w3 ⟨rfl,aJ⟩;go_wp2_with fail;rw[Exit.noGoto_ret];go_ret3;exact ScanPost.err (eU.error zye ah.out ht) rfl rfl (cD.next aJ).below
   | err1 e he h0 h1 ht =>
    have vZ:((e:Int) != 0)=true:=by simp;omega
    have H0:=hid h0;have H1:=hid h1;clear h0 h1 c2;go_wp2_with fail;refine(H0.out _ cD.scn).mono ?_;rintro e' w3 ⟨rfl,aJ⟩;have bQ:=cD.next aJ;clear aJ cD;go_wp2_with fail;rw[rounds_succ];go_wp2_with fail;refine(H1.out _ bQ.scn).mono ?_;rintro e' w4 ⟨rfl,aK⟩;go_wp2_with fail;rw[Exit.noGoto_ret];go_ret3;exact ScanPost.err (eU.error zye ah.out ht) rfl rfl (bQ.next aK).below
   | err2 e he h0 h1 h2 ht =>
    have vZ:((e:Int) != 0)=true:=by simp;omega
    have H0:=hid h0;have H1:=hid h1;have H2:=hid h2;clear h0 h1 h2 c2;go_wp2_with fail;refine(H0.out _ cD.scn).mono ?_;rintro e' w3 ⟨rfl,aJ⟩;have bQ:=cD.next aJ;clear aJ cD;go_wp2_with fail;rw[rounds_succ];go_wp2_with fail;refine(H1.out _ bQ.scn).mono ?_;rintro e' w4 ⟨rfl,aK⟩;have cE:=bQ.next aK;clear aK bQ;go_wp2_with fail;rw[rounds_succ];go_wp2_with fail;refine(H2.out _ cE.scn).mono ?_;rintro e' w5 ⟨rfl,aS⟩;go_wp2_with fail;rw[Exit.noGoto_ret];go_ret3;exact ScanPost.err (eU.error zye ah.out ht) rfl rfl (cE.next aS).below
   | tok0 k n hk h0 ht =>
    have hk2':((k:Int)==1)=false:=by simp;omega
    have gL:¬(k=1∧Lx.luAt ((tl s).drop (b+n))=true):=fun h=>hk h.1;have HN:=hid gL;clear gL;have H0:=hid h0;clear h0 c2;have fA:=Lx.tk_len ht;rw[List.length_drop,zad]at fA;have aT:(((b:Int)+n)==(b:Int))=false:=by simp;omega
    have HT:=hid ht;go_wp2_with fail;refine(H0.out _ cD.scn).mono ?_;rintro e' w3 ⟨rfl,aJ⟩;have bQ:=cD.next aJ;clear aJ cD;go_wp2_with (first|(at_builtin;refine wpList_append_own _ rfl _ _ 73 rfl (g+3) 154 i0 _ 3 32 underlying73 aL bg aY bh rfl zy0 _ _ _ rfl (bQ.own.alloc _) ⟨w3.heap.size,0,none⟩ 1 1 [.int .i64 (k:Int),.string (s.extract b (b+n)),.int .i64 (b:Int)] rfl rfl (new3 _ _ _ _ _) ?c2 ?c3 ?c4 ?c5 ?_));case c2=>intro u hu;simp at hu;rcases hu with rfl|rfl|rfl<;>rfl
    case c3=>unfold maxLen;omega
    case c4=>omega
    case c5=>have:=bQ.frm.lt;simp;omega
    intro v' w4 af hg _;rw[ext_str s b n]at af hg;have cE:=bQ.push ⟨k,((tl s).drop b).take n,b⟩ _ af hg;clear af hg bQ;have d2:w4.cell? ⟨g,257,none⟩=some (.int .i64 (b:Int)):=(cE.scn.cell _).trans (zap s b);have d3:w4.frozen? ⟨g,257,none⟩=false:=cE.scn.frozen _;go_wp2_with fail;go_roundw;case rel =>
     refine⟨b+n,out++[⟨k,((tl s).drop b).take n,b⟩],?_,eU.token zye ah.out ht HN.out,?_⟩
     ·have h:=cE.setAt (b+n);rw[Int.natCast_add]at h;exact h
     ·rw[List.length_append];simp;omega
    case measure =>
     have h:=(cE.setAt (b+n)).scn;exact zt44
   | tok1 n h0 h1 ht =>
    have gL:¬(0=1∧Lx.luAt ((tl s).drop (b+n))=true):=fun h=>absurd h.1 zy0;have HN:=hid gL;clear gL;have H0:=hid h0;have H1:=hid h1;clear h0 h1 c2;have fA:=Lx.tk_len ht;rw[List.length_drop,zad]at fA;have aT:(((b:Int)+n)==(b:Int))=false:=by simp;omega
    have HT:=hid ht;go_wp2_with fail;refine(H0.out _ cD.scn).mono ?_;rintro e' w3 ⟨rfl,aJ⟩;have bQ:=cD.next aJ;clear aJ cD;go_wp2_with fail;rw[rounds_succ];go_wp2_with fail;refine(H1.out _ bQ.scn).mono ?_;rintro e' w4 ⟨rfl,aK⟩;have cE:=bQ.next aK;clear aK bQ;go_wp2_with (first|(at_builtin;refine wpList_append_own _ rfl _ _ 73 rfl (g+3) 154 i0 _ 3 32 underlying73 aL bg aY bh rfl zy0 _ _ _ rfl (cE.own.alloc _) ⟨w4.heap.size,0,none⟩ 1 1 [.int .i64 0,.string (s.extract b (b+n)),.int .i64 (b:Int)] rfl rfl (new3 _ _ _ _ _) ?c2 ?c3 ?c4 ?c5 ?_));case c2=>intro u hu;simp at hu;rcases hu with rfl|rfl|rfl<;>rfl
    case c3=>unfold maxLen;omega
    case c4=>omega
    case c5=>have:=cE.frm.lt;simp;omega
    intro v' w5 af hg _;rw[ext_str s b n]at af hg;have cN:=cE.push ⟨0,((tl s).drop b).take n,b⟩ _ af hg;clear af hg cE;have d2:w5.cell? ⟨g,257,none⟩=some (.int .i64 (b:Int)):=(cN.scn.cell _).trans (zap s b);have d3:w5.frozen? ⟨g,257,none⟩=false:=cN.scn.frozen _;go_wp2_with fail;go_roundw;case rel =>
     refine⟨b+n,out++[⟨0,((tl s).drop b).take n,b⟩],?_,eU.token zye ah.out ht HN.out,?_⟩
     ·have h:=cN.setAt (b+n);rw[Int.natCast_add]at h;exact h
     ·rw[List.length_append];simp;omega
    case measure =>
     have h:=(cN.setAt (b+n)).scn;exact zt44
   | tok2 n h0 h1 h2 ht =>
    have bB:=(Lx.tk_len ht).2;rw[List.length_drop,zad]at bB;by_cases hz:b+n=s.size
    ·have gL:¬Lx.luAt ((tl s).drop (b+n))=true:=by
      rw[List.drop_eq_nil_of_le zyw];exact fun h=>absurd h zy0
     have HZ:=hid hz;have qG:decide ((b:Int)+n<(s.size:Int))=false:=by simp;omega
     clear hz;have HN:=hid gL;clear gL;have H0:=hid h0;have H1:=hid h1;have H2:=hid h2;clear h0 h1 h2 c2;have fA:=Lx.tk_len ht;rw[List.length_drop,zad]at fA;have aT:(((b:Int)+n)==(b:Int))=false:=by simp;omega
     have HT:=hid ht;go_wp2_with fail;refine(H0.out _ cD.scn).mono ?_;rintro e' w3 ⟨rfl,aJ⟩;have bQ:=cD.next aJ;clear aJ cD;go_wp2_with fail;rw[rounds_succ];go_wp2_with fail;refine(H1.out _ bQ.scn).mono ?_;rintro e' w4 ⟨rfl,aK⟩;have cE:=bQ.next aK;clear aK bQ;go_wp2_with fail;rw[rounds_succ];go_wp2_with fail;refine(H2.out _ cE.scn).mono ?_;rintro e' w5 ⟨rfl,aS⟩;have cN:=cE.next aS;clear aS cE;go_wp2_with (first|(at_builtin;refine wpList_append_own _ rfl _ _ 73 rfl (g+3) 154 i0 _ 3 32 underlying73 aL bg aY bh rfl zy0 _ _ _ rfl (cN.own.alloc _) ⟨w5.heap.size,0,none⟩ 1 1 [.int .i64 1,.string (s.extract b (b+n)),.int .i64 (b:Int)] rfl rfl (new3 _ _ _ _ _) ?c2 ?c3 ?c4 ?c5 ?_));case c2=>intro u hu;simp at hu;rcases hu with rfl|rfl|rfl<;>rfl
     case c3=>unfold maxLen;omega
     case c4=>omega
     case c5=>have:=cN.frm.lt;simp;omega
     intro v' w6 af hg _;rw[ext_str s b n]at af hg;have dl:=cN.push ⟨1,((tl s).drop b).take n,b⟩ _ af hg;clear af hg cN;have d2:w6.cell? ⟨g,257,none⟩=some (.int .i64 (b:Int)):=(dl.scn.cell _).trans (zap s b);have d3:w6.frozen? ⟨g,257,none⟩=false:=dl.scn.frozen _;exact zt24
    ·have qG:b+n<s.size:=om;have ny:Lx.luAt ((tl s).drop (b+n))=Lx.isLU s[b+n]:=by rw[drop_cons s qG];rfl
     have cG:=cls_lu s[b+n];clear hz;by_cases hA:clsN s[b+n].toNat=2
     ·have tD:Lx.luAt ((tl s).drop (b+n))=true:=by rw[ny,cG];simp[hA]
      have jb:((clsN s[b+n].toNat:Int)==2)=true:=by simp;omega
      clear ny cG hA;exact zt5
     ·by_cases hB:clsN s[b+n].toNat=4
      ·have tD:Lx.luAt ((tl s).drop (b+n))=true:=by rw[ny,cG];simp[hB]
       have jb:((clsN s[b+n].toNat:Int)==2)=false:=by simp;omega
       have dW:((clsN s[b+n].toNat:Int)==4)=true:=by simp;omega
       clear ny cG hA hB;exact zt5
      ·have gL:¬Lx.luAt ((tl s).drop (b+n))=true:=by rw[ny,cG];simp[hA,hB]
       have jb:((clsN s[b+n].toNat:Int)==2)=false:=by simp;omega
       have dW:((clsN s[b+n].toNat:Int)==4)=false:=by simp;omega
       clear ny cG hA hB;have HN:=hid gL;clear gL;have H0:=hid h0;have H1:=hid h1;have H2:=hid h2;clear h0 h1 h2 c2;have fA:=Lx.tk_len ht;rw[List.length_drop,zad]at fA;have aT:(((b:Int)+n)==(b:Int))=false:=by simp;omega
       have HT:=hid ht;go_wp2_with fail;refine(H0.out _ cD.scn).mono ?_;rintro e' w3 ⟨rfl,aJ⟩;have bQ:=cD.next aJ;clear aJ cD;go_wp2_with fail;rw[rounds_succ];go_wp2_with fail;refine(H1.out _ bQ.scn).mono ?_;rintro e' w4 ⟨rfl,aK⟩;have cE:=bQ.next aK;clear aK bQ;go_wp2_with fail;rw[rounds_succ];go_wp2_with fail;refine(H2.out _ cE.scn).mono ?_;rintro e' w5 ⟨rfl,aS⟩;have cN:=cE.next aS;clear aS cE;go_wp2_with (first|(at_builtin;refine wpList_append_own _ rfl _ _ 73 rfl (g+3) 154 i0 _ 3 32 underlying73 aL bg aY bh rfl zy0 _ _ _ rfl (cN.own.alloc _) ⟨w5.heap.size,0,none⟩ 1 1 [.int .i64 1,.string (s.extract b (b+n)),.int .i64 (b:Int)] rfl rfl (new3 _ _ _ _ _) ?c2 ?c3 ?c4 ?c5 ?_));case c2=>intro u hu;simp at hu;rcases hu with rfl|rfl|rfl<;>rfl
       case c3=>unfold maxLen;omega
       case c4=>omega
       case c5=>have:=cN.frm.lt;simp;omega
       intro v' w6 af hg _;rw[ext_str s b n]at af hg;have dl:=cN.push ⟨1,((tl s).drop b).take n,b⟩ _ af hg;clear af hg cN;have d2:w6.cell? ⟨g,257,none⟩=some (.int .i64 (b:Int)):=(dl.scn.cell _).trans (zap s b);have d3:w6.frozen? ⟨g,257,none⟩=false:=dl.scn.frozen _;have d4:w6.cell? ⟨g+1,s[b+n].toNat,none⟩=some (.int .u8 (clsN s[b+n].toNat:Int)):=(dl.tab.cell _).trans (tabV_at _);have h5:=zb9 s[b+n].toNat;have h6:=s[b+n].toNat_lt;exact zt24
   | tok3 n h0 h1 h2 h3 ht =>
    have gL:¬(2=1∧Lx.luAt ((tl s).drop (b+n))=true):=fun h=>absurd h.1 zy0;have HN:=hid gL;clear gL;have H0:=hid h0;have H1:=hid h1;have H2:=hid h2;have H3:=hid h3;clear h0 h1 h2 h3 c2;have fA:=Lx.tk_len ht;rw[List.length_drop,zad]at fA;have aT:(((b:Int)+n)==(b:Int))=false:=by simp;omega
    have HT:=hid ht;go_wp2_with fail;refine(H0.out _ cD.scn).mono ?_;rintro e' w3 ⟨rfl,aJ⟩;have bQ:=cD.next aJ;clear aJ cD;go_wp2_with fail;rw[rounds_succ];go_wp2_with fail;refine(H1.out _ bQ.scn).mono ?_;rintro e' w4 ⟨rfl,aK⟩;have cE:=bQ.next aK;clear aK bQ;go_wp2_with fail;rw[rounds_succ];go_wp2_with fail;refine(H2.out _ cE.scn).mono ?_;rintro e' w5 ⟨rfl,aS⟩;have cN:=cE.next aS;clear aS cE;go_wp2_with fail;rw[rounds_succ];go_wp2_with fail;refine(H3.out _ cN.scn).mono ?_;rintro e' w6 ⟨rfl,dM⟩;have dl:=cN.next dM;clear dM cN;go_wp2_with (first|(at_builtin;refine wpList_append_own _ rfl _ _ 73 rfl (g+3) 154 i0 _ 3 32 underlying73 aL bg aY bh rfl zy0 _ _ _ rfl (dl.own.alloc _) ⟨w6.heap.size,0,none⟩ 1 1 [.int .i64 2,.string (s.extract b (b+n)),.int .i64 (b:Int)] rfl rfl (new3 _ _ _ _ _) ?c2 ?c3 ?c4 ?c5 ?_));case c2=>intro u hu;simp at hu;rcases hu with rfl|rfl|rfl<;>rfl
    case c3=>unfold maxLen;omega
    case c4=>omega
    case c5=>have:=dl.frm.lt;simp;omega
    intro v' w7 af hg _;rw[ext_str s b n]at af hg;have rU:=dl.push ⟨2,((tl s).drop b).take n,b⟩ _ af hg;clear af hg dl;have d2:w7.cell? ⟨g,257,none⟩=some (.int .i64 (b:Int)):=(rU.scn.cell _).trans (zap s b);have d3:w7.frozen? ⟨g,257,none⟩=false:=rU.scn.frozen _;go_wp2_with fail;go_roundw;case rel =>
     refine⟨b+n,out++[⟨2,((tl s).drop b).take n,b⟩],?_,eU.token zye ah.out ht HN.out,?_⟩
     ·have h:=rU.setAt (b+n);rw[Int.natCast_add]at h;exact h
     ·rw[List.length_append];simp;omega
    case measure =>
     have h:=(rU.setAt (b+n)).scn;exact zt44
   | none h0 h1 h2 h3 ht =>
    have H0:=hid h0;have H1:=hid h1;have H2:=hid h2;have H3:=hid h3;clear h0 h1 h2 h3 c2;go_wp2_with fail;refine(H0.out _ cD.scn).mono ?_;rintro e' w3 ⟨rfl,aJ⟩;have bQ:=cD.next aJ;clear aJ cD;go_wp2_with fail;rw[rounds_succ];go_wp2_with fail;refine(H1.out _ bQ.scn).mono ?_;rintro e' w4 ⟨rfl,aK⟩;have cE:=bQ.next aK;clear aK bQ;go_wp2_with fail;rw[rounds_succ];go_wp2_with fail;refine(H2.out _ cE.scn).mono ?_;rintro e' w5 ⟨rfl,aS⟩;have cN:=cE.next aS;clear aS cE;go_wp2_with fail;rw[rounds_succ];go_wp2_with fail;refine(H3.out _ cN.scn).mono ?_;rintro e' w6 ⟨rfl,dM⟩;have dl:=cN.next dM;clear dM cN;go_wp2_with fail;rw[rounds_succ];go_wp2_with fail;rw[Exit.noGoto_ret];go_ret3;exact ScanPost.err (eU.error zye ah.out ht) rfl rfl dl.below
end
end Go.Proofs.YtekkapgknohadaaGreatDoor
