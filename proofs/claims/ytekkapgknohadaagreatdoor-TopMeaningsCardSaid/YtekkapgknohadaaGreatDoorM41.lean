/- What the law needs in plain words. -/
import Derived.Test.YtekkapgknohadaaGreatDoorM39
import Derived.Test.YtekkapgknohadaaGreatDoorM40
set_option linter.unusedVariables false
set_option linter.unusedSimpArgs false
set_option maxRecDepth 20000
set_option maxHeartbeats 8000000
open Go.Proofs.Tryz
namespace Go.Proofs.YtekkapgknohadaaGreatDoor
namespace Nf
open Go.RowKit Go.Shelf
open Pa (F Nd Tx)
theorem cnt_same {S:List Sm} {d n:Po} (h:ofP chkB S d=some n) {Fs:List (List Int)} (hF:AdmF S d.uses Fs):cnt (lookS S n.uses) (valF S n.uses Fs) (treeD n)=cnt (lookS S d.uses) (valF S d.uses Fs) (treeD d):=by
 obtain⟨rfl,t1,t2⟩:=of_out h;have hr:=zbe h;have hc:=(zaw hr).1;have e:=(out_tree t1 t2).1;have t3:tyF (lookS S d.uses) (treeD d)=true:=by
  unfold za4 at t1;simp only[Bool.and_eq_true]at t1;exact t1.2
 have hw:=zco _ _ _ _ (Pa.tree_vn hc);show cnt (lookS S d.uses) (valF S d.uses Fs) (treeD (outP S d))=_;rw[e,cnt_nrm (adm_of hr hF) false t3 hw (tree_okn hc)];rfl
theorem n_size {S:List Sm} {d n:Po} (h:ofP chkB S d=some n):n.nodes.length≤4*d.nodes.length:=by
 obtain⟨rfl,t1,t2⟩:=of_out h;have hc:=(zaw (zbe h)).1;have e:=(out_tree t1 t2).1;have h1:=zcq (lookS S d.uses) (treeD d) false;have h2:(treeD d).size=d.nodes.length:=Go.Proofs.YtekkapgknohadaaGreatDoor.tree_size hc;have h3:(treeD (outP S d)).size=(outP S d).nodes.length:=Go.Proofs.YtekkapgknohadaaGreatDoor.tree_size t2;rw[e]at h3;omega
theorem n_kids {S:List Sm} {d n:Po} (h:ofP chkB S d=some n):∀m∈n.nodes,m.kids.length≤4*d.nodes.length:=by
 obtain⟨rfl,t1,t2⟩:=of_out h;have hc:=(zaw (zbe h)).1;have h1:=zcq (lookS S d.uses) (treeD d) false;have h2:(treeD d).size=d.nodes.length:=Go.Proofs.YtekkapgknohadaaGreatDoor.tree_size hc;intro m hm;obtain⟨x,hx,rfl⟩:=List.mem_map.1 (show m∈(F.num 0 _).map nkOf from hm);have h3:=F.num_kids _ 0 x hx;show(x.2.map fun(n:Nat)=>(n:Int)).length≤_;rw[List.length_map];omega
theorem n_refs {S:List Sm} {d n:Po} (h:ofP chkB S d=some n):(dd (refF (treeD n))).length≤d.nodes.length+1:=by
 obtain⟨rfl,t1,t2⟩:=of_out h;have hc:=(zaw (zbe h)).1;have e:=(out_tree t1 t2).1;have h2:(treeD d).size=d.nodes.length:=Go.Proofs.YtekkapgknohadaaGreatDoor.tree_size hc;have h1:=refF_len (treeD d);have hE:(treeD (outP S d)).Ev (InR ((bs [],bs [])::refF (treeD d))):=by
  rw[e];exact nrm_ev (fun k n h9=>List.mem_cons_self ..) false (ev_refF _ _ fun r hr=>List.mem_cons_of_mem _ hr)
 have h4:=nodup_len (dd (refF (treeD (outP S d)))) ((bs [],bs [])::refF (treeD d)) (dd_nodup _) fun r hr=>by
  rw[dd_mem]at hr;exact refF_mem (p:=fun r=>r∈(bs [],bs [])::refF (treeD d)) hE r hr
 simp only[List.length_cons]at h4;omega
theorem twice_nd {α:Type} [DecidableEq α]:∀(l S:List α),twiceP S l=false→S.Nodup→(S++l).Nodup
 | [],S,_,h=>by rw[List.append_nil];exact h
 | x::r,S,h,hS=>by
   rw[twiceP,Bool.or_eq_false_iff]at h;have hx:x∉S:=by
    intro hx;have:memD x S=true:=by unfold memD;exact List.any_eq_true.2 ⟨x,hx,decide_eq_true rfl⟩
    rw[h.1]at this;cases this
   have:=twice_nd r (S++[x]) h.2 (by
    rw[List.nodup_append];exact⟨hS,by simp,fun a ha b hb=>by rw[List.mem_singleton]at hb;subst hb;exact fun e=>hx (e▸ha)⟩)
   rwa[List.append_assoc]at this
theorem rev_ok {d:Po} (h:checkP d=0):d.reveal.Nodup∧d.reveal.length≤64:=by
 unfold checkP at h;split at h
 ·cases h
 ·rename_i h1;split at h
  ·cases h
  ·split at h
   ·cases h
   ·split at h
    ·rename_i h4;exact absurd h h4
    ·split at h
     ·cases h
     ·rename_i h5;refine⟨?_,by omega⟩;have h6:twiceP [] d.reveal=false:=by
       cases h7:twiceP [] d.reveal with
       | false=>rfl
       | true=>exact absurd (.inr h7) h5
      simpa using twice_nd d.reveal [] h6 List.nodup_nil
theorem plan_all {S:List Sm} {d n:Po} (h:ofP chkB S d=some n) (gH:d.nodes.length≤40) {x:Nd} {k:F} (hx:treeD n=.cons x k .nil) (h1:x.kind≠1) {Fs:List (List Int)} (hF:AdmF S d.uses Fs)
 (ha:(planP S d.uses d.reveal (dd (refF (treeD n))) x k).ats.length≤256) (hs:(planP S d.uses d.reveal (dd (refF (treeD n))) x k).sqs.length≤64) (hw:∀a∈(planP S d.uses d.reveal (dd (refF (treeD n))) x k).ats,a.hi-a.lo≤4294967295) :
 PlOk (planP S d.uses d.reveal (dd (refF (treeD n))) x k)∧planB (planP S d.uses d.reveal (dd (refF (treeD n))) x k) ((dd (refF (treeD n))).map (valR S d.uses Fs))=decide (cnt (lookS S d.uses) (valF S d.uses Fs) (treeD d)=1):=by
 have hr:=zbe h;have hc:=(zaw hr).1;have hP:x.kind≠0→Pf (lookS S d.uses) (.cons x k .nil):=fun h0=>of_pf h hx h0 h1;have hE:(F.cons x k .nil).Ev (InR (dd (refF (treeD n)))):=by
  have:=in_refs (n:=n);rw[hx]at this ⊢;exact this
 have bu:(F.cons x k .nil).size≤250:=by
  rw[←hx,show(treeD n).size=n.nodes.length from Go.Proofs.YtekkapgknohadaaGreatDoor.tree_size (of_twice h).2];have:=n_size h;omega
 have lE:=of_typed h;have rP:∀r∈d.reveal,(findS S d.uses r.1 r.2).isSome=true:=by
  unfold za4 at lE;simp only[Bool.and_eq_true]at lE;exact fun r hr=>List.all_eq_true.1 lE.1.2 r hr
 have fJ:=n_refs h;refine⟨plan_ok hr hP hE bu (rev_ok hc).1 (rev_ok hc).2 rP (dd_nodup _) om (fun r hr=>by
  obtain⟨fd,bJ⟩:=refs_found h r hr;rw[bJ];rfl) hF ha hs hw,?_⟩
 rw[plan_ev hr hP hE hF,←hx];have e:=cnt_same h hF;rw[(of_uses h).1]at e;rw[e]
theorem cnt_no {S:List Sm} {d n:Po} (h:ofP chkB S d=some n) {x:Nd} {k:F} (hx:treeD n=.cons x k .nil) (h1:x.kind=1) {Fs:List (List Int)} (hF:AdmF S d.uses Fs):cnt (lookS S d.uses) (valF S d.uses Fs) (treeD d)=0:=by
 rw[←cnt_same h hF,hx];have:evO (lookS S n.uses) (valF S n.uses Fs) x (vals k) k.len (cnt (lookS S n.uses) (valF S n.uses Fs) k)=false:=by unfold evO;rw[if_neg om,if_pos h1]
 rw[cnt,this];rfl
structure RowOk (fs:List Fd) (l:List Int):Prop where
 len:l.length=fs.length
 rg:∀(k:Nat) (f:Fd) (x:Int),fs[k]? =some f→l[k]? =some x→zaj f≤x∧x<zaj f+cntF f
theorem RowOk.nil:RowOk [] []:=⟨rfl,fun k f x h _=>by simp at h⟩
theorem RowOk.snoc {fs:List Fd} {l:List Int} (h:RowOk fs l) {f:Fd} {x:Int} (h1:zaj f≤x) (h2:x<zaj f+cntF f):RowOk (fs++[f]) (l++[x]):=by
 refine⟨by simp[h.len],fun k g y hg hy=>?_⟩;rw[List.getElem?_append]at hg hy;have hl:=h.len;split at hg
 ·rename_i hk;rw[if_pos om]at hy;exact h.rg k g y hg hy
 ·rename_i hk;rw[if_neg om]at hy;have e1:k-fs.length=0:=by
   rcases Nat.eq_zero_or_pos (k-fs.length)with q|q
   ·exact q
   ·rw[List.getElem?_eq_none zy8]at hg;cases hg
  rw[hl,e1]at hy;rw[e1]at hg;simp only[List.getElem?_cons_zero,Option.some.injEq]at hg hy;subst hg hy;exact⟨h1,h2⟩
def RowsOk (S:List Sm) (U:List Bp) (Fs:List (List Int)):Prop:=Fs.length=U.length∧∀(i:Nat) (u:Bp) (m:Sm) (l:List Int),U[i]? =some u→zaq S u.2=some m→Fs[i]? =some l→RowOk m.fields l
theorem RowsOk.nil {S:List Sm}:RowsOk S [] []:=⟨rfl,fun i u m l h=>by simp at h⟩
theorem RowsOk.snoc {S:List Sm} {U:List Bp} {Fs:List (List Int)} (h:RowsOk S U Fs) {u:Bp} {m:Sm} {l:List Int} (hm:zaq S u.2=some m) (hl:RowOk m.fields l):RowsOk S (U++[u]) (Fs++[l]):=by
 refine⟨by simp[h.1],fun i v m2 l2 h1 h2 h3=>?_⟩;have hl:=h.1;rw[List.getElem?_append]at h1 h3;split at h1
 ·rename_i hk;rw[if_pos om]at h3;exact h.2 i v m2 l2 h1 h2 h3
 ·rename_i hk;rw[if_neg om]at h3;have e1:i-U.length=0:=by
   rcases Nat.eq_zero_or_pos (i-U.length)with q|q
   ·exact q
   ·rw[List.getElem?_eq_none zy8]at h1;cases h1
  rw[h.1,e1]at h3;rw[e1]at h1;simp only[List.getElem?_cons_zero,Option.some.injEq]at h1 h3;subst h1 h3;rw[hm]at h2;cases h2;assumption
theorem RowsOk.adm {S:List Sm} {d:Po} (hr:zah chkB S d=true) {Fs:List (List Int)} (h:RowsOk S d.uses Fs):AdmF S d.uses Fs:=by
 refine⟨h.1,fun i u m hu hm=>?_⟩;have hl:=(List.getElem?_eq_some_iff.1 hu).1;obtain⟨l,hl9⟩:∃l,Fs[i]? =some l:=⟨_,List.getElem?_eq_getElem (by rw[h.1];exact hl)⟩;have hR:=h.2 i u m l hu hm hl9;refine⟨l,hl9,hR.len,fun k f x hf hx=>?_⟩;have h9:=hR.rg k f x hf hx;have iq:=(zbo ((zaw hr).2 m (zbf hm))).2.2 f (List.mem_of_getElem? hf);unfold zaj cntF at h9;constructor
 ·intro q;rw[if_pos q,if_pos q]at h9;omega
 ·intro q;rw[if_neg q,if_neg q]at h9;omega
end Nf
namespace Nf
open Go.RowKit Go.Shelf
open Lib (hid)
open Pa (F Nd Tx)
def frIts (P:List (Value×List Int)):List It:=P.map fun x=>irow 3 1 x.1 x.2.length (dvals x.2)
theorem rows_of {W:World} {FA:Option Addr} {n fc:Nat} {P:List (Value×List Int)} (h0:W.ownsRow 0 61 1 (.slice FA n fc) P.length (P.map Prod.fst)) (hk:∀x∈frIts P,x.P W):Rows W FA (P.map Prod.snd):=⟨fun i l hl=>by
 rw[List.getElem?_map]at hl;obtain⟨z,hz,rfl⟩:=Option.map_eq_some_iff.1 hl;have bq:=(List.getElem?_eq_some_iff.1 hz).1;obtain⟨g,cap,hv,-⟩:=zak h0 om;injection hv with hA hn hc;subst hA;have h1:=h0.cells rfl i z.1 (by rw[List.getElem?_map,hz];rfl);have hk:W.ownsRow 0 3 1 z.1 z.2.length (dvals z.2):=hk _ (List.mem_map.2 ⟨z,List.mem_of_getElem? hz,rfl⟩);obtain⟨RA,rc,iF⟩:=zab hk;rw[iF]at h1 hk;exact⟨_,RA,rc,rfl,h1,ints_own hk rfl⟩⟩
structure PlC (S:List Sm) (d n:Po) (y:Int) (p:PlD) (l:PlL) (W:World):Prop where
 two:y=0∨y=18
 no:y=18→∀Fs,AdmF S d.uses Fs→cnt (lookS S d.uses) (valF S d.uses Fs) (treeD d)=0
 at_:y=0→PlnAt W p l
 com:y=0→p.com=(dd (refF (treeD n))).map (plS S d.uses)
 ok:y=0→∀Fs,AdmF S d.uses Fs→PlOk p∧planB p ((dd (refF (treeD n))).map (valR S d.uses Fs))=decide (cnt (lookS S d.uses) (valF S d.uses Fs) (treeD d)=1)
theorem PlC.up {S:List Sm} {d n:Po} {y:Int} {p:PlD} {l:PlL} {W W':World} (h:PlC S d n y p l W) (hb:Below W.heap.size W W'):PlC S d n y p l W':=⟨h.two,h.no,fun e=>(h.at_ e).up hb,h.com,h.ok⟩
theorem plout_two {S:List Sm} {d n:Po} (h:ofP chkB S d=some n) (gH:d.nodes.length≤40) {x:Nd} {k:F} (hx:treeD n=.cons x k .nil) {e:Ending} {w':World} (hP:PlOut S d.uses d.reveal (dd (refF (treeD n))) x k e w') :
 (∃y:Int,y≠0∧y≠18∧e=.returned (.tuple #[zPlV,.int .i64 y]))∨(∃(y:Int) (p:PlD) (l:PlL),e=.returned (.tuple #[pnV p l,.int .i64 y])∧PlC S d n y p l w'):=by
 rcases hP with⟨h1,rfl⟩|⟨h1,h2⟩|⟨h1,ha,hs,hw,l,rfl,hl⟩
 ·exact .inr ⟨18,⟨[],[],[],[],[]⟩,⟨none,0,none,0,none,0,none,0,none,0⟩,rfl,.inr rfl,fun _ Fs hF=>cnt_no h hx h1 hF,fun e=>absurd e zy0,fun e=>absurd e zy0,fun e=>absurd e zy0⟩
 ·exact .inl h2
 ·refine .inr ⟨0,_,l,rfl,.inl rfl,fun e=>absurd e zy0,fun _=>hl,fun _=>?_,fun _ Fs hF=>plan_all h gH hx h1 hF ha hs hw⟩;unfold planP;split<;>rfl
theorem n_root {S:List Sm} {d n:Po} (h:ofP chkB S d=some n):∃x k,treeD n=.cons x k .nil:=by
 have kL:=of_twice h;obtain⟨j,nr,hj,rZ,vJ,qw,pz,jX⟩:=node_of (Pa.tree_vn kL.2) (tree_wf (za5 kL.2));exact⟨_,_,jX⟩
theorem uses_named {S:List Sm} {d:Po} (h:zah chkB S d=true):∀u∈d.uses,∃m,zaq S u.2=some m:=by
 unfold zah at h;simp only[Bool.and_eq_true]at h;exact fun u hu=>Option.isSome_iff_exists.1 (List.all_eq_true.1 h.2 u hu)
theorem run_fields (m:Sm) (FA:Option Addr) (c:Nat) (w:World):(Instr.field 53 (smV m FA c) 1).run prog w=.ok (.slice FA m.fields.length c) w:=by
 kernel_rfl
theorem vals_rg {S:List Sm} {d:Po} (hr:zah chkB S d=true) {R:List Bp} (rz:∀r∈R,∃fd,findS S d.uses r.1 r.2=some fd) {Fs:List (List Int)} (hF:AdmF S d.uses Fs):∀x∈R.map (valR S d.uses Fs),0≤x∧x≤4294967295:=by
 intro x hx;obtain⟨r,nV,rfl⟩:=List.mem_map.1 hx;obtain⟨fd,bJ⟩:=rz r nV;obtain⟨u,k,s,m,hP⟩:=zbs bJ;obtain⟨l,y,hl,hy,uF,ea,aC,aG⟩:=hP.val hF;unfold valR;rw[bJ];simp only[Option.getD_some];rw[ea];unfold zaj;rcases(zct hr bJ).kd with q|q
 ·have:=aG om;rw[if_neg om];omega
 ·have:=aC q.1;rw[if_pos q.1];omega
theorem ints_info:(prog.info? 61).map (fun i=>(i.zero,i.size,i.bytes))=some (some (.slice none 0 0),1,24):=kr
theorem tmean_any (d:Po) (L:Lp) (A:Option Addr) (c:Nat) (S:List Sm) (w:World) (hP:PolM w d L) (hS:Schs w A S) (hc:S.length≤c) (hL:LBd d)
 (hEx:∀W,Below w.heap.size w W→Calls prog 5 #[] W fun e w'=>e=.returned (.bool true)∧Below W.heap.size W w') :
 Calls prog 4 #[polV d L,.slice A S.length c] w fun e w'=>e=.returned (.bool true)∧Below w.heap.size w w':=by
 have tw:=run_fields;obtain⟨i0,n8,bg,aY,bh⟩:=info_parts Fm.int_info;obtain⟨k0,hK0,dg,iw,iN⟩:=info_parts ints_info;obtain⟨ua,uc,ra,rc,na,nc⟩:=L;have hk:=(Hp.start w).new 29 (polcs d ⟨ua,uc,ra,rc,na,nc⟩);obtain⟨g2,cK⟩:∃g,w.heap.size=g:=⟨_,rfl⟩;rw[cK]at hk;have HEX:=hid (fun W hb=>hEx W hb);have ol:=hid (fun W (hb:Below w.heap.size w W)=>few_any d ⟨ua,uc,ra,rc,na,nc⟩ A c S W (hP.up hb) (hS.up hb));have jI:=hid hP;have ml:=hid hS;have HL:=hid hL;clear hEx hP hS hL;go_enter func4,ntmps4;go_upto_region 1 with fail;try simp only[cK]
 have an:Hp [] w [iblk g2 29 (polcs d ⟨ua,uc,ra,rc,na,nc⟩)] (w.alloc (.cells #[.string d.name,.slice ua d.uses.length uc,.slice ra d.reveal.length rc,.slice na d.nodes.length nc,.int .i64 d.root,.string d.scope,.int .i64 d.limit,.string d.escrow] 29)):=hk;clear hk;generalize w.alloc (.cells #[.string d.name,.slice ua d.uses.length uc,.slice ra d.reveal.length rc,.slice na d.nodes.length nc,.int .i64 d.root,.string d.scope,.int .i64 d.limit,.string d.escrow] 29)=W1 at *;go_wp2_with fail;refine(HEX.out W1 an.below0).mono ?_;rintro e w2 ⟨rfl,hb⟩;have ah:=an.next hb;clear an hb HEX;obtain⟨c0,c1,c2,c3,c4,c5,c6,c7⟩:=(ah.blk 0 rfl).get8;go_wp2_with fail;refine(ol.out w2 ah.below0).mono ?_;rintro e w3 ⟨rfl,hb⟩;have aj:=ah.next hb;clear ah hb ol c0 c1 c2 c3 c4 c5 c6 c7;obtain⟨c0,c1,c2,c3,c4,c5,c6,c7⟩:=(aj.blk 0 rfl).get8;cases jW:fewD d S with
 | false =>
   have dS:=aj.below0;go_wp2_with fail;go_ret;exact zv5
 | true =>
   have iE:=hid jW;have p8:=few_pbd HL.out jW;have eE:=fewS_bd (fewD_s jW).2.2.2.1;have E0:Env0 w d ⟨ua,uc,ra,rc,na,nc⟩ A c S:=⟨ml.out,jI.out,by omega,hc,eE.2,p8⟩;have dT:=hid E0;have nC:=hid (of_pol E0 w3 aj.below0);clear jW p8 eE E0;go_wp2_with fail;refine nC.out.mono ?_;rintro e w4 ⟨hN,hb⟩;have aq:=aj.next hb;clear aj hb nC c0 c1 c2 c3 c4 c5 c6 c7;cases iQ:ofP chkB S d with
   | none =>
     rw[iQ]at hN;obtain⟨y,rfl,hy⟩:=hN;have lT:(y != 0)=true:=by rw[bne_iff_ne];exact hy
     have aw:=aq.new 29 (polcs zPo ⟨none,0,none,0,none,0⟩);have dS:=aw.below0;obtain⟨c0,c1,c2,c3,c4,c5,c6,c7⟩:=(aw.blk 0 rfl).get8;clear aq aw hy iQ;go_wp2_with fail;go_ret;exact zv5
   | some n =>
     rw[iQ]at hN;obtain⟨Ln,rfl,hPn⟩:=hN;obtain⟨x,k,hx⟩:=n_root iQ;have gH:=(fewD_s iE.out).1;have lH:PBd n:=by
      have hr:=(zaw (zbe iQ)).1;obtain⟨e9,-,-⟩:=of_out iQ;rw[e9];exact out_pbd dT.out.pd hr
     have HPO:=hid (fun W (hb:Below w.heap.size w W)=>planOf_any dT.out iQ (fun m hm=>Nat.le_trans (n_kids iQ m hm) om) x k hx (Nat.le_trans (n_size iQ) om) lH W hb);have vP:=hid (fun e W h=>plout_two iQ gH hx (e:=e) (w':=W) h);have HN:=hid iQ;have rX:=hid lH;have aw:=aq.new 29 (polcs n Ln);clear iQ hx gH lH aq;go_upto_region 6 with fail;have aE:Hp [] w [iblk w4.heap.size 29 (polcs n Ln),iblk g2 29 (polcs d ⟨ua,uc,ra,rc,na,nc⟩)] (w4.alloc (.cells #[.string n.name,.slice Ln.ua n.uses.length Ln.uc,.slice Ln.ra n.reveal.length Ln.rc,.slice Ln.na n.nodes.length Ln.nc,.int .i64 n.root,.string n.scope,.int .i64 n.limit,.string n.escrow] 29)):=aw;have po:=hPn.up ((Below.refl _ w4).alloc (Nat.le_refl _) (.cells #[.string n.name,.slice Ln.ua n.uses.length Ln.uc,.slice Ln.ra n.reveal.length Ln.rc,.slice Ln.na n.nodes.length Ln.nc,.int .i64 n.root,.string n.scope,.int .i64 n.limit,.string n.escrow] 29));clear aw hPn;generalize w4.alloc (.cells #[.string n.name,.slice Ln.ua n.uses.length Ln.uc,.slice Ln.ra n.reveal.length Ln.rc,.slice Ln.na n.nodes.length Ln.nc,.int .i64 n.root,.string n.scope,.int .i64 n.limit,.string n.escrow] 29)=W5 at *;generalize w4.heap.size=g5 at *;obtain⟨c0,c1,c2,c3,c4,c5,c6,c7⟩:=(aE.blk 1 rfl).get8;go_wp2_with fail;refine(HPO.out W5 aE.below0).mono ?_;rintro e w6 ⟨hO,hb⟩;have aO:=aE.next hb;have qS:=po.up hb;clear aE hb po c0 c1 c2 c3 c4 c5 c6 c7 HPO;rcases vP.out e w6 hO with⟨y,dE,fB,rfl⟩|⟨y,p,l,rfl,hC⟩
     ·have lT:(y != 0)=true:=by rw[bne_iff_ne];exact dE
      have hyc:(y != 18)=true:=by rw[bne_iff_ne];exact fB
      have aZ:=aO.new 46 zPlan;have dS:=aZ.below0;obtain⟨c0,c1,c2,c3,c4⟩:=Blk.get5 (aZ.blk 0 rfl);clear aO aZ dE fB hO vP;go_wp2_with fail;go_ret;exact zv5
     ·clear hO vP;obtain⟨da,dc,ca,cc,aa,ac,fa,fc,sa,sc⟩:=l;have aZ:=aO.new 46 (pnC p ⟨da,dc,ca,cc,aa,ac,fa,fc,sa,sc⟩);have hyd:(if(y != 0)=true then(y != 18)else false)=false:=by rcases hC.two with q|q<;>rw[q]<;>rfl
      have dH:=hC.two;clear aO;go_upto_region 9 with fail;have bc:Hp [] w [iblk w6.heap.size 46 (pnC p ⟨da,dc,ca,cc,aa,ac,fa,fc,sa,sc⟩),iblk g5 29 (polcs n Ln),iblk g2 29 (polcs d ⟨ua,uc,ra,rc,na,nc⟩)] (w6.alloc (.cells #[.slice da p.dis.length dc,.slice ca p.com.length cc,.slice aa p.ats.length ac,.slice fa p.fm.length fc,.slice sa p.sqs.length sc] 46)):=aZ;have pB:=qS.up ((Below.refl _ w6).alloc (Nat.le_refl _) (.cells #[.slice da p.dis.length dc,.slice ca p.com.length cc,.slice aa p.ats.length ac,.slice fa p.fm.length fc,.slice sa p.sqs.length sc] 46));have hC9:=hC.up ((Below.refl _ w6).alloc (Nat.le_refl _) (.cells #[.slice da p.dis.length dc,.slice ca p.com.length cc,.slice aa p.ats.length ac,.slice fa p.fm.length fc,.slice sa p.sqs.length sc] 46));clear aZ qS hC;generalize w6.alloc (.cells #[.slice da p.dis.length dc,.slice ca p.com.length cc,.slice aa p.ats.length ac,.slice fa p.fm.length fc,.slice sa p.sqs.length sc] 46)=W7 at *;generalize w6.heap.size=g7 at *;have HPN:=hid pB;have HC:=hid hC9;have eK:=hid bc.below0;obtain⟨c0,c1,c2,c3,c4,c5,c6,c7⟩:=(bc.blk 2 rfl).get8;clear pB hC9;go_cut [63]from 58 to 67 (fun vQ wx=>vQ=.bool false∧Hid (wx=W7))
      case first =>
       rcases dH with rfl|rfl
       ·go_wp2_with fail;go_meet;exact⟨rfl,hid rfl⟩
       ·go_wp2_with fail;go_meet;exact⟨rfl,hid rfl⟩
      case rest =>
       obtain⟨rfl,sG⟩:=hcut;have sG:=sG.out;subst sG;have u1:wc.cell? ⟨g2,1,none⟩=some (.slice ua d.uses.length uc):=c1;have HUN:=hid (uses_named (zbe HN.out));have fY:=hid (zbe HN.out);have qf:S.length≤1000000:=dT.out.sl;have vv:d.uses.length≤8:=(fewD_s iE.out).2.1;have HB:=hid (fun W (hb:Below wc.heap.size wc W)=>And.intro ((bc.blk 0 rfl).below hb (bc.blk 0 rfl).lt) (And.intro ((bc.blk 1 rfl).below hb (bc.blk 1 rfl).lt) ((bc.blk 2 rfl).below hb (bc.blk 2 rfl).lt)));have HW:=hid (fun W (hb:Below wc.heap.size wc W)=>eK.out.trans (hb.mono eK.out.size));clear c0 c1 c2 c3 c4 c5 c6 c7 hyd bc sG;go_upto_region 13 with fail;clear u1;go_loopg [9,71] d.uses.length (fun mm s9 sS wx=>∃(i:Nat) (t:Int),i≤d.uses.length∧mm=d.uses.length-i∧s9=.int .i64 t∧sS=.int .i64 (i:Int)∧(1≤t∧t≤500)∧Hp [] wc [] wx);case atStart=>exact⟨0,1,Nat.zero_le _,rfl,rfl,rfl,⟨by decide,by decide⟩,Hp.start wc⟩
       case round =>
        obtain⟨i,t,hi,rfl,rfl,rfl,ht,hM⟩:=hrel;by_cases ay:i<d.uses.length
        ·have aM:(i:Int)<(d.uses.length:Int):=om;have aL:(0:Int)≤(i:Int):=om;obtain⟨u,hu⟩:∃u,d.uses[i]? =some u:=⟨_,List.getElem?_eq_getElem ay⟩;obtain⟨m,hm⟩:=HUN.out u (List.mem_of_getElem? hu);obtain⟨u1,u2⟩:=u;simp only at hm;obtain⟨pad,ju,p0,p1⟩:=(jI.out.us.up (HW.out wr hM.below0)).at_ i _ hu;change ua=some pad at ju;subst ju;have iq:=(zbo ((zaw fY.out).2 m (zbf hm))).2.2;have dX:m.fields.length≤16:=(zbo ((zaw fY.out).2 m (zbf hm))).2.1;have li:=hid (fun W (hb:Below wc.heap.size wc W)=>snamed_any A c S u2 m hm qf w W ml.out (HW.out W hb));have qR:=hid iq;have aA:=hM.new 50 [.string u1,.string u2];clear hu hm hM iq;go_upto_region 15 with fail;clear p0 p1;have az:Hp [] wc [iblk wr.heap.size 50 [.string u1,.string u2]] (wr.alloc (.cells #[.string u1,.string u2] 50)):=aA;clear aA;generalize wr.alloc (.cells #[.string u1,.string u2] 50)=W8 at *;generalize wr.heap.size=bj at *;have p1:W8.cell? ⟨bj,1,none⟩=some (.string u2):=(az.blk 0 rfl).cell 1;go_wp2_with fail;refine(li.out W8 az.below0).mono ?_;rintro e w9 ⟨⟨FA9,f9,rfl,iW⟩,hb⟩;have aR:=(az.next hb).tail;have nM:=hid (fun W (hb:Below wc.heap.size wc W)=>iW.up (HW.out W hb));clear az hb li p1 iW;go_upto_region 16 with fail;go_loopg [9,81] m.fields.length (fun mm s9 s81 wx=>∃(q:Nat) (t:Int),q≤m.fields.length∧mm=m.fields.length-q∧s9=.int .i64 t∧s81=.int .i64 (q:Int)∧(1≤t∧t≤500)∧Hp [] wc [] wx);case atStart=>exact⟨0,t,Nat.zero_le _,rfl,rfl,rfl,ht,aR⟩
         case round =>
          obtain⟨q,t,hq,rfl,rfl,rfl,ht,hM⟩:=hrel;clear aR;by_cases fD:q<m.fields.length
          ·have sV:(q:Int)<(m.fields.length:Int):=om;have hq0:(0:Int)≤(q:Int):=om;obtain⟨f,hf⟩:∃f,m.fields[q]? =some f:=⟨_,List.getElem?_eq_getElem fD⟩;have bc:=qR.out f (List.mem_of_getElem? hf);obtain⟨sad,WA,dN,rfl,cO⟩:=(nM.out wr hM.below0).at_ q f hf;obtain⟨f0,f1,f2,f3,f4,f5⟩:=cO;have sf:=fok_cnt bc;have aA:=hM.new 57 (fcs f WA dN);have qV:=hid (fun W=>fleast_any f bc WA dN W);have xb:1≤t*cntF f∧t*cntF f≤500*4294967296:=⟨by
            have:=Int.mul_le_mul ht.1 sf.1 zy0 om;omega,Int.mul_le_mul ht.2 sf.2 om zy0⟩
           have se:IntKind.i64.wrap (t*cntF f)=t*cntF f:=IntWalk.i64_in _ om;clear hf hM sf bc f5;go_upto_region 18 with fail;clear f0 f1 f2 f3 f4;have az:Hp [] wc [iblk wr.heap.size 57 (fcs f WA dN)] (wr.alloc (.cells #[.string f.name,.int .i64 f.kind,.int .i64 f.min,.int .i64 f.max,.slice WA f.words.length dN] 57)):=aA;clear aA;generalize wr.alloc (.cells #[.string f.name,.int .i64 f.kind,.int .i64 f.min,.int .i64 f.max,.slice WA f.words.length dN] 57)=W9 at *;generalize wr.heap.size=nw at *;obtain⟨f0,f1,f2,f3,f4⟩:=Blk.get5 (az.blk 0 rfl);go_wp2_with fail;refine(qV.out W9).mono ?_;rintro e dI ⟨rfl,hb⟩;have aR:=(az.next hb).tail;clear az hb qV f0 f1 f2 f3 f4;by_cases pi:500<t*cntF f
           ·have dS:=HW.out dI aR.below0;go_wp2_with fail;go_ret;exact zv5
           ·go_wp2_with fail;go_roundg (m.fields.length-(q+1));case measure=>omega
            case rel=>exact⟨q+1,t*cntF f,fD,rfl,rfl,by first|rfl|simp,⟨xb.1,by omega⟩,aR⟩
          ·have sV:¬(q:Int)<(m.fields.length:Int):=om;go_wp2_with fail;go_roundg (d.uses.length-(i+1));case measure=>omega
           case rel=>exact⟨i+1,t,ay,rfl,rfl,by first|rfl|simp,ht,hM⟩
        ·have aM:¬(i:Int)<(d.uses.length:Int):=om;clear hi ay;have qK:=hid ht;obtain⟨c0,c1,c2,c3,c4,c5,c6,c7⟩:=(HB.out wr hM.below0).2.2.get8;go_upto_region 25 with fail;clear c0 c1 c2 c3 c4 c5 c6 c7;go_loopg [98] t.toNat (fun mm s98 wx=>∃k:Nat,(k:Int)≤t∧mm=t.toNat-k∧s98=.int .i64 (k:Int)∧Hp [] wc [] wx);case atStart=>exact⟨0,by show(0:Int)≤t;omega,rfl,rfl,hM⟩
         case round =>
          obtain⟨kk,hkt,rfl,rfl,hH⟩:=hrel;clear hM;by_cases bk:(kk:Int)<t
          ·have ar:(0:Int)≤(kk:Int):=om;have u1:wr.cell? ⟨g2,1,none⟩=some (.slice ua d.uses.length uc):=(HB.out wr hH.below0).2.2.cell 1;have hN:=hH.nilrow 61 1;clear hH;go_upto_region 30 with fail;clear u1;go_loopg [17,18,105] d.uses.length (fun mm kh kE sY wx=>∃(i:Nat) (r:Int) (P:List (Value×List Int)),i≤d.uses.length∧mm=d.uses.length-i∧kh=.int .i64 r∧sY=.int .i64 (i:Int)∧(0≤r∧r≤500)∧P.length=i∧Hid (RowsOk S (d.uses.take i) (P.map Prod.snd))∧Hp [] wc (irow 61 1 kE P.length (P.map Prod.fst)::frIts P) wx);case atStart=>exact⟨0,(kk:Int),[],Nat.zero_le _,rfl,rfl,rfl,⟨ar,by have:=qK.out;omega⟩,rfl,hid RowsOk.nil,hN⟩
           case round =>
            obtain⟨i,r,P,hi,rfl,rfl,rfl,hr,rfl,hRO,hM⟩:=hrel;clear hN;obtain⟨lz,o6,rfl⟩:=zab (hM.row 0 rfl);by_cases ay:P.length<d.uses.length
            ·have aM:(P.length:Int)<(d.uses.length:Int):=om;have aL:(0:Int)≤(P.length:Int):=om;obtain⟨u,hu⟩:∃u,d.uses[P.length]? =some u:=⟨_,List.getElem?_eq_getElem ay⟩;obtain⟨m,hm⟩:=HUN.out u (List.mem_of_getElem? hu);obtain⟨u1,u2⟩:=u;simp only at hm;obtain⟨pad,ju,p0,p1⟩:=(jI.out.us.up (HW.out wr hM.below0)).at_ P.length _ hu;change ua=some pad at ju;subst ju;have HUI:=hid hu;have iH:=hid hm;have iq:=(zbo ((zaw fY.out).2 m (zbf hm))).2.2;have dX:m.fields.length≤16:=(zbo ((zaw fY.out).2 m (zbf hm))).2.1;have li:=hid (fun W (hb:Below wc.heap.size wc W)=>snamed_any A c S u2 m hm qf w W ml.out (HW.out W hb));have qR:=hid iq;have aA:=hM.new 50 [.string u1,.string u2];clear hu hm hM iq;go_upto_region 32 with fail;clear p0 p1;have az:Hp [] wc (iblk wr.heap.size 50 [.string u1,.string u2]::irow 61 1 (.slice lz P.length o6) P.length (P.map Prod.fst)::frIts P) (wr.alloc (.cells #[.string u1,.string u2] 50)):=aA;clear aA;generalize wr.alloc (.cells #[.string u1,.string u2] 50)=W8 at *;generalize wr.heap.size=g20 at *;have p1:W8.cell? ⟨g20,1,none⟩=some (.string u2):=(az.blk 0 rfl).cell 1;go_wp2_with fail;refine(li.out W8 az.below0).mono ?_;rintro e w9 ⟨⟨FA9,f9,rfl,iW⟩,hb⟩;have aR:=((az.next hb).tail).nilrow 3 1;have nM:=hid (fun W (hb:Below wc.heap.size wc W)=>iW.up (HW.out W hb));clear az hb li p1 iW;go_upto_region 34 with fail;go_loopg [17,21,115] m.fields.length (fun mm kh s21 uJ wx=>∃(q:Nat) (r:Int) (l:List Int),q≤m.fields.length∧mm=m.fields.length-q∧kh=.int .i64 r∧uJ=.int .i64 (q:Int)∧(0≤r∧r≤500)∧Hid (RowOk (m.fields.take q) l∧l.length=q)∧Hp [] wc (irow 3 1 s21 q (dvals l)::irow 61 1 (.slice lz P.length o6) P.length (P.map Prod.fst)::frIts P) wx);case atStart=>exact⟨0,r,[],Nat.zero_le _,rfl,rfl,rfl,hr,hid ⟨RowOk.nil,rfl⟩,aR⟩
             case round =>
              obtain⟨q,r,l,hq,rfl,rfl,rfl,hr,fi,hM⟩:=hrel;clear aR;obtain⟨lx,v21,rfl⟩:=zab (hM.row 0 rfl);by_cases fD:q<m.fields.length
              ·have sV:(q:Int)<(m.fields.length:Int):=om;have hq0:(0:Int)≤(q:Int):=om;obtain⟨f,hf⟩:∃f,m.fields[q]? =some f:=⟨_,List.getElem?_eq_getElem fD⟩;have bc:=qR.out f (List.mem_of_getElem? hf);obtain⟨sad,WA,dN,rfl,cO⟩:=(nM.out wr hM.below0).at_ q f hf;obtain⟨f0,f1,f2,f3,f4,f5⟩:=cO;have sf:=fok_cnt bc;have HF9:=hid hf;have ux:=hid bc;have aA:=hM.new 57 (fcs f WA dN);have qV:=hid (fun W=>fleast_any f bc WA dN W);clear hf hM bc f5;go_upto_region 36 with fail;clear f0 f1 f2 f3 f4;have az:Hp [] wc (iblk wr.heap.size 57 (fcs f WA dN)::irow 3 1 (.slice lx q v21) q (dvals l)::irow 61 1 (.slice lz P.length o6) P.length (P.map Prod.fst)::frIts P) (wr.alloc (.cells #[.string f.name,.int .i64 f.kind,.int .i64 f.min,.int .i64 f.max,.slice WA f.words.length dN] 57)):=aA;clear aA;generalize wr.alloc (.cells #[.string f.name,.int .i64 f.kind,.int .i64 f.min,.int .i64 f.max,.slice WA f.words.length dN] 57)=W9 at *;generalize wr.heap.size=g23 at *;obtain⟨f0,f1,f2,f3,f4⟩:=Blk.get5 (az.blk 0 rfl);go_wp2_with fail;refine(qV.out W9).mono ?_;rintro e dI ⟨rfl,hb⟩;have aR:=(az.next hb).tail;clear az hb qV f0 f1 f2 f3 f4;go_upto_region 37 with fail;have lq:=Int.emod_nonneg r (show cntF f≠0 by omega);have dG:=Int.emod_lt_of_pos r (show 0<cntF f by omega);have sA: -2147483648≤zaj f∧zaj f≤2147483647:=by
                unfold zaj;rcases ux.out.kd with z|z
                ·rw[if_neg om];omega
                ·rw[if_pos z.1];omega
               have hwx:IntKind.i64.wrap (zaj f+r%cntF f)=(zaj f+r%cntF f):=IntWalk.i64_in _ om;have tK:0≤r/cntF f:=Int.ediv_nonneg hr.1 om;have mO:r/cntF f≤500:=Int.le_trans (Int.ediv_le_self _ hr.1) hr.2;have HXX:=hid (And.intro (show zaj f≤(zaj f+r%cntF f) by omega) (show(zaj f+r%cntF f)<zaj f+cntF f by omega));have cu:=aR.alloc (.cells #[.int .i64 (zaj f+r%cntF f)] 3);clear aR lq dG sA;go_wp2_with (at_builtin;refine zac rfl _ _ 61 rfl 0 3 i0 _ 1 8 underlying61 n8 bg aY bh rfl zy0 _ q (dvals l) rfl (cu.row 0 rfl) ⟨dI.heap.size,0,none⟩ 1 1 [.int .i64 (zaj f+r%cntF f)] rfl rfl (Fm.new1' _ _ _) zy3 zy0 zy2 om (Nat.zero_le _) ?_;intro v' w4 af ai aH);have bS:=cu.grown 0 rfl af ai aH;clear af ai aH cu;go_roundg (m.fields.length-(q+1));case measure=>omega
               case rel =>
                refine⟨q+1,r/cntF f,l++[(zaj f+r%cntF f)],fD,rfl,by first|rfl|simp,by first|rfl|simp,⟨tK,mO⟩,hid ⟨by rw[zan HF9.out];exact fi.out.1.snoc HXX.out.1 HXX.out.2,by rw[List.length_append,fi.out.2];rfl⟩,?_⟩;rw[show dvals (l++[(zaj f+r%cntF f)])=dvals l++[.int .i64 (zaj f+r%cntF f)] by simp[dvals]];exact bS
              ·have sV:¬(q:Int)<(m.fields.length:Int):=om;have fC:l.length=q:=fi.out.2;have HRW:Hid (RowOk m.fields l):=hid (by have:=fi.out.1;rwa[List.take_of_length_le om]at this);have cu:=hM.alloc (.cells #[.slice lx q v21] 61);have hPb:P.length≤8:=om;have iO:=hid fC;clear hM fC fi;go_wp2_with (at_builtin;refine zac rfl _ _ 60 rfl 0 61 k0 _ 1 24 underlying60 hK0 dg iw iN rfl zy0 _ P.length (P.map Prod.fst) rfl (cu.row 1 rfl) ⟨wr.heap.size,0,none⟩ 1 1 [.slice lx q v21] rfl rfl (Fm.new1' _ _ _) zy3 zy0 zy2 om (Nat.zero_le _) ?_;intro v' w4 af ai aH);have bS:=cu.grown 1 rfl af ai aH;clear af ai aH cu;go_roundg (d.uses.length-(P.length+1));case measure=>omega
               case rel =>
                refine⟨P.length+1,r,P++[(.slice lx q v21,l)],ay,rfl,by first|rfl|simp,by first|rfl|simp,hr,by simp,hid ?_,?_⟩
                ·rw[zan HUI.out,List.map_append];exact hRO.out.snoc iH.out HRW.out
                ·have h9:=bS.perm ((List.Perm.swap _ _ _).trans (List.Perm.cons _ (List.perm_append_singleton _ _).symm));rw[show(P++[((.slice lx q v21:Value),l)]).length=P.length+1 by simp,List.map_append,show frIts (P++[((.slice lx q v21:Value),l)])=frIts P++[irow 3 1 (.slice lx q v21) l.length (dvals l)] by simp[frIts],iO.out];exact h9
            ·have aM:¬(P.length:Int)<(d.uses.length:Int):=om;have eJ:AdmF S d.uses (P.map Prod.snd):=RowsOk.adm fY.out (by have:=hRO.out;rwa[List.take_of_length_le om]at this);have sE:Rows wr lz (P.map Prod.snd):=rows_of (hM.row 0 rfl) (fun y hy=>hM.sep.ok y (List.mem_cons_of_mem _ hy));have e9:(P.map Prod.snd).length=P.length:=List.length_map ..;have fr:=HW.out wr hM.below0;have E1:Env0 wr d ⟨ua,uc,ra,rc,na,nc⟩ A c S:=⟨dT.out.s.up fr,dT.out.p.up fr,dT.out.sl,dT.out.cap,dT.out.m,dT.out.pd⟩;have E2:Env0 wr n Ln A c S:=⟨dT.out.s.up fr,HPN.out.up hM.below0,dT.out.sl,dT.out.cap,dT.out.m,rX.out⟩;have kJ:=zbe (of_twice HN.out).1;have mQ:AdmF S n.uses (P.map Prod.snd):=by rw[(of_uses HN.out).1];exact eJ
             have rq:=hid (fun W (hb:Below wr.heap.size wr W)=>holds_any (FA:=lz) (fc:=o6) ⟨E1.env fY.out,sE,eJ⟩ E1 (adm_of fY.out eJ) (of_typed HN.out) W hb);have pw:=hid (fun W (hb:Below wr.heap.size wr W)=>holds_any (FA:=lz) (fc:=o6) ⟨E2.env kJ,sE,mQ⟩ E2 (adm_of kJ mQ) (of_typed (of_twice HN.out).1) W hb);rw[e9]at rq pw;rw[cnt_same HN.out eJ]at pw;have HNO:=hid (fun(e:y=18)=>HC.out.no e _ eJ);have vi:=hid (fun(e:y=0)=>HC.out.ok e _ eJ);have fJ:=n_refs HN.out;have gH:=(fewD_s iE.out).1;have nh:=hid (fun(e:y=0) W (hb:Below wr.heap.size wr W)=>cvals_any (L:=⟨ua,uc,ra,rc,na,nc⟩) (c:=c) (FA:=lz) (fc:=o6) fY.out (Nat.le_trans vv zy0) qf (refs_found HN.out) om p ⟨da,dc,ca,cc,aa,ac,fa,fc,sa,sc⟩ (HC.out.com e) eJ W (E1.p.us.up hb) (E1.s.up hb) (((HC.out.at_ e).up hM.below0).com.up hb) (sE.up hb));rw[e9]at nh;obtain⟨b,aX⟩:∃b,decide (cnt (lookS S d.uses) (valF S d.uses (P.map Prod.snd)) (treeD d)=1)=b:=⟨_,rfl⟩;rw[aX]at rq pw vi;have ip:=hid aX;have HVR:=hid (vals_rg (R:=dd (refF (treeD n))) fY.out (refs_found HN.out) eJ);have fw:=hM.below0;have HBC:=hid fw;clear aX eJ mQ sE E1 E2 kJ fJ gH e9 hM;obtain⟨c0,c1,c2,c3,c4,c5,c6,c7⟩:=(HB.out wr fw).2.2.get8;go_wp2_with fail;refine(rq.out wr (Below.refl _ _)).mono ?_;rintro e w1 ⟨rfl,aC⟩;clear c0 c1 c2 c3 c4 c5 c6 c7 rq;obtain⟨c0,c1,c2,c3,c4,c5,c6,c7⟩:=(HB.out w1 (fw.trans (aC.mono fw.size))).2.1.get8;go_wp2_with fail;refine(pw.out w1 aC).mono ?_;rintro e w2 ⟨rfl,aG⟩;have aG:=aC.trans (aG.mono aC.size);clear c0 c1 c2 c3 c4 c5 c6 c7 pw aC;rcases dH with rfl|rfl
             ·obtain⟨c0,c1,c2,c3,c4,c5,c6,c7⟩:=(HB.out w2 (fw.trans (aG.mono fw.size))).2.2.get8;obtain⟨e0,e1,e2,e3,e4⟩:=Blk.get5 (HB.out w2 (fw.trans (aG.mono fw.size))).1;go_wp2_with fail;refine(nh.out (by first|rfl|trivial) w2 aG).mono ?_;rintro e w3 ⟨⟨VA,vc,rfl,hVI⟩,aJ⟩;have aJ:=aG.trans (aJ.mono aG.size);have vI:=hid (pholds_any p ⟨da,dc,ca,cc,aa,ac,fa,fc,sa,sc⟩ (vi.out (by first|rfl|trivial)).1 VA ((dd (refF (treeD n))).map (valR S d.uses (P.map Prod.snd))) vc (by rw[List.length_map,HC.out.com rfl,List.length_map]) HVR.out w3 ((HC.out.at_ rfl).up (fw.trans (aJ.mono fw.size))) hVI);rw[(vi.out (by first|rfl|trivial)).2,List.length_map]at vI;clear c0 c1 c2 c3 c4 c5 c6 c7 e0 e1 e2 e3 e4 nh aG hVI;obtain⟨e0,e1,e2,e3,e4⟩:=Blk.get5 (HB.out w3 (fw.trans (aJ.mono fw.size))).1;go_wp2_with fail;refine vI.out.mono ?_;rintro e w4 ⟨rfl,aK⟩;have aK:=aJ.trans (aK.mono aJ.size);clear e0 e1 e2 e3 e4 vI aJ;go_wp2_with fail;go_roundg (t.toNat-(kk+1));case measure=>omega
              case rel=>exact⟨kk+1,by omega,rfl,by first|rfl|simp,(Hp.start wc).next (fw.trans (aK.mono fw.size))⟩
             ·have hbf:b=false:=by rw[←ip.out,HNO.out (by first|rfl|trivial)];rfl
              subst hbf;go_wp2_with fail;go_roundg (t.toNat-(kk+1));case measure=>omega
              case rel=>exact⟨kk+1,by omega,rfl,by first|rfl|simp,(Hp.start wc).next (fw.trans (aG.mono fw.size))⟩
          ·have hkl':¬(kk:Int)<t:=bk;have dS:=HW.out wr hH.below0;go_wp2_with fail;go_ret;exact zv5
end Nf
end Go.Proofs.YtekkapgknohadaaGreatDoor
