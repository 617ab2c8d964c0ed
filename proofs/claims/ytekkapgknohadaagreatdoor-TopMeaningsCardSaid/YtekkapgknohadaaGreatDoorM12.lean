/- policy.tree: the visit of a policy's nodes. Printed by mkpce.py. -/
import Derived.Test.YtekkapgknohadaaGreatDoorM11
set_option linter.unusedVariables false
set_option maxRecDepth 20000
set_option maxHeartbeats 16000000
open Go.Proofs.Tryz
namespace Go.Proofs.YtekkapgknohadaaGreatDoor
section
open Go.RowKit Go.Shelf Go.Maps
open Lib (hid)
abbrev pptr (g:Nat):Value:=.pointer (some ⟨g,0,none⟩)
theorem int_wf {n:Int} (h0:0≤n) (h1:n≤1000000):(Lit.int .i64 n).wf=true:=by
 have e1:IntKind.i64.min= -9223372036854775808:=by decide
 have e2:IntKind.i64.max=9223372036854775807:=by decide
 simp[Lit.wf,e1,e2];omega
abbrev visF (gp gs gv:Nat):Value:=.func (.func 150) #[] #[pptr gp,pptr gs,pptr gv]
abbrev vits (d:Po) (L:Lp) (gm gs gp gv:Nat) (S:List Int):List It:=[iset intK gm S,iblk gs 219 [.map (some gm)],iblk gp 29 (polcs d L),iblk gv 220 [visF gp gs gv]]
theorem enters_visit:∀args w,(callFunc 150 args).run prog w=.ok (.enter 150 args) w:=enters_of func150 kr rfl
theorem visit_any (d:Po) (L:Lp) (hB:PBd d) (gm gs gp gv:Nat) (w0:World) (hP:PolM w0 d L):∀(f:Nat) (dp:Int),f≤32→dp=33-(f:Int)→∀(a:Int) (c:Bool) (S:List Int) (r:List It) (W:World),Met d.nodes S→Hp [] w0 (vits d L gm gs gp gv S++r) W →
 Calls prog 150 #[.int .i64 a,.int .i64 dp,.bool c,pptr gp,pptr gs,pptr gv] W fun e w'=>e=.returned (.int .i64 (visitP d.nodes f a c S).1)∧Hp [] w0 (vits d L gm gs gp gv (visitP d.nodes f a c S).2++r) w':=by
 have gU:=enters_visit;intro f
 induction f with
 | zero =>
  intro dp hf j5 a c S r W hM hk;have gH:=hB.nl;have c3:W.cell? ⟨gp,3,none⟩=some (.slice L.na d.nodes.length L.nc):=(hk.blk 2 rfl).cell 3;have s0:W.cell? ⟨gs,0,none⟩=some (.map (some gm)):=(hk.blk 1 rfl).cell 0;have HDP:=hid j5;by_cases h1:a<0
  ·have HV:Hid (visitP d.nodes (0) a c S=(3,S)):=hid (zax (.inl h1));clear j5;exact zt17
  ·obtain⟨i,rfl⟩:∃i:Nat,a=(i:Int):=⟨a.toNat,by omega⟩;have aL:(0:Int)≤(i:Int):=om;by_cases h2:(d.nodes.length:Int)≤(i:Int)
   ·have HV:Hid (visitP d.nodes (0) (i:Int) c S=(3,S)):=hid (zax (.inr (.inl h2)));clear j5;exact zt17
   ·have gM:=int_wf aL om;have ay:i<d.nodes.length:=om;have aM:(i:Int)<(d.nodes.length:Int):=om;have dw:=zb4 intK (hk.sep.ok _ (List.mem_cons_self ..)) (i:Int) gM;have dw:(Instr.lookup 219 (.map (some gm)) (.int .i64 (i:Int)) false).run prog W=.ok (.bool (memD (i:Int) S)) W:=dw;cases hm:memD (i:Int) S with
    | true =>
     rw[hm]at dw;have HV:Hid (visitP d.nodes (0) (i:Int) c S=(3,S)):=hid (zax (.inr (.inr (memD_iff.1 hm))));clear j5;exact zt17
    | false =>
     rw[hm]at dw;have gV:¬((i:Int)<0∨(d.nodes.length:Int)≤(i:Int)∨(i:Int)∈S):=by
      rintro(h|h|h)
      ·exact h1 h
      ·exact h2 h
      ·rw[memD_iff.2 h]at hm;cases hm
     have HV:Hid (visitP d.nodes 0 (i:Int) c S=(7,S)):=hid (zbz gV);have t7:(32:Int)<dp:=om;clear j5 gV;exact zt17
 | succ f ih =>
  intro dp hf j5 a c S r W hM hk;have gH:=hB.nl;have c3:W.cell? ⟨gp,3,none⟩=some (.slice L.na d.nodes.length L.nc):=(hk.blk 2 rfl).cell 3;have s0:W.cell? ⟨gs,0,none⟩=some (.map (some gm)):=(hk.blk 1 rfl).cell 0;have HDP:=hid j5;by_cases h1:a<0
  ·have HV:Hid (visitP d.nodes (f+1) a c S=(3,S)):=hid (zax (.inl h1));clear j5;exact zt17
  ·obtain⟨i,rfl⟩:∃i:Nat,a=(i:Int):=⟨a.toNat,by omega⟩;have aL:(0:Int)≤(i:Int):=om;by_cases h2:(d.nodes.length:Int)≤(i:Int)
   ·have HV:Hid (visitP d.nodes (f+1) (i:Int) c S=(3,S)):=hid (zax (.inr (.inl h2)));clear j5;exact zt17
   ·have gM:=int_wf aL om;have ay:i<d.nodes.length:=om;have aM:(i:Int)<(d.nodes.length:Int):=om;have dw:=zb4 intK (hk.sep.ok _ (List.mem_cons_self ..)) (i:Int) gM;have dw:(Instr.lookup 219 (.map (some gm)) (.int .i64 (i:Int)) false).run prog W=.ok (.bool (memD (i:Int) S)) W:=dw;cases hm:memD (i:Int) S with
    | true =>
     rw[hm]at dw;have HV:Hid (visitP d.nodes (f+1) (i:Int) c S=(3,S)):=hid (zax (.inr (.inr (memD_iff.1 hm))));clear j5;exact zt17
    | false =>
     rw[hm]at dw;have gV:¬((i:Int)<0∨(d.nodes.length:Int)≤(i:Int)∨(i:Int)∈S):=by
      rintro(h|h|h)
      ·exact h1 h
      ·exact h2 h
      ·rw[memD_iff.2 h]at hm;cases hm
     obtain⟨n,hn⟩:∃n,d.nodes[i]? =some n:=⟨_,List.getElem?_eq_getElem ay⟩;have HV:=hid (visitP_in (f:=f) (c:=c) gV zy5);have t7:¬(32:Int)<dp:=om;have hdp2:0≤dp:=om;have bK:=hM.snoc gV;have hSl:=hM.len;have af:=iset_own intK (hk.sep.ok _ (List.mem_cons_self ..));have iC:=hB.ns n (List.mem_of_getElem? hn);have bk:=iC.kids;obtain⟨ad,KA,kc,jR,aP⟩:=hP.ns.at_ i n hn;have ft:n.kind=n.kind:=rfl;rw[jR]at c3;clear gV hm j5;go_enter func150,ntmps150;go_upto_region 6 with(first|(at_mapUpdate;refine wpList_mapUpdate_own _ rfl _ _ _ 219 rfl 3 4 intK.law underlying219 (plainElem (H:=Unit) prog 4) gm S.length (intK.setD S) rfl af zy2 _ _ (intK.kl (i:Int)) rfl rfl (intK.key (i:Int) gM) _ [] (plainElem_bool underlying4 true) ?_;intro w1 kP jl));have an:Hp [] w0 (vits d L gm gs gp gv (S++[(i:Int)])++r) w1:=hk.setPut intK 0 rfl gM kP jl;clear af kP jl dw hk c3 s0;have c3:w1.cell? ⟨gp,3,none⟩=some (.slice L.na d.nodes.length L.nc):=(an.blk 2 rfl).cell 3;rw[jR]at c3;have bH:=aP.up an.below0;have d0:=bH.kind;have d1:=bH.num;have d2:=bH.name;have d3:=bH.attr;have d4:=bH.kids;have d5:=bH.at_;obtain⟨g,hg⟩:∃x,w1.heap.size=x:=⟨_,rfl⟩;have ah:=(an.new 68 (nkcs n KA kc)).perm (List.perm_middle (l₁:=vits d L gm gs gp gv (S++[(i:Int)]))).symm;rw[hg]at ah;go_upto_region 7 with fail;try simp only[hg]
     have ah:Hp [] w0 _ (w1.alloc (.cells #[.int .i64 n.kind,.int .i64 n.num,.string n.name,.string n.attr,.slice KA n.kids.length kc,.int .i64 n.at_] 68)):=ah;clear an bH d0 d1 d2 d3 d4 d5 c3;generalize w1.alloc (.cells #[.int .i64 n.kind,.int .i64 n.num,.string n.name,.string n.attr,.slice KA n.kids.length kc,.int .i64 n.at_] 68)=w2 at *;clear hg;obtain⟨d0,d1,d2,d3,d4,d5⟩:=(ah.blk 4 rfl).get6;have HF:=hid (form_any n KA kc iC c w2);generalize nS:formP n c=fe at *;go_wp2_with fail;refine HF.out.mono ?_;rintro e w3 ⟨rfl,aJ⟩;have aj:=ah.next aJ;clear HF ah aJ d0 d1 d2 d3 d4 d5;cases aT:(fe != 0)with
     | true =>
      have aN:Hid (visitP d.nodes (f+1) (i:Int) c S=(fe,S++[(i:Int)])):=hid (by rw[HV.out,if_pos (by simpa using aT)]);go_wp2_with fail;go_ret;rw[aN.out];exact⟨rfl,(aj.perm (List.perm_middle (l₁:=vits d L gm gs gp gv (S++[(i:Int)])))).tail⟩
     | false =>
      have aN:Hid (visitP d.nodes (f+1) (i:Int) c S=loopP (fun k S=>visitP d.nodes f k (decide (n.kind≤5)) S) n.kids (S++[(i:Int)])):=hid (by rw[HV.out,if_neg (by simpa using aT)]);clear HV nS;obtain⟨d0,d1,d2,d3,d4,d5⟩:=(aj.blk 4 rfl).get6;go_upto_region 11 with fail;clear aT ah;clear d0 d1 d2 d3 d4 d5;have HM:=hid bK;have HN:=hid aP;clear bK aP;go_loopg [49] n.kids.length (fun m s49 wx=>∃(j:Nat) (T:List Int),j≤n.kids.length∧m=n.kids.length-j∧s49=.int .i64 (j:Int)∧Hp [] w0 (vits d L gm gs gp gv T++(iblk g 68 (nkcs n KA kc)::r)) wx∧Hid (Met d.nodes T∧loopP (fun k S=>visitP d.nodes f k (decide (n.kind≤5)) S) n.kids (S++[(i:Int)])=loopP (fun k S=>visitP d.nodes f k (decide (n.kind≤5)) S) (n.kids.drop j) T));case atStart=>exact⟨0,S++[(i:Int)],Nat.zero_le _,rfl,rfl,aj,hid ⟨HM.out,rfl⟩⟩
      case round =>
       obtain⟨j,T,hj,rfl,rfl,nE,HE⟩:=hrel;clear aj;by_cases aW:j<n.kids.length
       ·have bX:(j:Int)<(n.kids.length:Int):=om;have bT:(0:Int)≤(j:Int):=om;obtain⟨k,hk⟩:∃k,n.kids[j]? =some k:=⟨_,List.getElem?_eq_getElem aW⟩;obtain⟨ka,cM,hkc⟩:=(HN.out.ints.up nE.below0).at_ j k hk;subst cM;have v0:wr.cell? ⟨gv,0,none⟩=some (visF gp gs gv):=(nE.blk 3 rfl).cell 0;obtain⟨d0,d1,d2,d3,d4,d5⟩:=(nE.blk 4 rfl).get6;have HD:=hid (And.intro (zcu hk) (HE.out));clear hk HE;have HC:=hid (ih (dp+1) om (by have:=HDP.out;omega) k (decide (n.kind≤5)) T (iblk g 68 (nkcs n (some ka) kc)::r) wr HD.out.2.1 nE);have dP:=visitP_met d.nodes f k (decide (n.kind≤5)) T HD.out.2.1;have HL:Hid (loopP (fun k S=>visitP d.nodes f k (decide (n.kind≤5)) S) (n.kids.drop j) T=if(visitP d.nodes f k (decide (n.kind≤5)) T).1≠0 then visitP d.nodes f k (decide (n.kind≤5)) T else loopP (fun k S=>visitP d.nodes f k (decide (n.kind≤5)) S) (n.kids.drop (j+1)) (visitP d.nodes f k (decide (n.kind≤5)) T).2):=hid (by rw[HD.out.1,loopP]);have cg:=hid (HD.out.2.2);clear HD;generalize visitP d.nodes f k (decide (n.kind≤5)) T=vr at *;obtain⟨ve,T2⟩:=vr;simp only at HC dP HL;go_wp2_with fail;refine HC.out.mono ?_;rintro e w4 ⟨rfl,az⟩;clear nE HC d0 d1 d2 d3 d4 d5 v0;cases hv:(ve != 0)with
        | true =>
         have iy:Hid (visitP d.nodes (f+1) (i:Int) c S=(ve,T2)):=hid (by rw[aN.out,cg.out,HL.out,if_pos zug]);go_wp2_with fail;go_ret;rw[iy.out];exact⟨rfl,(az.perm (List.perm_middle (l₁:=vits d L gm gs gp gv T2))).tail⟩
        | false =>
         have iy:Hid (Met d.nodes T2∧loopP (fun k S=>visitP d.nodes f k (decide (n.kind≤5)) S) n.kids (S++[(i:Int)])=loopP (fun k S=>visitP d.nodes f k (decide (n.kind≤5)) S) (n.kids.drop (j+1)) T2):=hid ⟨dP,by rw[cg.out,HL.out,if_neg zug]⟩;go_wp2_with fail;go_roundg (n.kids.length-(j+1));case measure=>omega
         case rel=>exact⟨j+1,T2,aW,rfl,by first|rfl|simp,az,iy⟩
       ·have bX:¬(j:Int)<(n.kids.length:Int):=om;have iy:Hid (visitP d.nodes (f+1) (i:Int) c S=(0,T)):=hid (by rw[aN.out,HE.out.2,List.drop_of_length_le om];rfl);go_wp2_with fail;go_ret;rw[iy.out];exact⟨rfl,(nE.perm (List.perm_middle (l₁:=vits d L gm gs gp gv T))).tail⟩
end
section
open Go.RowKit Go.Shelf Go.Maps
open Lib (hid)
theorem store_func (P:Program) (w:World) (a:Addr) (m:Mode) (f:Fn) (x y:Array Value) (v:Value) (hc:w.cell? a=some v) (hf:w.frozen? a=false):(store a (.func f x y) m).run P w=.ok () (w.setCell a (.func f x y)):=by
 rw[run_store P w a _ m rfl,hc,hf];rfl
theorem sizeA (w:World) (o:Obj):(w.alloc o).heap.size=w.heap.size+1:=by simp
theorem hp_len {w W:World} {r:List It} {S:List Int} {gm:Nat} (h:Hp [] w (iset intK gm S::r) W) (hn:S.Nodup) (ty:TypeId):(Builtin.len_ #[219] ty #[.map (some gm)]).run prog W=.ok (.int .i64 (S.length:Int)) W:=iset_len intK (h.sep.ok _ (List.mem_cons_self ..)) hn ty
theorem tree_any (d:Po) (L:Lp) (hB:PBd d) (w:World) (hP:PolM w d L):Calls prog 82 #[polV d L] w fun e w'=>e=.returned (.int .i64 (treeP d))∧Below w.heap.size w w':=by
 have di:=@run_makeMap prog;have sO:∀(fn:Fn) (first cap:Array Value) (w:World),(Instr.makeFunc fn first cap).run prog w=.ok (.func fn first cap) w:=fun _ _ _ _=>rfl;have gU:=enters_visit;have HS:=hid (store_func prog);have ar:=(((((Hp.start w).new 29 (polcs d L)).setNew intK).new 219 [.map (some (w.heap.size+1))]).new 220 [.nilFunc]);simp only[sizeA]at ar;have sy:Hid (treeP d=if(visitP d.nodes 32 d.root true []).1≠0 then(visitP d.nodes 32 d.root true []).1 else if(visitP d.nodes 32 d.root true []).2.length≠d.nodes.length then 3 else 0):=hid rfl;go_enter func82,ntmps82;go_upto_region 3 with fail;have ar:Hp [] w _ ((((w.alloc (.cells #[.string d.name,.slice L.ua d.uses.length L.uc,.slice L.ra d.reveal.length L.rc,.slice L.na d.nodes.length L.nc,.int .i64 d.root,.string d.scope,.int .i64 d.limit,.string d.escrow] 29)).alloc (.map #[] 0)).alloc (.cells #[.map (some (w.heap.size+1))] 219)).alloc (.cells #[.nilFunc] 220)):=ar;generalize (((w.alloc (.cells #[.string d.name,.slice L.ua d.uses.length L.uc,.slice L.ra d.reveal.length L.rc,.slice L.na d.nodes.length L.nc,.int .i64 d.root,.string d.scope,.int .i64 d.limit,.string d.escrow] 29)).alloc (.map #[] 0)).alloc (.cells #[.map (some (w.heap.size+1))] 219)).alloc (.cells #[.nilFunc] 220)=W1 at *;obtain⟨gp,mB⟩:∃g,w.heap.size=g:=⟨_,rfl⟩;obtain⟨gm,dk⟩:∃g,gp+1=g:=⟨_,rfl⟩;obtain⟨gs,hgs⟩:∃g,gm+1=g:=⟨_,rfl⟩;obtain⟨gv,gT⟩:∃g,gs+1=g:=⟨_,rfl⟩;rw[mB,dk,hgs,gT]at ar;simp only[mB,dk,hgs,gT];have cS:=fun x y=>HS.out W1 ⟨gv,0,none⟩ .plain (Fn.func 150) x y _ ((ar.blk 0 rfl).cell 0) ((ar.blk 0 rfl).frozen 0);have an:=(ar.set 0 rfl 0 (visF gp gs gv));have an:Hp [] w (vits d L gm gs gp gv []) (W1.setCell ⟨gv,0,none⟩ (visF gp gs gv)):=an.perm (by
  refine(List.perm_append_comm (l₁:=[_,_]) (l₂:=[_,_])).trans ?_;refine List.Perm.cons _ ?_;refine(List.perm_append_comm (l₁:=[_,_]) (l₂:=[_])).trans ?_;exact .refl _)
 go_upto_region 4 with fail;clear cS ar;generalize W1.setCell ⟨gv,0,none⟩ (visF gp gs gv)=W2 at *;have p4:W2.cell? ⟨gp,4,none⟩=some (.int .i64 d.root):=(an.blk 2 rfl).cell 4;have v0:W2.cell? ⟨gv,0,none⟩=some (visF gp gs gv):=(an.blk 3 rfl).cell 0;have tx:Met d.nodes []:=⟨List.nodup_nil,fun x hx=>absurd hx List.not_mem_nil⟩;have HC:=hid (visit_any d L hB gm gs gp gv w hP 32 1 (Nat.le_refl _) om d.root true [] [] W2 tx (by rw[List.append_nil];exact an));have dP:=visitP_met d.nodes 32 d.root true [] tx;generalize visitP d.nodes 32 d.root true []=vr at *;obtain⟨ve,T⟩:=vr;simp only at HC dP sy;clear tx;go_wp2_with fail;refine HC.out.mono ?_;rintro e w3 ⟨rfl,aj⟩;clear HC an p4 v0;rw[List.append_nil]at aj;have s0:w3.cell? ⟨gs,0,none⟩=some (.map (some gm)):=(aj.blk 1 rfl).cell 0;have p3:w3.cell? ⟨gp,3,none⟩=some (.slice L.na d.nodes.length L.nc):=(aj.blk 2 rfl).cell 3;have fA:=hp_len aj dP.nd;have pQ:=dP.len;have gH:=hB.nl;subst mB;cases hv:(ve != 0)with
 | true =>
  have HR:Hid (treeP d=ve):=hid (by rw[sy.out,if_pos zug]);exact zt77
 | false =>
  cases hl:((T.length:Int) != (d.nodes.length:Int))with
  | true =>
   have HR:Hid (treeP d=3):=hid (by rw[sy.out,if_neg zug,if_pos (by intro h;rw[h]at hl;simp at hl)]);exact zt77
  | false =>
   have HR:Hid (treeP d=0):=hid (by rw[sy.out,if_neg zug,if_neg (by intro h;simp at hl;omega)]);exact zt77
end
section
open Go.RowKit Go.Shelf Go.Maps
open Lib (hid)
theorem pairsP_take {l:List Bp} {i:Nat} {x:Bp} (h:l[i]? =some x):zbr (l.take (i+1))=(zbr (l.take i)&&(nameP x.1&&nameP x.2)):=by
 rw[zan h];simp[zbr]
theorem pairsP_full {l:List Bp} {i:Nat} (h:¬i<l.length):zbr (l.take i)=zbr l:=by rw[List.take_of_length_le om]
theorem Prs.cells {W:World} {A:Option Addr} {l:List Bp} (h:Prs W A l) {i:Nat} {x:Bp} (hx:l[i]? =some x):∃ad,A=some ad∧W.cell? (ad.add (i*2))=some (.string x.1)∧W.cell? ⟨(ad.add (i*2)).block,(ad.add (i*2)).off+1,none⟩=some (.string x.2):=h.at_ i x hx
theorem names_any (d:Po) (L:Lp) (hB:PBd d) (w:World) (hP:PolM w d L):Calls prog 81 #[polV d L] w fun e w'=>e=.returned (.bool (namesP d))∧Below w.heap.size w w':=by
 obtain⟨ua,uc,ra,rc,na,nc⟩:=L;have uD:Prs w ua d.uses:=hP.us;have qU:Prs w ra d.reveal:=hP.rv;have hk:=(Hp.start w).new 29 (polcs d ⟨ua,uc,ra,rc,na,nc⟩);have HN:=hid (zbp d.name hB.name);have oq:=hid (zbp d.escrow hB.escrow);have wW:=hid (pword_any d.scope hB.scope);have iH:Hid (namesP d=(nameP d.name&&(decide (d.escrow.size=0)||nameP d.escrow)&&(decide (d.scope.size=0)||wordP d.scope)&&zbr d.uses&&zbr d.reveal)):=hid rfl;have jA:=hB.ul;have fJ:=hB.rl;obtain⟨g,hg⟩:∃x,w.heap.size=x:=⟨_,rfl⟩;rw[hg]at hk;go_enter func81,ntmps81;go_upto_region 1 with fail;try simp only[hg]
 have hk:Hp [] w [iblk g 29 (polcs d ⟨ua,uc,ra,rc,na,nc⟩)] (w.alloc (.cells #[.string d.name,.slice ua d.uses.length uc,.slice ra d.reveal.length rc,.slice na d.nodes.length nc,.int .i64 d.root,.string d.scope,.int .i64 d.limit,.string d.escrow] 29)):=hk;generalize w.alloc (.cells #[.string d.name,.slice ua d.uses.length uc,.slice ra d.reveal.length rc,.slice na d.nodes.length nc,.int .i64 d.root,.string d.scope,.int .i64 d.limit,.string d.escrow] 29)=W at *;go_cut [3] (fun s3 wx=>s3=.bool (nameP d.name&&(decide (d.escrow.size=0)||nameP d.escrow)&&(decide (d.scope.size=0)||wordP d.scope))∧Hp [] w [iblk g 29 (polcs d ⟨ua,uc,ra,rc,na,nc⟩)] wx);case first =>
  generalize nameP d.name=q1 at *;generalize nameP d.escrow=q2 at *;generalize wordP d.scope=q3 at *;have p0:W.cell? ⟨g,0,none⟩=some (.string d.name):=(hk.blk 0 rfl).cell 0;go_wp2_with fail;refine(HN.out W).mono ?_;rintro e w1 ⟨rfl,aC⟩;have an:=hk.next aC;clear hk aC p0;have p7:w1.cell? ⟨g,7,none⟩=some (.string d.escrow):=(an.blk 0 rfl).cell 7;have p5:w1.cell? ⟨g,5,none⟩=some (.string d.scope):=(an.blk 0 rfl).cell 5;cases q1 with
  | false =>
   go_wp2_with fail;go_meet;exact⟨rfl,an⟩
  | true =>
   have ml:∀(V:World),Hp [] w [iblk g 29 (polcs d ⟨ua,uc,ra,rc,na,nc⟩)] V→V.cell? ⟨g,5,none⟩=some (.string d.scope):=fun V h=>(h.blk 0 rfl).cell 5;have ml:=hid ml;cases he:decide (d.escrow.size=0)with
   | true =>
    obtain⟨e1,e2⟩:=zcp he;cases hs:decide (d.scope.size=0)with
    | true =>
     obtain⟨e3,e4⟩:=zcp hs;go_wp2_with fail;go_meet;exact⟨by(try rw[he]);(try rw[hs]);(first|rfl|(cases q3<;>rfl)),an⟩
    | false =>
     obtain⟨e3,e4⟩:=sz_full hs;go_wp2_with fail;refine(wW.out w1).mono ?_;rintro e w3 ⟨rfl,aJ⟩;go_wp2_with fail;go_meet;exact⟨by(try rw[he]);(try rw[hs]);(first|rfl|(cases q3<;>rfl)),an.next aJ⟩
   | false =>
    obtain⟨e1,e2⟩:=sz_full he;go_wp2_with fail;refine(oq.out w1).mono ?_;rintro e w2 ⟨rfl,aG⟩;have ah:=an.next aG;clear an aG p7 p5;have p5:=ml.out _ ah;cases q2 with
    | false =>
     exact zt85
    | true =>
     cases hs:decide (d.scope.size=0)with
     | true =>
      obtain⟨e3,e4⟩:=zcp hs;exact zt85
     | false =>
      obtain⟨e3,e4⟩:=sz_full hs;go_wp2_with fail;refine(wW.out w2).mono ?_;rintro e w3 ⟨rfl,aJ⟩;go_wp2_with fail;go_meet;exact⟨by(try rw[he]);(try rw[hs]);(first|rfl|(cases q3<;>rfl)),ah.next aJ⟩
 case rest =>
  obtain⟨rfl,an⟩:=hcut;clear hk HN oq wW;generalize (nameP d.name&&(decide (d.escrow.size=0)||nameP d.escrow)&&(decide (d.scope.size=0)||wordP d.scope))=q0 at *;have p1:wc.cell? ⟨g,1,none⟩=some (.slice ua d.uses.length uc):=(an.blk 0 rfl).cell 1;go_upto_region 3 with fail;clear p1;go_loopg [3,34] d.uses.length (fun m s3 sk wx=>∃(i:Nat) (q:Bool),i≤d.uses.length∧m=d.uses.length-i∧s3=.bool q∧sk=.int .i64 (i:Int)∧Hp [] w [iblk g 29 (polcs d ⟨ua,uc,ra,rc,na,nc⟩)] wx∧Hid (q=(q0&&zbr (d.uses.take i))));case atStart=>exact⟨0,q0,Nat.zero_le _,rfl,rfl,rfl,an,hid (by simp[zbr])⟩
  case round =>
   obtain⟨i,q,hi,rfl,rfl,rfl,hM,HE⟩:=hrel;clear an;by_cases ay:i<d.uses.length
   ·have aM:(i:Int)<(d.uses.length:Int):=om;have aL:(0:Int)≤(i:Int):=om;obtain⟨x,hx⟩:∃x,d.uses[i]? =some x:=⟨_,List.getElem?_eq_getElem ay⟩;obtain⟨ad,hA,iw,iN⟩:=(uD.up hM.below0).cells hx;subst hA;have mK:=hB.us x (List.mem_of_getElem? hx);have HT:=hid (pairsP_take hx);have pA:=hid (zbp x.1 mK.1);have jv:=hid (zbp x.2 mK.2);have aA:=hM.new 50 [.string x.1,.string x.2];obtain⟨gx,cX⟩:∃y,wr.heap.size=y:=⟨_,rfl⟩;rw[cX]at aA;clear hx hM;generalize nameP x.1=q1 at *;generalize nameP x.2=q2 at *;go_upto_region 5 with fail;try simp only[cX]
    have aA:Hp [] w [iblk gx 50 [.string x.1,.string x.2],_] (wr.alloc (.cells #[.string x.1,.string x.2] 50)):=aA;clear iw iN;generalize wr.alloc (.cells #[.string x.1,.string x.2] 50)=wa at *;clear cX;obtain⟨c0,c1⟩:=(aA.blk 0 rfl).get2;cases q with
    | false =>
     go_wp2_with fail;go_roundg (d.uses.length-(i+1));case measure=>omega
     case rel=>exact⟨i+1,false,ay,rfl,rfl,by first|rfl|simp,aA.tail,hid zyk⟩
    | true =>
     go_wp2_with fail;refine(pA.out wa).mono ?_;rintro e w5 ⟨rfl,aS⟩;have az:=aA.next aS;clear aA aS c0 c1;obtain⟨c0,c1⟩:=(az.blk 0 rfl).get2;cases q1 with
     | false =>
      go_wp2_with fail;go_roundg (d.uses.length-(i+1));case measure=>omega
      case rel=>exact⟨i+1,false,ay,rfl,rfl,by first|rfl|simp,az.tail,hid zyk⟩
     | true =>
      go_wp2_with fail;refine(jv.out w5).mono ?_;rintro e w6 ⟨rfl,dM⟩;have aR:=az.next dM;clear az dM c0 c1;go_wp2_with fail;go_roundg (d.uses.length-(i+1));case measure=>omega
      case rel=>exact⟨i+1,q2,ay,rfl,rfl,by first|rfl|simp,aR.tail,hid (by rw[HT.out,←Bool.and_assoc,←HE.out];simp)⟩
   ·have aM:¬(i:Int)<(d.uses.length:Int):=om;have HF:=hid (HE.out.trans (by rw[pairsP_full ay]):q=(q0&&zbr d.uses));clear HE;have ah:=hM;have qP:=hid HF.out;clear HF hM;generalize lr:(q0&&zbr d.uses)=qq at *;clear lr;have hq9:=qP.out;subst hq9;generalize q=qb at *;have p2:wr.cell? ⟨g,2,none⟩=some (.slice ra d.reveal.length rc):=(ah.blk 0 rfl).cell 2;go_upto_region 8 with fail;clear p2;go_loopg [3,53] d.reveal.length (fun m s3 sk wx=>∃(i:Nat) (q:Bool),i≤d.reveal.length∧m=d.reveal.length-i∧s3=.bool q∧sk=.int .i64 (i:Int)∧Hp [] w [iblk g 29 (polcs d ⟨ua,uc,ra,rc,na,nc⟩)] wx∧Hid (q=(qb&&zbr (d.reveal.take i))));case atStart=>exact⟨0,qb,Nat.zero_le _,rfl,rfl,rfl,ah,hid (by simp[zbr])⟩
    case round =>
     obtain⟨i,q,hi,rfl,rfl,rfl,hM,HE⟩:=hrel;clear ah;by_cases ay:i<d.reveal.length
     ·have aM:(i:Int)<(d.reveal.length:Int):=om;have aL:(0:Int)≤(i:Int):=om;obtain⟨x,hx⟩:∃x,d.reveal[i]? =some x:=⟨_,List.getElem?_eq_getElem ay⟩;obtain⟨ad,hA,iw,iN⟩:=(qU.up hM.below0).cells hx;subst hA;have mK:=hB.rv x (List.mem_of_getElem? hx);have HT:=hid (pairsP_take hx);have pA:=hid (zbp x.1 mK.1);have jv:=hid (zbp x.2 mK.2);have aA:=hM.new 89 [.string x.1,.string x.2];obtain⟨gx,cX⟩:∃y,wr.heap.size=y:=⟨_,rfl⟩;rw[cX]at aA;clear hx hM;generalize nameP x.1=q1 at *;generalize nameP x.2=q2 at *;go_upto_region 10 with fail;try simp only[cX]
      have aA:Hp [] w [iblk gx 89 [.string x.1,.string x.2],_] (wr.alloc (.cells #[.string x.1,.string x.2] 89)):=aA;clear iw iN;generalize wr.alloc (.cells #[.string x.1,.string x.2] 89)=wa at *;clear cX;obtain⟨c0,c1⟩:=(aA.blk 0 rfl).get2;cases q with
      | false =>
       go_wp2_with fail;go_roundg (d.reveal.length-(i+1));case measure=>omega
       case rel=>exact⟨i+1,false,ay,rfl,rfl,by first|rfl|simp,aA.tail,hid zyk⟩
      | true =>
       go_wp2_with fail;refine(pA.out wa).mono ?_;rintro e w5 ⟨rfl,aS⟩;have az:=aA.next aS;clear aA aS c0 c1;obtain⟨c0,c1⟩:=(az.blk 0 rfl).get2;cases q1 with
       | false =>
        go_wp2_with fail;go_roundg (d.reveal.length-(i+1));case measure=>omega
        case rel=>exact⟨i+1,false,ay,rfl,rfl,by first|rfl|simp,az.tail,hid zyk⟩
       | true =>
        go_wp2_with fail;refine(jv.out w5).mono ?_;rintro e w6 ⟨rfl,dM⟩;have aR:=az.next dM;clear az dM c0 c1;go_wp2_with fail;go_roundg (d.reveal.length-(i+1));case measure=>omega
        case rel=>exact⟨i+1,q2,ay,rfl,rfl,by first|rfl|simp,aR.tail,hid (by rw[HT.out,←Bool.and_assoc,←HE.out];simp)⟩
     ·have aM:¬(i:Int)<(d.reveal.length:Int):=om;have HF:=hid (HE.out.trans (by rw[pairsP_full ay]):q=(qb&&zbr d.reveal));clear HE;go_wp2_with fail;go_ret;have HR:Hid (namesP d=q):=hid (by rw[iH.out,HF.out]);rw[HR.out];exact⟨rfl,by first|exact hM.below0|(subst hg;exact hM.below0)⟩
theorem twiceS_any (A:Option Addr) (c:Nat) (l:List ByteArray) (hl:l.length≤1000000) (hs:∀x∈l,x.size≤9223372036854775807) (w:World) (hS:Strs w A l) :
 Calls prog 83 #[.slice A l.length c] w fun e w'=>e=.returned (.bool (twiceP [] l))∧Below w.heap.size w w':=by
 have di:=@run_makeMap prog;have cY:=(Hp.start w).setNew strK;obtain⟨gm,dk⟩:∃g,w.heap.size=g:=⟨_,rfl⟩;rw[dk]at cY;go_enter func83,ntmps83;go_upto_region 2 with fail;clear di;try simp only[dk]
 generalize w.alloc (.map #[] 0)=W at *;go_upto_region 3 with fail;go_loopg [9] l.length (fun m s9 wx=>∃i:Nat,i≤l.length∧m=l.length-i∧s9=.int .i64 (i:Int)∧Hp [] w [iset strK gm (l.take i)] wx∧Hid (twiceP [] l=twiceP (l.take i) (l.drop i)));case atStart=>exact⟨0,Nat.zero_le _,rfl,rfl,cY,hid rfl⟩
 case round =>
  obtain⟨i,hi,rfl,rfl,hM,HE⟩:=hrel;clear cY;by_cases ay:i<l.length
  ·have aM:(i:Int)<(l.length:Int):=om;have aL:(0:Int)≤(i:Int):=om;obtain⟨x,hx⟩:∃x,l[i]? =some x:=⟨_,List.getElem?_eq_getElem ay⟩;have fP:=hs x (List.mem_of_getElem? hx);obtain⟨ad,rfl,ca⟩:=(hS.up hM.below0).at_ i x hx;have HT:=hid (zan hx);have cg:Hid (twiceP [] l=(memD x (l.take i)||twiceP (l.take (i+1)) (l.drop (i+1)))):=hid (by
    rw[HE.out,zcu hx,twiceP,HT.out])
   have iJ:(l.take i).length≤1000000:=by rw[List.length_take];omega
   clear hx HE;obtain⟨wa,hwa⟩:∃x,wr=x:=⟨_,rfl⟩;subst hwa;have dw:=zb4 strK (hM.sep.ok _ (List.mem_cons_self ..)) x fP;have dw:(Instr.lookup 222 (.map (some gm)) (.string x) false).run prog wr=.ok (.bool (memD x (l.take i))) wr:=dw;generalize memD x (l.take i)=r at *;cases r with
   | true =>
    go_wp2_with fail;go_ret;rw[cg.out];exact zur
   | false =>
    have af:=iset_own strK (hM.sep.ok _ (List.mem_cons_self ..));go_wp2_with (first|(at_mapUpdate;refine wpList_mapUpdate_own _ rfl _ _ _ 222 rfl 9 4 strK.law underlying222 (plainElem (H:=Unit) prog 4) gm (l.take i).length (strK.setD (l.take i)) rfl af zy2 _ _ (strK.kl x) rfl rfl (strK.key x fP) _ [] (plainElem_bool underlying4 true) ?_;intro w2 br aV));have az:=hM.setPut strK 0 rfl fP br aV;rw[←HT.out]at az;have az:Hp [] w ([iset strK gm (l.take (i+1))]) w2:=az;have jz:Hid (twiceP [] l=twiceP (l.take (i+1)) (l.drop (i+1))):=hid zuf;exact zt70
  ·exact zt71
theorem twiceR_any (A:Option Addr) (c:Nat) (l:List Bp) (hl:l.length≤1000000) (hs:∀x∈l,x.1.size≤9223372036854775807∧x.2.size≤9223372036854775807) (w:World) (hS:Prs w A l) :
 Calls prog 84 #[.slice A l.length c] w fun e w'=>e=.returned (.bool (twiceP [] l))∧Below w.heap.size w w':=by
 have di:=@run_makeMap prog;have cY:=(Hp.start w).setNew refK;obtain⟨gm,dk⟩:∃g,w.heap.size=g:=⟨_,rfl⟩;rw[dk]at cY;go_enter func84,ntmps84;go_upto_region 2 with fail;clear di;try simp only[dk]
 generalize w.alloc (.map #[] 0)=W at *;go_upto_region 3 with fail;go_loopg [9] l.length (fun m s9 wx=>∃i:Nat,i≤l.length∧m=l.length-i∧s9=.int .i64 (i:Int)∧Hp [] w [iset refK gm (l.take i)] wx∧Hid (twiceP [] l=twiceP (l.take i) (l.drop i)));case atStart=>exact⟨0,Nat.zero_le _,rfl,rfl,cY,hid rfl⟩
 case round =>
  obtain⟨i,hi,rfl,rfl,hM,HE⟩:=hrel;clear cY;by_cases ay:i<l.length
  ·have aM:(i:Int)<(l.length:Int):=om;have aL:(0:Int)≤(i:Int):=om;obtain⟨x,hx⟩:∃x,l[i]? =some x:=⟨_,List.getElem?_eq_getElem ay⟩;have fP:=hs x (List.mem_of_getElem? hx);obtain⟨ad,rfl,ca,cb⟩:=(hS.up hM.below0).at_ i x hx;have HT:=hid (zan hx);have cg:Hid (twiceP [] l=(memD x (l.take i)||twiceP (l.take (i+1)) (l.drop (i+1)))):=hid (by
    rw[HE.out,zcu hx,twiceP,HT.out])
   have iJ:(l.take i).length≤1000000:=by rw[List.length_take];omega
   clear hx HE;have aA:=(hM.new 89 [.string x.1,.string x.2]).perm (List.Perm.swap _ _ _);obtain⟨gx,cX⟩:∃y,wr.heap.size=y:=⟨_,rfl⟩;rw[cX]at aA;go_upto_region 5 with fail;try simp only[cX]
   have aA:Hp [] w [iset refK gm (l.take i),iblk gx 89 [.string x.1,.string x.2]] (wr.alloc (.cells #[.string x.1,.string x.2] 89)):=aA;clear ca cb hM;generalize wr.alloc (.cells #[.string x.1,.string x.2] 89)=wa at *;clear cX;have hM:=aA;clear aA;obtain⟨c0,c1⟩:=(hM.blk 1 rfl).get2;have dw:=zb4 refK (hM.sep.ok _ (List.mem_cons_self ..)) x fP;have dw:(Instr.lookup 223 (.map (some gm)) (refV x) false).run prog wa=.ok (.bool (memD x (l.take i))) wa:=dw;generalize memD x (l.take i)=r at *;cases r with
   | true =>
    go_wp2_with fail;go_ret;rw[cg.out];exact zur
   | false =>
    have af:=iset_own refK (hM.sep.ok _ (List.mem_cons_self ..));go_wp2_with (first|(at_mapUpdate;refine wpList_mapUpdate_own _ rfl _ _ _ 223 rfl 89 4 refK.law underlying223 (plainElem (H:=Unit) prog 4) gm (l.take i).length (refK.setD (l.take i)) rfl af zy2 _ _ (refK.kl x) rfl rfl (refK.key x fP) _ [] (plainElem_bool underlying4 true) ?_;intro w2 br aV));have az:=hM.setPut refK 0 rfl fP br aV;rw[←HT.out]at az;have az:Hp [] w ([iset refK gm (l.take (i+1))]++[iblk gx 89 [.string x.1,.string x.2]]) w2:=az;have jz:Hid (twiceP [] l=twiceP (l.take (i+1)) (l.drop (i+1))):=hid zuf;exact zt65
  ·exact zt71
end
end Go.Proofs.YtekkapgknohadaaGreatDoor
