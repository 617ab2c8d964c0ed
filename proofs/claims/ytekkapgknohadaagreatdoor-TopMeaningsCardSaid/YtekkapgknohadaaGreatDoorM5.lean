/- A formula in memory; formula.leaves, Check, truth, Truth. Put together by mkmr.py. -/
import Derived.Test.YtekkapgknohadaaGreatDoorM3
set_option linter.unusedVariables false
set_option maxHeartbeats 2000000
open Go.Proofs.Tryz
namespace Go.Proofs.YtekkapgknohadaaGreatDoor
namespace Fm
open Go.RowKit
open Lib (hid)
theorem za2 (a:Addr) (n:Nat):(a.add n).block=a.block:=by unfold Addr.add;split<;>rfl
def Run (W:World) (ad:Addr) (l:List Value):Prop:=∀i v,l[i]? =some v→W.cell? (ad.add i)=some v
theorem Run.keep {W W':World} {ad:Addr} {l:List Value} {B:Nat} (h:Run W ad l) (hb:Below B W W') (ha:ad.block<B):Run W' ad l:=fun i v hv=>by
 rw[hb.cell (p:=ad.add i) (by rw[za2];exact ha)];exact h i v hv
structure Ints (W:World) (B:Nat) (A:Option Addr) (l:List Int):Prop where
 some_:l≠[]→∃ad,A=some ad∧ad.block<B∧Run W ad (l.map (.int .i64 ·))
theorem Ints.keep {W W':World} {B B':Nat} {A:Option Addr} {l:List Int} (h:Ints W B A l) (hb:Below B' W W') (hB:B≤B'):Ints W' B A l:=⟨fun hl=>by
 obtain⟨ad,h1,h2,h3⟩:=h.some_ hl;exact⟨ad,h1,h2,h3.keep hb om⟩⟩
structure GateAt (W:World) (B:Nat) (ad:Addr) (g:Gt):Prop where
 need:W.cell? ad=some (.int .i64 g.need)
 kids:∃A c,W.cell? ⟨ad.block,ad.off+1,none⟩=some (.slice A g.kids.length c)∧Ints W B A g.kids
 leaf:W.cell? ⟨ad.block,ad.off+2,none⟩=some (.int .i64 g.leaf)
theorem GateAt.keep {W W':World} {B B':Nat} {ad:Addr} {g:Gt} (h:GateAt W B ad g) (hb:Below B' W W') (hB:B≤B') (ha:ad.block<B):GateAt W' B ad g:=by
 obtain⟨A,c,h1,h2⟩:=h.kids;refine⟨?_,⟨A,c,?_,h2.keep hb hB⟩,?_⟩
 ·rw[hb.cell (p:=ad) om];exact h.need
 ·rw[hb.cell (p:=⟨ad.block,ad.off+1,none⟩) (show ad.block<B' by omega)];exact h1
 ·rw[hb.cell (p:=⟨ad.block,ad.off+2,none⟩) (show ad.block<B' by omega)];exact h.leaf
structure Gates (W:World) (B:Nat) (A:Option Addr) (F:List Gt):Prop where
 some_:F≠[]→∃ad,A=some ad∧ad.block<B∧∀i g,F[i]? =some g→GateAt W B (ad.add (i*3)) g
abbrev pt (g:Nat):Value:=.pointer (some ⟨g,0,none⟩)
structure VS (w:World) (gf gn gc gv:Nat) (A:Option Addr) (n c:Nat) (nx ct:Int) (W:World):Prop where
 Fb:Blk W gf 44 [.slice A n c]
 N:Blk W gn 3 [.int .i64 nx]
 C:Blk W gc 3 [.int .i64 ct]
 V:Blk W gv 139 [.func (Fn.func 228) #[] #[pt gn,pt gf,pt gc,pt gv]]
 D:w.heap.size≤gf∧gf<gn∧gn<gc∧gc<gv
 below:Below w.heap.size w W
section
variable {w:World} {gf gn gc gv:Nat} {A:Option Addr} {n c:Nat} {nx ct:Int} {W W':World}
theorem VS.next (h:VS w gf gn gc gv A n c nx ct W) (hb:Below W.heap.size W W'):VS w gf gn gc gv A n c nx ct W' :=
 ⟨h.Fb.below hb h.Fb.lt,h.N.below hb h.N.lt,h.C.below hb h.C.lt,h.V.below hb h.V.lt,h.D,h.below.trans (hb.mono h.below.size)⟩
theorem VS.setN (h:VS w gf gn gc gv A n c nx ct W) (m:Int):VS w gf gn gc gv A n c m ct (W.setCell ⟨gn,0,none⟩ (.int .i64 m)):=by
 obtain⟨d1,d2,d3,d4⟩:=h.D;refine⟨h.Fb.far zy8 _,h.N.set_ 0 _,h.C.far zy8 _,h.V.far zy8 _,h.D,h.below.setCell zy8 _⟩
theorem VS.setC (h:VS w gf gn gc gv A n c nx ct W) (m:Int):VS w gf gn gc gv A n c nx m (W.setCell ⟨gc,0,none⟩ (.int .i64 m)):=by
 obtain⟨d1,d2,d3,d4⟩:=h.D;refine⟨h.Fb.far zy8 _,h.N.far zy8 _,h.C.set_ 0 _,h.V.far zy8 _,h.D,h.below.setCell zy8 _⟩
theorem VS.alloc (h:VS w gf gn gc gv A n c nx ct W) (o:Obj):VS w gf gn gc gv A n c nx ct (W.alloc o) :=
 h.next ((Below.refl _ _).alloc (Nat.le_refl _) _)
theorem VS.cells (h:VS w gf gn gc gv A n c nx ct W):W.cell? ⟨gf,0,none⟩=some (.slice A n c)∧W.cell? ⟨gn,0,none⟩=some (.int .i64 nx)∧W.cell? ⟨gc,0,none⟩=some (.int .i64 ct)∧W.cell? ⟨gv,0,none⟩=some (.func (Fn.func 228) #[] #[pt gn,pt gf,pt gc,pt gv]) :=
 ⟨h.Fb.cell 0,h.N.cell 0,h.C.cell 0,h.V.cell 0⟩
theorem VS.free (h:VS w gf gn gc gv A n c nx ct W):W.frozen? ⟨gn,0,none⟩=false∧W.frozen? ⟨gc,0,none⟩=false:=⟨h.N.frozen 0,h.C.frozen 0⟩
end
theorem kidsP_bd {v:Int→Int×Int→Bool×Int×Int} {L:Int} (hv:∀k s,0≤s.2→s.2≤s.1→s.1≤L→s.1≤(v k s).2.1∧(v k s).2.1≤L∧0≤(v k s).2.2∧(v k s).2.2≤(v k s).2.1) :
 ∀(ks:List Int) (s:Int×Int),0≤s.2→s.2≤s.1→s.1≤L→s.1≤(kidsP v ks s).2.1∧(kidsP v ks s).2.1≤L∧0≤(kidsP v ks s).2.2∧(kidsP v ks s).2.2≤(kidsP v ks s).2.1
 | [],s,h1,h2,h3=>⟨Int.le_refl _,h3,h1,h2⟩
 | k::ks,s,h1,h2,h3=>by
   obtain⟨a1,a2,a3,a4⟩:=hv k s h1 h2 h3;rw[kidsP];by_cases hb:(v k s).1=true
   ·rw[if_pos hb];obtain⟨b1,b2,b3,b4⟩:=kidsP_bd hv ks (v k s).2 a3 a4 a2;exact⟨Int.le_trans a1 b1,b2,b3,b4⟩
   ·rw[if_neg hb];exact⟨a1,a2,a3,a4⟩
theorem visitP_bd (F:List Gt) (f:Nat):∀(k:Int) (s:Int×Int),0≤s.2→s.2≤s.1→s.1≤F.length→s.1≤(visitP F f k s).2.1∧(visitP F f k s).2.1≤F.length∧0≤(visitP F f k s).2.2∧(visitP F f k s).2.2≤(visitP F f k s).2.1:=by
 induction f with
 | zero=>intro k s h1 h2 h3;exact⟨Int.le_refl _,h3,h1,h2⟩
 | succ f ih =>
   intro k s h1 h2 h3;rw[visitP];by_cases hc:k≠s.1∨(F.length:Int)≤k
   ·rw[if_pos hc];exact⟨Int.le_refl _,h3,h1,h2⟩
   ·rw[if_neg hc];have aQ:s.1<F.length:=by
     rcases Classical.em (k=s.1)with h|h
     ·have:¬(F.length:Int)≤k:=fun h9=>hc (.inr h9);omega
     ·exact absurd (.inl h) hc
    split
    ·exact⟨Int.le_refl _,h3,h1,h2⟩
    ·split
     ·exact⟨by show s.1≤s.1+1;omega,by show s.1+1≤_;omega,by show 0≤s.2+1;omega,by show s.2+1≤s.1+1;omega⟩
     ·split
      ·exact⟨by show s.1≤s.1+1;omega,by show s.1+1≤_;omega,h1,by show s.2≤s.1+1;omega⟩
      ·obtain⟨b1,b2,b3,b4⟩:=kidsP_bd (L:=F.length) ih _ (s.1+1,s.2) h1 (by show s.2≤s.1+1;omega) (by show s.1+1≤_;omega);exact⟨Int.le_trans (by show s.1≤s.1+1;omega) b1,b2,b3,b4⟩
def KidRel (w:World) (gf gn gc gv:Nat) (A:Option Addr) (c:Nat) (F:List Gt) (f:Nat) (kids:List Int) (lo:Int) (R:Bool×Int×Int) (i:Value) (W:World):Prop :=
 ∃(j:Nat) (nx ct:Int),j≤kids.length∧i=.int .i64 (j:Int)∧VS w gf gn gc gv A F.length c nx ct W∧lo≤nx∧0≤ct∧ct≤nx∧nx≤F.length∧Hid (kidsP (visitP F f) (kids.drop j) (nx,ct)=R)
theorem visit_any (w:World) (gf gn gc gv:Nat) (A:Option Addr) (c:Nat) (F:List Gt) (hF:F.length≤1000000) (hK:∀g∈F,g.kids.length≤1000000) (hG:Gates w w.heap.size A F) (f:Nat) :
 ∀(at_ nx ct:Int) (W:World),VS w gf gn gc gv A F.length c nx ct W→0≤nx→0≤ct→ct≤nx→nx≤F.length→(F.length:Int)-nx<f →
 Calls prog 228 #[.int .i64 at_,pt gn,pt gf,pt gc,pt gv] W fun e w' =>
  e=.returned (.bool (visitP F f at_ (nx,ct)).1)∧VS w gf gn gc gv A F.length c (visitP F f at_ (nx,ct)).2.1 (visitP F f at_ (nx,ct)).2.2 w':=by
 induction f with
 | zero=>intro at_ nx ct W h h0 h1 h2 h3 h4;omega
 | succ f ih =>
   intro at_ nx ct W h h0 h1 h2 h3 h4;obtain⟨c1,c2,c3,c4⟩:=h.cells;obtain⟨f1,f2⟩:=h.free;by_cases ha:at_=nx
   ·subst ha;by_cases aQ:at_<F.length
    ·obtain⟨k,rfl⟩:=Int.eq_ofNat_of_zero_le h0;have hk:k<F.length:=om;obtain⟨g,hg⟩:∃g,F[k]? =some g:=⟨_,List.getElem?_eq_getElem hk⟩;have hv:=h.setN ((k:Int)+1);obtain⟨ad,hA,dt,dK⟩:=hG.some_ (by rintro rfl;simp at hk);subst hA;obtain⟨KA,kc,gk',gi⟩:=(dK k g hg).kids;have ga:=(dK k g hg).keep hv.below (Nat.le_refl _) (by rw[za2];exact dt);have gk:(W.setCell ⟨gn,0,none⟩ (.int .i64 ((k:Int)+1))).cell? ⟨(ad.add (k*3)).block,(ad.add (k*3)).off+1,none⟩=some (.slice KA g.kids.length kc):=by
      rw[hv.below.cell (p:=⟨(ad.add (k*3)).block,(ad.add (k*3)).off+1,none⟩) zyy];exact gk'
     clear gk';have rf:=ga.need;have gl:=ga.leaf;go_enter func228,ntmps228;go_upto_region 4 with fail;clear c1 c2 c3 c4 f1 f2 h;generalize W.setCell ⟨gn,0,none⟩ (.int .i64 ((k:Int)+1))=W1 at *;obtain⟨c1,c2,c3,c4⟩:=hv.cells;obtain⟨f1,f2⟩:=hv.free;go_upto_region 5 with fail;have hB:=Blk.new W1 256 [.int .i64 g.need,.slice KA g.kids.length kc,.int .i64 g.leaf];have hw:=hv.alloc (.cells #[.int .i64 g.need,.slice KA g.kids.length kc,.int .i64 g.leaf] 256);have gT:gv<W1.heap.size:=hv.V.lt;clear c1 c2 c3 c4 f1 f2 ga rf gl gk dK;have dW:Blk (W1.alloc (.cells #[.int .i64 g.need,.slice KA g.kids.length kc,.int .i64 g.leaf] 256)) W1.heap.size 256 [.int .i64 g.need,.slice KA g.kids.length kc,.int .i64 g.leaf]:=hB;clear hB;generalize W1.alloc (.cells #[.int .i64 g.need,.slice KA g.kids.length kc,.int .i64 g.leaf] 256)=W2 at *;generalize W1.heap.size=g7 at *;obtain⟨c1,c2,c3,c4⟩:=hw.cells;obtain⟨f1,f2⟩:=hw.free;obtain⟨b0,b1,b2⟩:=dW.get3;have HU:Hid (visitP F (f+1) (k:Int) ((k:Int),ct)=if g.kids=[]then(decide (g.need=0)&&decide (g.leaf=ct),(k:Int)+1,ct+1)else if g.need<1∨(g.kids.length:Int)<g.need∨g.leaf≠0 then(false,(k:Int)+1,ct)else kidsP (visitP F f) g.kids ((k:Int)+1,ct)):=by
      show _=_;rw[visitP,if_neg om,Int.toNat_natCast,hg]
     by_cases dz:g.kids=[]
     ·have hz:((g.kids.length:Int)==0)=true:=by rw[dz];rfl
      have HV:Hid (visitP F (f+1) (k:Int) ((k:Int),ct)=(decide (g.need=0)&&decide (g.leaf=ct),(k:Int)+1,ct+1)):=by
       show _=_;rw[HU.out,if_pos dz]
      clear HU dz ih;go_upto_region 7 with fail;have hx:=hw.setC (ct+1);have il:=dW.far (p:=⟨gc,0,none⟩) (by have:=hw.D;simp;omega) (.int .i64 (ct+1));clear dW hw c1 c2 c3 c4 b0 b1 b2;generalize W2.setCell ⟨gc,0,none⟩ (.int .i64 (ct+1))=W3 at *;obtain⟨c1,c2,c3,c4⟩:=hx.cells;obtain⟨b0,b1,b2⟩:=il.get3;by_cases dJ:g.need=0
      ·have t1:(g.need==0)=true:=by simpa using dJ
       by_cases gQ:g.leaf=ct
       ·have t2:(g.leaf==ct)=true:=by simpa using gQ
        go_wp2_with fail;go_ret;rw[HV.out];exact⟨by simp[dJ,gQ],hx⟩
       ·have t2:(g.leaf==ct)=false:=by simpa using gQ
        go_wp2_with fail;go_ret;rw[HV.out];exact⟨by simp[dJ,gQ],hx⟩
      ·have t1:(g.need==0)=false:=by simpa using dJ
       go_wp2_with fail;go_ret;rw[HV.out];exact⟨by simp[dJ],hx⟩
     ·have hz:((g.kids.length:Int)==0)=false:=by
       rw[beq_eq_false_iff_ne];intro h9;exact dz (List.eq_nil_of_length_eq_zero om)
      by_cases gj:g.need<1∨(g.kids.length:Int)<g.need∨g.leaf≠0
      ·have HV:Hid (visitP F (f+1) (k:Int) ((k:Int),ct)=(false,(k:Int)+1,ct)):=by
        show _=_;rw[HU.out,if_neg dz,if_pos gj]
       clear HU ih;by_cases q1:g.need<1
       ·go_wp2_with fail;go_ret;rw[HV.out];exact⟨rfl,hw⟩
       ·by_cases q2:(g.kids.length:Int)<g.need
        ·go_wp2_with fail;go_ret;rw[HV.out];exact⟨rfl,hw⟩
        ·have q3:(g.leaf != 0)=true:=by
          rcases gj with h9|h9|h9
          ·exact absurd h9 q1
          ·exact absurd h9 q2
          ·simpa using h9
         go_wp2_with fail;go_ret;rw[HV.out];exact⟨rfl,hw⟩
      ·have q1:¬g.need<1:=fun h9=>gj (.inl h9);have q2:¬(g.kids.length:Int)<g.need:=fun h9=>gj (.inr (.inl h9));have q3:(g.leaf != 0)=false:=by
        by_cases h9:g.leaf=0
        ·simpa using h9
        ·exact absurd (.inr (.inr h9)) gj
       have HV:Hid (visitP F (f+1) (k:Int) ((k:Int),ct)=kidsP (visitP F f) g.kids ((k:Int)+1,ct)):=by
        show _=_;rw[HU.out,if_neg dz,if_neg gj]
       clear HU gj;have HI:=hid ih;clear ih;go_upto_region 11 with fail;have bk:g.kids.length≤1000000:=hK g (List.mem_of_getElem? hg);clear dW b0 b1 b2 c1 c2 c3 c4 f1 f2;go_loopw [62] (KidRel w gf gn gc gv (some ad) c F f g.kids ((k:Int)+1) (visitP F (f+1) (k:Int) ((k:Int),ct))) (fun i _=>g.kids.length-(intOf i).toNat);case atStart=>exact⟨0,(k:Int)+1,ct,Nat.zero_le _,rfl,hw,Int.le_refl _,h1,by omega,by omega,hid (by rw[HV.out];rfl)⟩
       case round =>
        obtain⟨j,nx,cj,hj,rfl,hS,fi,hc0,gD,kU,HR⟩:=hrel;by_cases aW:j<g.kids.length
        ·obtain⟨ka,cM,ej,cJ⟩:=gi.some_ (by rintro h9;rw[h9]at aW;simp at aW);subst cM;obtain⟨x,hx⟩:∃x,g.kids[j]? =some x:=⟨_,List.getElem?_eq_getElem aW⟩;have cx:wr.cell? (ka.add j)=some (.int .i64 x):=by
          rw[hS.below.cell (p:=ka.add j) (by rw[za2];exact ej)];exact cJ j _ zuj
         have hdr:g.kids.drop j=x::g.kids.drop (j+1):=by
          rw[List.drop_eq_getElem_cons aW];congr 1;rw[List.getElem?_eq_getElem aW]at hx;exact Option.some.inj hx
         have fZ:=visitP_bd F f x (nx,cj) hc0 gD kU;obtain⟨c1,c2,c3,c4⟩:=hS.cells;have HC:=hid (HI.out x nx cj wr hS om hc0 gD kU om);have gR:=HR.out;rw[hdr,kidsP]at gR;have HD:=hid gR;clear hdr gR HR HI cJ hx hG;generalize visitP F f x (nx,cj)=r at *;obtain⟨b,nx',cj'⟩:=r;go_wp2_with fail;refine HC.out.mono ?_;rintro e w5 ⟨rfl,bS⟩;clear HC hS c1 c2 c3 c4 cx;cases b with
         | true =>
           go_wp2_with fail;go_roundw;case rel=>exact⟨j+1,nx',cj',aW,by go_num,bS,Int.le_trans fi fZ.1,fZ.2.2.1,fZ.2.2.2,fZ.2.1,hid (by have h9:=HD.out;first|(rw[if_pos trivial]at h9;exact h9)|(rw[if_pos rfl]at h9;exact h9)|simpa using h9)⟩
           case measure=>simp[intOf];omega
         | false =>
           go_wp2_with fail;go_ret;have:=HD.out;rw[if_neg Bool.false_ne_true]at this;rw[←this];exact⟨rfl,bS⟩
        ·have bX:j=g.kids.length:=om;have HD:=HR.out;rw[bX,List.drop_length,kidsP]at HD;have HE:=hid HD;clear HD HR bX;go_wp2_with fail;go_ret;rw[←HE.out];exact⟨rfl,hS⟩
    ·have gK:(F.length:Int)≤at_:=om;have HV:Hid (visitP F (f+1) at_ (at_,ct)=(false,at_,ct)):=by
      show _=_;rw[visitP,if_pos (.inr gK)]
     clear ih;have tt:decide ((F.length:Int)≤at_)=true:=by simpa using gK
     go_enter func228,ntmps228;go_wp2_with fail;go_ret;rw[HV.out];exact⟨rfl,h⟩
   ·have HV:Hid (visitP F (f+1) at_ (nx,ct)=(false,nx,ct)):=by
     show _=_;rw[visitP,if_pos (.inl ha)]
    have tt:(at_ != nx)=true:=by simpa using ha
    clear ih;go_enter func228,ntmps228;go_wp2_with fail;go_ret;rw[HV.out];exact⟨rfl,h⟩
theorem run_store_func (P:Program) (w:World) (a:Addr) (m:Mode) (f:Fn) (x y:Array Value) (v:Value) (hc:w.cell? a=some v) (hf:w.frozen? a=false):(store a (.func f x y) m).run P w=.ok () (w.setCell a (.func f x y)):=by
 rw[run_store P w a _ m rfl,hc,hf];rfl
theorem leaves_any (A:Option Addr) (c:Nat) (F:List Gt) (hF:F.length≤1000000) (hK:∀g∈F,g.kids.length≤1000000) (w:World) (hG:Gates w w.heap.size A F) :
 Calls prog 176 #[.agg #[.slice A F.length c]] w fun e w'=>e=.returned (.tuple #[.int .i64 (leavesP F).1,.bool (leavesP F).2])∧Below w.heap.size w w':=by
 by_cases hz:F=[]
 ·have HV:Hid (leavesP F=(0,true)):=by show _=_;rw[leavesP,if_pos hz]
  have h0:((F.length:Int)==0)=true:=by rw[hz];rfl
  clear hz hG hK;go_enter func176,ntmps176;go_wp2_with fail;go_ret2;rw[HV.out];exact⟨rfl,(Below.refl _ _).alloc (Nat.le_refl _) _⟩
 ·have HV:Hid (leavesP F=((visitP F (F.length+1) 0 (0,0)).2.2,(visitP F (F.length+1) 0 (0,0)).1&&decide ((visitP F (F.length+1) 0 (0,0)).2.1=F.length)&&decide ((visitP F (F.length+1) 0 (0,0)).2.2≤256))):=by
   show _=_;rw[leavesP,if_neg hz]
  have h0:((F.length:Int)==0)=false:=by
   rw[beq_eq_false_iff_ne];intro h9;exact hz (List.eq_nil_of_length_eq_zero om)
  have HC:=hid (visit_any w w.heap.size (w.heap.size+1) (w.heap.size+1+1) (w.heap.size+1+1+1) A c F hF hK hG (F.length+1));have fZ:=visitP_bd F (F.length+1) 0 (0,0) (Int.le_refl _) (Int.le_refl _) (by show 0≤_;omega);clear hz hG hK;have hk:Kp w [(w.heap.size+1+1+1,139,[.nilFunc]),(w.heap.size+1+1,3,[.int .i64 0]),(w.heap.size+1,3,[.int .i64 0]),(w.heap.size,44,[.slice A F.length c])] ((((w.alloc (.cells #[.slice A F.length c] 44)).alloc (.cells #[.int .i64 0] 3)).alloc (.cells #[.int .i64 0] 3)).alloc (.cells #[.nilFunc] 139)):=by
   have:=((((Kp.start w).new 44 [.slice A F.length c]).new 3 [.int .i64 0]).new 3 [.int .i64 0]).new 139 [.nilFunc];simpa using this
  go_enter func176,ntmps176;go_upto_region 5 with fail;have hD:w.heap.size≤w.heap.size∧w.heap.size<w.heap.size+1∧w.heap.size+1<w.heap.size+1+1∧w.heap.size+1+1<w.heap.size+1+1+1:=om;generalize (((w.alloc (.cells #[.slice A F.length c] 44)).alloc (.cells #[.int .i64 0] 3)).alloc (.cells #[.int .i64 0] 3)).alloc (.cells #[.nilFunc] 139)=W4 at *;generalize w.heap.size+1+1+1=gv at *;generalize w.heap.size+1+1=gc at *;generalize w.heap.size+1=gn at *;have bV:=hk.blk _ (List.mem_cons_self ..);have bC:=hk.blk _ (List.mem_cons_of_mem _ (List.mem_cons_self ..));have bN:=hk.blk _ (List.mem_cons_of_mem _ (List.mem_cons_of_mem _ (List.mem_cons_self ..)));have bF:=hk.blk _ (List.mem_cons_of_mem _ (List.mem_cons_of_mem _ (List.mem_cons_of_mem _ (List.mem_cons_self ..))));have fr:=hk.below;clear hk;simp only at bV bC bN bF;have cS:=fun x y=>run_store_func prog W4 ⟨gv,0,none⟩ .plain (Fn.func 228) x y _ (bV.cell 0) (bV.frozen 0);go_upto_region 6 with fail;clear cS;have hS:VS w w.heap.size gn gc gv A F.length c 0 0 (W4.setCell ⟨gv,0,none⟩ (.func (Fn.func 228) #[] #[pt gn,pt w.heap.size,pt gc,pt gv])) :=
   ⟨bF.far zy8 _,bN.far zy8 _,bC.far zy8 _,bV.set_ 0 _,hD,fr.setCell zy8 _⟩
  clear bV bC bN bF fr;generalize W4.setCell ⟨gv,0,none⟩ (.func (Fn.func 228) #[] #[pt gn,pt w.heap.size,pt gc,pt gv])=W5 at *;obtain⟨c1,c2,c3,c4⟩:=hS.cells;go_wp2_with fail;refine(HC.out 0 0 0 W5 hS (Int.le_refl _) (Int.le_refl _) (Int.le_refl _) om om).mono ?_;rintro e w6 ⟨rfl,bt⟩;clear c1 c2 c3 c4 hS HC;generalize visitP F (F.length+1) 0 (0,0)=r at *;obtain⟨b,nx,ct⟩:=r;obtain⟨b1,b2,b3,b4⟩:=fZ;simp only at bt b1 b2 b3 b4;obtain⟨c1,c2,c3,c4⟩:=bt.cells;go_upto_region 7 with fail;cases b with
  | false =>
    go_quiet (fail);go_wp2_with fail;go_ret2;rw[HV.out];exact⟨rfl,by first|exact bt.below|exact bt.drew.below|exact⟨bt.below.os,bt.below.tape,bt.below.output,bt.below.size,bt.below.block⟩⟩
  | true =>
    by_cases q1:nx=F.length
    ·have t1:(nx==(F.length:Int))=true:=by simpa using q1
     by_cases q2:ct≤256
     ·have t2:decide (ct≤256)=true:=by simpa using q2
      go_quiet (fail);go_wp2_with fail;go_ret2;rw[HV.out];exact zux
     ·have t2:decide (ct≤256)=false:=by simpa using q2
      go_quiet (fail);go_wp2_with fail;go_ret2;rw[HV.out];exact zux
    ·have t1:(nx==(F.length:Int))=false:=by simpa using q1
     go_quiet (fail);go_wp2_with fail;go_ret2;rw[HV.out];exact⟨by simp[q1],by first|exact bt.below|exact bt.drew.below|exact⟨bt.below.os,bt.below.tape,bt.below.output,bt.below.size,bt.below.block⟩⟩
theorem Ints.up {W W':World} {B B':Nat} {A:Option Addr} {l:List Int} (h:Ints W B A l) (hb:Below B W W') (hB:B≤B'):Ints W' B' A l:=⟨fun hl=>by
 obtain⟨ad,h1,h2,h3⟩:=h.some_ hl;exact⟨ad,h1,by omega,h3.keep hb h2⟩⟩
theorem GateAt.up {W W':World} {B B':Nat} {ad:Addr} {g:Gt} (h:GateAt W B ad g) (hb:Below B W W') (hB:B≤B') (ha:ad.block<B):GateAt W' B' ad g:=by
 obtain⟨A,c,h1,h2⟩:=(h.keep hb (Nat.le_refl _) ha).kids;exact⟨(h.keep hb (Nat.le_refl _) ha).need,⟨A,c,h1,h2.up (Below.refl _ _) hB⟩,(h.keep hb (Nat.le_refl _) ha).leaf⟩
theorem Gates.keep' {W W':World} {A:Option Addr} {F:List Gt} (h:Gates W W.heap.size A F) (hb:Below W.heap.size W W'):Gates W' W'.heap.size A F:=⟨fun hl=>by
 obtain⟨ad,h1,h2,h3⟩:=h.some_ hl;have:=hb.size;exact⟨ad,h1,by omega,fun i g hg=>(h3 i g hg).up hb hb.size (by rw[za2];exact h2)⟩⟩
theorem check_any (A:Option Addr) (c:Nat) (F:List Gt) (n:Int) (hF:F.length≤1000000) (hK:∀g∈F,g.kids.length≤1000000) (w:World) (hG:Gates w w.heap.size A F) :
 Calls prog 120 #[.agg #[.slice A F.length c],.int .i64 n] w fun e w'=>e=.returned (.int .i64 (checkP F n))∧Below w.heap.size w w':=by
 have fr:Below w.heap.size w (w.alloc (.cells #[.slice A F.length c] 44)):=(Below.refl _ _).alloc (Nat.le_refl _) _;by_cases h1:512<F.length∨n<0∨256<n
 ·have HV:Hid (checkP F n=6):=by show _=_;rw[checkP,if_pos h1]
  by_cases q1:512<F.length
  ·exact zt46
  ·by_cases q2:n<0
   ·exact zt46
   ·have q3:256<n:=by
     rcases h1 with h|h|h
     ·exact absurd h q1
     ·exact absurd h q2
     ·exact h
    exact zt46
 ·have q1:¬512<F.length:=fun h=>h1 (.inl h);have q2:¬n<0:=fun h=>h1 (.inr (.inl h));have q3:¬256<n:=fun h=>h1 (.inr (.inr h));have HU:Hid (checkP F n=if(leavesP F).2=false then 3 else if(leavesP F).1≠n then 6 else 0):=by show _=_;rw[checkP,if_neg h1]
  have HC:=hid (leaves_any A c F hF hK (w.alloc (.cells #[.slice A F.length c] 44)) (hG.keep' fr));generalize leavesP F=r at *;obtain⟨ct,ok⟩:=r;clear h1 hK hG;cases ok with
  | false =>
    go_enter func120,ntmps120;go_wp2_with fail;refine HC.out.mono ?_;rintro e w1 ⟨rfl,hb⟩;go_wp2_with fail;go_ret;exact⟨by rw[HU.out];first|rfl|(simp;done),fr.trans (hb.mono fr.size)⟩
  | true =>
    by_cases q4:ct=n
    ·have t1:(ct != n)=false:=by simpa using q4
     exact zt40
    ·have t1:(ct != n)=true:=by simpa using q4
     exact zt40
def GOk (hi lo up:Int) (i:Nat) (g:Gt):Prop:=(g.kids=[]→g.need=0∧lo≤g.leaf∧g.leaf<up)∧(g.kids≠[]→1≤g.need∧g.need≤g.kids.length)∧∀x∈g.kids,(i:Int)<x∧x<hi
theorem GOk.mono {hi lo up fp lo' up':Int} {i:Nat} {g:Gt} (h:GOk hi lo up i g) (h1:hi≤fp) (h2:lo'≤lo) (h3:up≤up'):GOk fp lo' up' i g:=by
 obtain⟨a,b,c⟩:=h;exact⟨fun h9=>by obtain⟨p,q,r⟩:=a h9;exact⟨p,by omega,by omega⟩,b,fun x hx=>by obtain⟨p,q⟩:=c x hx;exact⟨p,by omega⟩⟩
def Part (F:List Gt) (n1 n2 c1 c2:Int):Prop:=n1≤n2∧c1≤c2∧∀(i:Nat) g,F[i]? =some g→n1≤i→(i:Int)<n2→GOk n2 c1 c2 i g
theorem Part.join {F:List Gt} {n1 n2 n3 c1 c2 c3:Int} (h:Part F n1 n2 c1 c2) (h':Part F n2 n3 c2 c3):Part F n1 n3 c1 c3:=by
 obtain⟨a,b,c⟩:=h;obtain⟨a',b',c'⟩:=h';refine⟨by omega,by omega,fun i g hg h1 h2=>?_⟩;by_cases hi:(i:Int)<n2
 ·exact(c i g hg h1 hi).mono a' (Int.le_refl _) b'
 ·exact(c' i g hg om h2).mono (Int.le_refl _) b (Int.le_refl _)
theorem kids_part {F:List Gt} {v:Int→Int×Int→Bool×Int×Int} (hv:∀k s,0≤s.1→(v k s).1=true→k=s.1∧s.1<(v k s).2.1∧Part F s.1 (v k s).2.1 s.2 (v k s).2.2) :
 ∀(ks:List Int) (s:Int×Int),0≤s.1→(kidsP v ks s).1=true→Part F s.1 (kidsP v ks s).2.1 s.2 (kidsP v ks s).2.2∧∀x∈ks,s.1≤x∧x<(kidsP v ks s).2.1
 | [],s,h0,h=>⟨⟨Int.le_refl _,Int.le_refl _,fun i g hg h1 h2=>by simp[kidsP]at h2;omega⟩,fun x hx=>by cases hx⟩
 | k::ks,s,h0,h=>by
   rw[kidsP]at h ⊢;by_cases hb:(v k s).1=true
   ·rw[if_pos hb]at h ⊢;obtain⟨e,aQ,hp⟩:=hv k s h0 hb;obtain⟨q1,q2⟩:=kids_part hv ks (v k s).2 om h;refine⟨hp.join q1,fun x hx=>?_⟩;rcases List.mem_cons.1 hx with rfl|hx
    ·have:=q1.1;omega
    ·have:=q2 x hx;omega
   ·rw[if_neg hb]at h;cases h
theorem visit_part (F:List Gt) (f:Nat):∀(k:Int) (s:Int×Int),0≤s.1→(visitP F f k s).1=true→k=s.1∧s.1<(visitP F f k s).2.1∧Part F s.1 (visitP F f k s).2.1 s.2 (visitP F f k s).2.2:=by
 induction f with
 | zero=>intro k s h0 h;cases h
 | succ f ih =>
   intro k s h0 h;rw[visitP]at h ⊢;by_cases hc:k≠s.1∨(F.length:Int)≤k
   ·rw[if_pos hc]at h;cases h
   ·rw[if_neg hc]at h ⊢;have hk:k=s.1:=Classical.byContradiction fun h9=>hc (.inl h9);have aQ:k<F.length:=by
     have:¬(F.length:Int)≤k:=fun h9=>hc (.inr h9);omega
    cases hg:F[k.toNat]? with
    | none=>rw[hg]at h;cases h
    | some g =>
      rw[hg]at h;simp only at h ⊢;have hme:∀(i:Nat) g',F[i]? =some g'→(i:Int)=s.1→g'=g:=by
       intro i g' h1 h2;have:i=k.toNat:=om;rw[this,hg]at h1;exact(Option.some.inj h1).symm
      by_cases hz:g.kids=[]
      ·rw[if_pos hz]at h ⊢;rw[Bool.and_eq_true]at h;refine⟨hk,by show s.1<s.1+1;omega,by show s.1≤s.1+1;omega,by show s.2≤s.2+1;omega,fun i g' hi h1 h2=>?_⟩;obtain rfl:=hme i g' hi (by simp only at h2;omega);have e1:g'.need=0:=of_decide_eq_true h.1;have e2:g'.leaf=s.2:=of_decide_eq_true h.2;exact⟨fun _=>⟨e1,by omega,by show g'.leaf<s.2+1;omega⟩,fun h9=>absurd hz h9,fun x hx=>by rw[hz]at hx;cases hx⟩
      ·rw[if_neg hz]at h ⊢;by_cases hb:g.need<1∨(g.kids.length:Int)<g.need∨g.leaf≠0
       ·rw[if_pos hb]at h;cases h
       ·rw[if_neg hb]at h ⊢;obtain⟨q1,q2⟩:=kids_part (fun k s h0=>ih k s h0) g.kids (s.1+1,s.2) (by show 0≤s.1+1;omega) h;have q3:=q1.1;have q4:=q1.2.1;simp only at q3 q4;refine⟨hk,by omega,by omega,q4,fun i g' hi h1 h2=>?_⟩;by_cases he:(i:Int)=s.1
        ·obtain rfl:=hme i g' hi he;have n1:¬g'.need<1:=fun h9=>hb (.inl h9);have n2:¬(g'.kids.length:Int)<g'.need:=fun h9=>hb (.inr (.inl h9));refine⟨fun h9=>absurd h9 hz,fun _=>⟨by omega,by omega⟩,fun x hx=>?_⟩;have:=q2 x hx;simp only at this;omega
        ·exact(q1.2.2 i g' hi (by show s.1+1≤_;omega) h2)
theorem valid_gates {F:List Gt} {n:Int} (h:leavesP F=(n,true)):∀(i:Nat) g,F[i]? =some g→GOk F.length 0 n i g:=by
 intro i g hg;unfold leavesP at h;by_cases hz:F=[]
 ·rw[hz]at hg;simp at hg
 ·rw[if_neg hz]at h;have h1:(visitP F (F.length+1) 0 (0,0)).2.2=n:=congrArg Prod.fst h;have h2:=congrArg Prod.snd h;simp only[Bool.and_eq_true]at h2;obtain⟨⟨e1,e2⟩,e3⟩:=h2;have h3:=visit_part F (F.length+1) 0 (0,0) (Int.le_refl _) e1;have e4:=of_decide_eq_true e2;have hi:i<F.length:=(List.getElem?_eq_some_iff.1 hg).1;have:=h3.2.2.2.2 i g hg (by show(0:Int)≤_;omega) (by rw[e4];omega);rw[e4,h1]at this;exact this
def blv (l:List Bool):List Value:=l.map Value.bool
structure Bools (W:World) (B:Nat) (A:Option Addr) (l:List Bool):Prop where
 some_:l≠[]→∃ad,A=some ad∧ad.block<B∧Run W ad (blv l)
theorem make_bools (n:Nat) (hn:n≤1000000):∀w,(Instr.makeSlice 134 (.int .i64 (n:Int)) (.int .i64 (n:Int))).run prog w=.ok (.slice (some ⟨w.heap.size,0,none⟩) n n) (w.alloc (.cells (List.replicate n (.bool false)).toArray 4)) :=
 run_make_cells 134 4 underlying134 (.bool false) rfl 1 kr n om om
def Valid (F:List Gt) (L:List Bool):Prop:=∀(i:Nat) g,F[i]? =some g→GOk F.length 0 L.length i g
def TruRel (w:World) (gf go:Nat) (A:Option Addr) (c:Nat) (F:List Gt) (L:List Bool) (i:Value) (W:World):Prop :=
 ∃(k:Nat) (out:List Bool),k≤F.length∧i=.int .i64 ((k:Int)-1)∧out.length=F.length∧Kp w [(go,4,blv out),(gf,44,[.slice A F.length c])] W∧Hid (zbc F L k out=truthP F L)
def CntRel (out:List Bool) (ks:List Int) (n i:Value):Prop:=∃j:Nat,j≤ks.length∧i=.int .i64 (j:Int)∧n=.int .i64 (cntK out (ks.take j))
theorem truth_any (A LA:Option Addr) (c lc:Nat) (F:List Gt) (L:List Bool) (hF:F.length≤512) (hK:∀g∈F,g.kids.length≤1000000) (hV:Valid F L) (w:World) (hG:Gates w w.heap.size A F) (hL:Bools w w.heap.size LA L) (pg:L.length≤1000000) (aT:F≠[]) :
 Calls prog 129 #[.agg #[.slice A F.length c],.slice LA L.length lc] w fun e w'=>(∃g,e=.returned (.slice (some ⟨g,0,none⟩) F.length F.length)∧Blk w' g 4 (blv (truthP F L))∧w.heap.size≤g)∧Below w.heap.size w w':=by
 have bq:0<F.length:=by
  rcases Nat.eq_zero_or_pos F.length with h|h
  ·exact absurd (List.eq_nil_of_length_eq_zero h) aT
  ·exact h
 have sT:=make_bools F.length om;have ar:Kp w [(w.heap.size+1,4,blv (List.replicate F.length false)),(w.heap.size,44,[.slice A F.length c])] ((w.alloc (.cells #[.slice A F.length c] 44)).alloc (.cells (Array.replicate F.length (.bool false)) 4)):=by
  have:=((Kp.start w).new 44 [.slice A F.length c]).new 4 (blv (List.replicate F.length false));simpa[blv]using this
 go_enter func129,ntmps129;go_upto_region 4 with fail;generalize (w.alloc (.cells #[.slice A F.length c] 44)).alloc (.cells (Array.replicate F.length (.bool false)) 4)=W1 at *;have hD:w.heap.size≤w.heap.size∧w.heap.size<w.heap.size+1:=om;generalize w.heap.size+1=go at *;have b0:=(ar.at_ 1 rfl).cell 0;simp only[List.getElem?_cons_zero]at b0;go_upto_region 5 with fail;clear b0 sT;go_loopw [6] (TruRel w w.heap.size go A c F L) (fun i _=>(intOf i+1).toNat);case atStart=>exact⟨F.length,_,Nat.le_refl _,rfl,by simp,ar,hid rfl⟩
 case round =>
  obtain⟨k',out,mg,rfl,mR,hS,HR⟩:=hrel;clear ar;cases k' with
  | zero =>
    have HT:Hid (out=truthP F L):=HR.out;clear HR;go_wp2_with fail;go_ret;exact⟨⟨go,rfl,HT.out▸hS.at_ 0 rfl,by omega⟩,hS.below⟩
  | succ k =>
    have e0:(((k+1:Nat):Int)-1)=(k:Int):=om;rw[e0];have an:k<F.length:=om;obtain⟨g,hg⟩:∃g,F[k]? =some g:=⟨_,List.getElem?_eq_getElem an⟩;have bk:g.kids.length≤1000000:=hK g (List.mem_of_getElem? hg);have cI:=hV k g hg;obtain⟨ad,hA,dt,dK⟩:=hG.some_ aT;subst hA;obtain⟨KA,kc,gk',gi⟩:=(dK k g hg).kids;have ga:=(dK k g hg).keep hS.below (Nat.le_refl _) (by rw[za2];exact dt);have gk:wr.cell? ⟨(ad.add (k*3)).block,(ad.add (k*3)).off+1,none⟩=some (.slice KA g.kids.length kc):=by
     rw[hS.below.cell (p:=⟨(ad.add (k*3)).block,(ad.add (k*3)).off+1,none⟩) zyy];exact gk'
    have rf:=ga.need;have gl:=ga.leaf;clear gk' ga;have b0:=(hS.at_ 1 rfl).cell 0;simp only[List.getElem?_cons_zero]at b0;go_upto_region 8 with fail;have ah:=hS.new 256 [.int .i64 g.need,.slice KA g.kids.length kc,.int .i64 g.leaf];have tj:go<wr.heap.size:=(hS.at_ 0 rfl).lt;have aj:Kp w [(wr.heap.size,256,[.int .i64 g.need,.slice KA g.kids.length kc,.int .i64 g.leaf]),(go,4,blv out),(w.heap.size,44,[.slice (some ad) F.length c])] (wr.alloc (.cells #[.int .i64 g.need,.slice KA g.kids.length kc,.int .i64 g.leaf] 256)):=ah;clear ah b0 rf gl gk hS;generalize wr.alloc (.cells #[.int .i64 g.need,.slice KA g.kids.length kc,.int .i64 g.leaf] 256)=W2 at *;generalize wr.heap.size=g7 at *;obtain⟨b0,b1,b2⟩:=(aj.at_ 0 rfl).get3;have HT:Hid (zbc F L k (out.set k (zbh L out g))=truthP F L):=by
     refine hid ?_;have h9:=HR.out;rw[zbc,truthStep,hg]at h9;exact h9
    clear HR;have cH:Kp w [(go,4,blv out),(w.heap.size,44,[.slice (some ad) F.length c])] W2:=aj.sub (by intro x hx;exact List.mem_cons_of_mem _ hx);have ot:∀v:Bool,Kp w [(go,4,blv (out.set k v)),(w.heap.size,44,[.slice (some ad) F.length c])] (W2.setCell ⟨go,k,none⟩ (.bool v)):=fun v=>by
     have h9:=cH.setHead om (by intro x hx;simp at hx;subst hx;simp;omega) k (.bool v);rw[show(blv out).set k (.bool v)=blv (out.set k v)from by simp[blv,List.map_set]]at h9;exact h9
    have HS:=hid ot;clear ot cH;have fo:=(aj.at_ 1 rfl).frozen k;obtain⟨o,ho⟩:∃o,W2.cell? ⟨go,k,none⟩=some o:=⟨_,by rw[(aj.at_ 1 rfl).cell k];exact List.getElem?_eq_getElem (by simp[blv];omega)⟩;by_cases dz:g.kids=[]
    ·have iF:((g.kids.length:Int)==0)=true:=by rw[dz];rfl
     obtain⟨l1,l2,l3⟩:=cI.1 dz;obtain⟨j,hj⟩:=Int.eq_ofNat_of_zero_le l2;have aW:j<L.length:=om;obtain⟨la,mr,sA,hlr⟩:=hL.some_ (by rintro rfl;simp at aW);subst mr;obtain⟨bv,lW⟩:∃bv,L[j]? =some bv:=⟨_,List.getElem?_eq_getElem aW⟩;have cl:W2.cell? (la.add j)=some (.bool bv):=by
      rw[aj.below.cell (p:=la.add j) (by rw[za2];exact sA)];exact hlr j _ (by rw[blv,List.getElem?_map,lW];rfl)
     have HA:Hid (zbh L out g=bv):=by
      refine hid ?_;rw[zbh,if_pos dz,hj,Int.toNat_natCast,List.getD_eq_getElem?_getD,lW];rfl
     rw[hj]at b2;clear dz cI l1 l2 l3 hj lW hlr hL hV hG hK dK gi;go_wp2_with fail;go_roundw;case rel=>exact⟨k,_,by omega,rfl,by simp[mR],HS.out bv,hid (by rw[←HT.out,HA.out])⟩
     case measure=>simp[intOf]
    ·have iF:((g.kids.length:Int)==0)=false:=by
      rw[beq_eq_false_iff_ne];intro h9;exact dz (List.eq_nil_of_length_eq_zero om)
     have HA:Hid (zbh L out g=decide (g.need≤cntK out g.kids)):=by
      refine hid ?_;rw[zbh,if_neg dz]
     have vT:=cI.2.2;have HB:=hid aj;obtain⟨ka,cM,ej,cJ⟩:=gi.some_ dz;subst cM;clear dz cI hL hV hG hK dK gi;go_upto_region 12 with fail;go_loop [8,47] (CntRel out g.kids) (fun _ i=>g.kids.length-(intOf i).toNat);case atStart=>exact⟨0,Nat.zero_le _,rfl,rfl⟩
     case round =>
      obtain⟨j,hj,rfl,rfl⟩:=hrel;have nB:=cntK_bd out (g.kids.take j);have qN:(g.kids.take j).length≤1000000:=by rw[List.length_take];omega
      by_cases aW:j<g.kids.length
      ·obtain⟨x,hx⟩:∃x,g.kids[j]? =some x:=⟨_,List.getElem?_eq_getElem aW⟩;have hxm:=vT x (List.mem_of_getElem? hx);obtain⟨y,rfl⟩:=Int.eq_ofNat_of_zero_le (show 0≤x by omega);have hyl:y<F.length:=om;have cx:W2.cell? (ka.add j)=some (.int .i64 (y:Int)):=by
        rw[aj.below.cell (p:=ka.add j) (by rw[za2];exact ej)];exact cJ j _ zuj
       obtain⟨bv,lW⟩:∃bv,out[y]? =some bv:=⟨_,List.getElem?_eq_getElem om⟩;have co:W2.cell? ⟨go,y,none⟩=some (.bool bv):=by
        rw[(aj.at_ 1 rfl).cell y,blv,List.getElem?_map,lW];rfl
       have HN:Hid (cntK out (g.kids.take (j+1))=cntK out (g.kids.take j)+if bv then 1 else 0):=by
        refine hid ?_;rw[List.take_add_one,hx];show cntK out (g.kids.take j++[(y:Int)])=_;rw[cntK_append,Int.toNat_natCast,List.getD_eq_getElem?_getD,lW];rfl
       clear hx lW vT cJ hxm HA HT HS;cases bv with
       | true =>
         exact zt63
       | false =>
         exact zt63
      ·have bX:j=g.kids.length:=om;have HN:Hid (cntK out (g.kids.take j)=cntK out g.kids):=by
        refine hid ?_;rw[bX,List.take_length]
       rw[HN.out];clear HN bX vT cJ nB;go_wp2_with fail;go_roundw;case rel=>exact⟨k,_,by omega,rfl,by simp[mR],HS.out _,hid (by rw[←HT.out,HA.out])⟩
       case measure=>simp[intOf]
theorem Bools.up {W W':World} {A:Option Addr} {l:List Bool} (h:Bools W W.heap.size A l) (hb:Below W.heap.size W W'):Bools W' W'.heap.size A l:=⟨fun hl=>by
 obtain⟨ad,h1,h2,h3⟩:=h.some_ hl;have:=hb.size;exact⟨ad,h1,by omega,h3.keep hb h2⟩⟩
theorem check_valid {F:List Gt} {L:List Bool} (h:checkP F L.length=0):Valid F L∧F.length≤512:=by
 unfold checkP at h;by_cases h1:512<F.length∨(L.length:Int)<0∨256<(L.length:Int)
 ·rw[if_pos h1]at h;cases h
 ·rw[if_neg h1]at h;by_cases h2:(leavesP F).2=false
  ·rw[if_pos h2]at h;cases h
  ·rw[if_neg h2]at h;by_cases h3:(leavesP F).1≠L.length
   ·rw[if_pos h3]at h;cases h
   ·have e:leavesP F=((L.length:Int),true):=by
     apply Prod.ext
     ·exact Classical.byContradiction fun h9=>h3 h9
     ·simpa using h2
    exact⟨valid_gates e,by omega⟩
def truthL (F:List Gt) (L:List Bool):List Bool:=if checkP F L.length=0 then truthP F L else[]
def SliceOut (er:Int) (l:List Bool) (e:Ending) (w':World):Prop:=∃A c,e=.returned (.tuple #[.slice A l.length c,.int .i64 er])∧Bools w' w'.heap.size A l
theorem Blk.bools {W:World} {g:Nat} {l:List Bool} (h:Blk W g 4 (blv l)):Bools W W.heap.size (some ⟨g,0,none⟩) l :=
 ⟨fun _=>⟨_,rfl,h.lt,fun i v hv=>by
  have:=h.cell i;have e:(⟨g,0,none⟩:Addr).add i=⟨g,i,none⟩:=by unfold Addr.add;split<;>simp_all
  rw[e,this];exact hv⟩⟩
theorem truth_nil (A LA:Option Addr) (c lc n:Nat) (w:World) :
 Calls prog 129 #[.agg #[.slice A 0 c],.slice LA n lc] w fun e w'=>e=.returned (.slice none 0 0)∧Below w.heap.size w w':=by
 have hb:Below w.heap.size w (w.alloc (.cells #[.slice A 0 c] 44)):=(Below.refl _ _).alloc (Nat.le_refl _) _;go_enter func129,ntmps129;go_wp2_with fail;refine wp_loop_rounds 1 ?_;rw[rounds_succ];go_wp2_with fail;go_ret;exact zvl
theorem Truth_any (A LA:Option Addr) (c lc:Nat) (F:List Gt) (L:List Bool) (hF:F.length≤1000000) (hK:∀g∈F,g.kids.length≤1000000) (w:World) (hG:Gates w w.heap.size A F) (hL:Bools w w.heap.size LA L) (pg:L.length≤1000000) :
 Calls prog 60 #[.agg #[.slice A F.length c],.slice LA L.length lc] w fun e w'=>SliceOut (checkP F L.length) (truthL F L) e w'∧Below w.heap.size w w':=by
 have hk:=(Kp.start w).new 44 [.slice A F.length c];have HC:=hid (check_any A c F L.length hF hK (w.alloc (.cells #[.slice A F.length c] 44)) (hG.keep' hk.below));by_cases h0:checkP F L.length=0
 ·obtain⟨hV,px⟩:=check_valid h0;have HT:Hid (truthL F L=truthP F L):=by refine hid ?_;rw[truthL,if_pos h0]
  rw[h0]at HC;have H0:=hid h0;clear h0;go_enter func60,ntmps60;go_wp2_with fail;refine HC.out.mono ?_;rintro e w1 ⟨rfl,aC⟩;have an:=hk.next aC;have b0:=(an.at_ 0 rfl).cell 0;simp only[List.getElem?_cons_zero]at b0;go_wp2_with fail;by_cases hz:F=[]
  ·subst hz;refine(truth_nil A LA c lc L.length w1).mono ?_;rintro e w2 ⟨rfl,aG⟩;go_wp2_with fail;go_ret2;rw[H0.out,HT.out];exact⟨⟨none,0,rfl,⟨fun h9=>absurd rfl h9⟩⟩,(an.next aG).below⟩
  ·refine(truth_any A LA c lc F L px hK hV w1 (hG.keep' an.below) (hL.up an.below) pg hz).mono ?_;rintro e w2 ⟨⟨g,rfl,hg,_⟩,aG⟩;go_wp2_with fail;go_ret2;rw[H0.out,HT.out];exact⟨⟨_,F.length,by rw[truthP_length];rfl,Blk.bools hg⟩,(an.next aG).below⟩
 ·have HT:Hid (truthL F L=[]):=by refine hid ?_;rw[truthL,if_neg h0]
  have t1:(checkP F L.length != 0)=true:=by simpa using h0
  go_enter func60,ntmps60;go_wp2_with fail;refine HC.out.mono ?_;rintro e w1 ⟨rfl,aC⟩;have an:=hk.next aC;go_wp2_with fail;go_ret2;rw[HT.out];exact⟨⟨none,0,rfl,⟨fun h9=>absurd rfl h9⟩⟩,an.below⟩
end Fm
end Go.Proofs.YtekkapgknohadaaGreatDoor
