/- normal: numbers. Its drawn region is printed by mktr.py. -/
import Derived.Test.YtekkapgknohadaaGreatDoorM22
set_option linter.unusedVariables false
set_option maxRecDepth 20000
set_option maxHeartbeats 16000000
open Go.Proofs.Tryz
namespace Go.Proofs.YtekkapgknohadaaGreatDoor
namespace Nf
open Go.RowKit Go.Shelf
open Lib (hid)
open Pa (F Nd)
def numK (how:Int) (a b:Nd) (x y:Fd):F:=if how=4∨how=5 then numB (mirr how) b a y x else numB how a b x y
theorem numK_of {S:List Sm} {U:List Bp} {a b:Nk} {x y:Fd} (ha:findS S U a.name a.attr=some x) (hb:findS S U b.name b.attr=some y) (how:Int):numbers (lookS S U) how (ndOf a) (ndOf b)=numK how (ndOf a) (ndOf b) x y:=by
 unfold numbers numK;rw[fdOf_nd ha,fdOf_nd hb]
theorem key21 {W:World} {g x y:Nat} {s t u:TypeId} {a0 a1 a2 a3 a4 a5 a6 a7 a8 b0 b1 b2 b3 b4 b5 c0 c1 c2 c3 c4 c5:Value} (h1:Blk W g s [a0,a1,a2,a3,a4,a5,a6,a7,a8]) (h2:Blk W x t [b0,b1,b2,b3,b4,b5]) (h3:Blk W y u [c0,c1,c2,c3,c4,c5]) :
 W.cell? ⟨g,0,none⟩=some a0∧W.cell? ⟨g,1,none⟩=some a1∧W.cell? ⟨g,2,none⟩=some a2∧W.cell? ⟨g,3,none⟩=some a3∧W.cell? ⟨g,4,none⟩=some a4∧W.cell? ⟨g,5,none⟩=some a5∧W.cell? ⟨g,6,none⟩=some a6∧W.cell? ⟨g,7,none⟩=some a7∧W.cell? ⟨g,8,none⟩=some a8∧W.cell? ⟨x,0,none⟩=some b0∧W.cell? ⟨x,1,none⟩=some b1∧W.cell? ⟨x,2,none⟩=some b2∧W.cell? ⟨x,3,none⟩=some b3∧W.cell? ⟨x,4,none⟩=some b4∧W.cell? ⟨x,5,none⟩=some b5∧W.cell? ⟨y,0,none⟩=some c0∧W.cell? ⟨y,1,none⟩=some c1∧W.cell? ⟨y,2,none⟩=some c2∧W.cell? ⟨y,3,none⟩=some c3∧W.cell? ⟨y,4,none⟩=some c4∧W.cell? ⟨y,5,none⟩=some c5:=by
 obtain⟨x0,x1,x2,x3,x4,x5,x6,x7,x8⟩:=blk9 h1;obtain⟨y0,y1,y2,y3,y4,y5⟩:=Blk.get6 h2;obtain⟨z0,z1,z2,z3,z4,z5⟩:=Blk.get6 h3;exact⟨x0,x1,x2,x3,x4,x5,x6,x7,x8,y0,y1,y2,y3,y4,y5,z0,z1,z2,z3,z4,z5⟩
theorem mirror_same (h:Int) (h0:0≤h) (h5:h≤5) (w:World):Calls prog 157 #[.int .i64 h] w fun e w'=>e=.returned (.int .i64 (mirr h))∧w'=w:=by
 have cV:prog.built 230 [(0,.int .i64 0),(1,.int .i64 1),(2,.int .i64 4),(3,.int .i64 5),(4,.int .i64 2),(5,.int .i64 3)]=some #[.int .i64 0,.int .i64 1,.int .i64 4,.int .i64 5,.int .i64 2,.int .i64 3]:=kr;have bZ:∀w,(Instr.index 230 (.agg #[.int .i64 0,.int .i64 1,.int .i64 4,.int .i64 5,.int .i64 2,.int .i64 3]) (.int .i64 h)).run prog w=.ok (.int .i64 (mirr h)) w:=by
  exact zt42
 generalize mirr h=r at *;clear h0 h5;go_enter func157,ntmps157;go_wp2_with fail;go_ret;exact zv6
structure NumC (S:List Sm) (U:List Bp) (G:F) (how:Int) (a b:Nk) (x y:Fd):Prop where
 lo:0≤how
 hi:how≤3
 a0:0≤a.kind
 b0:0≤b.kind
 fa:findS S U a.name a.attr=some x
 fb:findS S U b.name b.attr=some y
 eq:G=numB how (ndOf a) (ndOf b) x y
theorem numbers_any {d:Po} {L:Lp} {A:Option Addr} {c:Nat} {S:List Sm} {w0:World} (E:Env w0 d L A c S) (hR:zah chkB S d=true) (how:Int) (hh:0≤how) (fM:how≤5) (a b:Nk) (iT:0≤a.kind) (cW:0≤b.kind) (KA KB:Option Addr) (ka kb:Nat) (fa fb:Fd) (fT:findS S d.uses a.name a.attr=some fa) (eb:findS S d.uses b.name b.attr=some fb) (w:World) (h0:Below w0.heap.size w0 w) (B:Nat) (bM:B≤w.heap.size) :
 Calls prog 161 #[fitV d L A S.length c,.int .i64 how,nkV a KA ka,nkV b KB kb] w fun e w'=>(∃v,e=.returned v∧CvM B w' (numbers (lookS S d.uses) how (ndOf a) (ndOf b)) [v])∧Below w.heap.size w w':=by
 rw[numK_of fT eb];obtain⟨G,hG⟩:∃G,numK how (ndOf a) (ndOf b) fa fb=G:=⟨_,rfl⟩;rw[hG];have HG:=hid hG;clear hG;have mM:=hid fT;have lL:=hid eb;have HE:=hid E;have HR:=hid hR;have lD:=hid (And.intro iT cW);have HH:=hid (And.intro hh fM);have hk:=(((Hp.start w).new 93 (fitC d L A S.length c)).new 68 (nkcs a KA ka)).new 68 (nkcs b KB kb);obtain⟨g,hg⟩:∃g,w.heap.size=g:=⟨_,rfl⟩;simp only[sizeA,hg]at hk;obtain⟨qx,hq⟩:∃f,g+1=f:=⟨_,rfl⟩;obtain⟨qy,oj⟩:∃f,qx+1=f:=⟨_,rfl⟩;have HM:=hid (mirror_same how hh fM);clear fT eb E hR iT cW;go_enter func161,ntmps161;go_upto_region 1 with fail;simp only[hq,oj]at hk ⊢;generalize hW:((w.alloc (.cells #[.string d.name,.slice L.ua d.uses.length L.uc,.slice L.ra d.reveal.length L.rc,.slice L.na d.nodes.length L.nc,.int .i64 d.root,.string d.scope,.int .i64 d.limit,.string d.escrow,.slice A S.length c] 93)).alloc (.cells #[.int .i64 a.kind,.int .i64 a.num,.string a.name,.string a.attr,.slice KA a.kids.length ka,.int .i64 a.at_] 68)).alloc (.cells #[.int .i64 b.kind,.int .i64 b.num,.string b.name,.string b.attr,.slice KB b.kids.length kb,.int .i64 b.at_] 68)=W1 at *;have ar:Hp [] w [iblk qy 68 (nkcs b KB kb),iblk qx 68 (nkcs a KA ka),iblk g 93 (fitC d L A S.length c)] W1:=hk;clear hk hW hq oj hh fM;go_cut [20] (fun p9 wx=>p9=.bool (decide (how=4∨how=5))∧wx=W1);case first =>
  clear ar;by_cases h4:how=4
  ·have oQ:(how==4)=true:=by simpa using h4
   have HX:Hid (decide (how=4∨how=5)=true):=hid (decide_eq_true (.inl h4));clear h4;go_wp2_with fail;go_meet;exact zvm
  ·have oQ:(how==4)=false:=by simpa using h4
   by_cases h5:how=5
   ·have nF:(how==5)=true:=by simpa using h5
    have HX:Hid (decide (how=4∨how=5)=true):=hid (decide_eq_true (.inr h5));clear h4 h5;go_wp2_with fail;go_meet;exact zvm
   ·have nF:(how==5)=false:=by simpa using h5
    have HX:Hid (decide (how=4∨how=5)=false):=hid (decide_eq_false (fun e=>e.elim h4 h5));clear h4 h5;go_wp2_with fail;go_meet;exact zvm
 case rest =>
 obtain⟨rfl,rfl⟩:=hcut;obtain⟨SW,gW⟩:∃b,decide (how=4∨how=5)=b:=⟨_,rfl⟩;rw[gW];go_upto_if 20 with fail;go_cut [1] (fun s1 wx=>∃(ji:Int) (a' b':Nk) (KA' KB':Option Addr) (ka' kb':Nat) (x y:Fd),s1=.int .i64 ji∧Hid (NumC S d.uses G ji a' b' x y)∧Hp [] w [iblk qy 68 (nkcs b' KB' kb'),iblk qx 68 (nkcs a' KA' ka'),iblk g 93 (fitC d L A S.length c)] wx);case first =>
  cases SW with
  | true =>
    have iv:=of_decide_eq_true gW;have HC:Hid (NumC S d.uses G (mirr how) b a fb fa):=hid ⟨by rcases iv with rfl|rfl<;>decide,by rcases iv with rfl|rfl<;>decide,lD.out.2,lD.out.1,lL.out,mM.out,by rw[←HG.out];unfold numK;rw[if_pos iv]⟩;obtain⟨d0,d1,d2,d3,d4,d5⟩:=Blk.get6 (ar.blk 1 rfl);obtain⟨e0,e1,e2,e3,e4,e5⟩:=Blk.get6 (ar.blk 0 rfl);generalize mirr how=hm at *;clear iv gW;go_upto_region 2 with fail;go_still_tail 4,kr
    still_call (HM.out _)
    repeat still_step
    try refine wpStill_nil ?_
    change wpList _ _ _ _ _ (World.drew _);have cf:=ar.drew;refine wpList_store_row rfl 68 (.tmp 6) (.tmp 21) rfl qx (nkcs b KB kb).toArray rfl rfl 68 (nkcs a KA ka).toArray (cf.blk 1 rfl) kr kr kr ?_;have an:=cf.rowAt 1 rfl (nkcs b KB kb);refine wpList_store_row rfl 68 (.tmp 7) (.tmp 22) rfl qy (nkcs a KA ka).toArray rfl rfl 68 (nkcs b KB kb).toArray (an.blk 0 rfl) kr kr kr ?_;have ah:=an.rowAt 0 rfl (nkcs a KA ka);clear d0 d1 d2 d3 d4 d5 e0 e1 e2 e3 e4 e5;go_wp2_with fail;go_meet;exact⟨hm,b,a,KB,KA,kb,ka,fb,fa,rfl,HC,ah⟩
  | false =>
    have iv:¬(how=4∨how=5):=of_decide_eq_false gW;have HC:Hid (NumC S d.uses G how a b fa fb):=hid ⟨HH.out.1,by have:=HH.out;omega,lD.out.1,lD.out.2,mM.out,lL.out,by rw[←HG.out];unfold numK;rw[if_neg iv]⟩;clear iv HM gW;go_wp2_with fail;go_meet;exact⟨how,a,b,KA,KB,ka,kb,fa,fb,rfl,HC,ar⟩
 case rest =>
  clear gW ar HG mM lL lD HH HM;obtain⟨how,a,b,KA,KB,ka,kb,fa,fb,rfl,HC,ar⟩:=hcut;have o5:=hid (fun W hW=>zck HE.out HR.out a KA ka fa HC.out.fa (by have:=(fdB_of HR.out HC.out.fa).wl;omega) W hW);have gF:=hid (fun W hW=>zck HE.out HR.out b KB kb fb HC.out.fb (by have:=(fdB_of HR.out HC.out.fb).wl;omega) W hW);have mj:=fdB_of HR.out HC.out.fa;have lI:=fdB_of HR.out HC.out.fb;have jF:IntKind.i64.wrap (fa.min-fb.max)=fa.min-fb.max:=IntWalk.i64_in _ zu3;have fq:IntKind.i64.wrap (fa.max-fb.min)=fa.max-fb.min:=IntWalk.i64_in _ zu3;clear mj lI HE HR;go_upto_region 3 with fail;go_cut [9,10] (fun s9 fu wx=>∃(ga gb:Nat) (CA:Option Addr) (cc:Nat) (CB:Option Addr) (cd:Nat),s9=.pointer (some ⟨ga,0,none⟩)∧fu=.pointer (some ⟨gb,0,none⟩)∧Hp [] w [iblk gb 57 (fcs fb CB cd),iblk ga 57 (fcs fa CA cc),iblk qy 68 (nkcs b KB kb),iblk qx 68 (nkcs a KA ka),iblk g 93 (fitC d L A S.length c)] wx);case first =>
   have hkU:=ar;replace ar:=ar.drew;refine wp_region_held_drew (S:=(fun w'=>w'.cell? ⟨g,0,none⟩=some (.string d.name)∧w'.cell? ⟨g,1,none⟩=some (.slice L.ua d.uses.length L.uc)∧w'.cell? ⟨g,2,none⟩=some (.slice L.ra d.reveal.length L.rc)∧w'.cell? ⟨g,3,none⟩=some (.slice L.na d.nodes.length L.nc)∧w'.cell? ⟨g,4,none⟩=some (.int .i64 d.root)∧w'.cell? ⟨g,5,none⟩=some (.string d.scope)∧w'.cell? ⟨g,6,none⟩=some (.int .i64 d.limit)∧w'.cell? ⟨g,7,none⟩=some (.string d.escrow)∧w'.cell? ⟨g,8,none⟩=some (.slice A S.length c)∧w'.cell? ⟨qx,0,none⟩=some (.int .i64 a.kind)∧w'.cell? ⟨qx,1,none⟩=some (.int .i64 a.num)∧w'.cell? ⟨qx,2,none⟩=some (.string a.name)∧w'.cell? ⟨qx,3,none⟩=some (.string a.attr)∧w'.cell? ⟨qx,4,none⟩=some (.slice KA a.kids.length ka)∧w'.cell? ⟨qx,5,none⟩=some (.int .i64 a.at_)∧w'.cell? ⟨qy,0,none⟩=some (.int .i64 b.kind)∧w'.cell? ⟨qy,1,none⟩=some (.int .i64 b.num)∧w'.cell? ⟨qy,2,none⟩=some (.string b.name)∧w'.cell? ⟨qy,3,none⟩=some (.string b.attr)∧w'.cell? ⟨qy,4,none⟩=some (.slice KB b.kids.length kb)∧w'.cell? ⟨qy,5,none⟩=some (.int .i64 b.at_))) kr ?_ (fun ae=>?_)
   ·exact key21 (ar.blk 2 rfl) (ar.blk 1 rfl) (ar.blk 0 rfl)
   refine tkW 0 (v:=?_) rfl (Or.inl ⟨by rfl,?_⟩) ?_;rotate_left
   ·(intro w bf;(try dsimp only at bf);(obtain⟨q0,q1,q2,q3,q4,q5,q6,q7,q8,q9,tB,tP,vX,wP,tp,wM,tz,vK,uB,wT,uT⟩:=bf);go_simp;(try with_reducible rfl))
   refine zvr ?_;refine tkW 1 (v:=?_) rfl (Or.inl ⟨by rfl,?_⟩) ?_;rotate_left
   ·(intro w bf;(try dsimp only at bf);(obtain⟨q0,q1,q2,q3,q4,q5,q6,q7,q8,q9,tB,tP,vX,wP,tp,wM,tz,vK,uB,wT,uT⟩:=bf);go_simp;(try with_reducible rfl))
   refine zvq ?_;refine tkW 3 (v:=?_) rfl (Or.inl ⟨by rfl,?_⟩) ?_;rotate_left
   ·(intro w bf;(try dsimp only at bf);(obtain⟨q0,q1,q2,q3,q4,q5,q6,q7,q8,q9,tB,tP,vX,wP,tp,wM,tz,vK,uB,wT,uT⟩:=bf);go_simp;(try with_reducible rfl))
   refine zvq ?_;refine tkW 4 (v:=?_) rfl (Or.inl ⟨by rfl,?_⟩) ?_;rotate_left
   ·(intro w bf;(try dsimp only at bf);(obtain⟨q0,q1,q2,q3,q4,q5,q6,q7,q8,q9,tB,tP,vX,wP,tp,wM,tz,vK,uB,wT,uT⟩:=bf);go_simp;(try with_reducible rfl))
   refine zvq ?_;refine tkR [2,6,7] ?_;refine AllReadyH.cons rfl (fun K hK=>?_) ?_
   ·go_simp;refine(o5.out _ (h0.trans (ar.below0.mono h0.size))).mono ?_;rintro e w2 ⟨⟨CA,cc,rfl⟩,aG⟩;have an:=ar.next aG;clear aG;refine hK.out _ _ (key21 ((an.blk 2 rfl)) (an.blk 1 rfl) (an.blk 0 rfl)) fun ae=>?_;clear hK K;refine tkR [5,6,7] ?_;refine AllReadyH.cons rfl (fun K hK=>?_) ?_
    ·go_simp;refine(gF.out _ (h0.trans (an.below0.mono h0.size))).mono ?_;rintro e w3 ⟨⟨CB,cd,rfl⟩,aJ⟩;have ah:=an.next aJ;clear aJ;refine hK.out _ _ (key21 ((ah.blk 2 rfl)) (ah.blk 1 rfl) (ah.blk 0 rfl)) fun ae=>?_;clear hK K;refine tkR [6,7] ?_;refine AllReadyH.cons rfl (fun K hK=>?_) ?_
     ·go_simp;have aj:Hp [] w (iblk w3.heap.size 57 zFl::[iblk qy 68 (nkcs b KB kb),iblk qx 68 (nkcs a KA ka),iblk g 93 (fitC d L A S.length c)]) (w3.alloc (.cells #[.string ⟨#[]⟩,.int .i64 0,.int .i64 0,.int .i64 0,.slice none 0 0] 57)):=ah.new 57 zFl;generalize w3.alloc (.cells #[.string ⟨#[]⟩,.int .i64 0,.int .i64 0,.int .i64 0,.slice none 0 0] 57)=w4 at *;generalize w3.heap.size=ga at *;exact zt95
     refine AllReadyH.cons rfl (fun K hK=>?_) ?_
     ·go_simp;have aj:Hp [] w (iblk w3.heap.size 57 zFl::[iblk qy 68 (nkcs b KB kb),iblk qx 68 (nkcs a KA ka),iblk g 93 (fitC d L A S.length c)]) (w3.alloc (.cells #[.string ⟨#[]⟩,.int .i64 0,.int .i64 0,.int .i64 0,.slice none 0 0] 57)):=ah.new 57 zFl;generalize w3.alloc (.cells #[.string ⟨#[]⟩,.int .i64 0,.int .i64 0,.int .i64 0,.slice none 0 0] 57)=w4 at *;generalize w3.heap.size=gb at *;exact zt96
     exact zv9
    refine AllReadyH.cons rfl (fun K hK=>?_) ?_
    ·go_simp;have ah:Hp [] w (iblk w2.heap.size 57 zFl::[iblk qy 68 (nkcs b KB kb),iblk qx 68 (nkcs a KA ka),iblk g 93 (fitC d L A S.length c)]) (w2.alloc (.cells #[.string ⟨#[]⟩,.int .i64 0,.int .i64 0,.int .i64 0,.slice none 0 0] 57)):=an.new 57 zFl;generalize w2.alloc (.cells #[.string ⟨#[]⟩,.int .i64 0,.int .i64 0,.int .i64 0,.slice none 0 0] 57)=w3 at *;generalize w2.heap.size=ga at *;exact zt88
    refine AllReadyH.cons rfl (fun K hK=>?_) ?_
    ·go_simp;have ah:Hp [] w (iblk w2.heap.size 57 zFl::[iblk qy 68 (nkcs b KB kb),iblk qx 68 (nkcs a KA ka),iblk g 93 (fitC d L A S.length c)]) (w2.alloc (.cells #[.string ⟨#[]⟩,.int .i64 0,.int .i64 0,.int .i64 0,.slice none 0 0] 57)):=an.new 57 zFl;generalize w2.alloc (.cells #[.string ⟨#[]⟩,.int .i64 0,.int .i64 0,.int .i64 0,.slice none 0 0] 57)=w3 at *;generalize w2.heap.size=gb at *;exact zt89
    exact zv9
   refine AllReadyH.cons rfl (fun K hK=>?_) ?_
   ·go_simp;have an:Hp [] w (iblk wc.heap.size 57 zFl::[iblk qy 68 (nkcs b KB kb),iblk qx 68 (nkcs a KA ka),iblk g 93 (fitC d L A S.length c)]) (wc.alloc (.cells #[.string ⟨#[]⟩,.int .i64 0,.int .i64 0,.int .i64 0,.slice none 0 0] 57)).drew:=(hkU.new 57 zFl).drew;generalize (wc.alloc (.cells #[.string ⟨#[]⟩,.int .i64 0,.int .i64 0,.int .i64 0,.slice none 0 0] 57)).drew=w2 at *;generalize wc.heap.size=ga at *;refine hK.out _ _ (key21 ((an.blk 3 rfl)) (an.blk 2 rfl) (an.blk 1 rfl)) fun ae=>?_;clear hK K;refine tkR [2,7] ?_;refine AllReadyH.cons rfl (fun K hK=>?_) ?_
    ·go_simp;refine(o5.out _ (h0.trans (an.below0.mono h0.size))).mono ?_;rintro e w3 ⟨⟨CA,cc,rfl⟩,aJ⟩;have ah:=an.next aJ;clear aJ;exact zt88
    refine AllReadyH.cons rfl (fun K hK=>?_) ?_
    ·go_simp;have ah:Hp [] w (iblk w2.heap.size 57 zFl::[iblk ga 57 zFl,iblk qy 68 (nkcs b KB kb),iblk qx 68 (nkcs a KA ka),iblk g 93 (fitC d L A S.length c)]) (w2.alloc (.cells #[.string ⟨#[]⟩,.int .i64 0,.int .i64 0,.int .i64 0,.slice none 0 0] 57)):=an.new 57 zFl;generalize w2.alloc (.cells #[.string ⟨#[]⟩,.int .i64 0,.int .i64 0,.int .i64 0,.slice none 0 0] 57)=w3 at *;generalize w2.heap.size=gb at *;refine hK.out _ _ (key21 ((ah.blk 4 rfl)) (ah.blk 3 rfl) (ah.blk 2 rfl)) fun ae=>?_;clear hK K;refine tkO 2 rfl fun K hK=>?_;go_simp;refine(o5.out _ (h0.trans (ah.below0.mono h0.size))).mono ?_;rintro e w4 ⟨⟨CA,cc,rfl⟩,aK⟩;have aj:=ah.next aK;clear aK;exact zt99
    exact zv9
   refine AllReadyH.cons rfl (fun K hK=>?_) ?_
   ·go_simp;have an:Hp [] w (iblk wc.heap.size 57 zFl::[iblk qy 68 (nkcs b KB kb),iblk qx 68 (nkcs a KA ka),iblk g 93 (fitC d L A S.length c)]) (wc.alloc (.cells #[.string ⟨#[]⟩,.int .i64 0,.int .i64 0,.int .i64 0,.slice none 0 0] 57)).drew:=(hkU.new 57 zFl).drew;generalize (wc.alloc (.cells #[.string ⟨#[]⟩,.int .i64 0,.int .i64 0,.int .i64 0,.slice none 0 0] 57)).drew=w2 at *;generalize wc.heap.size=gb at *;refine hK.out _ _ (key21 ((an.blk 3 rfl)) (an.blk 2 rfl) (an.blk 1 rfl)) fun ae=>?_;clear hK K;refine tkR [2,6] ?_;refine AllReadyH.cons rfl (fun K hK=>?_) ?_
    ·go_simp;refine(o5.out _ (h0.trans (an.below0.mono h0.size))).mono ?_;rintro e w3 ⟨⟨CA,cc,rfl⟩,aJ⟩;have ah:=an.next aJ;clear aJ;exact zt89
    refine AllReadyH.cons rfl (fun K hK=>?_) ?_
    ·go_simp;have ah:Hp [] w (iblk w2.heap.size 57 zFl::[iblk gb 57 zFl,iblk qy 68 (nkcs b KB kb),iblk qx 68 (nkcs a KA ka),iblk g 93 (fitC d L A S.length c)]) (w2.alloc (.cells #[.string ⟨#[]⟩,.int .i64 0,.int .i64 0,.int .i64 0,.slice none 0 0] 57)):=an.new 57 zFl;generalize w2.alloc (.cells #[.string ⟨#[]⟩,.int .i64 0,.int .i64 0,.int .i64 0,.slice none 0 0] 57)=w3 at *;generalize w2.heap.size=ga at *;refine hK.out _ _ (key21 ((ah.blk 4 rfl)) (ah.blk 3 rfl) (ah.blk 2 rfl)) fun ae=>?_;clear hK K;refine tkO 2 rfl fun K hK=>?_;go_simp;refine(o5.out _ (h0.trans (ah.below0.mono h0.size))).mono ?_;rintro e w4 ⟨⟨CA,cc,rfl⟩,aK⟩;have aj:=ah.next aK;clear aK;exact zt100
    exact zv9
   exact zv9
  case rest =>
   clear ar o5 gF;obtain⟨ga,gb,CA,cc,CB,cd,rfl,rfl,an⟩:=hcut;obtain⟨f0,f1,f2,f3,f4⟩:=Blk.get5 (an.blk 1 rfl);obtain⟨e0,e1,e2,e3,e4⟩:=Blk.get5 (an.blk 0 rfl);go_upto_region 4 with fail;go_quiet (fail);have ah:=an.drewN nq;clear an f0 f1 f2 f3 f4 e0 e1 e2 e3 e4;generalize wc.drewN nq=W5 at *;obtain⟨lo,fi⟩:∃x,fa.min-fb.max=x:=⟨_,rfl⟩;obtain⟨hi,nH⟩:∃x,fa.max-fb.min=x:=⟨_,rfl⟩;have HQ:Hid (G=if always how lo hi||never how lo hi then tru (always how lo hi)else rel how (ndOf a) (ndOf b)):=hid (by rw[HC.out.eq,←fi,←nH];rfl);simp only[fi,nH];clear fi nH jF fq;rcases(by have:=HC.out.lo;have:=HC.out.hi;omega:how=0∨how=1∨how=2∨how=3)with h|h|h|h;all_goals
    have H:=hid h
    (first|have k0:(how==0)=true:=by simpa using(show how=0 by omega)|have k0:(how==0)=false:=by simpa using(show¬how=0 by omega))
    (first|have k1:(how==1)=true:=by simpa using(show how=1 by omega)|have k1:(how==1)=false:=by simpa using(show¬how=1 by omega))
    (first|have k2:(how==2)=true:=by simpa using(show how=2 by omega)|have k2:(how==2)=false:=by simpa using(show¬how=2 by omega))
    (first|have k3:(how==3)=true:=by simpa using(show how=3 by omega)|have k3:(how==3)=false:=by simpa using(show¬how=3 by omega))
    clear h
   all_goals
   all_goals
    rcases(by omega:lo<0∨lo=0∨0<lo)with h1|h1|h1;all_goals
     rcases(by omega:hi<0∨hi=0∨0<hi)with h2|h2|h2
   all_goals
    (first|have a1:(lo==0)=true:=by simpa using(show lo=0 by omega)|have a1:(lo==0)=false:=by simpa using(show¬lo=0 by omega))
    (first|have a2:(0:Int)<lo:=by omega|have a2:¬(0:Int)<lo:=by omega)
    (first|have a3:(0:Int)≤lo:=by omega|have a3:¬(0:Int)≤lo:=by omega)
    (first|have b1:(hi==0)=true:=by simpa using(show hi=0 by omega)|have b1:(hi==0)=false:=by simpa using(show¬hi=0 by omega))
    (first|have b2:hi<0:=by omega|have b2:¬hi<0:=by omega)
    (first|have b3:hi≤0:=by omega|have b3:¬hi≤0:=by omega)
    have hh:=H.out
    (first|(have hA:always how lo hi=true:=by(rw[hh];simp[always]<;>omega))|(have hA:always how lo hi=false:=by(rw[hh];simp[always]<;>omega)))
    (first|(have hN:never how lo hi=true:=by(rw[hh];simp[never]<;>omega))|(have hN:never how lo hi=false:=by(rw[hh];simp[never]<;>omega)))
    have HA:=hid hA;have HN:=hid hN;clear hh hA hN;clear h1 h2 H;have HT:=hid (fun b W=>za8 b W B);have gY:=hid (fun W hq=>zcd how a b KA KB ka kb HC.out.a0 HC.out.b0 W B hq);obtain⟨d0,d1,d2,d3,d4,d5⟩:=Blk.get6 (ah.blk 3 rfl);obtain⟨e0,e1,e2,e3,e4,e5⟩:=Blk.get6 (ah.blk 2 rfl);go_wp2_with fail;first|refine(HT.out _ _).mono ?_|refine(gY.out _ (Nat.le_trans bM ah.size)).mono ?_
    rintro e w4 ⟨⟨v,rfl,hv⟩,aK⟩;have aq:=ah.next aK;have aN:=hid hv;clear hv gY HT;go_wp2_with fail;go_ret;have hb:=aq.below0;exact⟨⟨v,rfl,by rw[HQ.out,HA.out,HN.out];exact aN.out⟩,by first|exact hb|(subst hg;exact hb)⟩
end Nf
end Go.Proofs.YtekkapgknohadaaGreatDoor
