/- Ends of proofs, each an automatic argument. -/
import Derived.Below
import Derived.BigQuiet
import Derived.Carry
import Derived.ChangeOld
import Derived.ChangeSame
import Derived.Deep.AppendLies
import Derived.Deep.Cut
import Derived.Deep.CutBlock
import Derived.Deep.DeepCutAuto
import Derived.Deep.Fields
import Derived.Deep.LoopGhost
import Derived.Deep.QuietTactic
import Derived.Deep.RegionHeld3
import Derived.Deep.RegionHeldLaw
import Derived.Deep.RegionLaw
import Derived.Deep.Slices
import Derived.Deep.Upon
import Derived.DeepKeys4
import Derived.Defers
import Derived.Great.BuildSlice
import Derived.Ground.Names2Prog
import Derived.IntWalk
import Derived.LaidMore
import Derived.Laws.AppendOwn
import Derived.Laws.MakeOwn
import Derived.Laws.OwnMore
import Derived.Laws.Pointers
import Derived.Lay
import Derived.Lib.AppendZeros
import Derived.Lib.AtoiAllCases
import Derived.Lib.AtoiErrMem
import Derived.Lib.ConvBytes
import Derived.Lib.Hide
import Derived.Lib.IndexBytes
import Derived.Lib.ItoaLen
import Derived.Lib.ItoaMem
import Derived.Lib.ItoaNum
import Derived.Lib.LaidTab
import Derived.Lib.SmallJoins
import Derived.Lib.TrimByte
import Derived.LoopIn
import Derived.LoopN
import Derived.LoopNIn
import Derived.LoopTactic
import Derived.MakeChecks
import Derived.Maps.OwnSet
import Derived.OpenShut
import Derived.Outline
import Derived.OwnWalkIn
import Derived.ProofKit
import Derived.RangeFuncBound
import Derived.RangeFuncCalls
import Derived.RangeFuncLeaves
import Derived.RangeFuncNested
import Derived.Recover
import Derived.SevenTiedAt
import Derived.Shelf.Abstract
import Derived.Shelf.LaysC
import Derived.Shelf.LaysM
import Derived.Shelf.RegionOpen
import Derived.Shelf.Slices.Clone
import Derived.Shelf.Slices.Empties2
import Derived.Shelf.Slices.Equal
import Derived.Shelf.Slices.Turned
import Derived.Shelf.Small.Strs
import Derived.Shelf.Strconv.Atoi
import Derived.Shelf.Strconv.AtoiAll
import Derived.Shelf.Strconv.AtoiErr
import Derived.Shelf.Strconv.AtoiErrFast
import Derived.Shelf.Strconv.AtoiFail
import Derived.Shelf.Strconv.AtoiInnerAll
import Derived.Shelf.Strconv.AtoiLong
import Derived.Shelf.Strconv.Clone
import Derived.Shelf.Strconv.ErrVar
import Derived.Shelf.Strconv.ErrVarAll
import Derived.Shelf.Strconv.Itoa0
import Derived.Shelf.Strconv.Itoa1
import Derived.Shelf.Strconv.Itoa2
import Derived.Shelf.Strconv.Itoa3
import Derived.Shelf.Strconv.Lower
import Derived.Shelf.Strconv.ParseInt10
import Derived.Shelf.Strconv.ParseIntEmpty
import Derived.Shelf.Strconv.ParseUint10
import Derived.Shelf.Strconv.ParseUint10Any
import Derived.Shelf.Strconv.ParseUint10Empty
import Derived.Shelf.Strconv.RangeError
import Derived.Shelf.Strconv.SyntaxError
import Derived.Shelf.Strconv.ToError
import Derived.Shelf.Strconv.ToErrorRange
import Derived.Shelf.Strings.Builder1
import Derived.Shelf.Strings.BuilderF
import Derived.Shelf.Strings.BuilderK
import Derived.Shelf.Strings.Prefix
import Derived.Shelf.Strings.Trim
import Derived.ShutString
import Derived.StillTailTactics
import Derived.Stop.Joined
import Derived.Stop.LaidErr
import Derived.TacticsInMore
import Derived.WalkKit
import Derived.WalkLawsBesides
import Derived.WalkSpells
set_option linter.unusedVariables false
namespace Go.Proofs.YtekkapgknohadaaGreatDoor
section
theorem om{P:Prop}(h:P:=by omega):P:=h
theorem kr{P:Prop}(h:P:=by kernel_rfl):P:=h
theorem zy0{P:Prop}(h:P:=by decide):P:=h
theorem rr{P:Prop}(h:P:=by rfl):P:=h
theorem zy1{P:Prop}(h:P:=by simp):P:=h
theorem zy2{P:Prop}(h:P:=by unfold maxLen;omega):P:=h
theorem zy3{P:Prop}(h:P:=by intro u hu;simp at hu;rw[hu];rfl):P:=h
theorem zy4{P:Prop}(h:P:=by rw[HE.out];simp[SG,fs,hp]):P:=h
theorem zy5{P:Prop}(h:P:=by rw[Int.toNat_natCast];exact hn):P:=h
theorem zy6{P:Prop}(h:P:=by first|(rw[HV.out];rfl)|rw[HV.out]):P:=h
theorem zy7{P:Prop}(h:P:=by have:=HY.out;simp only[←HL.out,List.length_append,List.length_cons,List.length_nil]at this ⊢;omega):P:=h
theorem zy8{P:Prop}(h:P:=by simp;omega):P:=h
theorem zy9{P:Prop}(h:P:=by intro u hu;simp at hu;rcases hu with rfl|rfl<;>rfl):P:=h
theorem zya{P:Prop}(h:P:=by assumption):P:=h
theorem zyb{P:Prop}(h:P:=by simp[results,results87,go_sem,m0,m1,m2,m3,m4,m5,m6,m7,m8]):P:=h
theorem zyc{P:Prop}(h:P:=by simpa using h):P:=h
theorem zyd{P:Prop}(h:P:=by intro u hu;simp at hu;rcases hu with rfl|rfl|rfl|rfl|rfl|rfl<;>rfl):P:=h
theorem zye{P:Prop}(h:P:=by rw[zad];exact hb):P:=h
theorem zyf{P:Prop}(h:P:=by simp[results,results54,go_sem,q6]):P:=h
theorem zyg{P:Prop}(h:P:=by simp[results,results209,go_sem,e0,e1,e2]):P:=h
theorem zyh{P:Prop}(h:P:=by simp[results,results88,go_sem,e0,e1,f0,f1,f2,f3,f4]):P:=h
theorem zyi{P:Prop}(h:P:=by rw[←HR.out,←HI.out,List.take_of_length_le om]):P:=h
theorem zyj{P:Prop}(h:P:=by simp only[List.length_append,List.length_cons,List.length_nil];omega):P:=h
theorem zyk{P:Prop}(h:P:=by rw[HT.out,←Bool.and_assoc,←HE.out];rfl):P:=h
theorem zyl{P:Prop}(h:P:=by rw[di];split<;>omega):P:=h
theorem zym{P:Prop}(h:P:=by decide +kernel):P:=h
theorem zyn{P:Prop}(h:P:=by rw[Bool.eq_iff_iff];simp;omega):P:=h
theorem zyo{P:Prop}(h:P:=by intro u hu;simp at hu;rcases hu with rfl|rfl|rfl|rfl|rfl<;>rfl):P:=h
theorem zyp{P:Prop}(h:P:=by rw[zau h.a0];omega):P:=h
theorem zyq{P:Prop}(h:P:=by intro u hu;simp at hu;rcases hu with rfl|rfl|rfl<;>rfl):P:=h
theorem zyr{P:Prop}(h:P:=by have:=(List.getElem?_eq_some_iff.1 hu).1;exact this):P:=h
theorem zys{P:Prop}(h:P:=by have:=HR.out;unfold zah at this;simp only[Bool.and_eq_true,decide_eq_true_eq]at this;exact this.1.1.1):P:=h
theorem zyt{P:Prop}(h:P:=by rw[HE.out,wh_stop aQ HP.out];rfl):P:=h
theorem zyu{P:Prop}(h:P:=by rw[h];decide):P:=h
theorem zyv{P:Prop}(h:P:=by intro u hu;obtain⟨y,_,hy⟩:=List.mem_flatMap.1 hu;simp at hy;rcases hy with rfl|rfl<;>rfl):P:=h
theorem zyw{P:Prop}(h:P:=by rw[zad];omega):P:=h
theorem zyx{P:Prop}(h:P:=by rw[HE.out,List.drop_of_length_le om,twiceP]):P:=h
theorem zyy{P:Prop}(h:P:=by show(ad.add (k*3)).block<_;rw[za2];exact dt):P:=h
theorem zyz{P:Prop}(h:P:=by rw[e1,e2,if_pos (.inl l1)]):P:=h
theorem zu0{P:Prop}(h:P:=by rw[e1,e2,if_pos (.inr l2)]):P:=h
theorem zu1{P:Prop}(h:P:=by rw[G.fl_len];omega):P:=h
theorem zu2{P:Prop}(h:P:=by have h9:(45:UInt8).toNat=45:=rfl;omega):P:=h
theorem zu3{P:Prop}(h:P:=by have:=mj.lo;have:=mj.le;have:=mj.hi;have:=lI.lo;have:=lI.le;have:=lI.hi;omega):P:=h
theorem zu4{P:Prop}(h:P:=by rw[HE.out,wh_end aQ];rfl):P:=h
theorem zu5{P:Prop}(h:P:=by simp only[List.mem_cons,List.mem_append];exact .inr (.inr (.inr (.inr hx)))):P:=h
theorem zu6{P:Prop}(h:P:=by rw[za0];omega):P:=h
theorem zu7{P:Prop}(h:P:=by simp[results,results114,go_sem,q6]):P:=h
theorem zu8{P:Prop}(h:P:=by rw[ar];rfl):P:=h
theorem zu9{P:Prop}(h:P:=by first|(rw[HD.out];rfl)|rw[HD.out]):P:=h
theorem zua{P:Prop}(h:P:=by rw[h]at ey db;simp at ey db;omega):P:=h
theorem zub{P:Prop}(h:P:=by first|(rw[HX.out];rfl)|rw[HX.out]):P:=h
theorem zuc{P:Prop}(h:P:=by intro b hb;simp at hb;rcases hb with rfl|rfl;exact h.g2;exact h.g1):P:=h
theorem zud{P:Prop}(h:P:=by rw[HV.out,if_pos om]):P:=h
theorem zue{P:Prop}(h:P:=by rw[List.length_drop,zad];omega):P:=h
theorem zuf{P:Prop}(h:P:=by rw[cg.out];rfl):P:=h
theorem zug{P:Prop}(h:P:=by simpa using hv):P:=h
theorem zuh{P:Prop}(h:P:=by rw[e1,e2,if_neg om]):P:=h
theorem zui{P:Prop}(h:P:=by rw[bz];rfl):P:=h
theorem zuj{P:Prop}(h:P:=by rw[List.getElem?_map,hx];rfl):P:=h
theorem zuk{P:Prop}(h:P:=by simp[dist_le]):P:=h
theorem zul{P:Prop}(h:P:=by simp[results,results9,go_sem,m0,m1,m2,m3,m4,m5,m6,m7,zPo]):P:=h
theorem zum{P:Prop}(h:P:=by exact⟨rfl,by first|exact ah.below0|(subst hg;exact ah.below0)|exact zae ah.below0 nq|(subst hg;exact zae ah.below0 nq)⟩):P:=h
theorem zun{P:Prop}(h:P:=by exact⟨gA,g0,g1,g3,g4,g5,g9,aU,bj,rfl,aB.blk 0 rfl,aB.blk 9 rfl,aB.blk 10 rfl,aB.blk 3 rfl,aB.blk 2 rfl,aB.below0⟩):P:=h
theorem zuo{P:Prop}(h:P:=by exact⟨⟨v,rfl,by rw[HV.out];exact aN.out⟩,by first|exact hb|(subst hg;exact hb)⟩):P:=h
theorem zup{P:Prop}(h:P:=by exact⟨rfl,by first|exact hk.below0|(subst hg;exact hk.below0)⟩):P:=h
theorem zuq{P:Prop}(h:P:=by exact zav rfl rr rr rr rr rr rr rr rr rr rr rr rr (zca ..) w):P:=h
theorem zur{P:Prop}(h:P:=by exact⟨rfl,by first|exact hM.below0|(subst dk;exact hM.below0)⟩):P:=h
theorem zus{P:Prop}(h:P:=by exact⟨rfl,by first|exact hb|(subst hg;exact hb)⟩):P:=h
theorem zut{P:Prop}(h:P:=by exact⟨rfl,(zam (Below.refl _ _) _).trans aC⟩):P:=h
theorem zuu{P:Prop}(h:P:=by exact⟨ga,gb,CA,cc,CB,cd,rfl,rfl,aE.perm (List.Perm.swap _ _ _)⟩):P:=h
theorem zuv{P:Prop}(h:P:=by exact⟨rfl,by first|exact an.below0|(subst hg;exact an.below0)⟩):P:=h
theorem zuw{P:Prop}(h:P:=by exact⟨some a,cap,l,by rw[h1],⟨fun i f hf=>⟨a,rfl,(h2 i f hf).1⟩⟩,by omega,fun x hx=>by obtain⟨i,fp⟩:=List.mem_iff_getElem?.1 hx;exact(h2 i x fp).2⟩):P:=h
theorem zux{P:Prop}(h:P:=by exact⟨by simp[q1,q2],by first|exact bt.below|exact bt.drew.below|exact⟨bt.below.os,bt.below.tape,bt.below.output,bt.below.size,bt.below.block⟩⟩):P:=h
theorem zuy{P:Prop}(h:P:=by exact⟨⟨v,rfl,aN.out⟩,by first|exact hb|(subst hg;exact hb)⟩):P:=h
theorem zuz{P:Prop}(h:P:=by exact⟨rfl,((zam (Below.refl _ _) _).trans aC).trans (aG.mono aC.size)⟩):P:=h
theorem zv0{P:Prop}(h:P:=by exact⟨rfl,Below.refl _ _⟩):P:=h
theorem zv1{P:Prop}(h:P:=by exact⟨⟨10,rfl,by simp[agree]⟩,by first|exact hb|(subst hg;exact hb)⟩):P:=h
theorem zv2{P:Prop}(h:P:=by exact⟨Nat.le_of_ble_eq_true rfl,Nat.le_of_ble_eq_true rfl,Nat.le_of_ble_eq_true rfl⟩):P:=h
theorem zv3{P:Prop}(h:P:=by exact okat_dist h1.1 h1.2 h2.1 h2.2 h3 hl om om hd):P:=h
theorem zv4{P:Prop}(h:P:=by exact⟨rfl,by first|exact cV|(subst hg;exact cV)⟩):P:=h
theorem zv5{P:Prop}(h:P:=by exact⟨rfl,by first|exact dS|(subst cK;exact dS)⟩):P:=h
theorem zv6{P:Prop}(h:P:=by exact⟨rfl,rfl⟩):P:=h
theorem zv7{P:Prop}(h:P:=by exact⟨.inr (.inl ⟨H1.out,6,by decide,by decide,rfl⟩),by first|exact ip.out|(subst cK;exact ip.out)⟩):P:=h
theorem zv8{P:Prop}(h:P:=by exact⟨none,0,[],rfl,⟨fun i s hs=>by simp at hs⟩,Nat.zero_le _,fun x hx=>(List.not_mem_nil hx).elim⟩):P:=h
theorem zv9{P:Prop}(h:P:=by exact AllReadyH.nil):P:=h
theorem zva{P:Prop}(h:P:=by exact⟨ga,gb,CA,cc,CB,cd,rfl,rfl,aE⟩):P:=h
theorem zvb{P:Prop}(h:P:=by exact⟨by rw[HV.out];rfl,by first|exact hb|(subst hh;exact hb)⟩):P:=h
theorem zvc{P:Prop}(h:P:=by exact⟨rfl,by first|exact ah.below0|(subst hg;exact ah.below0)⟩):P:=h
theorem zvd{P:Prop}(h:P:=by exact⟨rfl,by first|exact an.below0|(subst el;exact an.below0)⟩):P:=h
theorem zve{P:Prop}(h:P:=by exact⟨zay zy4,rfl⟩):P:=h
theorem zvf{P:Prop}(h:P:=by exact⟨⟨_,rfl,by rw[HM.out];simp⟩,hb.trans (aC.mono hb.size)⟩):P:=h
theorem zvg{P:Prop}(h:P:=by exact Hp.call (a:=[]) h h1):P:=h
theorem zvh{P:Prop}(h:P:=by exact⟨_,_,by first|rfl|(rw[Nat.zero_add];rfl)|simp,an⟩):P:=h
theorem zvi{P:Prop}(h:P:=by exact⟨rfl,r1,(fW.mono hB).trans r2,OthW.trans2 nD r3⟩):P:=h
theorem zvj{P:Prop}(h:P:=by exact⟨tru_nf _,rfl⟩):P:=h
theorem zvk{P:Prop}(h:P:=by exact⟨_,_,rfl,rfl,h5.perm (List.Perm.swap _ _ _)⟩):P:=h
theorem zvl{P:Prop}(h:P:=by exact⟨rfl,hb⟩):P:=h
theorem zvm{P:Prop}(h:P:=by exact⟨by rw[HX.out],rfl⟩):P:=h
theorem zvn{P:Prop}(h:P:=by exact⟨by rfl,rfl⟩):P:=h
theorem zvo{P:Prop}(h:P:=by exact⟨za9 zy6,hb⟩):P:=h
theorem zvp{P:Prop}(h:P:=by exact⟨rfl,hD⟩):P:=h
theorem zvq{P Q:Prop}(q:Q)(h:Q→P:=by intro q;(try simp only[Act.put,tS1,tS2,tS3,tS4,tS5,tS6]);exact q):P:=h q
theorem zvr{P Q:Prop}(q:Q)(h:Q→P:=by intro q;(try simp only[Act.put,tS1,tS2,tS4,tS5,tS6]);exact q):P:=h q
theorem zt0{P:Prop}(h:P:=by
 clear aE ae;refine hK.out _ _ (c3 (aO.blk 6 rfl)) fun ae=>?_;clear hK K;refine tkO 25 rfl fun K hK=>?_;go_simp;refine(zai aO (n.name++(⟨#[46]⟩:ByteArray)++n.attr) gw).mono ?_;rintro e w8 ⟨g9,rfl,aZ⟩;replace aZ:=aZ.perm (List.Perm.swap _ _ _);clear aO ae;refine hK.out _ _ (c3 (aZ.blk 7 rfl)) fun ae=>?_;clear hK K;refine tkO 29 rfl fun K hK=>?_;go_simp;refine(HI.out _ _ aZ).mono ?_;rintro e w9 ⟨rfl,bc⟩;exact zt90):P:=h
theorem zt1{P:Prop}(h:P:=by
 exact zt90):P:=h
theorem zt2{P:Prop}(h:P:=by
 exact zt97):P:=h
theorem zt3{P:Prop}(h:P:=by
 refine hK.out _ _ (key21 ((aq.blk 4 rfl)) (aq.blk 3 rfl) (aq.blk 2 rfl)) fun ae=>?_;clear hK K;refine tkO 8 rfl fun K hK=>?_;rw[if_pos rr];refine wp_store_row 57 (.tmp 9) (.tmp 27) rr ga (fcs fa CA cc).toArray rr rr 57 zFl.toArray (aq.blk 1 rfl) kr kr kr ?_;have aw:=aq.rowAt 1 rfl (fcs fa CA cc);refine hK.out _ _ (key21 ((aw.blk 4 rfl)) (aw.blk 3 rfl) (aw.blk 2 rfl)) fun ae=>?_;clear hK K;refine tkO 9 rfl fun K hK=>?_;rw[if_pos rr];refine wp_store_row 57 (.tmp 10) (.tmp 30) rr gb (fcs fb CB cd).toArray rr rr 57 zFl.toArray (aw.blk 0 rfl) kr kr kr ?_;have aE:=aw.rowAt 0 rfl (fcs fb CB cd);refine hK.out _ _ (key21 ((aE.blk 4 rfl)) (aE.blk 3 rfl) (aE.blk 2 rfl)) fun ae=>?_;clear hK K;refine wpAnyH_done kr ?_ _;go_wp2_with fail;go_meet;exact zva):P:=h
theorem zt4{P:Prop}(h:P:=by
 refine hK.out _ _ (key21 ((aq.blk 4 rfl)) (aq.blk 3 rfl) (aq.blk 2 rfl)) fun ae=>?_;clear hK K;refine tkO 8 rfl fun K hK=>?_;rw[if_pos rr];refine wp_store_row 57 (.tmp 9) (.tmp 27) rr ga (fcs fa CA cc).toArray rr rr 57 zFl.toArray (aq.blk 0 rfl) kr kr kr ?_;have aw:=aq.rowAt 0 rfl (fcs fa CA cc);refine hK.out _ _ (key21 ((aw.blk 4 rfl)) (aw.blk 3 rfl) (aw.blk 2 rfl)) fun ae=>?_;clear hK K;refine tkO 9 rfl fun K hK=>?_;rw[if_pos rr];refine wp_store_row 57 (.tmp 10) (.tmp 30) rr gb (fcs fb CB cd).toArray rr rr 57 zFl.toArray (aw.blk 1 rfl) kr kr kr ?_;have aE:=aw.rowAt 1 rfl (fcs fb CB cd);refine hK.out _ _ (key21 ((aE.blk 4 rfl)) (aE.blk 3 rfl) (aE.blk 2 rfl)) fun ae=>?_;clear hK K;refine wpAnyH_done kr ?_ _;go_wp2_with fail;go_meet;exact zuu):P:=h
theorem zt5{P:Prop}(h:P:=by
 have H0:=hid h0;have H1:=hid h1;have H2:=hid h2;clear h0 h1 h2 c2;have fA:=Lx.tk_len ht;rw[List.length_drop,zad]at fA;have aT:(((b:Int)+n)==(b:Int))=false:=by simp;omega
 have HT:=hid ht;go_wp2_with fail;refine(H0.out _ cD.scn).mono ?_;rintro e' w3 ⟨rfl,aJ⟩;have bQ:=cD.next aJ;clear aJ cD;go_wp2_with fail;rw[rounds_succ];go_wp2_with fail;refine(H1.out _ bQ.scn).mono ?_;rintro e' w4 ⟨rfl,aK⟩;have cE:=bQ.next aK;clear aK bQ;go_wp2_with fail;rw[rounds_succ];go_wp2_with fail;refine(H2.out _ cE.scn).mono ?_;rintro e' w5 ⟨rfl,aS⟩;have cN:=cE.next aS;clear aS cE;go_wp2_with (first|(at_builtin;refine wpList_append_own _ rfl _ _ 73 rfl (g+3) 154 i0 _ 3 32 underlying73 aL bg aY bh rfl zy0 _ _ _ rfl (cN.own.alloc _) ⟨w5.heap.size,0,none⟩ 1 1 [.int .i64 1,.string (s.extract b (b+n)),.int .i64 (b:Int)] rfl rfl (new3 _ _ _ _ _) ?c2 ?c3 ?c4 ?c5 ?_));case c2=>intro u hu;simp at hu;rcases hu with rfl|rfl|rfl<;>rfl
 case c3=>unfold maxLen;omega
 case c4=>omega
 case c5=>have:=cN.frm.lt;simp;omega
 intro v' w6 af hg _;rw[ext_str s b n]at af hg;have dl:=cN.push ⟨1,((tl s).drop b).take n,b⟩ _ af hg;clear af hg cN;have d2:w6.cell? ⟨g,257,none⟩=some (.int .i64 (b:Int)):=(dl.scn.cell _).trans (zap s b);have d3:w6.frozen? ⟨g,257,none⟩=false:=dl.scn.frozen _;have d4:w6.cell? ⟨g+1,s[b+n].toNat,none⟩=some (.int .u8 (clsN s[b+n].toNat:Int)):=(dl.tab.cell _).trans (tabV_at _);have h5:=zb9 s[b+n].toNat;have h6:=s[b+n].toNat_lt;go_wp2_with fail;rw[Exit.noGoto_ret];go_ret3;have h:=dl.setAt (b+n);rw[Int.natCast_add]at h;exact ScanPost.err (eU.glued zye ah.out ht tD) om rfl h.below):P:=h
theorem zt6{P:Prop}(h:P:=by
 clear hM;have eL:=hX.rowAt 2 rfl zPlan;have q5:=(eL.blk 1 rfl).frozen 0;have p6:=(eL.blk 1 rfl).cell 0;simp only[List.getElem?_cons_zero]at p6;have dB:=eL.set 1 rfl 0 (.int .i64 6);go_wp2_with (refine wpList_store_row rfl 46 (.tmp 4) (.tmp 152) rfl g4 zPlan.toArray rfl rfl 46 zPlan.toArray (hX.blk 2 rfl) kr kr kr ?_);refine leaves_cons (f:=50) (args:=#[ptO g4,ptO g5]) zy1 (by simp[go_sem]) ?_;refine(oidle_any g4 g5 _).mono ?_;rintro e u' w'' ⟨rfl,rfl,rfl⟩;have r5:=(dB.blk 1 rfl).cell 0;obtain⟨r0,r1,r2,r3,r4⟩:=Blk.get5 (dB.blk 2 rfl);simp only[List.getElem?_cons_zero,List.set_cons_zero]at r5;have ip:=hid dB.below0;clear eL dB q5 p6;simp[Leaves,settle,results,results13,go_sem,r0,r1,r2,r3,r4,r5];exact zv7):P:=h
theorem zt7{P:Prop}(h:P:=by
 clear u;go_wp2_with (first|(refine HC.out.mono ?_;rintro e9 w9 ⟨rfl,rfl⟩)|(refine HD.out.mono ?_;rintro e8 w8 ⟨rfl,rfl⟩)|fail);go_ret;exact zvp):P:=h
theorem zt8{P:Prop}(h:P:=by
 rw[HE]at HC;replace HC:=hid HC;clear HE HR;go_wp2_with fail;refine HC.out.mono ?_;rintro e9 w9 ⟨rfl,rfl⟩;go_wp2_with fail;go_ret;exact zvp):P:=h
theorem zt9{P:Prop}(h:P:=by
 go_enter func67,ntmps67;go_wp2_with fail;go_quiet (fail);go_wp2_with fail;refine(zci _ (a+1) n g s a _ zy1 hn.out (Blk.drewN hS _) hs om).mono ?_;rintro e w1 ⟨rfl,aC⟩;go_wp2_with fail;go_ret3;exact zut):P:=h
theorem zt10{P:Prop}(h:P:=by
 clear hR;cases R;all_goals
  go_enter func247,ntmps247;go_wp2_with fail;refine HC.out.mono ?_;rintro e w1 ⟨rfl,rfl⟩;go_wp2_with fail;go_ret;first
   | exact⟨⟨0,rfl,by rw[HA.out];simp⟩,by first|exact hb|(subst hg;exact hb)|exact hb.trans (aC.mono hb.size)|(subst hg;exact hb.trans (aC.mono hb.size))⟩
   | exact⟨⟨9,rfl,by rw[HA.out];simp⟩,by first|exact hb|(subst hg;exact hb)⟩
   | exact⟨⟨10,rfl,by rw[HA.out];simp⟩,by first|exact hb.trans (aC.mono hb.size)|(subst hg;exact hb.trans (aC.mono hb.size))⟩):P:=h
theorem zt11{P:Prop}(h:P:=by
 clear hA h5;go_wp2_with fail;refine HFN.out.mono ?_;rintro e w4 ⟨GA,gc,P,kA,hP,rfl,cF⟩;have q4:=(cF.blk 1 rfl).frozen 0;have q5:=(cF.blk 1 rfl).cell 0;simp only[List.getElem?_cons_zero]at q5;have io:=cF.set 1 rfl 0 (.slice GA P.length gc);have q6:=(io.blk 1 rfl).cell 0;simp only[List.getElem?_cons_zero,List.set_cons_zero]at q6;have kq:=hid hP;clear fL cF hP;go_wp2_with fail;refine bodyPost_ret (v:=.agg #[.slice GA P.length gc]) zyf rfl ?_;exact⟨_,P,kA,vS',kq.out,rfl,by rw[eM];exact(io.tail).tail⟩):P:=h
theorem zt12{P:Prop}(h:P:=by
 have lK:E.length=i:=by rw[hE.len,List.length_take];omega
 refine⟨i+1,.slice eR (i+1) eV,E++[⟨(r1,r2),fd,CA,cc,gb⟩],by omega,rfl,by first|rfl|simp,hE.snoc kN.out iE.out CA cc gb,?_⟩;have e1:(R.take (i+1)).map (plS S d.uses)=(R.take i).map (plS S d.uses)++[plS S d.uses (r1,r2)]:=by rw[zan kN.out,List.map_append];rfl
 rw[e1,placs_app,entS_snoc,entT_snoc,Nat.zero_add,lK,List.map_append];have h9:=(d9.tail).perm (List.perm_append_singleton _ _).symm;exact(((h9.tail).tail).tail).tail):P:=h
theorem zt13{P:Prop}(h:P:=by
 have mX:(n.kind==2)=false:=by rw[au];rfl
 have nL:(n.kind==6)=false:=by rw[au];rfl
 have mV:(n.kind==7)=false:=by rw[au];rfl
 have o8:(n.kind==8)=false:=by rw[au];rfl
 have HT:=hid (fun b W=>za8 b W B);clear aP E hR dT kY;clear au;cases g;all_goals
  go_wp2_with fail;refine(HT.out _ _).mono ?_;rintro e w4 ⟨⟨v,rfl,hv⟩,aK⟩;have aq:=ah.next aK;have aN:=hid hv;clear hv;go_wp2_with fail;go_ret;have hb:=aq.below0;exact zuy):P:=h
theorem zt14{P:Prop}(h:P:=by
 have aN:=hid hv;clear hv HT;go_wp2_with fail;go_ret;have hb:=aq.below0;exact zuo):P:=h
theorem zt15{P:Prop}(h:P:=by
 go_wp2_with fail;go_ret;have hb:=aq.below0;exact zuo):P:=h
theorem zt16{P:Prop}(h:P:=by
 simp only[List.getElem?_cons_zero,List.getElem?_cons_succ]at e0 e1;refine bodyPost_ret (v:=.tuple #[plV 0 0,.agg zFl.toArray,.bool false]) zyh rfl ?_;rw[HR.out];have hb:Below w.heap.size w _:=bD.below0;exact zus):P:=h
theorem zt17{P:Prop}(h:P:=by
 go_enter func150,ntmps150;go_wp2_with fail;go_ret;rw[HV.out];exact⟨rfl,hk⟩):P:=h
theorem zt18{P:Prop}(h:P:=by
 go_wp2_with fail;refine HC.out.mono ?_;rintro e w1 ⟨rfl,aC⟩;go_wp2_with fail;go_roundg (l.length-(i+1));case measure=>omega
 case rel=>exact⟨i+1,ay,rfl,by first|rfl|simp,hb.trans (aC.mono hb.size),ed⟩):P:=h
theorem zt19{P:Prop}(h:P:=by
 have hd:decide ((k:Int)<(s.size:Int))=false:=by simpa using aQ
 go_wp2_with fail;go_quiet (fail);go_wp2;go_ret;exact⟨zay zu4,zam hb _⟩):P:=h
theorem zt20{P:Prop}(h:P:=by
 simp only[List.getElem?_cons_zero,List.getElem?_cons_succ]at k1;clear bA bN bW b9 kS hs hM hN;go_wp2_with fail;refine HA.out.mono ?_;rintro e w5 ⟨rfl,r1,r2,r3⟩;go_wp2_with fail;go_end0;exact zvi):P:=h
theorem zt21{P:Prop}(h:P:=by
 go_enter func202,ntmps202;go_wp2_with fail;go_ret;rw[aN.out];exact zvl):P:=h
theorem zt22{P:Prop}(h:P:=by
 generalize fdOf L a=p at *;generalize fdOf L b=q at *;generalize grP p=ga at *;generalize grP q=gb at *;intro y hy;unfold atR at hy
 repeat' split at hy
 all_goals first
  | exact dist_bd om om om om y hy
  | (rw[List.mem_singleton]at hy;subst hy;exact abd_mk zy0 zy0 zy0 zy0)
  | (rcases List.mem_append.1 hy with hy|hy<;>exact dist_bd om om om om y hy)):P:=h
theorem zt23{P:Prop}(h:P:=by
 rintro e w1 ⟨rfl,aC⟩;go_wp2_with fail;go_ret3;exact zut):P:=h
theorem zt24{P:Prop}(h:P:=by
 go_wp2_with fail;go_roundw;case rel =>
  refine⟨b+n,out++[⟨1,((tl s).drop b).take n,b⟩],?_,eU.token zye ah.out ht (fun h=>HN.out h.2),?_⟩
  ·have h:=dl.setAt (b+n);rw[Int.natCast_add]at h;exact h
  ·rw[List.length_append];simp;omega
 case measure =>
  have h:=(dl.setAt (b+n)).scn;rw[Int.natCast_add]at h;rw[zbu h,HM.out];omega):P:=h
theorem zt25{P:Prop}(h:P:=by
 clear ja;have vt:w7.cell? ⟨aU,0,none⟩=some _:=(jn.blk 1 rfl).cell 0;go_wp2_with fail;go_ret;refine⟨_,rfl,?_⟩;rw[HV.out];exact Hp.sub (it:=[_]) jn):P:=h
theorem zt26{P:Prop}(h:P:=by
 go_wp2;go_roundw;case rel=>exact WhRel.next aQ HP.out HE.out (zam hb _)
 case measure=>simp[intOf];omega):P:=h
theorem zt27{P:Prop}(h:P:=by
 rcases hc.1.2 with e|e
 ·rcases e with e|e
  ·exact .inl e
  ·exact .inr (.inl e)
 ·exact .inr (.inr e)):P:=h
theorem zt28{P:Prop}(h:P:=by
 refine⟨i+1,.slice eR (i+1) eV,by omega,rfl,by first|rfl|simp,?_⟩;have e1:(d.reveal.take (i+1)).map (plS S d.uses)=(d.reveal.take i).map (plS S d.uses)++[plS S d.uses (r1,r2)]:=by rw[zan qX.out,List.map_append];rfl
 rw[e1,placs_app];exact(((d9.tail).tail).tail).tail):P:=h
theorem zt29{P:Prop}(h:P:=by
 have HR:=hid (aN.out.trans zyz:_=(2:Int));go_wp2_with fail;go_ret;rw[HR.out];exact zum):P:=h
theorem zt30{P:Prop}(h:P:=by
 have HR:=hid (aN.out.trans zu0:_=(2:Int));go_wp2_with fail;go_ret;rw[HR.out];exact zum):P:=h
theorem zt31{P:Prop}(h:P:=by
 have HR:=hid (aN.out.trans zuh:_=(0:Int));go_wp2_with fail;go_ret;rw[HR.out];exact zum):P:=h
theorem zt32{P:Prop}(h:P:=by
 go_wp2_with fail;refine H.out.mono ?_;rintro e w1 ⟨rfl,hb⟩;unfold tokV;go_wp2_with fail;go_ret;rw[HR.out];exact zvl):P:=h
theorem zt33{P:Prop}(h:P:=by
 clear ha;go_upto_region 4 with fail;go_quiet (fail);go_wp2_with fail;go_roundg (l.length-(i+1));case measure=>omega
 case rel=>exact⟨i+1,ay,rfl,by first|rfl|simp,by first|exact hM.drewN _|exact hM|exact hM.drew,ed⟩):P:=h
theorem zt34{P:Prop}(h:P:=by
 intro j u hu;have e:(⟨w.heap.size,0,none⟩:Addr).add j=⟨w.heap.size,j,none⟩:=by unfold Addr.add;split<;>simp_all
 rw[e,(show Blk (w.alloc (.cells #[a] t)) w.heap.size t [a]from Blk.new w t [a]).cell j];exact hu):P:=h
theorem zt35{P:Prop}(h:P:=by
 have HR:Hid (checkP d=6):=hid zud;go_wp2_with fail;go_ret;rw[HR.out];exact zup):P:=h
theorem zt36{P:Prop}(h:P:=by
 go_wp2_with fail;refine(HT.out _).mono ?_;rintro e w4 ⟨⟨v,rfl,hv⟩,aK⟩;have aq:=hM.next aK;have aN:=hid hv;clear hv HT;go_wp2_with fail;go_ret;exact⟨⟨v,rfl,by rw[HV.out];exact aN.out⟩,aq.below0⟩):P:=h
theorem zt37{P:Prop}(h:P:=by
 have:=cat_len (ns:=d.nodes) (f:=32) (c:=true) (l:=[d.root]) (fun x hx=>by rw[List.mem_singleton.1 hx];exact hv);simp only[List.map_cons,List.map_nil,F.cat,F.app_nil,List.length_singleton]at this;exact this):P:=h
theorem zt38{P:Prop}(h:P:=by
 refine hK.out _ _ ⟨(hZ.blk 2 rfl).cell 8,(hZ.blk 1 rfl).cell 0⟩ fun ae=>?_;clear hK K;refine tk2 12 rfl ?_;refine zvq ?_;refine wpAnyH_done kr ?_ _;go_wp2_with fail;go_meet;exact⟨rfl,hZ.tail.tail⟩):P:=h
theorem zt39{P:Prop}(h:P:=by
 rw[cnt_ofT,e1,e2];congr 1;cases g
 ·simp only[Bool.bne_false,Bool.false_eq_true,if_false];rw[decide_eq_decide];omega
 ·simp only[Bool.bne_true,if_true];rw[←decide_not,decide_eq_decide];omega):P:=h
theorem zt40{P:Prop}(h:P:=by
 go_enter func120,ntmps120;go_wp2_with fail;refine HC.out.mono ?_;rintro e w1 ⟨rfl,hb⟩;go_wp2_with fail;go_ret;exact⟨by rw[HU.out];first|rfl|(simp[q4];done),fr.trans (hb.mono fr.size)⟩):P:=h
theorem zt41{P:Prop}(h:P:=by
 rw[List.getElem?_append_right hl]at hy;rcases Nat.eq_zero_or_pos (i-l.length)with h0|h0
 ·rw[h0]at hy;cases hy;rw[show i=n by omega];exact hx
 ·rw[List.getElem?_eq_none zy8]at hy;cases hy):P:=h
theorem zt42{P:Prop}(h:P:=by
 intro w;rcases(by omega:h=0∨h=1∨h=2∨h=3∨h=4∨h=5)with rfl|rfl|rfl|rfl|rfl|rfl<;>kernel_rfl):P:=h
theorem zt43{P:Prop}(h:P:=by
 obtain⟨fa,fc,b,tb,c1,c2,c3⟩:=get ha;have lO:=(ej 9).1 hb;have od:=(aE 6).1 hk;refine main ha 0 0 0 m0 fa fc b c1 (fun h=>om) (fun h=>om) ?_;rw[atN,if_neg om,if_neg om,at9 hk hb];rfl):P:=h
theorem zt44{P:Prop}(h:P:=by
 rw[Int.natCast_add]at h;rw[zbu h,HM.out];omega):P:=h
theorem zt45{P:Prop}(h:P:=by
 go_wp2_with fail;refine HC.out.mono ?_;rintro e w1 ⟨rfl,aC⟩;go_wp2_with fail;go_ret;exact zvf):P:=h
theorem zt46{P:Prop}(h:P:=by
 clear h1 hK;go_enter func120,ntmps120;go_wp2_with fail;go_ret;rw[HV.out];exact⟨rfl,fr⟩):P:=h
theorem zt47{P:Prop}(h:P:=by
 go_quiet (fail);go_wp2_with fail;refine bodyPost_ret (v:=.tuple #[]) (by simp[results,results70,go_sem]) rfl ⟨rfl,?_,gb_drewN cK _⟩;rw[rN.out,HZ.out];exact dW):P:=h
theorem zt48{P:Prop}(h:P:=by
 go_wp2_with fail;refine HD.out.mono ?_;rintro e w3 ⟨T2,h1,rfl,h2⟩;have HT:=hid h1;clear h1;go_wp2_with fail;go_ret;exact⟨T2,HT.out,by first|rfl|rw[hq],h2⟩):P:=h
theorem zt49{P:Prop}(h:P:=by
 have HY:=hid (hy.1 h);clear hy;go_wp2_with fail;go_ret;exact⟨by rw[HY.out];simp,hb⟩):P:=h
theorem zt50{P:Prop}(h:P:=by
 go_ret;have an:=ar.grown 0 rfl af ai aH;rw[Nat.zero_add,List.nil_append]at an;exact zvh):P:=h
theorem zt51{P:Prop}(h:P:=by
 go_wp2_with fail;go_roundg (n.kids.length-(j+1));case measure=>omega
 case rel=>exact⟨j+1,T2,aW,rfl,by first|rfl|simp,by rw[ep.out];first|rfl|simp,nO,aR⟩):P:=h
theorem zt52{P:Prop}(h:P:=by
 rintro e w2 ⟨rfl,aG⟩;go_wp2_with fail;go_ret3;exact zuz):P:=h
theorem zt53{P:Prop}(h:P:=by
 go_enter func247,ntmps247;go_wp2_with fail;go_ret;exact zv1):P:=h
theorem zt54{P:Prop}(h:P:=by
 have HY:Hid (R=false):=hid (by rw[←Bool.not_eq_true];exact fun e=>h (hy.2 e));clear hy;go_wp2_with fail;go_ret;exact⟨by rw[HY.out];simp;omega,hb⟩):P:=h
theorem zt55{P:Prop}(h:P:=by
 go_quiet (fail);have hb:=(df nq).below0;go_wp2_with fail;rw[HL.out.1,HL.out.2];exact bodyPost_ret (by simp[results,results15,go_sem]) rfl ⟨rfl,hb⟩):P:=h
theorem zt56{P:Prop}(h:P:=by
 unfold allN;rw[Bool.eq_false_iff];intro h9;have:=List.all_eq_true.1 h9 s[k] (by rw[←zat s k h];exact List.getElem_mem _);rw[hp]at this;cases this):P:=h
theorem zt57{P:Prop}(h:P:=by
 clear h0 dm;go_wp2_with fail;go_ret;rw[HV.out];exact zv0):P:=h
theorem zt58{P:Prop}(h:P:=by
 go_enter func6,ntmps6;go_wp2_with fail;go_ret;exact zvo):P:=h
theorem zt59{P:Prop}(h:P:=by
 go_wp2_with fail;go_ret;exact⟨by rw[←h];rfl,rfl⟩):P:=h
theorem zt60{P:Prop}(h:P:=by
 have aM:¬(i:Int)<(l.length:Int):=om;have HM:Hid (R=false):=hid zyi;go_wp2_with fail;go_ret;exact⟨⟨_,rfl,by rw[HM.out];decide⟩,hb⟩):P:=h
theorem zt61{P:Prop}(h:P:=by
 go_wp2_with fail;go_roundg (d.nodes.length-(k+1));case measure=>omega
 case rel=>exact⟨k+1,ay,rfl,by first|rfl|simp,bH.sub,hid HT.out⟩):P:=h
theorem zt62{P:Prop}(h:P:=by
 intro hn;rcases h.how with e|e|⟨e,_⟩
 ·exact .inl e
 ·exact .inr e
 ·unfold numTy at e;rw[ta]at e;simp only at e;rw[hn]at e;cases e):P:=h
theorem zt63{P:Prop}(h:P:=by
 go_wp2_with fail;go_round;case rel=>exact⟨j+1,aW,by go_num,by rw[HN.out];first|rfl|(simp;done)⟩
 case measure=>simp[intOf];omega):P:=h
theorem zt64{P:Prop}(h:P:=by
 by_cases h9:a.kind=9
 ·exact .inl h9
 ·exact .inr fun e2=>e ⟨h9,e2⟩):P:=h
theorem zt65{P:Prop}(h:P:=by
 clear af br aV hM cg;go_roundg (l.length-(i+1));case measure=>omega
 case rel=>exact⟨i+1,ay,rfl,by first|rfl|simp,az.sub,jz⟩):P:=h
theorem zt66{P:Prop}(h:P:=by
 go_enter func247,ntmps247;go_wp2_with fail;go_ret;exact⟨⟨0,rfl,by simp[agree]⟩,by first|exact hb|(subst hg;exact hb)⟩):P:=h
theorem zt67{P:Prop}(h:P:=by
 go_wp2_with fail;refine HW.out.mono ?_;rintro e w1 ⟨rfl,hw⟩;subst hw;go_wp2_with fail;go_ret;rw[HV.out,cg.out];exact zur):P:=h
theorem zt68{P:Prop}(h:P:=by
 go_wp2_with fail;go_roundg (S.length-(i+1));case measure=>omega
 case rel=>exact⟨i+1,ay,rfl,by first|rfl|simp,aA.tail,HT⟩):P:=h
theorem zt69{P:Prop}(h:P:=by
 have aM:¬(i:Int)<(S.length:Int):=om;exfalso;have:=HE.out;rw[List.take_of_length_le om]at this;rw[HM.out]at this;cases this):P:=h
theorem zt70{P:Prop}(h:P:=by
 clear af br aV hM cg;go_roundg (l.length-(i+1));case measure=>omega
 case rel=>exact⟨i+1,ay,rfl,by first|rfl|simp,az,jz⟩):P:=h
theorem zt71{P:Prop}(h:P:=by
 have aM:¬(i:Int)<(l.length:Int):=om;have HR:Hid (twiceP [] l=false):=hid zyx;go_wp2_with fail;go_ret;rw[HR.out];exact zur):P:=h
theorem zt72{P:Prop}(h:P:=by
 go_wp2_with fail;go_roundg (s.size-(i+1));case measure=>omega
 case rel=>exact⟨i+1,ay,rfl,by first|rfl|simp,rfl,kp⟩):P:=h
theorem zt73{P:Prop}(h:P:=by
 rcases h.kb.2 with e|e|e
 ·exact e
 ·exact absurd e a3
 ·unfold tyOf at hb;rw[if_neg a3,if_pos e]at hb;cases hb):P:=h
theorem zt74{P:Prop}(h:P:=by
 go_wp2;go_ret;refine⟨zao ?_,hb⟩;rw[List.take_of_length_le zyw]at dD;symm;rw[decide_eq_true_iff];exact dD):P:=h
theorem zt75{P:Prop}(h:P:=by
 go_wp2_with fail;go_ret;rw[HR.out,cg.out];exact⟨rfl,by first|exact az.below0|(subst el;exact az.below0)⟩):P:=h
theorem zt76{P:Prop}(h:P:=by
 have aN:=hid hv;clear hv HC;go_wp2_with fail;go_ret;exact⟨⟨v,rfl,by rw[←HG.out];exact aN.out⟩,sR⟩):P:=h
theorem zt77{P:Prop}(h:P:=by
 go_wp2_with fail;go_ret;rw[HR.out];exact⟨rfl,aj.below0⟩):P:=h
theorem zt78{P:Prop}(h:P:=by
 simp only[List.length_append,List.length_singleton];omega):P:=h
theorem zt79{P:Prop}(h:P:=by
 go_enter func22,ntmps22;go_wp2_with fail;go_ret;exact zvo):P:=h
theorem zt80{P:Prop}(h:P:=by
 go_wp2_with fail;go_ret;rw[HR.out];exact⟨rfl,by first|exact aA.below0|(subst hg;exact aA.below0)⟩):P:=h
theorem zt81{P:Prop}(h:P:=by
 rw[hr]at dO;injection dO with e1 e2;subst e1;exact .inr fun g hg=>by simp[Value.ownBlock]at hg;omega):P:=h
theorem zt82{P:Prop}(h:P:=by
 rw[e,List.length_append,ih,List.length_cons];simp;omega):P:=h
theorem zt83{P:Prop}(h:P:=by
 intro y hy _;rw[List.mem_singleton]at hy;subst hy;exact okat_one (by split<;>simp) h1.1 h1.2 om om):P:=h
theorem zt84{P:Prop}(h:P:=by
 go_enter func132,ntmps132;go_wp2;go_ret;exact⟨zao (by symm;rw[decide_eq_true_iff];omega),rfl⟩):P:=h
theorem zt85{P:Prop}(h:P:=by
 go_wp2_with fail;go_meet;exact⟨by(try rw[he]);(try rw[hs]);(first|rfl|(cases q3<;>rfl)),ah⟩):P:=h
theorem zt86{P:Prop}(h:P:=by
 have h9:=aH 0 om;have e:(a.add (i*2)).add 0=a.add (i*2):=by simp[Addr.add]
 rw[e]at h9;exact h9):P:=h
theorem zt87{P:Prop}(h:P:=by
 clear aj ae;refine hK.out _ _ (c3 (aq.blk 4 rfl)) fun ae=>?_;clear hK K;refine tkO 8 rfl fun K hK=>?_;go_simp;refine(za3 aq ⟨#[97,110,121]⟩ gw gn).mono ?_;rintro e w5 ⟨g4,rfl,aw⟩;replace aw:=aw.perm (List.Perm.swap _ _ _);clear aq ae;refine hK.out _ _ (c3 (aw.blk 5 rfl)) fun ae=>?_;clear hK K;refine tkO 12 rfl fun K hK=>?_;go_simp;refine(HI.out _ _ aw).mono ?_;rintro e w6 ⟨rfl,aE⟩;clear aw ae;refine hK.out _ _ (c3 (aE.blk 5 rfl)) fun ae=>?_;clear hK K;refine tk3 13 rfl ?_;refine zvq ?_;exact zt101):P:=h
theorem zt88{P:Prop}(h:P:=by
 refine hK.out _ _ (key21 ((ah.blk 3 rfl)) (ah.blk 2 rfl) (ah.blk 1 rfl)) fun ae=>?_;clear hK K;refine tkR [5,7] ?_;refine AllReadyH.cons rfl (fun K hK=>?_) ?_
 ·go_simp;refine(gF.out _ (h0.trans (ah.below0.mono h0.size))).mono ?_;rintro e w4 ⟨⟨CB,cd,rfl⟩,aK⟩;have aj:=ah.next aK;clear aK;exact zt95
 refine AllReadyH.cons rfl (fun K hK=>?_) ?_
 ·go_simp;have aj:Hp [] w (iblk w3.heap.size 57 zFl::[iblk ga 57 zFl,iblk qy 68 (nkcs b KB kb),iblk qx 68 (nkcs a KA ka),iblk g 93 (fitC d L A S.length c)]) (w3.alloc (.cells #[.string ⟨#[]⟩,.int .i64 0,.int .i64 0,.int .i64 0,.slice none 0 0] 57)):=ah.new 57 zFl;generalize w3.alloc (.cells #[.string ⟨#[]⟩,.int .i64 0,.int .i64 0,.int .i64 0,.slice none 0 0] 57)=w4 at *;generalize w3.heap.size=gb at *;exact zt99
 exact zv9):P:=h
theorem zt89{P:Prop}(h:P:=by
 refine hK.out _ _ (key21 ((ah.blk 3 rfl)) (ah.blk 2 rfl) (ah.blk 1 rfl)) fun ae=>?_;clear hK K;refine tkR [5,6] ?_;refine AllReadyH.cons rfl (fun K hK=>?_) ?_
 ·go_simp;refine(gF.out _ (h0.trans (ah.below0.mono h0.size))).mono ?_;rintro e w4 ⟨⟨CB,cd,rfl⟩,aK⟩;have aj:=ah.next aK;clear aK;exact zt96
 refine AllReadyH.cons rfl (fun K hK=>?_) ?_
 ·go_simp;have aj:Hp [] w (iblk w3.heap.size 57 zFl::[iblk gb 57 zFl,iblk qy 68 (nkcs b KB kb),iblk qx 68 (nkcs a KA ka),iblk g 93 (fitC d L A S.length c)]) (w3.alloc (.cells #[.string ⟨#[]⟩,.int .i64 0,.int .i64 0,.int .i64 0,.slice none 0 0] 57)):=ah.new 57 zFl;generalize w3.alloc (.cells #[.string ⟨#[]⟩,.int .i64 0,.int .i64 0,.int .i64 0,.slice none 0 0] 57)=w4 at *;generalize w3.heap.size=ga at *;exact zt100
 exact zv9):P:=h
theorem zt90{P:Prop}(h:P:=by
 clear aZ ae;refine hK.out _ _ (c3 (bc.blk 7 rfl)) fun ae=>?_;clear hK K;refine tkO 30 rfl fun K hK=>?_;go_simp;refine(zai bc (bs (Lib.itoa n.num)) gw).mono ?_;rintro e dI ⟨aU,rfl,aI⟩;replace aI:=aI.perm (List.Perm.swap _ _ _);clear bc ae;refine hK.out _ _ (c3 (aI.blk 8 rfl)) fun ae=>?_;clear hK K;refine tkO 36 rfl fun K hK=>?_;go_simp;refine(zai aI ((⟨#[39]⟩:ByteArray)++n.name++(⟨#[39]⟩:ByteArray)) gw).mono ?_;rintro e fy ⟨bj,rfl,aF⟩;replace aF:=aF.perm (List.Perm.swap _ _ _);clear aI ae;refine hK.out _ _ (c3 (aF.blk 9 rfl)) fun ae=>?_;clear hK K;refine tkW 37 (v:=.agg (F12 gw gn g0 g1 g3 g4 g5 g9 aU bj).toArray) rfl (Or.inl ⟨by rfl,fun w bf=>?_⟩) ?_
 ·exact zuq
 refine zvq ?_;exact zt97):P:=h
theorem zt91{P:Prop}(h:P:=by
 exact zt101):P:=h
theorem zt92{P:Prop}(h:P:=by
 have HT:=hid (fun W=>za8 R W B);go_wp2_with fail;refine(mD.out _).mono ?_;rintro e w3 ⟨rfl,aJ⟩;have aj:=ar.next aJ;exact zt102):P:=h
theorem zt93{P:Prop}(h:P:=by
 go_wp2_with fail;refine HT.out.mono ?_;rintro e w4 ⟨⟨v,rfl,hv⟩,aK⟩;have aq:=ah.next aK;exact zt14):P:=h
theorem zt94{P:Prop}(h:P:=by
 have e0:=(bD.blk 3 rfl).cell 0;have e1:=(bD.blk 3 rfl).cell 1;obtain⟨f0,f1,f2,f3,f4⟩:=Blk.get5 (bD.blk 2 rfl);exact zt16):P:=h
theorem zt95{P:Prop}(h:P:=by
 refine hK.out _ _ (key21 ((aj.blk 3 rfl)) (aj.blk 2 rfl) (aj.blk 1 rfl)) fun ae=>?_;clear hK K;refine tkO 7 rfl fun K hK=>?_;go_simp;have aq:Hp [] w (iblk w4.heap.size 57 zFl::[iblk ga 57 zFl,iblk qy 68 (nkcs b KB kb),iblk qx 68 (nkcs a KA ka),iblk g 93 (fitC d L A S.length c)]) (w4.alloc (.cells #[.string ⟨#[]⟩,.int .i64 0,.int .i64 0,.int .i64 0,.slice none 0 0] 57)):=aj.new 57 zFl;generalize w4.alloc (.cells #[.string ⟨#[]⟩,.int .i64 0,.int .i64 0,.int .i64 0,.slice none 0 0] 57)=w5 at *;generalize w4.heap.size=gb at *;exact zt3):P:=h
theorem zt96{P:Prop}(h:P:=by
 refine hK.out _ _ (key21 ((aj.blk 3 rfl)) (aj.blk 2 rfl) (aj.blk 1 rfl)) fun ae=>?_;clear hK K;refine tkO 6 rfl fun K hK=>?_;go_simp;have aq:Hp [] w (iblk w4.heap.size 57 zFl::[iblk gb 57 zFl,iblk qy 68 (nkcs b KB kb),iblk qx 68 (nkcs a KA ka),iblk g 93 (fitC d L A S.length c)]) (w4.alloc (.cells #[.string ⟨#[]⟩,.int .i64 0,.int .i64 0,.int .i64 0,.slice none 0 0] 57)):=aj.new 57 zFl;generalize w4.alloc (.cells #[.string ⟨#[]⟩,.int .i64 0,.int .i64 0,.int .i64 0,.slice none 0 0] 57)=w5 at *;generalize w4.heap.size=ga at *;exact zt4):P:=h
theorem zt97{P:Prop}(h:P:=by
 refine tkO 39 rfl fun K hK=>?_;rw[if_pos rr];refine wp_store_row 190 (.tmp 7) (.tmp 55) rr gA (F12 gw gn g0 g1 g3 g4 g5 g9 aU bj).toArray rr rr 190 (List.toArray [.nilFunc,.nilFunc,.nilFunc,.nilFunc,.nilFunc,.nilFunc,.nilFunc,.nilFunc,.nilFunc,.nilFunc,.nilFunc,.nilFunc]) (aF.blk 0 rfl) kr kr kr ?_;have aB:=aF.rowAt 0 rfl (F12 gw gn g0 g1 g3 g4 g5 g9 aU bj);clear aF ae;refine hK.out _ _ (c3 (aB.blk 9 rfl)) fun ae=>?_;clear hK K;refine wpAnyH_done kr ?_ _;go_wp2_with fail;go_meet;exact zun):P:=h
theorem zt98{P:Prop}(h:P:=by
 clear an ae;refine hK.out _ _ (c3 (ah.blk 2 rfl)) fun ae=>?_;clear hK K;refine tkO 3 rfl fun K hK=>?_;go_simp;refine(zai ah ⟨#[102,97,108,115,101]⟩ gw).mono ?_;rintro e w3 ⟨g1,rfl,aj⟩;replace aj:=aj.perm (List.Perm.swap _ _ _);exact zt103):P:=h
theorem zt99{P:Prop}(h:P:=by
 refine hK.out _ _ (key21 ((aj.blk 4 rfl)) (aj.blk 3 rfl) (aj.blk 2 rfl)) fun ae=>?_;clear hK K;refine tkO 5 rfl fun K hK=>?_;go_simp;refine(gF.out _ (h0.trans (aj.below0.mono h0.size))).mono ?_;rintro e w5 ⟨⟨CB,cd,rfl⟩,aS⟩;have aq:=aj.next aS;clear aS;exact zt3):P:=h
theorem zt100{P:Prop}(h:P:=by
 refine hK.out _ _ (key21 ((aj.blk 4 rfl)) (aj.blk 3 rfl) (aj.blk 2 rfl)) fun ae=>?_;clear hK K;refine tkO 5 rfl fun K hK=>?_;go_simp;refine(gF.out _ (h0.trans (aj.below0.mono h0.size))).mono ?_;rintro e w5 ⟨⟨CB,cd,rfl⟩,aS⟩;have aq:=aj.next aS;clear aS;exact zt4):P:=h
theorem zt101{P:Prop}(h:P:=by
 refine tkO 14 rfl fun K hK=>?_;go_simp;refine(za3 aE ((⟨#[97,116,108,101,97,115,116,32]⟩:ByteArray)++bs (Lib.itoa n.num)) gw gn).mono ?_;rintro e w7 ⟨g5,rfl,aO⟩;replace aO:=aO.perm (List.Perm.swap _ _ _);exact zt0):P:=h
theorem zt102{P:Prop}(h:P:=by
 go_wp2_with fail;refine(HT.out _).mono ?_;rintro e w4 ⟨⟨v,rfl,hv⟩,aK⟩;have aq:=aj.next aK;exact zt14):P:=h
theorem zt103{P:Prop}(h:P:=by
 clear ah ae;refine hK.out _ _ (c3 (aj.blk 3 rfl)) fun ae=>?_;clear hK K;refine tkO 6 rfl fun K hK=>?_;go_simp;refine(za3 aj ⟨#[97,108,108]⟩ gw gn).mono ?_;rintro e w4 ⟨g3,rfl,aq⟩;replace aq:=aq.perm (List.Perm.swap _ _ _);exact zt87):P:=h
end
end Go.Proofs.YtekkapgknohadaaGreatDoor
