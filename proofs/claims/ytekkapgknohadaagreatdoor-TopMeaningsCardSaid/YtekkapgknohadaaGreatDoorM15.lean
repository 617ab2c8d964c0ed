/- policy.Check. Printed by mkpch.py. -/
import Derived.Test.YtekkapgknohadaaGreatDoorM12
set_option linter.unusedVariables false
set_option maxRecDepth 20000
set_option maxHeartbeats 32000000
open Go.Proofs.Tryz
namespace Go.Proofs.YtekkapgknohadaaGreatDoor
section
open Go.RowKit Go.Shelf Go.Maps
open Lib (hid)
abbrev svals (l:List ByteArray):List Value:=l.map Value.string
theorem strs_row {e:TypeId} {W:World} {A:Option Addr} {n c:Nat} {l:List ByteArray} (h:W.ownsRow 0 e 1 (.slice A n c) l.length (svals l)):Strs W A l:=by
 refine⟨fun i s hs=>?_⟩;have hi:=(List.getElem?_eq_some_iff.1 hs).1;obtain⟨g,cap,hv,-⟩:=zak h om;injection hv with hA hn hc;subst hA;refine⟨_,rfl,?_⟩;rw[zce];rw[hn]at h;exact zal h (j:=i) (u:=.string s) (by rw[List.getElem?_map,hs];rfl)
theorem containsD (l:List ByteArray) (s:ByteArray):Lib.containsS l s=memD s l:=by
 rw[Bool.eq_iff_iff,Lib.containsS_iff,memD_iff]
abbrev ialias (v:Value) (l:List ByteArray):It:=irow 9 1 v l.length (svals l)
theorem used_any (s:ByteArray) (ga:Nat) (A:Option Addr) (c:Nat) (l:List ByteArray) (h0:0<l.length) (hl:l.length≤1000) (W:World) (hc:W.cell? ⟨ga,0,none⟩=some (.slice A l.length c)) (hr:W.ownsRow 0 9 1 (.slice A l.length c) l.length (svals l)) :
 Calls prog 85 #[.string s,pptr ga] W fun e w'=>e=.returned (.bool (memD s l))∧w'=W:=by
 obtain⟨g,cap,hv,-⟩:=zak hr h0;injection hv with hA hn hcc;subst hA;subst hcc;have HC:=hid (slices_Contains_string g 0 l.length c l s W om om (fun j hj=>by
  rw[Nat.zero_add];exact zal hr (j:=j) (by rw[List.getElem?_map,List.getElem?_eq_getElem hj,List.getD_eq_getElem?_getD,List.getElem?_eq_getElem hj];rfl)))
 have HV:Hid (Lib.containsS (l.take l.length) s=memD s l):=hid (by rw[containsD,List.take_length]);clear hr;go_enter func85,ntmps85;go_wp2_with fail;refine HC.out.mono ?_;rintro e w1 ⟨rfl,rfl⟩;rw[HV.out];go_wp2_with fail;go_ret;exact zv6
theorem enters_used:∀args w,(callFunc 85 args).run prog w=.ok (.enter 85 args) w:=enters_of func85 kr rfl
theorem pstr_info:(prog.info? 9).map (fun i=>(i.zero,i.size,i.bytes))=some (some (.string ⟨#[]⟩),1,16):=kr
theorem new1q (w:World) (t:TypeId) (a:Value):∀(j:Nat) u,[a][j]? =some u→(w.alloc (.cells #[a] t)).cell? ((⟨w.heap.size,0,none⟩:Addr).add j)=some u:=by
 intro j u hu;rw[zce,(show Blk (w.alloc (.cells #[a] t)) w.heap.size t [a]from Blk.new w t [a]).cell j];exact hu
theorem info3 {P:Program} {t:TypeId} {z:Value} {a b:Nat} (h:(P.info? t).map (fun i=>(i.zero,i.size,i.bytes))=some (some z,a,b)):∃i,P.info? t=some i∧i.zero=some z∧i.size=a∧i.bytes=b:=by
 cases hi:P.info? t with
 | none=>rw[hi]at h;simp at h
 | some i=>rw[hi]at h;simp at h;exact⟨i,rfl,h.1,h.2.1,h.2.2⟩
theorem al_take {d:Po} {i:Nat} {x:Bp} (h:d.uses[i]? =some x):d.al.take (i+1)=d.al.take i++[x.1]:=zan (by rw[Po.al,List.getElem?_map,h];rfl)
theorem al_len (d:Po):d.al.length=d.uses.length:=List.length_map _
theorem pcheck_any (d:Po) (L:Lp) (hB:PBd d) (w:World) (hP:PolM w d L):Calls prog 26 #[polV d L] w fun e w'=>e=.returned (.int .i64 (checkP d))∧Below w.heap.size w w':=by
 obtain⟨ua,uc,ra,rc,na,nc⟩:=L;have uD:Prs w ua d.uses:=hP.us;have qU:Prs w ra d.reveal:=hP.rv;have ph:Nks w na d.nodes:=hP.ns;have hk:=(Hp.start w).new 29 (polcs d ⟨ua,uc,ra,rc,na,nc⟩);have iH:=hid (fun W h=>names_any d ⟨ua,uc,ra,rc,na,nc⟩ hB W h);have gE:=hid (fun W h=>tree_any d ⟨ua,uc,ra,rc,na,nc⟩ hB W h);have HV:Hid (checkP d=if 512<d.nodes.length∨d.uses.length<1∨4<d.uses.length∨64<d.reveal.length then 6
  else if namesP d=false then 3
  else if d.limit<0∨65536<d.limit∨(0<d.limit∧d.scope.size=0)then 2
  else if treeP d≠0 then treeP d
  else if twiceP [] d.al=true∨twiceP [] d.reveal=true then 8
  else if d.reveal.all (fun x=>memD x.1 d.al)=false then 9
  else if d.nodes.all (fun n=> !decide (n.kind=9)||memD n.name d.al)=false then 9
  else 0):=hid rfl
 have jA:=hB.ul;have fJ:=hB.rl;have gH:=hB.nl;have sO:∀(fn:Fn) (first cap:Array Value) (w:World),(Instr.makeFunc fn first cap).run prog w=.ok (.func fn first cap) w:=fun _ _ _ _=>rfl;have gU:=enters_used;obtain⟨g,hg⟩:∃x,w.heap.size=x:=⟨_,rfl⟩;rw[hg]at hk;go_enter func26,ntmps26;go_upto_region 1 with fail;try simp only[hg]
 have hk:Hp [] w [iblk g 29 (polcs d ⟨ua,uc,ra,rc,na,nc⟩)] (w.alloc (.cells #[.string d.name,.slice ua d.uses.length uc,.slice ra d.reveal.length rc,.slice na d.nodes.length nc,.int .i64 d.root,.string d.scope,.int .i64 d.limit,.string d.escrow] 29)):=hk;generalize w.alloc (.cells #[.string d.name,.slice ua d.uses.length uc,.slice ra d.reveal.length rc,.slice na d.nodes.length nc,.int .i64 d.root,.string d.scope,.int .i64 d.limit,.string d.escrow] 29)=W at *;obtain⟨p0,p1,p2,p3,p4,p5,p6,p7⟩:=(hk.blk 0 rfl).get8;simp only at p0 p1 p2 p3 p4 p5 p6 p7;by_cases m0:512<d.nodes.length
 ·have z0:(512:Int)<(d.nodes.length:Int):=om;exact zt35
 ·have z0:¬(512:Int)<(d.nodes.length:Int):=om;by_cases m1:d.uses.length<1
  ·have z1:(d.uses.length:Int)<1:=om;exact zt35
  ·have z1:¬(d.uses.length:Int)<1:=om;by_cases m2:4<d.uses.length
   ·have z2:(4:Int)<(d.uses.length:Int):=om;exact zt35
   ·have z2:¬(4:Int)<(d.uses.length:Int):=om;by_cases m3:64<d.reveal.length
    ·have z3:(64:Int)<(d.reveal.length:Int):=om;exact zt35
    ·have z3:¬(64:Int)<(d.reveal.length:Int):=om;have aN:=hid (HV.out.trans (if_neg om));have hu4:d.uses.length≤4:=om;have hu1:1≤d.uses.length:=om;clear HV;go_wp2_with fail;refine(iH.out W (hP.up hk.below0)).mono ?_;rintro e w1 ⟨rfl,aC⟩;have an:=hk.next aC;clear hk aC p0 p1 p2 p3 p4 p5 p6 p7 iH;obtain⟨p0,p1,p2,p3,p4,p5,p6,p7⟩:=(an.blk 0 rfl).get8;simp only at p0 p1 p2 p3 p4 p5 p6 p7;generalize namesP d=qn at *;cases qn with
     | false =>
      have HR:Hid (checkP d=3):=hid (by rw[aN.out,if_pos rfl]);go_wp2_with fail;go_ret;rw[HR.out];exact zuv
     | true =>
      have iy:=hid (aN.out.trans (if_neg zy1));clear aN;go_upto_region 5 with fail;go_cut [54] (fun s54 wx=>s54=.bool (decide (d.limit<0∨65536<d.limit∨(0<d.limit∧d.scope.size=0)))∧w1=wx);case first =>
       by_cases l0:d.limit<0
       ·go_wp2_with fail;go_meet;exact⟨congrArg Value.bool (decide_eq_true (.inl l0)).symm,rfl⟩
       ·by_cases l1:65536<d.limit
        ·go_wp2_with fail;go_meet;exact⟨congrArg Value.bool (decide_eq_true (.inr (.inl l1))).symm,rfl⟩
        ·by_cases l2:0<d.limit
         ·cases hs:decide (d.scope.size=0)with
          | true =>
           obtain⟨e3,e4⟩:=zcp hs;go_wp2_with fail;go_meet;exact⟨congrArg Value.bool (decide_eq_true (.inr (.inr ⟨l2,of_decide_eq_true hs⟩))).symm,rfl⟩
          | false =>
           obtain⟨e3,e4⟩:=sz_full hs;go_wp2_with fail;go_meet;refine⟨congrArg Value.bool (decide_eq_false ?_).symm,rfl⟩;rintro(h|h|h)
           ·omega
           ·omega
           ·exact of_decide_eq_false hs h.2
         ·go_wp2_with fail;go_meet;refine⟨congrArg Value.bool (decide_eq_false ?_).symm,rfl⟩;rintro(h|h|h)
          ·omega
          ·omega
          ·omega
      case rest =>
       obtain⟨rfl,rfl⟩:=hcut;cases oL:decide (d.limit<0∨65536<d.limit∨(0<d.limit∧d.scope.size=0))with
       | true =>
        have HR:Hid (checkP d=2):=hid (by rw[iy.out,if_pos (of_decide_eq_true oL)]);go_wp2_with fail;go_ret;rw[HR.out];exact zuv
       | false =>
        have vp:=hid (iy.out.trans (if_neg (of_decide_eq_false oL)));clear iy;go_wp2_with fail;refine(gE.out w1 (hP.up an.below0)).mono ?_;rintro e w2 ⟨rfl,aG⟩;have ah:=an.next aG;clear an aG p0 p1 p2 p3 p4 p5 p6 p7 gE;obtain⟨p0,p1,p2,p3,p4,p5,p6,p7⟩:=(ah.blk 0 rfl).get8;simp only at p0 p1 p2 p3 p4 p5 p6 p7;generalize treeP d=te at *;cases ht:(te != 0)with
        | true =>
         have HR:Hid (checkP d=te):=hid (by rw[vp.out,if_pos (by simpa using ht)]);go_wp2_with fail;go_ret;rw[HR.out];exact zvc
        | false =>
         have rS:=hid (vp.out.trans (if_neg (by simpa using ht)));clear vp;obtain⟨ga,dK⟩:∃x,w2.heap.size=x:=⟨_,rfl⟩;have aj:=(ah.new 55 [.slice none 0 0]).nilrow 9 1;rw[dK]at aj;go_upto_region 11 with fail;try simp only[dK]
         have aj:Hp [] w [ialias (.slice none 0 0) [],iblk ga 55 [.slice none 0 0],iblk g 29 (polcs d ⟨ua,uc,ra,rc,na,nc⟩)] (w2.alloc (.cells #[.slice none 0 0] 55)):=aj;clear ah p0 p1 p2 p3 p4 p5 p6 p7 ht;generalize w2.alloc (.cells #[.slice none 0 0] 55)=w3 at *;clear dK;obtain⟨i0,cC,bg,aY,bh⟩:=info3 pstr_info;obtain⟨p0,p1,p2,p3,p4,p5,p6,p7⟩:=(aj.blk 2 rfl).get8;simp only at p0 p1 p2 p3 p4 p5 p6 p7;go_upto_region 12 with fail;clear p0 p1 p2 p3 p4 p5 p6 p7;go_loopg [63] d.uses.length (fun m vQ wx=>∃(i:Nat) (A:Option Addr) (c:Nat),i≤d.uses.length∧m=d.uses.length-i∧vQ=.int .i64 (i:Int)∧Hp [] w [ialias (.slice A i c) (d.al.take i),iblk ga 55 [.slice A i c],iblk g 29 (polcs d ⟨ua,uc,ra,rc,na,nc⟩)] wx);case atStart=>exact⟨0,none,0,Nat.zero_le _,rfl,rfl,aj⟩
         case round =>
          obtain⟨i,A,c,hi,rfl,rfl,hM⟩:=hrel;clear aj;by_cases ay:i<d.uses.length
          ·have aM:(i:Int)<(d.uses.length:Int):=om;have aL:(0:Int)≤(i:Int):=om;obtain⟨x,hx⟩:∃x,d.uses[i]? =some x:=⟨_,List.getElem?_eq_getElem ay⟩;obtain⟨ad,hA,iw,iN⟩:=(uD.up hM.below0).cells hx;subst hA;have HT:=hid (al_take hx);have aA:=hM.new 50 [.string x.1,.string x.2];obtain⟨gx,cX⟩:∃y,wr.heap.size=y:=⟨_,rfl⟩;rw[cX]at aA;clear hx hM;go_upto_region 14 with fail;try simp only[cX]
           have aA:Hp [] w [iblk gx 50 [.string x.1,.string x.2],ialias (.slice A i c) (d.al.take i),iblk ga 55 [.slice A i c],iblk g 29 (polcs d ⟨some ad,uc,ra,rc,na,nc⟩)] (wr.alloc (.cells #[.string x.1,.string x.2] 50)):=aA;clear iw iN;generalize wr.alloc (.cells #[.string x.1,.string x.2] 50)=wa at *;clear cX;obtain⟨c0,c1⟩:=(aA.blk 0 rfl).get2;have ca:wa.cell? ⟨ga,0,none⟩=some (.slice A i c):=(aA.blk 2 rfl).cell 0;have aD:(d.al.take i).length=i:=by rw[List.length_take,al_len];omega
           have HL:=hid aD;have cA:=zb2 ((aA.alloc (.cells #[.string x.1] 9)).row 1 rfl) aD;clear aD;go_wp2_with (at_builtin;refine zac rfl _ _ 55 rfl 0 9 i0 _ 1 16 underlying55 cC bg aY bh rfl zy0 _ i (svals (d.al.take i)) rfl cA ⟨wa.heap.size,0,none⟩ 1 1 [.string x.1] rfl rfl (new1q _ _ _) zy3 zy0 zy2 om (Nat.zero_le _) ?_;intro v' w5 af ai aH;obtain⟨A2,dh,rfl⟩:=zab af;have az:=(aA.alloc (.cells #[.string x.1] 9)).grown 1 rfl af ai aH;have cb:w5.cell? ⟨ga,0,none⟩=some (.slice A i c):=(az.blk 2 rfl).cell 0;have fb:=(az.blk 2 rfl).frozen 0;clear af ai aH);have aR:Hp [] w [iblk gx 50 [.string x.1,.string x.2],ialias (.slice A2 (i+1) dh) (d.al.take (i+1)),iblk ga 55 [.slice A2 (i+1) dh],iblk g 29 (polcs d ⟨some ad,uc,ra,rc,na,nc⟩)] (w5.setCell ⟨ga,0,none⟩ (.slice A2 (i+1) dh)):=by
            have h1:=az.set 2 rfl 0 (.slice A2 (i+1) dh);have e2:(d.al.take i++[x.1]).length=i+1:=by rw[List.length_append,HL.out];rfl
            have e3:svals (d.al.take i)++[.string x.1]=svals (d.al.take i++[x.1]):=by simp[svals]
            unfold ialias;rw[HT.out,e2,←e3];exact h1
           go_roundg (d.uses.length-(i+1));case measure=>omega
           case rel=>exact⟨i+1,A2,dh,ay,rfl,by first|rfl|simp,aR.tail⟩
          ·have aM:¬(i:Int)<(d.uses.length:Int):=om;obtain rfl:i=d.uses.length:=om;have hta:d.al.take d.uses.length=d.al:=by rw[←al_len,List.take_length]
           rw[hta]at hM;clear hta hi ay;have oA:∀x∈d.al,x.size≤9223372036854775807:=fun x hx=>by
            obtain⟨y,hy,rfl⟩:=List.mem_map.1 hx;exact(hB.us y hy).1
           have dm:=al_len d;have tq:=hid (fun V (h:Strs V A d.al)=>twiceS_any A c d.al om oA V h);rw[al_len]at tq;have oy:=hid (fun V (h:Prs V ra d.reveal)=>twiceR_any ra rc d.reveal fJ hB.rv V h);have HUS:Hid (∀s V,Hp [] w [ialias (.slice A d.uses.length c) d.al,iblk ga 55 [.slice A d.uses.length c],iblk g 29 (polcs d ⟨ua,uc,ra,rc,na,nc⟩)] V→Calls prog 85 #[.string s,pptr ga] V fun e w'=>e=.returned (.bool (memD s d.al))∧w'=V):=hid fun s V h=>by
            have h9:=h.row 0 rfl;refine used_any s ga A c d.al om om V ?_ ?_
            ·rw[al_len];exact(h.blk 1 rfl).cell 0
            ·rw[al_len]at h9 ⊢;exact h9
           clear oA;generalize twiceP [] d.al=b1 at *;generalize twiceP [] d.reveal=b2 at *;have ca:wr.cell? ⟨ga,0,none⟩=some (.slice A d.uses.length c):=(hM.blk 1 rfl).cell 0;obtain⟨p0,p1,p2,p3,p4,p5,p6,p7⟩:=(hM.blk 2 rfl).get8;simp only at p0 p1 p2 p3 p4 p5 p6 p7;go_wp2_with fail;refine(tq.out wr (strs_row (by have h9:=hM.row 0 rfl;rw[al_len]at h9 ⊢;exact h9))).mono ?_;rintro e w6 ⟨rfl,dM⟩;have aA:=hM.next dM;clear hM dM ca p0 p1 p2 p3 p4 p5 p6 p7 tq;obtain⟨p0,p1,p2,p3,p4,p5,p6,p7⟩:=(aA.blk 2 rfl).get8;simp only at p0 p1 p2 p3 p4 p5 p6 p7;cases b1 with
           | true =>
            have HR:Hid (checkP d=8):=hid (by rw[rS.out,if_pos (.inl rfl)]);exact zt80
           | false =>
            go_wp2_with fail;refine(oy.out w6 (qU.up aA.below0)).mono ?_;rintro e w7 ⟨rfl,eK⟩;have az:=aA.next eK;clear aA eK p0 p1 p2 p3 p4 p5 p6 p7 oy;obtain⟨p0,p1,p2,p3,p4,p5,p6,p7⟩:=(az.blk 2 rfl).get8;simp only at p0 p1 p2 p3 p4 p5 p6 p7;cases b2 with
            | true =>
             have HR:Hid (checkP d=8):=hid (by rw[rS.out,if_pos (.inr rfl)]);go_wp2_with fail;go_ret;rw[HR.out];exact⟨rfl,by first|exact az.below0|(subst hg;exact az.below0)⟩
            | false =>
             have uG:=hid (rS.out.trans (if_neg zy1));clear rS;go_upto_region 20 with fail;clear p0 p1 p2 p3 p4 p5 p6 p7;go_loopg [84] d.reveal.length (fun m qA wx=>∃i:Nat,i≤d.reveal.length∧m=d.reveal.length-i∧qA=.int .i64 (i:Int)∧Hp [] w [ialias (.slice A d.uses.length c) d.al,iblk ga 55 [.slice A d.uses.length c],iblk g 29 (polcs d ⟨ua,uc,ra,rc,na,nc⟩)] wx∧Hid ((d.reveal.take i).all (fun x=>memD x.1 d.al)=true));case atStart=>exact⟨0,Nat.zero_le _,rfl,rfl,az,hid rfl⟩
             case round =>
              obtain⟨i,hi,rfl,rfl,hM,HE⟩:=hrel;clear az;by_cases ay:i<d.reveal.length
              ·have aM:(i:Int)<(d.reveal.length:Int):=om;have aL:(0:Int)≤(i:Int):=om;obtain⟨x,hx⟩:∃x,d.reveal[i]? =some x:=⟨_,List.getElem?_eq_getElem ay⟩;obtain⟨ad,hA,iw,iN⟩:=(qU.up hM.below0).cells hx;subst hA;have HT:Hid ((d.reveal.take (i+1)).all (fun x=>memD x.1 d.al)=memD x.1 d.al):=hid (by rw[zan hx,List.all_append,HE.out];simp);have kf:Hid (memD x.1 d.al=false→d.reveal.all (fun x=>memD x.1 d.al)=false):=hid fun h=>by
                rw[Bool.eq_false_iff];intro h9;have:=List.all_eq_true.1 h9 x (List.mem_of_getElem? hx);rw[h]at this;cases this
               have aA:=(hM.new 89 [.string x.1,.string x.2]).perm (List.perm_append_comm (l₁:=[_]) (l₂:=[_,_,_]));obtain⟨gx,cX⟩:∃y,wr.heap.size=y:=⟨_,rfl⟩;rw[cX]at aA;clear hx hM;go_upto_region 22 with fail;try simp only[cX]
               have aA:Hp [] w ([ialias (.slice A d.uses.length c) d.al,iblk ga 55 [.slice A d.uses.length c],iblk g 29 (polcs d ⟨ua,uc,some ad,rc,na,nc⟩)]++[iblk gx 89 [.string x.1,.string x.2]]) (wr.alloc (.cells #[.string x.1,.string x.2] 89)):=aA;clear iw iN;generalize wr.alloc (.cells #[.string x.1,.string x.2] 89)=wa at *;clear cX;obtain⟨c0,c1⟩:=(aA.blk 3 rfl).get2;have HC:=hid (HUS.out x.1 wa aA.sub);generalize memD x.1 d.al=bm at *;go_wp2_with fail;refine HC.out.mono ?_;rintro e w8 ⟨rfl,hw⟩;subst hw;cases bm with
               | false =>
                have HR:Hid (checkP d=9):=hid (by rw[uG.out,if_pos (kf.out rfl)]);exact zt80
               | true =>
                go_wp2_with fail;go_roundg (d.reveal.length-(i+1));case measure=>omega
                case rel=>exact⟨i+1,ay,rfl,by first|rfl|simp,aA.sub,hid HT.out⟩
              ·have aM:¬(i:Int)<(d.reveal.length:Int):=om;have HV7:=hid (uG.out.trans (if_neg (by rw[←(List.take_of_length_le (by omega:d.reveal.length≤i):d.reveal.take i=d.reveal),HE.out];simp)));clear uG HE;obtain⟨p0,p1,p2,p3,p4,p5,p6,p7⟩:=(hM.blk 2 rfl).get8;simp only at p0 p1 p2 p3 p4 p5 p6 p7;go_upto_region 26 with fail;clear p0 p1 p2 p3 p4 p5 p6 p7 aM hi ay;go_loopg [97] d.nodes.length (fun m oa wx=>∃i:Nat,i≤d.nodes.length∧m=d.nodes.length-i∧oa=.int .i64 (i:Int)∧Hp [] w [ialias (.slice A d.uses.length c) d.al,iblk ga 55 [.slice A d.uses.length c],iblk g 29 (polcs d ⟨ua,uc,ra,rc,na,nc⟩)] wx∧Hid ((d.nodes.take i).all (fun n=> !decide (n.kind=9)||memD n.name d.al)=true));case atStart=>exact⟨0,Nat.zero_le _,rfl,rfl,hM,hid rfl⟩
               case round =>
                obtain⟨k,bc,rfl,rfl,hN,HE⟩:=hrel;clear hM;by_cases ay:k<d.nodes.length
                ·have aM:(k:Int)<(d.nodes.length:Int):=om;have aL:(0:Int)≤(k:Int):=om;obtain⟨n,hn⟩:∃n,d.nodes[k]? =some n:=⟨_,List.getElem?_eq_getElem ay⟩;obtain⟨ad,KA,kc,hA,aP⟩:=(ph.up hN.below0).at_ k n hn;subst hA;have HT:Hid ((d.nodes.take (k+1)).all (fun n=> !decide (n.kind=9)||memD n.name d.al)=(!decide (n.kind=9)||memD n.name d.al)):=hid (by rw[zan hn,List.all_append,HE.out];simp);have kf:Hid ((!decide (n.kind=9)||memD n.name d.al)=false→d.nodes.all (fun n=> !decide (n.kind=9)||memD n.name d.al)=false):=hid fun h=>by
                  rw[Bool.eq_false_iff];intro h9;have:=List.all_eq_true.1 h9 n (List.mem_of_getElem? hn);rw[h]at this;cases this
                 have bH:=(hN.new 68 (nkcs n KA kc)).perm (List.perm_append_comm (l₁:=[_]) (l₂:=[_,_,_]));obtain⟨gx,cX⟩:∃y,wr.heap.size=y:=⟨_,rfl⟩;rw[cX]at bH;have d0:=aP.kind;have d1:=aP.num;have d2:=aP.name;have d3:=aP.attr;have d4:=aP.kids;have d5:=aP.at_;clear hn hN;go_upto_region 28 with fail;try simp only[cX]
                 have bH:Hp [] w ([ialias (.slice A d.uses.length c) d.al,iblk ga 55 [.slice A d.uses.length c],iblk g 29 (polcs d ⟨ua,uc,ra,rc,some ad,nc⟩)]++[iblk gx 68 (nkcs n KA kc)]) (wr.alloc (.cells #[.int .i64 n.kind,.int .i64 n.num,.string n.name,.string n.attr,.slice KA n.kids.length kc,.int .i64 n.at_] 68)):=bH;clear d0 d1 d2 d3 d4 d5 aP;generalize wr.alloc (.cells #[.int .i64 n.kind,.int .i64 n.num,.string n.name,.string n.attr,.slice KA n.kids.length kc,.int .i64 n.at_] 68)=wa at *;clear cX;obtain⟨d0,d1,d2,d3,d4,d5⟩:=(bH.blk 3 rfl).get6;cases h9:decide (n.kind=9)with
                 | false =>
                  have k9:(n.kind==9)=false:=by rw[ieq,h9]
                  rw[h9]at HT;clear h9;exact zt61
                 | true =>
                  have k9:(n.kind==9)=true:=by rw[ieq,h9]
                  rw[h9]at HT kf;clear h9;have HC:=hid (HUS.out n.name wa bH.sub);generalize memD n.name d.al=bm at *;go_wp2_with fail;refine HC.out.mono ?_;rintro e w8 ⟨rfl,hw⟩;subst hw;cases bm with
                  | false =>
                   have HR:Hid (checkP d=9):=hid (by rw[HV7.out,if_pos (kf.out rfl)]);go_wp2_with fail;go_ret;rw[HR.out];exact⟨rfl,by first|exact bH.below0|(subst hg;exact bH.below0)⟩
                  | true =>
                   exact zt61
                ·have aM:¬(k:Int)<(d.nodes.length:Int):=om;have HR:Hid (checkP d=0):=hid (by rw[HV7.out,if_neg (by rw[←(List.take_of_length_le (by omega:d.nodes.length≤k):d.nodes.take k=d.nodes),HE.out];simp)]);go_wp2_with fail;go_ret;rw[HR.out];exact⟨rfl,by first|exact hN.below0|(subst hg;exact hN.below0)⟩
end
section
open Go.RowKit Go.Shelf
def nkOf (x:Pa.Nd×List Nat):Nk:=⟨(x.1.kind:Int),x.1.num,bs x.1.name,bs x.1.attr,x.2.map fun(n:Nat)=>(n:Int),(x.1.at_:Int)⟩
def bpOf (x:Pa.Tx×Pa.Tx):Bp:=(bs x.1,bs x.2)
def poOf (p:Pa.Pl):Po:=⟨bs p.name,p.uses.map bpOf,p.reveal.map bpOf,(p.root.num 0).map nkOf,0,bs p.scope,p.limit,bs p.escrow⟩
def zPo:Po:=⟨⟨#[]⟩,[],[],[],0,⟨#[]⟩,0,⟨#[]⟩⟩
theorem pcells_at {l:List (Pa.Tx×Pa.Tx)} {i:Nat} {x:Pa.Tx×Pa.Tx} (h:l[i]? =some x):(pcells l)[i*2]? =some (Sv x.1)∧(pcells l)[i*2+1]? =some (Sv x.2):=by
 induction l generalizing i with
 | nil=>simp at h
 | cons y l ih =>
   have e:pcells (y::l)=Sv y.1::Sv y.2::pcells l:=rfl;cases i with
   | zero =>
     have:y=x:=by simpa using h
     subst this;exact zv6
   | succ i =>
     have h1:=ih zyc;rw[e,show(i+1)*2=i*2+1+1 by omega];simpa using h1
theorem ncells_at {P:List NV} {i:Nat} {x:NV} (h:P[i]? =some x) (j:Nat) (hj:j<6):(zag P)[i*6+j]? =(nvc x)[j]? :=by
 induction P generalizing i with
 | nil=>simp at h
 | cons y P ih =>
   have e:zag (y::P)=nvc y++zag P:=rfl;cases i with
   | zero =>
     have:y=x:=by simpa using h
     subst this;rw[e,List.getElem?_append_left zy8,Nat.zero_mul,Nat.zero_add]
   | succ i =>
     have h2:P[i]? =some x:=by simpa using h
     rw[e,List.getElem?_append_right zy8];have:=ih h2;rw[←this];congr 1;simp;omega
theorem ints_row {e:TypeId} {W:World} {A:Option Addr} {n c:Nat} {l:List Nat} (h:W.ownsRow 0 e 1 (.slice A n c) l.length (nats l)):Ints W A (l.map fun(n:Nat)=>(n:Int)):=by
 refine⟨fun i s hs=>?_⟩;have hi:=(List.getElem?_eq_some_iff.1 hs).1;rw[List.length_map]at hi;obtain⟨g,cap,hv,-⟩:=zak h om;injection hv with hA hn hc;subst hA;refine⟨_,rfl,?_⟩;rw[zce];rw[hn]at h;refine zal h (j:=i) ?_;rw[List.getElem?_map]at hs ⊢;obtain⟨y,hy,rfl⟩:=Option.map_eq_some_iff.1 hs;rw[hy];rfl
theorem prs_row {e:TypeId} {W:World} {A:Option Addr} {n c:Nat} {l:List (Pa.Tx×Pa.Tx)} (h:W.ownsRow 0 e 2 (.slice A n c) l.length (pcells l)):Prs W A (l.map bpOf):=by
 refine⟨fun i s hs=>?_⟩;rw[List.getElem?_map]at hs;obtain⟨y,hy,rfl⟩:=Option.map_eq_some_iff.1 hs;have hi:=(List.getElem?_eq_some_iff.1 hy).1;obtain⟨g,cap,hv,-⟩:=zak h om;injection hv with hA hn hc;subst hA;rw[hn]at h;refine⟨_,rfl,?_⟩;rw[zce];exact⟨zal h (pcells_at hy).1,zal h (pcells_at hy).2⟩
theorem nks_row {W:World} {A:Option Addr} {n c:Nat} {P:List NV} (h:W.ownsRow 0 68 6 (.slice A n c) P.length (zag P)) (hw:∀x∈P,W.ownsRow 0 3 1 (.slice x.2.1 x.1.2.length x.2.2) x.1.2.length (nats x.1.2)):Nks W A (P.map fun x=>nkOf x.1):=by
 refine⟨fun i f hf=>?_⟩;rw[List.getElem?_map]at hf;obtain⟨x,hx,rfl⟩:=Option.map_eq_some_iff.1 hf;have hi:=(List.getElem?_eq_some_iff.1 hx).1;obtain⟨g,cap,hv,-⟩:=zak h om;injection hv with hA hn hc;subst hA;rw[hn]at h;have hc:∀j,j<6→W.cell? ⟨g,i*6+j,none⟩=(nvc x)[j]? :=fun j hj=>by
  have h1:=ncells_at hx j hj;cases hu:(nvc x)[j]? with
  | none=>rw[List.getElem?_eq_none_iff]at hu;simp at hu;omega
  | some u=>exact zal h (by rw[h1,hu])
 refine⟨_,x.2.1,x.2.2,rfl,?_⟩;rw[zce];have bk:(nkOf x.1).kids.length=x.1.2.length:=List.length_map _;refine⟨hc 0 om,hc 1 om,hc 2 om,hc 3 om,?_,hc 5 om,ints_row (hw x (List.mem_of_getElem? hx)),by rw[bk];exact row_cap (hw x (List.mem_of_getElem? hx))⟩;rw[bk];exact hc 4 om
theorem krows_row {o:List Nat} {w W:World} {a:List It} {P:List NV} (h:Hp o w (a++krows P) W):∀x∈P,W.ownsRow 0 3 1 (.slice x.2.1 x.1.2.length x.2.2) x.1.2.length (nats x.1.2):=fun x hx =>
 h.sep.ok (inats (.slice x.2.1 x.1.2.length x.2.2) x.1.2) (List.mem_append_right _ (List.mem_map.2 ⟨x,hx,rfl⟩))
def PaOut (r:Po×Nat×Int) (e:Ending) (w':World):Prop:=∃L,e=.returned (.tuple #[polV r.1 L,.int .i64 (r.2.1:Int),.int .i64 r.2.2])∧PolM w' r.1 L
abbrev zPlV:Value:=.agg #[.string ⟨#[]⟩,.slice none 0 0,.slice none 0 0,.slice none 0 0,.int .i64 0,.string ⟨#[]⟩,.int .i64 0,.string ⟨#[]⟩]
end
section
open Go.RowKit Go.Shelf
theorem scan_new (s:ByteArray) (ts:List Lx.Tok) (w:World) (hs:s.size≤65536) (h:Lx.sc (tl s)=.ok ts) (h0:0<ts.length) :
 Calls prog 23 #[.string s] w fun e w'=>∃g cap,e=.returned (.tuple #[.slice (some ⟨g,0,none⟩) ts.length cap,.int .i64 0,.int .i64 0])∧TokIn w' g ts∧ts.length≤cap∧w.heap.size≤g∧Below w.heap.size w w' :=
 (scan_any s w hs).mono fun e w' hp=>by
  unfold ScanPost at hp;rw[h]at hp;obtain⟨v,he,af,hb⟩:=hp;obtain⟨g,cap,rfl,hg,ht,hc,_⟩:=own_tok af h0;exact⟨g,cap,he,ht,hc,hg,hb⟩
abbrev pits (bo ba be:Nat) (oc:List Value) (av ev:Value):List It:=[iblk bo 29 oc,iblk ba 3 [av],iblk be 30 [ev]]
theorem catch_idle (bo ba be:Nat) (w:World) :
 CallsD prog 24 #[ptr bo,ptr ba,ptr be] .returning w fun e u' w'=>e=.returned (.tuple #[])∧u'=.returning∧w'=w:=by
 refine callsD_of_wpS func24 rfl fun c₀ cs hu=>?_;apply wpS_seq;apply wpS_region;simp[wpOpsS,go_sem,recoverD,hu,ntmps24,Exit.thenS];refine wpS_of_wp ?_;have e:(#[ptr bo,ptr ba,ptr be]++((Array.replicate 17 undef).setIfInBounds 3 Value.nilIface).setIfInBounds 0 Value.nilIface:Array Value) =
  #[ptr bo,ptr ba,ptr be,.nilIface,undef,undef,.nilIface,undef,undef,undef,undef,undef,undef,undef,undef,undef,undef,undef,undef,undef]:=kr
 rw[e];generalize hQ:(fun(e:Exit) (a':Act) (w':World)=>bodyPostS _ _ _ _ _ e a' _ w')=Q;go_wp2_with fail;subst hQ;cases c₀;simp_all [bodyPostS,results,results24]
end
section
open Go.RowKit Go.Shelf
def itoks (g:Nat) (ts:List Lx.Tok):It:=⟨[g],fun W=>TokIn W g ts,fun W W' h hp=>tokin_same hp (h g zy1),fun W hp b hb=>by rw[List.mem_singleton.1 hb];exact hp.1⟩
section
variable {o:List Nat} {w W W':World} {it:List It}
theorem Hp.toks {g:Nat} {ts:List Lx.Tok} (h:Hp o w it W) (ht:TokIn W' g ts) (hg:W.heap.size≤g) (hb:Below W.heap.size W W'):Hp o w (itoks g ts::it) W':=by
 have h1:Hp (ow []) W [itoks g ts] W':=⟨⟨fun x hx=>by rw[List.mem_singleton.1 hx];exact ht,by simp[itoks]⟩,⟨hb.mono (Nat.zero_le _),fun k hk _=>hb.block k hk,fun b gG=>.inr (by
  have:b=g:=by simpa[itoks]using gG
  omega)⟩⟩
 exact Hp.call (a:=[]) (r:=it) h h1
theorem Hp.reader {gp gt cap:Nat} {ts:List Lx.Tok} {L:List It} (h:Hp o w (iblk gp 78 [.slice (some ⟨gt,0,none⟩) ts.length cap,.int .i64 0]::itoks gt ts::L) W) (hg:Pa.Good ts) (hn:ts.length≤65537) (hc:ts.length≤cap):Hp o w (ipr ⟨gp,gt,cap,ts⟩ ts::L) W:=by
 have aT:gp≠gt:=by
  have:=h.sep.ap;rw[ow,List.flatMap_cons,List.flatMap_cons]at this;have h2:=(List.nodup_cons.1 this).1;intro e;exact h2 (List.mem_append_right _ (List.mem_append_left _ (by rw[e];exact List.mem_singleton.2 rfl)))
 have h0:PRok ⟨gp,gt,cap,ts⟩ ts W:=⟨by
  have:=h.blk 0 rfl;rw[Nat.sub_self];exact this,h.sep.ok (itoks gt ts) zy1,List.suffix_refl _,hg,hn,hc,aT⟩
 refine⟨⟨fun x hx=>?_,?_⟩,h.stp.sub (fun b hb=>?_)⟩
 ·rcases List.mem_cons.1 hx with rfl|hx
  ·exact h0
  ·exact h.sep.ok x (List.mem_cons_of_mem _ (List.mem_cons_of_mem _ hx))
 ·exact h.sep.ap
 ·exact hb
end
theorem polV_of (p:Pa.Pl) (P:List NV) (hP:P.map Prod.fst=p.root.num 0) (UA RA NA:Option Addr) (uc rc nc:Nat):polV (poOf p) ⟨UA,uc,RA,rc,NA,nc⟩=.agg (plc p.name (.slice UA p.uses.length uc) (.slice RA p.reveal.length rc) (.slice NA P.length nc) p.scope p.limit p.escrow).toArray:=by
 have e1:(poOf p).uses.length=p.uses.length:=List.length_map _;have e2:(poOf p).reveal.length=p.reveal.length:=List.length_map _;have e3:(poOf p).nodes.length=P.length:=by
  show((p.root.num 0).map nkOf).length=_;rw[List.length_map,←hP,List.length_map]
 show Value.agg #[_,.slice UA (poOf p).uses.length uc,.slice RA (poOf p).reveal.length rc,.slice NA (poOf p).nodes.length nc,_,_,_,_]=_;rw[e1,e2,e3];rfl
theorem polm_of {o:List Nat} {w W:World} {p:Pa.Pl} {P:List NV} {UA RA NA:Option Addr} {uc rc nc:Nat} {a:List It} (hP:P.map Prod.fst=p.root.num 0) (h:Hp o w (a++(iuses (.slice UA p.uses.length uc) p.uses::irefs (.slice RA p.reveal.length rc) p.reveal::inodes (.slice NA P.length nc) P::krows P)) W):PolM W (poOf p) ⟨UA,uc,RA,rc,NA,nc⟩:=by
 have h1:=h.sep.ok (iuses (.slice UA p.uses.length uc) p.uses) zy1;have h2:=h.sep.ok (irefs (.slice RA p.reveal.length rc) p.reveal) zy1;have h3:=h.sep.ok (inodes (.slice NA P.length nc) P) zy1;have h4:=krows_row (a:=a++[iuses (.slice UA p.uses.length uc) p.uses,irefs (.slice RA p.reveal.length rc) p.reveal,inodes (.slice NA P.length nc) P]) zyc;refine⟨prs_row h1,prs_row h2,?_⟩;have e:(poOf p).nodes=P.map fun x=>nkOf x.1:=by
  show(p.root.num 0).map nkOf=_;rw[←hP,List.map_map];rfl
 rw[e];exact nks_row h3 h4
end
section
def WfP (ns:List Nk):Nat→Int→Prop
 | 0,_=>False
 | f+1,a=>0≤a∧∃n,ns[a.toNat]? =some n∧∀k∈n.kids,WfP ns f k
theorem loopP_ok {v:Int→List Int→Int×List Int}:∀(l S:List Int),(loopP v l S).1=0→∀k∈l,∃T,(v k T).1=0
 | [],S,_,k,hk=>by cases hk
 | a::l,S,h,k,hk=>by
   rw[loopP]at h;split at h
   ·rename_i h1;exact absurd h h1
   ·rename_i h1;rcases List.mem_cons.1 hk with rfl|hk
    ·exact⟨S,by omega⟩
    ·exact loopP_ok l _ h k hk
theorem visit_wf (ns:List Nk):∀(f:Nat) (a:Int) (c:Bool) (S:List Int),(visitP ns f a c S).1=0→WfP ns f a
 | 0,a,c,S,h=>by
   by_cases hb:a<0∨(ns.length:Int)≤a∨a∈S
   ·rw[zax hb]at h;cases h
   ·rw[zbz hb]at h;cases h
 | f+1,a,c,S,h=>by
   by_cases hb:a<0∨(ns.length:Int)≤a∨a∈S
   ·rw[zax hb]at h;cases h
   ·obtain⟨n,hn⟩:∃n,ns[a.toNat]? =some n:=⟨_,List.getElem?_eq_getElem om⟩;rw[visitP_in hb hn]at h;split at h
    ·rename_i h1;exact absurd h h1
    ·refine⟨by omega,n,hn,fun k hk=>?_⟩;obtain⟨T,hT⟩:=loopP_ok _ _ h k hk;exact visit_wf ns f k _ T hT
theorem tree_wf {d:Po} (h:treeP d=0):WfP d.nodes 32 d.root:=by
 refine visit_wf d.nodes 32 d.root true [] ?_;unfold treeP at h;split at h
 ·rename_i h1;exact absurd h h1
 ·rename_i h1;omega
theorem za5 {d:Po} (h:checkP d=0):treeP d=0:=by
 unfold checkP at h
 repeat' split at h
 all_goals first|omega|(rename_i h1 _ _ _;omega)
def Nk.er (n:Nk):Nk:=⟨n.kind,n.num,n.name,n.attr,n.kids,0⟩
def Po.er (d:Po):Po:=⟨d.name,d.uses,d.reveal,d.nodes.map Nk.er,d.root,d.scope,d.limit,d.escrow⟩
end
section
open Go.RowKit Go.Shelf
end
namespace Lx
end Lx
section
open Go.RowKit Go.Shelf
def Nk.flat (n:Nk):Nk:=⟨n.kind,if n.kind=10 then 0 else n.num,n.name,n.attr,n.kids,0⟩
instance:DecidableEq Nk:=fun a b=>decidable_of_iff (a.kind=b.kind∧a.num=b.num∧a.name=b.name∧a.attr=b.attr∧a.kids=b.kids∧a.at_=b.at_) (by cases a;cases b;simp)
instance:DecidableEq Po:=fun a b=>decidable_of_iff (a.name=b.name∧a.uses=b.uses∧a.reveal=b.reveal∧a.nodes=b.nodes∧a.root=b.root∧a.scope=b.scope∧a.limit=b.limit∧a.escrow=b.escrow) (by cases a;cases b;simp)
end
namespace Pa
inductive Vl:List Lx.Tok→Nd→Prop
 | ref (a d b:Lx.Tok):isN [a]=true→isT sDot [d]=true→isN [b]=true→Vl [a,d,b] ⟨9,0,a.text,b.text,a.at_⟩
 | word (a:Lx.Tok):isW [a]=true→Vl [a] ⟨11,0,a.text.tail.dropLast,[],a.at_⟩
 | num (a:Lx.Tok):isM [a]=true→Vl [a] ⟨10,numV a.text,[],[],a.at_⟩
inductive Vs:List Lx.Tok→F→Prop
 | one (us:List Lx.Tok) (n:Nd):Vl us n→Vs us (leaf n)
 | more (us:List Lx.Tok) (n:Nd) (c:Lx.Tok) (vs:List Lx.Tok) (g:F):Vl us n→isT sComma [c]=true→Vs vs g→Vs (us++c::vs) ((leaf n).app g)
inductive Ex:Bool→List Lx.Tok→F→Prop
 | one (us:List Lx.Tok) (f:F):Ex false us f→Ex true us f
 | more (us:List Lx.Tok) (f:F) (c:Lx.Tok) (vs:List Lx.Tok) (g:F):Ex false us f→isT sComma [c]=true→Ex true vs g→Ex true (us++c::vs) (f.app g)
 | all (a o c:Lx.Tok) (vs:List Lx.Tok) (g:F):isT kAll [a]=true→isT sOpen [o]=true→Ex true vs g→isT sClose [c]=true→Ex false (a::o::(vs++[c])) (.cons ⟨3,0,[],[],a.at_⟩ g .nil)
 | any (a o c:Lx.Tok) (vs:List Lx.Tok) (g:F):isT kAny [a]=true→isT sOpen [o]=true→Ex true vs g→isT sClose [c]=true→Ex false (a::o::(vs++[c])) (.cons ⟨4,0,[],[],a.at_⟩ g .nil)
 | atleast (a m o c:Lx.Tok) (vs:List Lx.Tok) (g:F):isT kAtleast [a]=true→isM [m]=true→isT sOpen [o]=true→Ex true vs g→isT sClose [c]=true→Ex false (a::m::o::(vs++[c])) (.cons ⟨5,numV m.text,[],[],a.at_⟩ g .nil)
 | not (a:Lx.Tok) (us:List Lx.Tok) (f:F):isT kNot [a]=true→Ex false us f→Ex false (a::us) (.cons ⟨2,0,[],[],a.at_⟩ f .nil)
 | true (a:Lx.Tok):isT kTrue [a]=true→Ex false [a] (leaf ⟨0,0,[],[],a.at_⟩)
 | false (a:Lx.Tok):isT kFalse [a]=true→Ex false [a] (leaf ⟨1,0,[],[],a.at_⟩)
 | paren (o c:Lx.Tok) (us:List Lx.Tok) (f:F):isT sOpen [o]=true→Ex false us f→isT sClose [c]=true→Ex false (o::(us++[c])) f
 | cmp (us vs:List Lx.Tok) (c:Lx.Tok) (k:Nat) (a b:Nd):Vl us a→cmpOf [c]=some k→Vl vs b→Ex false (us++c::vs) (.cons ⟨6,k,[],[],atT us⟩ ((leaf a).app (leaf b)) .nil)
 | between (us vs ws:List Lx.Tok) (c d:Lx.Tok) (a b e:Nd):Vl us a→isT kBetween [c]=true→Vl vs b→isT kAnd [d]=true→Vl ws e→Ex false (us++c::(vs++d::ws)) (.cons ⟨7,0,[],[],atT us⟩ ((leaf a).app ((leaf b).app (leaf e))) .nil)
 | in_ (us vs:List Lx.Tok) (c o d:Lx.Tok) (a:Nd) (g:F):Vl us a→isT kIn [c]=true→isT sBra [o]=true→Vs vs g→isT sKet [d]=true→Ex false (us++c::o::(vs++[d])) (.cons ⟨8,0,[],[],atT us⟩ ((leaf a).app g) .nil)
theorem isN_kind {a:Lx.Tok} (h:isN [a]=Bool.true):a.kind=0∧isW [a]=Bool.false:=by
 simp only[isN,Bool.and_eq_true,beq_iff_eq,Bool.not_eq_true']at h;exact h
theorem isW_kind {a:Lx.Tok} (h:isW [a]=Bool.true):a.kind=0:=by
 simp only[isW,Bool.and_eq_true,beq_iff_eq]at h;exact h.1
theorem isM_kind {a:Lx.Tok} (h:isM [a]=Bool.true):a.kind=1:=by
 simp only[isM,beq_iff_eq]at h;exact h
theorem Vl.first {us:List Lx.Tok} {n:Nd} (h:Vl us n):∃a p,us=a::p∧a.kind≠2∧a.kind≠3:=by
 cases h with
 | ref a d b ha hd hb=>exact⟨a,_,rfl,by rw[(isN_kind ha).1];decide,by rw[(isN_kind ha).1];decide⟩
 | word a ha=>exact⟨a,_,rfl,by rw[isW_kind ha];decide,by rw[isW_kind ha];decide⟩
 | num a ha=>exact⟨a,_,rfl,by rw[isM_kind ha];decide,by rw[isM_kind ha];decide⟩
theorem Vl.len {us:List Lx.Tok} {n:Nd} (h:Vl us n):0<us.length:=by obtain⟨a,p,rfl,_⟩:=h.first;simp
theorem Ex.len {b:Bool} {us:List Lx.Tok} {f:F} (h:Ex b us f):0<us.length:=by
 induction h with
 | one _ _ _ ih=>exact ih
 | more _ _ _ _ _ _ _ _ ih _=>rw[List.length_append];omega
 | cmp us vs c k a b hv hc hb=>rw[List.length_append];have:=hv.len;omega
 | between us vs ws c d a b e hv _ _ _ _=>rw[List.length_append];have:=hv.len;omega
 | in_ us vs c o d a g hv _ _ _ _=>rw[List.length_append];have:=hv.len;omega
 | _=>simp
end Pa
namespace Lx
end Lx
namespace Pa
inductive Ps (s:Tx):List Lx.Tok→List (Tx×Tx)→Prop
 | one (a d b:Lx.Tok):isN [a]=true→isT s [d]=true→isN [b]=true→Ps s [a,d,b] [(a.text,b.text)]
 | more (a d b c:Lx.Tok) (vs:List Lx.Tok) (l:List (Tx×Tx)):isN [a]=true→isT s [d]=true→isN [b]=true→isT sComma [c]=true→Ps s vs l→Ps s (a::d::b::c::vs) ((a.text,b.text)::l)
inductive Rv:List Lx.Tok→List (Tx×Tx)→Prop
 | none:Rv [] []
 | some (r:Lx.Tok) (vs:List Lx.Tok) (l:List (Tx×Tx)):isT kReveal [r]=true→Ps sDot vs l→Rv (r::vs) l
inductive Pv (at_:Nat):List Lx.Tok→F→Prop
 | none:Pv at_ [] (leaf ⟨0,0,[],[],at_⟩)
 | some (r:Lx.Tok) (vs:List Lx.Tok) (f:F):isT kProve [r]=true→Ex false vs f→Pv at_ (r::vs) f
inductive So:List Lx.Tok→Tx×Int→Prop
 | none:So [] ([],0)
 | one (s w:Lx.Tok):isT kScope [s]=true→isW [w]=true→So [s,w] (w.text.tail.dropLast,0)
 | both (s w l n:Lx.Tok):isT kScope [s]=true→isW [w]=true→isT kLimit [l]=true→isM [n]=true→So [s,w,l,n] (w.text.tail.dropLast,numV n.text)
inductive Eo:List Lx.Tok→Tx→Prop
 | none:Eo [] []
 | some (s n:Lx.Tok):isT kEscrow [s]=true→isN [n]=true→Eo [s,n] n.text
structure Pg (ts:List Lx.Tok) (p:Pl) (q:List Lx.Tok) (a b c e z:Lx.Tok) (us rv pv so eo:List Lx.Tok):Prop where
 eq:ts=a::b::c::(us++(rv++(pv++(so++(eo++e::z::q)))))
 pol:isT kPolicy [a]=true
 nm:isN [b]=true
 uses:isT kUses [c]=true
 us:Ps sColon us p.uses
 rv:Rv rv p.reveal
 pv:Pv (atT (so++(eo++e::z::q))) pv p.root
 so:So so (p.scope,p.limit)
 eo:Eo eo p.escrow
 end_:isT kEnd [e]=true
 z:isE [z]=true
 name:p.name=b.text
end Pa
section
structure Rch (ns:List Nk) (S:List Int):Prop where
 met:Met ns S
 len:S.length≤512
theorem Rch.snoc {ns:List Nk} {S:List Int} {a:Int} (h:Rch ns S) (h2:¬(a<0∨(ns.length:Int)≤a∨a∈S∨S.length=512)):Rch ns (S++[a]):=by
 refine⟨h.met.snoc fun h9=>h2 (by rcases h9 with h|h|h;exact .inl h;exact .inr (.inl h);exact .inr (.inr (.inl h))),?_⟩;have h3:=h.len;have h4:S.length≠512:=fun h9=>h2 (.inr (.inr (.inr h9)));rw[List.length_append,List.length_singleton];omega
structure Clo (ns:List Nk) (S T:List Int):Prop where
 sub:∀x∈S,x∈T
 kids:∀b∈T,b∉S→∀n,ns[b.toNat]? =some n→∀k∈n.kids,k∈T
theorem Clo.trans {ns:List Nk} {A B C:List Int} (h:Clo ns A B) (g:Clo ns B C):Clo ns A C :=
 ⟨fun x hx=>g.sub x (h.sub x hx),fun b hb ha n hn k hk=>by
  by_cases hB:b∈B
  ·exact g.sub k (h.kids b hB ha n hn k hk)
  ·exact g.kids b hb hB n hn k hk⟩
end
namespace Lx
end Lx
section
open Go.RowKit Go.Shelf
end
namespace Pa
end Pa
section
open Go.RowKit Go.Shelf
end
section
open Go.RowKit Go.Shelf
end
section
open Go.RowKit Go.Shelf
end
section
open Go.RowKit Go.Shelf
end
namespace Lx
end Lx
section
open Go.RowKit Go.Shelf
end
section
open Go.RowKit Go.Shelf
end
namespace Pa
def F.pre:F→List Nd
 | .nil=>[]
 | .cons n k r=>n::(k.pre++r.pre)
theorem F.pre_app (f g:F):(f.app g).pre=f.pre++g.pre:=by
 induction f with
 | nil=>rfl
 | cons n k r _ ih=>rw[F.app,F.pre,F.pre,ih,List.cons_append,List.append_assoc]
def Rl (x y:Nd):Prop:=if 6≤x.kind∧x.kind≤8 then y.at_=x.at_ else x.at_<y.at_
def Cn:List Nd→Prop
 | []=>True
 | [_]=>True
 | x::y::l=>Rl x y∧Cn (y::l)
theorem Cn.app:∀{l m:List Nd},Cn l→Cn m→(∀x y,l.getLast? =some x→m.head? =some y→Rl x y)→Cn (l++m)
 | [],m,_,h,_=>h
 | [x],[],_,_,_=>trivial
 | [x],y::m,_,h,g=>⟨g x y rfl rfl,h⟩
 | x::y::l,m,h1,h2,g=>⟨h1.1,Cn.app (l:=y::l) h1.2 h2 fun a b ha hb=>g a b (by rw[List.getLast?_cons_cons];exact ha) hb⟩
theorem Cn.at_:∀{l:List Nd} {i:Nat} {x y:Nd},Cn l→l[i]? =some x→l[i+1]? =some y→Rl x y
 | [],i,x,y,_,h,_=>by simp at h
 | [a],i,x,y,_,_,h=>by simp at h
 | a::b::l,0,x,y,h,h1,h2=>by
  simp only[List.getElem?_cons_zero,Option.some.injEq,List.getElem?_cons_succ]at h1 h2;subst h1 h2;exact h.1
 | a::b::l,i+1,x,y,h,h1,h2=>Cn.at_ (l:=b::l) (i:=i) h.2 (by simpa using h1) (by simpa using h2)
structure Oc (us:List Lx.Tok) (f:F):Prop where
 ne:f.pre≠[]
 cn:Cn f.pre
 mem:∀n∈f.pre,∃t∈us,t.at_=n.at_
 last:∀n,f.pre.getLast? =some n→¬(6≤n.kind∧n.kind≤8)
theorem getLast_app {α:Type} {l m:List α} (h:m≠[]):(l++m).getLast? =m.getLast? :=by
 rw[List.getLast?_append];cases hm:m.getLast? with
 | none=>exact absurd (List.getLast?_eq_none_iff.1 hm) h
 | some x=>rfl
theorem Oc.app {us vs:List Lx.Tok} {f g:F} (h:Oc us f) (k:Oc vs g) (ha:∀s∈us,∀t∈vs,s.at_<t.at_):Oc (us++vs) (f.app g):=by
 refine⟨?_,?_,fun n hn=>?_,fun n hn=>?_⟩
 ·rw[F.pre_app];simp[h.ne]
 ·rw[F.pre_app];refine h.cn.app k.cn fun x y hx hy=>?_;unfold Rl;rw[if_neg (h.last x hx)];obtain⟨s,hs,e1⟩:=h.mem x (List.mem_of_getLast? hx);obtain⟨t,ht,e2⟩:=k.mem y (List.mem_of_mem_head? (by rw[hy];rfl));rw[←e1,←e2];exact ha s hs t ht
 ·rw[F.pre_app]at hn;rcases List.mem_append.1 hn with hn|hn
  ·obtain⟨t,ht,e⟩:=h.mem n hn;exact⟨t,List.mem_append_left _ ht,e⟩
  ·obtain⟨t,ht,e⟩:=k.mem n hn;exact⟨t,List.mem_append_right _ ht,e⟩
 ·rw[F.pre_app,getLast_app k.ne]at hn;exact k.last n hn
theorem Oc.leaf {us:List Lx.Tok} {n:Nd} (h:∃t∈us,t.at_=n.at_) (hk:¬(6≤n.kind∧n.kind≤8)):Oc us (leaf n):=by
 refine⟨by simp[Pa.leaf,F.pre],trivial,fun m hm=>?_,fun m hm=>?_⟩
 ·have:m=n:=by simpa[Pa.leaf,F.pre]using hm
  rw[this];exact h
 ·have:n=m:=by simpa[Pa.leaf,F.pre]using hm
  rw[←this];exact hk
end Pa
section
open Go.RowKit Go.Shelf
def rng (n:Nat):List Int:=(List.range n).map fun(i:Nat)=>(i:Int)
end
section
open Go.RowKit
theorem eq_take {α:Type} {x y:List α} (hl:x.length=y.length) (h:∀j,j<x.length→x[j]? =y[j]?):x=y:=by
 apply List.ext_getElem?;intro j;rcases Nat.lt_or_ge j x.length with h1|h1
 ·exact h j h1
 ·rw[List.getElem?_eq_none h1,List.getElem?_eq_none om]
theorem strs_eqd (s t:ByteArray):(s.toList==t.toList)=decide (s=t):=strs_eq
end
section
open Go.RowKit Go.Shelf
abbrev smF (ga gb gs:Nat):Value:=.func (.func 46) #[] #[pptr ga,pptr gb,pptr gs]
structure SmM (a b:Po) (La Lb:Lp) (ga gb gs:Nat) (W:World):Prop where
 ba:Blk W ga 29 (polcs a La)
 bb:Blk W gb 29 (polcs b Lb)
 bs:Blk W gs 112 [smF ga gb gs]
 pa:PolM W a La
 pb:PolM W b Lb
theorem WfP.at_ {ns:List Nk} {f:Nat} {a:Int} (h:WfP ns (f+1) a):∃(i:Nat) (n:Nk),a=(i:Int)∧i<ns.length∧ns[i]? =some n∧∀k∈n.kids,WfP ns f k:=by
 obtain⟨h0,n,hn,hk⟩:=h;have:=(List.getElem?_eq_some_iff.1 hn).1;exact⟨a.toNat,n,by omega,this,hn,hk⟩
end
section
open Go.RowKit Go.Shelf
end
namespace Pa
inductive Pc where
 | tok (k:Nat) (t:Tx)
 | sp (c:UInt8)
def Pc.txt:Pc→Tx
 | .tok _ t=>t
 | .sp c=>[c]
def flat (l:List Pc):Tx:=l.flatMap Pc.txt
def toks:List Pc→List (Nat×Tx)
 | []=>[]
 | .tok k t::l=>(k,t)::toks l
 | .sp _::l=>toks l
theorem flat_app (l m:List Pc):flat (l++m)=flat l++flat m:=by simp[flat]
def Stop (k:Nat) (t:Tx) (r:Tx):Prop:=Lx.tk (t++r)=.inr (k,t.length)∧¬(k=1∧Lx.luAt r=true)
def Okk:List Pc→Prop
 | []=>True
 | .tok k t::l=>Stop k t (flat l)∧t≠[]∧Lx.sk false (t++flat l)=0∧Okk l
 | .sp c::l=>Lx.isSp c=true∧Okk l
def Hd (p:UInt8→Bool):Tx→Prop
 | []=>True
 | c::_=>p c=true
def sepc (c:UInt8):Bool:=c==32||c==10||c==40||c==41||c==44||c==46||c==58||c==123||c==125
def OkR (l:List Pc):Prop:=∀m,Okk m→Hd sepc (flat m)→Okk (l++m)
def HdP (m:List Pc):Prop:=∃c q,flat m=c::q∧sepc c=true
theorem HdP.app {m:List Pc} (h:HdP m) (n:List Pc):Hd sepc (flat (m++n)):=by
 obtain⟨c,q,e,hc⟩:=h;rw[flat_app,e];exact hc
theorem OkR.app {l m:List Pc} (h:OkR l) (k:OkR m) (hh:HdP m):OkR (l++m):=fun n hn hs=>by
 rw[List.append_assoc];exact h _ (k n hn hs) (hh.app n)
theorem OkR.sp {c:UInt8} {l:List Pc} (hc:Lx.isSp c=true) (h:OkR l):OkR (.sp c::l):=fun n hn hs=>⟨hc,h n hn hs⟩
theorem OkR.nil:OkR []:=fun n hn _=>hn
end Pa
namespace Pa
def treeN (ns:List Nk):Nat→Int→F
 | 0,_=>.nil
 | f+1,a=>match ns[a.toNat]? with
  | none=>.nil
  | some n=>.cons ⟨n.kind.toNat,n.num,tl n.name,tl n.attr,0⟩ (F.cat (n.kids.map (treeN ns f))) .nil
theorem treeN_in {ns:List Nk} {f:Nat} {a:Int} {n:Nk} (h:ns[a.toNat]? =some n):treeN ns (f+1) a=.cons ⟨n.kind.toNat,n.num,tl n.name,tl n.attr,0⟩ (F.cat (n.kids.map (treeN ns f))) .nil:=by rw[treeN,h]
def VN (ns:List Nk):Nat→Bool→Int→Prop
 | 0,_,_=>False
 | f+1,c,a=>∃n,ns[a.toNat]? =some n∧formP n c=0∧∀k∈n.kids,VN ns f (decide (n.kind≤5)) k
theorem visit_vn (ns:List Nk):∀(f:Nat) (a:Int) (c:Bool) (S:List Int),(visitP ns f a c S).1=0→VN ns f c a
 | 0,a,c,S,h=>by
  by_cases hb:a<0∨(ns.length:Int)≤a∨a∈S
  ·rw[zax hb]at h;cases h
  ·rw[zbz hb]at h;cases h
 | f+1,a,c,S,h=>by
  by_cases hb:a<0∨(ns.length:Int)≤a∨a∈S
  ·rw[zax hb]at h;cases h
  ·obtain⟨n,hn⟩:∃n,ns[a.toNat]? =some n:=⟨_,List.getElem?_eq_getElem om⟩;rw[visitP_in hb hn]at h;split at h
   ·rename_i h1;exact absurd h h1
   ·rename_i h1;refine⟨n,hn,Decidable.not_not.1 h1,fun k hk=>?_⟩;obtain⟨T,hT⟩:=loopP_ok _ _ h k hk;exact visit_vn ns f k _ T hT
theorem tree_vn {d:Po} (h:checkP d=0):VN d.nodes 32 true d.root:=by
 refine visit_vn d.nodes 32 d.root true [] ?_;have h:=za5 h;unfold treeP at h;split at h
 ·rename_i h1;exact absurd h h1
 ·rename_i h1;omega
theorem ltN_is (c:UInt8):ltN c.toNat=Lx.isLet c:=by
 obtain⟨v⟩:=c;revert v;decide +kernel
theorem nmN_is (c:UInt8):nmN c.toNat=Lx.isNm c:=by
 obtain⟨v⟩:=c;revert v;decide +kernel
theorem wdN_is (c:UInt8):wdN c.toNat=Lx.isWd c:=by
 obtain⟨v⟩:=c;revert v;decide +kernel
theorem name_t {s:ByteArray} (h:nameP s=true):NameT (tl s):=by
 unfold nameP at h;split at h
 ·rename_i h0;simp only[Bool.and_eq_true,decide_eq_true_eq,Bool.not_eq_true']at h;obtain⟨⟨⟨h1,h2⟩,h3⟩,h4⟩:=h;refine⟨fun c hc=>?_,?_,by rw[zad];exact h1,h4⟩
  ·have:=List.all_eq_true.1 h3 c hc;rw[←nmN_is];exact this
  ·have h5:0<(tl s).length:=by rw[zad];exact h0
   cases hs:tl s with
   | nil=>rw[hs]at h5;simp at h5
   | cons c m =>
    refine⟨c,m,rfl,?_⟩;have h6:=zat s 0 h0;rw[←ltN_is];have h7:(tl s)[0]'(by rw[zad];exact h0)=c:=by simp only[hs,List.getElem_cons_zero]
    rw[←h7,h6];exact h2
 ·cases h
theorem word_t {s:ByteArray} (h:wordP s=true):(∀c∈tl s,Lx.isWd c=true)∧0<(tl s).length∧(tl s).length≤32:=by
 unfold wordP at h;simp only[Bool.and_eq_true,decide_eq_true_eq]at h;obtain⟨⟨h1,h2⟩,h3⟩:=h;refine⟨fun c hc=>?_,by rw[zad];exact h1,by rw[zad];exact h2⟩;have:=List.all_eq_true.1 h3 c hc;rw[←wdN_is];exact this
structure Fm (n:Nk) (c:Bool):Prop where
 lo:0≤n.kind
 hi:n.kind<12
 ctx:decide (n.kind≤8)=c
 kids:kidsP n.kind n.kids.length=true
 texts:textsP n=true
 low:lowP n≤n.num
 high:n.num≤highP n
theorem form_fm {n:Nk} {c:Bool} (h:formP n c=0):Fm n c:=by
 unfold formP at h;split at h
 ·cases h
 ·rename_i h1;split at h
  ·cases h
  ·rename_i h2;simp only[Bool.not_eq_false]at h1;unfold shapeP at h1;simp only[Bool.and_eq_true,decide_eq_true_eq,beq_iff_eq]at h1;obtain⟨⟨⟨⟨a,b⟩,e⟩,k⟩,t⟩:=h1;exact⟨a,b,e,k,t,by omega,by omega⟩
end Pa
namespace Pa
def nl:List Pc:=[.sp 10]
def Lines (l:List Pc):Prop:=∀m,Okk m→Okk (l++m)
theorem Lines.nil:Lines []:=fun m h=>h
theorem Lines.app {l m:List Pc} (h:Lines l) (k:Lines m):Lines (l++m):=fun n hn=>by
 rw[List.append_assoc];exact h _ (k n hn)
structure Nms (d:Po):Prop where
 name:NameT (tl d.name)
 escrow:d.escrow.size≠0→NameT (tl d.escrow)
 scope:d.scope.size≠0→(∀c∈tl d.scope,Lx.isWd c=true)∧0<(tl d.scope).length∧(tl d.scope).length≤32
 uses:∀x∈d.uses,NameT (tl x.1)∧NameT (tl x.2)
 reveal:∀x∈d.reveal,NameT (tl x.1)∧NameT (tl x.2)
theorem names_nms {d:Po} (h:namesP d=true):Nms d:=by
 unfold namesP at h;simp only[Bool.and_eq_true,Bool.or_eq_true,decide_eq_true_eq]at h;obtain⟨⟨⟨⟨h1,h2⟩,h3⟩,h4⟩,h5⟩:=h;refine⟨name_t h1,fun h=>name_t (h2.resolve_left h),fun h=>word_t (h3.resolve_left h),fun x hx=>?_,fun x hx=>?_⟩
 ·have:=List.all_eq_true.1 h4 x hx;simp only[Bool.and_eq_true]at this;exact⟨name_t this.1,name_t this.2⟩
 ·have:=List.all_eq_true.1 h5 x hx;simp only[Bool.and_eq_true]at this;exact⟨name_t this.1,name_t this.2⟩
structure Ck (d:Po):Prop where
 nodes:d.nodes.length≤512
 uses:1≤d.uses.length
 nms:Nms d
 lim0:0≤d.limit
 lim1:d.limit≤65536
 lim2:0<d.limit→d.scope.size≠0
 tree:treeP d=0
theorem check_ck {d:Po} (h:checkP d=0):Ck d:=by
 have ht:=za5 h;unfold checkP at h;by_cases h1:512<d.nodes.length∨d.uses.length<1∨4<d.uses.length∨64<d.reveal.length
 ·rw[if_pos h1]at h;cases h
 ·rw[if_neg h1]at h;by_cases h2:namesP d=false
  ·rw[if_pos h2]at h;cases h
  ·rw[if_neg h2]at h;by_cases h3:d.limit<0∨65536<d.limit∨(0<d.limit∧d.scope.size=0)
   ·rw[if_pos h3]at h;cases h
   ·refine⟨by omega,by omega,names_nms (by simpa using h2),by omega,by omega,fun h4 h5=>h3 (.inr (.inr ⟨h4,h5⟩)),ht⟩
end Pa
section
open Go.RowKit Go.Shelf
def Holds (ms:List Nk) (g:Pa.F) (k:Nat):Prop:=∀i x,(g.num k)[i]? =some x→ms[k+i]? =some (nkOf x)
theorem Holds.cons {ms:List Nk} {n:Pa.Nd} {g1 g2:Pa.F} {k:Nat} (h:Holds ms (.cons n g1 g2) k):ms[k]? =some (nkOf (n,g1.idx (k+1)))∧Holds ms g1 (k+1)∧Holds ms g2 (k+1+g1.size):=by
 refine⟨h 0 _ rfl,fun i x hx=>?_,fun i x hx=>?_⟩
 ·have:=h (i+1) x (by
   rw[Pa.F.num,List.getElem?_cons_succ,List.getElem?_append_left (List.getElem?_eq_some_iff.1 hx).1];exact hx)
  rw[show k+1+i=k+(i+1) by omega];exact this
 ·have:=h (g1.size+i+1) x (by
   rw[Pa.F.num,List.getElem?_cons_succ,List.getElem?_append_right (by rw[Pa.F.num_len];omega),Pa.F.num_len,show g1.size+i-g1.size=i by omega];exact hx)
  rw[show k+1+g1.size+i=k+(g1.size+i+1) by omega];exact this
theorem cat_len {ns:List Nk} {f:Nat} {c:Bool}:∀{l:List Int},(∀x∈l,Pa.VN ns f c x)→(Pa.F.cat (l.map (Pa.treeN ns f))).len=l.length
 | [],_=>rfl
 | x::l,h=>by
  rw[List.map_cons,Pa.F.cat,Pa.F.len_app,cat_len fun y hy=>h y (List.mem_cons_of_mem _ hy)];cases f with
  | zero=>exact(h x (List.mem_cons_self ..)).elim
  | succ f =>
   obtain⟨n,hn,-,-⟩:=h x (List.mem_cons_self ..);rw[Pa.treeN_in hn];show 0+1+l.length=_;rw[List.length_cons];omega
theorem loop_size {v:Int→List Int→Int×List Int} {s:Int→Nat} (hv:∀k S,(v k S).1=0→(v k S).2.length=S.length+s k):∀l S,(loopP v l S).1=0→(loopP v l S).2.length=S.length+(l.map s).sum
 | [],S,_=>by simp[loopP]
 | k::r,S,h=>by
  rw[loopP]at h ⊢;by_cases h1:(v k S).1≠0
  ·rw[if_pos h1]at h;exact absurd h h1
  ·rw[if_neg h1]at h ⊢;rw[loop_size hv r _ h,hv k S (Decidable.not_not.1 h1),List.map_cons,List.sum_cons];omega
theorem cat_size (t:Int→Pa.F):∀l:List Int,(Pa.F.cat (l.map t)).size=(l.map fun k=>(t k).size).sum
 | []=>rfl
 | k::r=>by rw[List.map_cons,Pa.F.cat,Pa.F.size_app,cat_size t r,List.map_cons,List.sum_cons]
theorem visit_size (ns:List Nk):∀f a c S,(visitP ns f a c S).1=0→(visitP ns f a c S).2.length=S.length+(Pa.treeN ns f a).size
 | 0,a,c,S,h=>by
  by_cases hb:a<0∨(ns.length:Int)≤a∨a∈S
  ·rw[zax hb]at h;cases h
  ·rw[zbz hb]at h;cases h
 | f+1,a,c,S,h=>by
  by_cases hb:a<0∨(ns.length:Int)≤a∨a∈S
  ·rw[zax hb]at h;cases h
  ·obtain⟨n,hn⟩:∃n,ns[a.toNat]? =some n:=⟨_,List.getElem?_eq_getElem om⟩;rw[visitP_in hb hn]at h ⊢;split at h
   ·rename_i h1;exact absurd h h1
   ·rename_i h1;rw[if_neg h1,loop_size (s:=fun k=>(Pa.treeN ns f k).size) (fun k S h=>visit_size ns f k _ S h) _ _ h,Pa.treeN_in hn,Pa.F.size,cat_size];rw[List.length_append];rw[show Pa.F.nil.size=0 from rfl,List.length_singleton];omega
theorem tree_size {d:Po} (h:checkP d=0):(Pa.treeN d.nodes 32 d.root).size=d.nodes.length:=by
 have ht:=za5 h;unfold treeP at ht;split at ht
 ·rename_i h1;exact absurd ht h1
 ·rename_i h1;split at ht
  ·cases ht
  ·rename_i h2;have:=visit_size d.nodes 32 d.root true [] (Decidable.not_not.1 h1);rw[Decidable.not_not.1 h2]at this;simpa using this.symm
end
namespace Pa
end Pa
section
open Go.RowKit Go.Shelf
end
namespace Pa
end Pa
end Go.Proofs.YtekkapgknohadaaGreatDoor
