/- A node alone: kids, texts, form of policy; form of the reference. Printed by mkpcd.py. -/
import Derived.Test.YtekkapgknohadaaGreatDoorM10
import Derived.Test.YtekkapgknohadaaGreatDoorM9
set_option linter.unusedVariables false
set_option maxRecDepth 20000
set_option maxHeartbeats 16000000
open Go.Proofs.Tryz
namespace Go.Proofs.YtekkapgknohadaaGreatDoor
section
open Go.RowKit Go.Shelf
open Lib (hid)
theorem ieq {a b:Int}:(a==b)=decide (a=b):=by rw[Bool.eq_iff_iff,beq_iff_eq,decide_eq_true_iff]
theorem kids_cases (k:Int):(k=0∨k=1∨k=2∨k=3∨k=4∨k=5∨k=6∨k=7∨k=8∨k=9∨k=10∨k=11)∨((k==0)=false∧(k==1)=false∧(k==2)=false∧(k==3)=false∧(k==4)=false∧(k==5)=false∧(k==6)=false∧(k==7)=false∧(k==8)=false∧(k==9)=false∧(k==10)=false∧(k==11)=false∧(k<0∨12≤k)):=by
 by_cases h:k<0∨12≤k
 ·right;simp only[beq_eq_false_iff_ne];omega
 ·left;omega
theorem kids_any (k:Int) (n:Nat) (w:World):Calls prog 199 #[.int .i64 k,.int .i64 (n:Int)] w fun e w'=>e=.returned (.bool (kidsP k n))∧w'=w:=by
 rcases kids_cases k with(rfl|rfl|rfl|rfl|rfl|rfl|rfl|rfl|rfl|rfl|rfl|rfl)|⟨a0,a1,a2,a3,a4,a5,a6,a7,a8,a9,sX,a11,h⟩;case inr =>
  have HR:Hid (kidsP k n=false):=hid (by
   unfold kidsP;rw[if_neg om,if_neg om,if_neg om,if_neg om,if_neg om,if_neg om])
  clear h;go_enter func199,ntmps199;go_wp2_with fail;go_ret;exact⟨zao HR.out.symm,rfl⟩
 all_goals
  go_enter func199,ntmps199;go_wp2_with fail;go_ret;exact⟨zao (by rw[Bool.eq_iff_iff];simp[kidsP]<;>omega),rfl⟩
theorem zcp {s:ByteArray} (h:decide (s.size=0)=true):s.toList.isEmpty=true∧s.toList=[]:=str_empty (of_decide_eq_true h)
theorem sz_full {s:ByteArray} (h:decide (s.size=0)=false):s.toList.isEmpty=false∧¬s.toList=[]:=str_full (by have:=of_decide_eq_false h;omega)
theorem texts_any (n:Nk) (KA:Option Addr) (kc:Nat) (hB:NBd n) (w:World):Calls prog 200 #[nkV n KA kc] w fun e w'=>e=.returned (.bool (textsP n))∧Below w.heap.size w w':=by
 have hk:=(Hp.start w).new 68 (nkcs n KA kc);have pA:=hid (zbp n.name (by have:=hB.name;omega));have jv:=hid (zbp n.attr (by have:=hB.attr;omega));have HW1:=hid (pword_any n.name (by have:=hB.name;omega));have HV:Hid (textsP n=if n.kind=9 then nameP n.name&&nameP n.attr else if n.kind=11 then wordP n.name&&decide (n.attr.size=0)else decide (n.name.size=0)&&decide (n.attr.size=0)):=hid rfl;generalize nameP n.name=q1 at *;generalize nameP n.attr=q2 at *;generalize wordP n.name=q3 at *;obtain⟨g,hg⟩:∃x,w.heap.size=x:=⟨_,rfl⟩;rw[hg]at hk;clear hB;go_enter func200,ntmps200;go_upto_region 1 with fail;try simp only[hg]
 have hk:Hp [] w [iblk g 68 (nkcs n KA kc)] (w.alloc (.cells #[.int .i64 n.kind,.int .i64 n.num,.string n.name,.string n.attr,.slice KA n.kids.length kc,.int .i64 n.at_] 68)):=hk;generalize w.alloc (.cells #[.int .i64 n.kind,.int .i64 n.num,.string n.name,.string n.attr,.slice KA n.kids.length kc,.int .i64 n.at_] 68)=W at *;obtain⟨c0,c1,c2,c3,c4,c5⟩:=(hk.blk 0 rfl).get6;by_cases h9:n.kind=9
 ·have k9:(n.kind==9)=true:=by rw[ieq,decide_eq_true h9]
  have HR:Hid (textsP n=(q1&&q2)):=hid (by rw[HV.out,if_pos h9]);clear h9;go_wp2_with fail;refine(pA.out W).mono ?_;rintro e w1 ⟨rfl,aC⟩;have an:=hk.next aC;clear hk aC c0 c1 c2 c3 c4 c5;obtain⟨c0,c1,c2,c3,c4,c5⟩:=(an.blk 0 rfl).get6;cases q1 with
  | false =>
   go_wp2_with fail;go_ret;rw[HR.out];exact zuv
  | true =>
   go_wp2_with fail;refine(jv.out w1).mono ?_;rintro e w2 ⟨rfl,aG⟩;have ah:=an.next aG;go_wp2_with fail;go_ret;rw[HR.out];exact zvc
 ·have k9:(n.kind==9)=false:=by rw[ieq,decide_eq_false h9]
  by_cases iP:n.kind=11
  ·have jo:(n.kind==11)=true:=by rw[ieq,decide_eq_true iP]
   have HR:Hid (textsP n=(q3&&decide (n.attr.size=0))):=hid (by rw[HV.out,if_neg h9,if_pos iP]);clear h9 iP;go_wp2_with fail;refine(HW1.out W).mono ?_;rintro e w1 ⟨rfl,aC⟩;have an:=hk.next aC;clear hk aC c0 c1 c2 c3 c4 c5;obtain⟨c0,c1,c2,c3,c4,c5⟩:=(an.blk 0 rfl).get6;cases q3 with
   | false =>
    go_wp2_with fail;go_ret;rw[HR.out];exact zuv
   | true =>
    cases ha:decide (n.attr.size=0);all_goals
     first|obtain⟨e1,e2⟩:=sz_full ha|obtain⟨e1,e2⟩:=zcp ha
     go_wp2_with fail;go_ret;rw[HR.out,ha];exact zuv
  ·have jo:(n.kind==11)=false:=by rw[ieq,decide_eq_false iP]
   have HR:Hid (textsP n=(decide (n.name.size=0)&&decide (n.attr.size=0))):=hid (by rw[HV.out,if_neg h9,if_neg iP]);clear h9 iP;cases hn:decide (n.name.size=0)with
   | false =>
    obtain⟨d1,d2⟩:=sz_full hn;go_wp2_with fail;go_ret;rw[HR.out,hn];exact zup
   | true =>
    obtain⟨d1,d2⟩:=zcp hn;cases ha:decide (n.attr.size=0);all_goals
     first|obtain⟨e1,e2⟩:=sz_full ha|obtain⟨e1,e2⟩:=zcp ha
     go_wp2_with fail;go_ret;rw[HR.out,hn,ha];exact zup
theorem form_any (n:Nk) (KA:Option Addr) (kc:Nat) (hB:NBd n) (cond:Bool) (w:World):Calls prog 151 #[nkV n KA kc,.bool cond] w fun e w'=>e=.returned (.int .i64 (formP n cond))∧Below w.heap.size w w':=by
 have hk:=(Hp.start w).new 68 (nkcs n KA kc);have HK:=hid (kids_any n.kind n.kids.length);have HT:=hid (texts_any n KA kc hB);have HS:Hid (shapeP n cond=(decide (0≤n.kind)&&decide (n.kind<12)&&(decide (n.kind≤8)==cond)&&kidsP n.kind n.kids.length&&textsP n)):=hid rfl;have HF:Hid (formP n cond=if shapeP n cond=false then 3 else if n.num<lowP n∨highP n<n.num then 2 else 0):=hid rfl;have bk:=hB.kids;generalize kidsP n.kind n.kids.length=qk at *;generalize textsP n=qt at *;obtain⟨g,hg⟩:∃x,w.heap.size=x:=⟨_,rfl⟩;rw[hg]at hk;clear hB;go_enter func151,ntmps151;go_upto_region 1 with fail;try simp only[hg]
 have hk:Hp [] w [iblk g 68 (nkcs n KA kc)] (w.alloc (.cells #[.int .i64 n.kind,.int .i64 n.num,.string n.name,.string n.attr,.slice KA n.kids.length kc,.int .i64 n.at_] 68)):=hk;generalize w.alloc (.cells #[.int .i64 n.kind,.int .i64 n.num,.string n.name,.string n.attr,.slice KA n.kids.length kc,.int .i64 n.at_] 68)=W at *;obtain⟨c0,c1,c2,c3,c4,c5⟩:=(hk.blk 0 rfl).get6;by_cases h1:n.kind<0
 ·have HR:Hid (formP n cond=3):=hid (by rw[HF.out,HS.out,decide_eq_false (by omega:¬0≤n.kind)];rfl);go_wp2_with fail;go_ret;rw[HR.out];exact zup
 ·by_cases h2:12≤n.kind
  ·have HR:Hid (formP n cond=3):=hid (by rw[HF.out,HS.out,decide_eq_false (by omega:¬n.kind<12)];simp);go_wp2_with fail;go_ret;rw[HR.out];exact zup
  ·have dC:decide (0≤n.kind)=true:=decide_eq_true om;have iu:decide (n.kind<12)=true:=decide_eq_true om;rw[dC,iu]at HS;clear dC iu;cases h8:decide (n.kind≤8)<;>cases cond;case false.true =>
    have HR:Hid (formP n true=3):=hid (by rw[HF.out,HS.out,h8];rfl);go_wp2_with fail;go_ret;rw[HR.out];exact zup
   case true.false =>
    have HR:Hid (formP n false=3):=hid (by rw[HF.out,HS.out,h8];rfl);go_wp2_with fail;go_ret;rw[HR.out];exact zup
   all_goals
    cases qk with
    | false =>
     have HR:=hid (HF.out.trans (by rw[HS.out];simp):_=(3:Int));go_wp2_with fail;refine(HK.out W).mono ?_;rintro e w1 ⟨rfl,hw⟩;subst hw;go_wp2_with fail;go_ret;rw[HR.out];exact zup
    | true =>
     go_wp2_with fail;refine(HK.out W).mono ?_;rintro e w1 ⟨rfl,hw⟩;subst hw;go_wp2_with fail;refine(HT.out _).mono ?_;rintro e w2 ⟨rfl,aG⟩;have ah:=hk.next aG;clear hk aG c0 c1 c2 c3 c4 c5;obtain⟨c0,c1,c2,c3,c4,c5⟩:=(ah.blk 0 rfl).get6;cases qt with
     | false =>
      have HR:=hid (HF.out.trans (by rw[HS.out];simp):_=(3:Int));go_wp2_with fail;go_ret;rw[HR.out];exact zvc
     | true =>
      have aN:=hid (HF.out.trans (by rw[if_neg (by rw[HS.out,h8];simp)]):_=(if n.num<lowP n∨highP n<n.num then(2:Int)else 0));clear HF HS h8 HT HK;clear h1 h2;by_cases h5:n.kind=5
      ·have k5:(n.kind==5)=true:=by rw[ieq,decide_eq_true h5]
       have e1:lowP n=1:=by rw[lowP,if_pos h5]
       have e2:highP n=(n.kids.length:Int):=by rw[highP,if_pos h5]
       clear h5;go_upto_region 6 with fail;go_quiet (fail);by_cases l1:n.num<1
       ·exact zt29
       ·by_cases l2:(n.kids.length:Int)<n.num
        ·exact zt30
        ·exact zt31
      ·have k5:(n.kind==5)=false:=by rw[ieq,decide_eq_false h5]
       by_cases h6:n.kind=6
       ·have k6:(n.kind==6)=true:=by rw[ieq,decide_eq_true h6]
        have e1:lowP n=0:=by rw[lowP,if_neg h5,if_neg om]
        have e2:highP n=5:=by rw[highP,if_neg h5,if_pos h6]
        clear h5 h6;by_cases l1:n.num<0
        ·exact zt29
        ·by_cases l2:5<n.num
         ·exact zt30
         ·exact zt31
       ·have k6:(n.kind==6)=false:=by rw[ieq,decide_eq_false h6]
        by_cases eB:n.kind=10
        ·have jL:(n.kind==10)=true:=by rw[ieq,decide_eq_true eB]
         have e1:lowP n= -2147483648:=by rw[lowP,if_neg h5,if_pos eB]
         have e2:highP n=2147483647:=by rw[highP,if_neg h5,if_neg h6,if_pos eB]
         clear h5 h6 eB;by_cases l1:n.num< -2147483648
         ·exact zt29
         ·by_cases l2:2147483647<n.num
          ·exact zt30
          ·exact zt31
        ·have jL:(n.kind==10)=false:=by rw[ieq,decide_eq_false eB]
         have e1:lowP n=0:=by rw[lowP,if_neg h5,if_neg eB]
         have e2:highP n=0:=by rw[highP,if_neg h5,if_neg h6,if_neg eB]
         clear h5 h6 eB;by_cases l1:n.num<0
         ·exact zt29
         ·by_cases l2:0<n.num
          ·exact zt30
          ·exact zt31
end
namespace Nf
open Go.RowKit Go.Shelf Go.Maps Go.WideMaps
set_option linter.unusedSectionVars false
def asIs (v:Value):Option (DataW Value×List MemPlace):=some (.held v,[])
structure MapD (α:Type) where
 t:TypeId
 mt:TypeId
 et:TypeId
 z:Value
 zero:∀w:World,(zeroValue et).run prog w=.ok z w
 law:Keyed prog t
 und:prog.underlying mt=some (.map t et)
 val:α→Value
 kl:α→Lit
 ok:α→Prop
 key:∀x,ok x→keyOf prog t (val x)=some (kl x)
 inj:∀x y,ok x→ok y→kl x=kl y→x=y
section
variable {α:Type} [DecidableEq α] (D:MapD α)
def MapD.datD (S:List (α×Value)):DataW Value:=S.foldl (fun m p=>m.put (D.kl p.1) (.held p.2)) (.map [])
theorem MapD.snoc (S:List (α×Value)) (p:α×Value):D.datD (S++[p])=(D.datD S).put (D.kl p.1) (.held p.2):=by
 unfold MapD.datD;rw[List.foldl_append];rfl
theorem MapD.isMap (S:List (α×Value)):IsMap (D.datD S):=by
 have:∀(l:List (α×Value)) (m:DataW Value),IsMap m→IsMap (l.foldl (fun m p=>m.put (D.kl p.1) (.held p.2)) m):=by
  intro l
  induction l with
  | nil=>intro m h;exact h
  | cons a l ih=>intro m h;exact ih _ (h.put _ _)
 exact this _ _ isMap_empty
theorem MapD.at_ (s:α) (v:Value) (z:DataW Value) (h:D.ok s):∀(n:Nat) (S:List (α×Value)),(∀x∈S,D.ok x.1)→S.Pairwise (fun x y=>x.1≠y.1)→S.length=n→(s,v)∈S→(D.datD S).atKey (D.kl s) z=.held v:=by
 intro n
 induction n with
 | zero =>
   intro S _ _ hS hm;rw[List.eq_nil_of_length_eq_zero hS]at hm;cases hm
 | succ n ih =>
   intro S cI hp hS hm;obtain⟨T,t,rfl⟩:∃T t,S=T++[t]:=⟨S.dropLast,S.getLast (by intro h9;rw[h9]at hS;cases hS),(List.dropLast_concat_getLast _).symm⟩;have hT:T.length=n:=by simpa using hS
   have ht:=cI t zy1;rw[D.snoc];rw[List.pairwise_append]at hp;by_cases cS:s=t.1
   ·rw[cS,atKey_put_same (D.isMap T) (D.law.key (D.key t.1 ht))];rcases List.mem_append.1 hm with h9|h9
    ·exact absurd cS (hp.2.2 _ h9 t zy1)
    ·rw[List.mem_singleton]at h9;rw[←h9]
   ·rw[atKey_put_other (fun e=>cS (D.inj _ _ h ht e))];refine ih T (fun x hx=>cI x (List.mem_append_left _ hx)) hp.1 hT ?_;rcases List.mem_append.1 hm with h9|h9
    ·exact h9
    ·rw[List.mem_singleton]at h9;exact absurd (by rw[←h9]) cS
def imapV (b:Nat) (S:List (α×Value)):It:=⟨[b],fun W=>((∀x∈S,D.ok x.1)∧S.Pairwise (fun x y=>x.1≠y.1))∧W.ownsMap prog D.t asIs b S.length (D.datD S),fun W W' h hp=>by
 obtain⟨ho,es,clock,hb,r⟩:=hp;exact⟨ho,es,clock,(h b (List.mem_singleton.2 rfl)).trans hb,r⟩,fun W hp b' hb=>by rw[List.mem_singleton.1 hb];exact World.ownsMap.lt hp.2⟩
theorem imapV_look {W:World} {b:Nat} {S:List (α×Value)} (h:(imapV D b S).P W) {s:α} {v:Value} (hm:(s,v)∈S):(Instr.lookup D.mt (.map (some b)) (D.val s) false).run prog W=.ok v W:=by
 have hs:=h.1.1 _ hm;obtain⟨v',ps,cJ,hv⟩:=World.ownsMap.lookup h.2 D.law D.und (D.zero W) (zd:=.held D.z) (zp:=[]) rfl (D.key s hs);rw[D.at_ s v _ hs _ S h.1.1 h.1.2 rfl hm]at hv;rw[cJ];have e:v'=v:=by
  unfold asIs at hv;simp only[Option.some.injEq,Prod.mk.injEq,DataW.held.injEq]at hv;exact hv.1
 rw[e]
theorem Hp.mapNew {o:List Nat} {w W:World} {it:List It} (h:Hp o w it W):Hp o w (imapV D W.heap.size []::it) (W.alloc (.map #[] 0)):=by
 have h1:Hp (ow []) W [imapV D W.heap.size []] (W.alloc (.map #[] 0)):=by
  refine⟨⟨fun x hx=>?_,by simp[imapV]⟩,⟨(Below.refl _ _).alloc (Nat.zero_le _) _,fun k hk _=>Below.heap_alloc _ _ _ hk,fun b hb=>.inr ?_⟩⟩
  ·rw[List.mem_singleton.1 hx];exact⟨⟨fun x hx=>absurd hx List.not_mem_nil,List.Pairwise.nil⟩,World.ownsMap_made _ _ _ _⟩
  ·simp[imapV]at hb;omega
 exact zvg
theorem Hp.mapPutV {o:List Nat} {w W W':World} {it:List It} (h:Hp o w it W) (i:Nat) {b:Nat} {S:List (α×Value)} (hx:it[i]? =some (imapV D b S)) {s:α} {v:Value} (hs:D.ok s) (hn:∀x∈S,x.1≠s) (af:W'.ownsMap prog D.t asIs b (S.length+1) ((D.datD S).put (D.kl s) (.held v))) (hg:W.grownBy W' (some b)) :
 Hp o w (it.set i (imapV D b (S++[(s,v)]))) W':=by
 have hP:(imapV D b S).P W:=h.sep.ok _ (List.mem_of_getElem? hx);refine h.upd i hx (x':=imapV D b (S++[(s,v)])) ?_ ⟨⟨hg.os,hg.tape,hg.output,hg.size,fun k hk=>absurd hk (Nat.not_lt_zero _)⟩,fun k hk ho=>hg.block k hk (fun h9=>ho ?_),fun b' hb=>.inl hb⟩ (by simp[imapV])
 ·refine⟨⟨fun x hx=>?_,?_⟩,?_⟩
  ·rcases List.mem_append.1 hx with hx|hx
   ·exact hP.1.1 x hx
   ·rw[List.mem_singleton.1 hx];exact hs
  ·rw[List.pairwise_append];refine⟨hP.1.2,List.pairwise_singleton _ _,fun x hx y hy=>?_⟩;rw[List.mem_singleton.1 hy];exact hn x hx
  ·show W'.ownsMap _ _ _ b (S++[(s,v)]).length (D.datD (S++[(s,v)]));rw[List.length_append,D.snoc];exact af
 ·injection h9 with h9;rw[h9];simp[imapV]
theorem imapV_own {W:World} {b:Nat} {S:List (α×Value)} (h:(imapV D b S).P W):W.ownsMap prog D.t asIs b S.length (D.datD S):=h.2
end
def wrdM:MapD ByteArray where
 t:=9
 mt:=128
 et:=3
 z:=.int .i64 0
 zero w:=kr
 law:=strK.law
 und:=underlying128
 val:=strK.val
 kl:=strK.kl
 ok:=strK.ok
 key:=strK.key
 inj:=strK.inj
def refM:MapD Bp where
 t:=89
 mt:=118
 et:=130
 z:=.agg #[.int .i64 0,.string ⟨#[]⟩,.int .i64 0,.int .i64 0,.int .i64 0,.slice none 0 0,.map none]
 zero w:=kr
 law:=refLaw
 und:=underlying118
 val:=refK.val
 kl:=refK.kl
 ok:=refK.ok
 key:=refK.key
 inj:=refK.inj
end Nf
section
open Go.RowKit Go.Shelf
attribute [local go_sem] tf0 tf1 tf2
theorem policy_ok {R:PR} {nm al sc:Pa.Tx} {a0 a1 a2 a3 a4 a5 a6 a7 a8:Nat} {S r:List Lx.Tok} {f:Pa.F} {W:World} (h:PRok R (⟨2,Pa.kPolicy,a0⟩::⟨0,nm,a1⟩::⟨2,Pa.kUses,a2⟩::⟨0,al,a3⟩::⟨2,Pa.sColon,a4⟩::⟨0,sc,a5⟩::⟨2,Pa.kProve,a6⟩::S) W)
 (n1:∀q,Pa.isN (⟨0,nm,a1⟩::q)=true) (n2:∀q,Pa.isN (⟨0,al,a3⟩::q)=true) (n3:∀q,Pa.isN (⟨0,sc,a5⟩::q)=true)
 (hE:∀W',PRok R S W'→Calls prog 76 #[ptr R.gp] W' (TOut R W' (some f,⟨2,Pa.kEnd,a7⟩::⟨3,[],a8⟩::r))) (hf:f.size≤1000):Calls prog 25 #[ptr R.gp] W (POut R W (some ⟨nm,[(al,sc)],[],[],0,[],f⟩,⟨3,[],a8⟩::r)):=by
 have hS:=h.self;obtain⟨bR,hbR⟩:∃g,W.heap.size=g:=⟨_,rfl⟩;obtain⟨bO,hbO⟩:∃g,bR+1=g:=⟨_,rfl⟩;have ar:=((hS.new 29 zPl).new 29 zPl).perm (List.perm_append_comm (l₁:=[_,_]) (l₂:=[_]));rw[World.size_alloc,hbR,hbO]at ar;clear hS h;have HE:=Lib.hid hE;have N1:=Lib.hid n1;have N2:=Lib.hid n2;have N3:=Lib.hid n3;clear hE n1 n2 n3;obtain⟨i0,aL,bg,aY,bh⟩:=info_parts use_info;go_enter func25,ntmps25;go_upto_region 2 with fail;clear hbR hbO;generalize (W.alloc (.cells #[.string ⟨#[]⟩,.slice none 0 0,.slice none 0 0,.slice none 0 0,.int .i64 0,.string ⟨#[]⟩,.int .i64 0,.string ⟨#[]⟩] 29)).alloc (.cells #[.string ⟨#[]⟩,.slice none 0 0,.slice none 0 0,.slice none 0 0,.int .i64 0,.string ⟨#[]⟩,.int .i64 0,.string ⟨#[]⟩] 29)=w0 at *;go_wp2_with fail;refine(need_ok Pa.kPolicy ar.pr rfl).mono ?_;rintro e w1 ⟨rfl,hH⟩;have an:=ar.rd1 hH;clear ar hH;go_wp2_with fail;refine(name_ok an.pr (N1.out _)).mono ?_;rintro e w2 ⟨rfl,hH⟩;have ah:=an.rd1 hH;clear an hH;obtain⟨c0,c1,c2,c3,c4,c5,c6,c7⟩:=(ah.blk 1 rfl).get8;have f0:=(ah.blk 1 rfl).frozen 0;have aj:=(ah.set 1 rfl 0 (Sv nm):Hp [R.gp,R.gt] W [ipr R _,iblk bO 29 (plc nm (.slice none 0 0) (.slice none 0 0) (.slice none 0 0) [] 0 []),iblk bR 29 zPl] (w2.setCell ⟨bO,0,none⟩ (Sv nm)));go_upto_region 4 with fail;clear ah c0 c1 c2 c3 c4 c5 c6 c7 f0;generalize w2.setCell ⟨bO,0,none⟩ (Sv nm)=w3 at *;go_wp2_with fail;refine(need_ok Pa.kUses aj.pr rfl).mono ?_;rintro e w4 ⟨rfl,hH⟩;have aq:=aj.rd1 hH;clear aj hH;replace aq:=(aq.nilrow 50 2).perm (perm_in3 _ _ _ _ _);go_wp2_with fail;refine wp_loop_rounds 2 ?_;rw[rounds_succ];go_wp2_with fail;refine(name_ok aq.pr (N2.out _)).mono ?_;rintro e w5 ⟨rfl,hH⟩;have aA:=aq.rd1 hH;clear aq hH;obtain⟨bU,hbU⟩:∃g,w5.heap.size=g:=⟨_,rfl⟩;have az:=(aA.new 50 [Sv al,Sv []]).perm (List.perm_append_comm (l₁:=[_]) (l₂:=[_,_,_,_]));rw[hbU]at az;have az:Hp [R.gp,R.gt] W _ (w5.alloc (.cells #[.string (bs al),.string ⟨#[]⟩] 50)):=az;clear aA;go_upto_region 9 with fail;clear hbU;generalize w5.alloc (.cells #[.string (bs al),.string ⟨#[]⟩] 50)=w6 at az ⊢;go_wp2_with fail;refine(need_ok Pa.sColon az.pr rfl).mono ?_;rintro e w7 ⟨rfl,hH⟩;have aR:=az.rd1 hH;clear az hH;go_wp2_with fail;refine(name_ok aR.pr (N3.out _)).mono ?_;rintro e w8 ⟨rfl,hH⟩;have bn:=aR.rd1 hH;clear aR hH;obtain⟨n0,n1⟩:=(bn.blk 4 rfl).get2;have f1:=(bn.blk 4 rfl).frozen 1;have bE:=(bn.set 4 rfl 1 (Sv sc):Hp [R.gp,R.gt] W [ipr R _,iblk bO 29 (plc nm (.slice none 0 0) (.slice none 0 0) (.slice none 0 0) [] 0 []),iblk bR 29 zPl,iuses (.slice none 0 0) [],iblk bU 50 [Sv al,Sv sc]] (w8.setCell ⟨bU,1,none⟩ (Sv sc)));go_upto_region 11 with fail;clear n0 n1 f1 bn;generalize w8.setCell ⟨bU,1,none⟩ (Sv sc)=w9 at *;obtain⟨n0,n1⟩:=(bE.blk 4 rfl).get2;obtain⟨c0,c1,c2,c3,c4,c5,c6,c7⟩:=(bE.blk 1 rfl).get8;have bu:=bE.size;go_wp2_with (at_builtin;refine zac rfl _ _ 25 rfl 0 50 i0 _ 2 32 underlying25 aL bg aY bh rfl zy0 _ 0 [] rfl ((bE.alloc _).row 3 rfl) ⟨w9.heap.size,0,none⟩ 1 1 [Sv al,Sv sc] rfl rfl (new2p _ _ _ _) zy9 zy0 zy0 om (Nat.zero_le _) ?_;intro v' dI af ai aH;obtain⟨A2,dh,rfl⟩:=zab af;have cz:=(bE.alloc (.cells #[Sv al,Sv sc] 50)).grown 3 rfl af ai aH;obtain⟨c0,c1,c2,c3,c4,c5,c6,c7⟩:=(cz.blk 1 rfl).get8;have fO:=(cz.blk 1 rfl).frozen 1;clear af ai aH)
 have iL:=((cz.set 1 rfl 1 (.slice A2 1 dh)).sub (r:=[iblk bU 50 [Sv al,Sv sc]]) (it:=[_,_,_,_]):Hp [R.gp,R.gt] W [ipr R _,iblk bO 29 (plc nm (.slice A2 1 dh) (.slice none 0 0) (.slice none 0 0) [] 0 []),iblk bR 29 zPl,iuses (.slice A2 1 dh) [(al,sc)]] (dI.setCell ⟨bO,1,none⟩ (.slice A2 1 dh)));clear bE cz c0 c1 c2 c3 c4 c5 c6 c7 fO n0 n1 bu;generalize dI.setCell ⟨bO,1,none⟩ (.slice A2 1 dh)=fy at *;refine(zb1 Pa.sComma iL.pr rfl).mono ?_;rintro e w12 ⟨rfl,hH⟩;have iM:=iL.rd1 hH;clear iL hH;go_wp2_with fail;rw[rounds_succ];go_wp2_with fail;refine(zb1 Pa.kReveal iM.pr rfl).mono ?_;rintro e w13 ⟨rfl,hH⟩;have aP:=iM.rd1 hH;clear iM hH;have hN:=(aP.nilrow 89 2).perm (List.perm_append_comm (l₁:=[_]) (l₂:=[_,_,_,_]));clear aP;go_wp2_with fail;refine(za1 R ⟨2,Pa.kProve,a6⟩ S _ hN.pr).mono ?_;rintro e vw ⟨rfl,hb⟩;have bH:=hN.next hb;clear hN hb;unfold tokV;obtain⟨gt,pR⟩:∃y,vw.heap.size=y:=⟨_,rfl⟩;have cm:=(bH.new 163 (tcs ⟨0,0,[],[],a6⟩ (.slice none 0 0))).perm (List.perm_append_comm (l₁:=[_]) (l₂:=[_,_,_,_,_]));rw[pR]at cm;have cm:Hp [R.gp,R.gt] W _ (vw.alloc (.cells #[.int .i64 0,.int .i64 0,.string ⟨#[]⟩,.string ⟨#[]⟩,.slice none 0 0,.int .i64 (a6:Int),.slice none 0 0] 163)):=cm;go_upto_region 18 with fail;clear bH pR;generalize vw.alloc (.cells #[.int .i64 0,.int .i64 0,.string ⟨#[]⟩,.string ⟨#[]⟩,.slice none 0 0,.int .i64 (a6:Int),.slice none 0 0] 163)=w15 at cm ⊢;go_wp2_with fail;refine(take_yes Pa.kProve cm.pr rfl).mono ?_;rintro e w16 ⟨rfl,hH⟩;have aA:=cm.rd1 hH;clear cm hH;go_wp2_with fail;refine(HE.out _ aA.pr).mono ?_;rintro e w17 ⟨x,gx,vY,iB,rfl,hH⟩;have az:=aA.rd hH;clear aA hH HE;have hQ:=(Hp.sub (r:=[itree ⟨0,0,[],[],a6⟩ gt (.slice none 0 0)]) (az.perm (List.Perm.cons _ ((List.perm_append_comm (l₁:=x.its) (l₂:=[_,_,_,_])).append_right [_] |> (fun h=>by rw[List.append_assoc]at h;exact h)))):Hp [R.gp,R.gt] W (ipr R _::plb bO nm (.slice A2 1 dh) (.slice none 0 0) [] 0 []::iblk bR 29 zPl::iuses (.slice A2 1 dh) [(al,sc)]::irefs (.slice none 0 0) []::x.its) w17);clear az;go_wp2_with fail;refine(zb1 Pa.kScope hQ.pr rfl).mono ?_;rintro e w18 ⟨rfl,hH⟩;have uZ:=hQ.rd1 hH;clear hQ hH;go_wp2_with fail;refine(zb1 Pa.kEscrow uZ.pr rfl).mono ?_;rintro e w19 ⟨rfl,hH⟩;have iA:=uZ.rd1 hH;clear uZ hH;go_wp2_with fail;refine(need_ok Pa.kEnd iA.pr rfl).mono ?_;rintro e w20 ⟨rfl,hH⟩;have oZ:=iA.rd1 hH;clear iA hH;go_wp2_with fail;refine(za1 R ⟨3,[],a8⟩ r _ oZ.pr).mono ?_;rintro e w21 ⟨rfl,hb⟩;have kJ:=oZ.next hb;clear oZ hb;unfold tokV;obtain⟨n,kv,k,rfl⟩:∃n kv k,x=.cons n gx kv k .nil:=by
  cases x with
  | nil=>simp[LF.roots]at iB
  | cons n g kv k r =>
   simp only[LF.roots,List.cons.injEq]at iB;obtain⟨rfl,hr⟩:=iB;cases r with
   | nil=>exact⟨n,kv,k,rfl⟩
   | cons _ _ _ _ _=>simp[LF.roots]at hr
 subst vY;have si:Hp [R.gp,R.gt] W ((inodes (.slice none 0 0) []::tits n gx kv k)++[ipr R (⟨3,[],a8⟩::r),plb bO nm (.slice A2 1 dh) (.slice none 0 0) [] 0 [],iblk bR 29 zPl,iuses (.slice A2 1 dh) [(al,sc)],irefs (.slice none 0 0) []]) w21:=by
  have h9:=kJ.nilrow 68 6;refine h9.perm (List.Perm.cons _ ?_);have e9:(LF.cons n gx kv k .nil).its=tits n gx kv k:=by
   show itree n gx kv::iptrs kv k.roots::(k.its++[])=_;rw[List.append_nil]
  rw[e9];exact List.perm_append_comm (l₁:=[_,_,_,_,_])
 clear kJ;have HNU:=Lib.hid ((all_num (.cons n gx kv k .nil)).1 [] (.slice none 0 0) w21 (by have h9:(Pa.F.cons n k.out .nil).size≤1000:=hf;simp only[List.length_nil];omega) ⟨fun y hy=>si.sep.ok y (List.mem_append_left _ hy),(List.nodup_append.1 (by have:=si.sep.ap;rw[zar]at this;exact this)).1⟩);go_wp2_with fail;refine HNU.out.mono ?_;rintro e w3 ⟨Q,v',hQ,rfl,hH⟩;have hN4:=Hp.call si hH;clear si hH HNU;have sD:Hp [R.gp,R.gt] W ([ipr R (⟨3,[],a8⟩::r),plb bO nm (.slice A2 1 dh) (.slice none 0 0) [] 0 [],iblk bR 29 zPl,iuses (.slice A2 1 dh) [(al,sc)],irefs (.slice none 0 0) []]++(inodes v' Q::(tits n gx kv k++krows Q))) w3:=hN4.perm List.perm_append_comm;clear hN4;obtain⟨c0,c1,c2,c3,c4,c5,c6,c7⟩:=(sD.blk 1 rfl).get8;have f3:=(sD.blk 1 rfl).frozen 3;have rW:Hp [R.gp,R.gt] W ([ipr R (⟨3,[],a8⟩::r),iblk bO 29 (plc nm (.slice A2 1 dh) (.slice none 0 0) v' [] 0 []),iblk bR 29 zPl,iuses (.slice A2 1 dh) [(al,sc)],irefs (.slice none 0 0) []]++(inodes v' Q::(tits n gx kv k++krows Q))) (w3.setCell ⟨bO,3,none⟩ v'):=sD.set 1 rfl 3 v';obtain⟨vA,vc,rfl⟩:=zab (rW.row 5 rfl);go_upto_region 30 with fail;clear sD c0 c1 c2 c3 c4 c5 c6 c7 f3;generalize w3.setCell ⟨bO,3,none⟩ (.slice vA Q.length vc)=w4 at *;obtain⟨c0,c1,c2,c3,c4,c5,c6,c7⟩:=(rW.blk 1 rfl).get8;go_wp2_with (refine wpList_store_row rfl 29 (.tmp 2) (.tmp 81) rfl bR (plc nm (.slice A2 1 dh) (.slice none 0 0) (.slice vA Q.length vc) [] 0 []).toArray rfl rfl 29 zPl.toArray (rW.blk 2 rfl) kr kr kr ?_);have hN7:=rW.rowAt 2 rfl (plc nm (.slice A2 1 dh) (.slice none 0 0) (.slice vA Q.length vc) [] 0 []);obtain⟨e0,e1,e2,e3,e4,e5,e6,e7⟩:=(hN7.blk 2 rfl).get8;refine bodyPost_ret (v:=.agg (plc nm (.slice A2 1 dh) (.slice none 0 0) (.slice vA Q.length vc) [] 0 []).toArray) (by simp[results,results25,go_sem,e0,e1,e2,e3,e4,e5,e6,e7]) rfl ?_;unfold POut;refine⟨(.slice A2 1 dh),(.slice none 0 0),.slice vA Q.length vc,Q,hQ,rfl,?_⟩;refine Hp.sub (r:=[iblk bO 29 (plc nm (.slice A2 1 dh) (.slice none 0 0) (.slice vA Q.length vc) [] 0 []),iblk bR 29 (plc nm (.slice A2 1 dh) (.slice none 0 0) (.slice vA Q.length vc) [] 0 [])]++tits n gx kv k) (hN7.perm ?_);exact perm_fin _ _ _ _ _ _ _ _
end
end Go.Proofs.YtekkapgknohadaaGreatDoor
