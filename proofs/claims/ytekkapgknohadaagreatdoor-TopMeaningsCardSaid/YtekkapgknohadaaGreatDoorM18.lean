/- Schemas in memory; schema.Check and schema.Find. Printed by mkta.py. -/
import Derived.Test.YtekkapgknohadaaGreatDoorM16
set_option linter.unusedVariables false
set_option maxRecDepth 20000
set_option maxHeartbeats 16000000
open Go.Proofs.Tryz
namespace Go.Proofs.YtekkapgknohadaaGreatDoor
namespace Nf
open Go.RowKit Go.Shelf Go.Maps Go.WideMaps
open Lib (hid)
theorem allN_take {p:Nat→Bool} {s:ByteArray} {k:Nat} (h:k<s.size):allN p ((tl s).take (k+1))=(allN p ((tl s).take k)&&p s[k].toNat):=by
 unfold allN;rw[take_snoc s k h,List.all_append];simp
theorem allN_bad {p:Nat→Bool} {s:ByteArray} {k:Nat} (h:k<s.size) (hp:p s[k].toNat=false):allN p (tl s)=false:=by
 exact zt56
theorem allN_full {p:Nat→Bool} {s:ByteArray} {k:Nat} (h:¬k<s.size):allN p ((tl s).take k)=allN p (tl s):=by
 rw[List.take_of_length_le zyw]
theorem letter_any (n:Nat) (w:World):Calls prog 240 #[.int .u8 (n:Int)] w fun e w'=>e=.returned (.bool (ltN n))∧w'=w:=by
 by_cases a:(97:Int)≤(n:Int)<;>by_cases b:(n:Int)≤122<;>by_cases c:(65:Int)≤(n:Int)<;>by_cases d:(n:Int)≤90 <;>
 first
 | (exfalso;omega)
 | (go_enter func240,ntmps240
    go_wp2_with fail;go_ret;exact⟨zao (by rw[Bool.eq_iff_iff];simp[ltN];omega),rfl⟩)
theorem digit_any (n:Nat) (w:World):Calls prog 261 #[.int .u8 (n:Int)] w fun e w'=>e=.returned (.bool (dgN n))∧w'=w:=by
 by_cases a:(48:Int)≤(n:Int)<;>by_cases b:(n:Int)≤57 <;>
 first
 | (exfalso;omega)
 | (go_enter func261,ntmps261
    go_wp2_with fail;go_ret;exact⟨zao (by rw[Bool.eq_iff_iff];simp[dgN];omega),rfl⟩)
theorem inName_any (n:Nat) (w:World):Calls prog 242 #[.int .u8 (n:Int)] w fun e w'=>e=.returned (.bool (nmN n))∧w'=w:=by
 have HL:=hid (letter_any n);have HD:=hid (digit_any n);have HV:Hid (nmN n=(ltN n||dgN n||decide (n=95))):=hid rfl;generalize ltN n=l at *;generalize dgN n=d at *;generalize nmN n=r at *;have HE:Hid (decide (n=95)=((n:Int)==95)):=hid zyn;cases h:((n:Int)==95);all_goals
  cases l<;>cases d;all_goals
   go_enter func242,ntmps242;go_wp2_with fail;refine(HL.out w).mono ?_;rintro e w1 ⟨rfl,rfl⟩;go_wp2_with fail;first
    | (go_ret;exact⟨zao (by rw[HV.out,HE.out,h];rfl),rfl⟩)
    | (refine(HD.out w1).mono ?_
       rintro e w2 ⟨rfl,rfl⟩;go_wp2_with fail;go_ret;exact⟨zao (by rw[HV.out,HE.out,h];rfl),rfl⟩)
theorem inWord_any (n:Nat) (w:World):Calls prog 272 #[.int .u8 (n:Int)] w fun e w'=>e=.returned (.bool (wdN n))∧w'=w:=by
 have HL:=hid (inName_any n);have HV:Hid (wdN n=(nmN n||decide (n=45))):=hid rfl;generalize nmN n=l at *;generalize wdN n=r at *;have HE:Hid (decide (n=45)=((n:Int)==45)):=hid zyn;cases h:((n:Int)==45);all_goals
  cases l;all_goals
   go_enter func272,ntmps272;go_wp2_with fail;refine(HL.out w).mono ?_;rintro e w1 ⟨rfl,rfl⟩;go_wp2_with fail;go_ret;exact⟨zao (by rw[HV.out,HE.out,h];rfl),rfl⟩
structure Decides (f:FuncId) (p:Nat→Bool):Prop where
 enters:∀args w,(callFunc f args).run prog w=.ok (.enter f args) w
 dec:∀(n:Nat) (w:World),Calls prog f #[.int .u8 (n:Int)] w fun e w'=>e=.returned (.bool (p n))∧w'=w
theorem decName:Decides 242 nmN:=⟨enters_of func242 kr rfl,inName_any⟩
theorem decWord:Decides 272 wdN:=⟨enters_of func272 kr rfl,inWord_any⟩
theorem all_any (s:ByteArray) (hs:s.size≤1000000) (f:FuncId) (p:Nat→Bool) (hf:Decides f p) (w:World):Calls prog 241 #[.string s,.func (.func f) #[] #[]] w fun e w'=>e=.returned (.bool (allN p (tl s)))∧w'=w:=by
 have gU:=hf.enters;have HV:Hid (allN p (tl s)=allN p (tl s)):=hid rfl;go_enter func241,ntmps241;go_upto_region 2 with fail;go_loopg [8] s.size (fun m s8 wx=>∃i:Nat,i≤s.size∧m=s.size-i∧s8=.int .i64 (i:Int)∧wx=w∧Hid (allN p ((tl s).take i)=true));case atStart=>exact⟨0,Nat.zero_le _,rfl,rfl,rfl,hid rfl⟩
 case round =>
  obtain⟨i,hi,rfl,rfl,rfl,HA⟩:=hrel;by_cases ay:i<s.size
  ·have aM:(i:Int)<(s.size:Int):=om;have HT:=hid (allN_take (p:=p) ay);have HB:=hid (fun h=>allN_bad (p:=p) ay h);have HC:=hid (hf.dec s[i].toNat wr);go_wp2_with fail;refine HC.out.mono ?_;rintro e w1 ⟨rfl,hw⟩;subst hw;clear HC;cases hp:p s[i].toNat with
   | false =>
     have HR:=hid (HB.out hp);clear hp;go_wp2_with fail;go_ret;rw[HR.out];exact zv6
   | true =>
     have jV:Hid (allN p ((tl s).take (i+1))=true):=hid (by rw[HT.out,HA.out,hp];rfl);clear hp;go_wp2_with fail;go_roundg (s.size-(i+1));case measure=>omega
     case rel=>exact⟨i+1,ay,rfl,by first|rfl|simp,rfl,jV⟩
  ·have aM:¬(i:Int)<(s.size:Int):=om;have HR:=hid ((allN_full (p:=p) ay).symm.trans HA.out);go_wp2_with fail;go_ret;rw[HR.out];exact zv6
theorem word_any (s:ByteArray) (w:World):Calls prog 262 #[.string s] w fun e w'=>e=.returned (.bool (wordP s))∧w'=w:=by
 by_cases h0:s.size=0
 ·obtain⟨e1,e2⟩:=str_empty h0;have HV:Hid (wordP s=false):=hid (by unfold wordP;rw[h0];rfl);clear h0;go_enter func262,ntmps262;go_wp2_with fail;go_ret;rw[HV.out];exact zv6
 ·obtain⟨e1,e2⟩:=str_full (s:=s) om;by_cases h1:s.size≤32
  ·have hi:(s.size:Int)≤32:=om;have HV:Hid (wordP s=allN wdN (tl s)):=hid (by unfold wordP;rw[decide_eq_true (by omega:0<s.size),decide_eq_true h1];rfl);have HC:=hid (all_any s om _ _ decWord w);clear h0;generalize allN wdN (tl s)=r at *;go_enter func262,ntmps262;go_wp2_with fail;refine HC.out.mono ?_;rintro e w1 ⟨rfl,rfl⟩;go_wp2_with fail;go_ret;rw[HV.out];exact zv6
  ·have hi:¬(s.size:Int)≤32:=om;have HV:Hid (wordP s=false):=hid (by unfold wordP;rw[decide_eq_false h1];simp);clear h0;go_enter func262,ntmps262;go_wp2_with fail;go_ret;rw[HV.out];exact zv6
def kws16:List ByteArray:=[⟨#[112,111,108,105,99,121]⟩,⟨#[117,115,101,115]⟩,⟨#[114,101,118,101,97,108]⟩,⟨#[112,114,111,118,101]⟩,⟨#[115,99,111,112,101]⟩,⟨#[108,105,109,105,116]⟩,⟨#[101,115,99,114,111,119]⟩,⟨#[101,110,100]⟩,⟨#[97,108,108]⟩,⟨#[97,110,121]⟩,⟨#[97,116,108,101,97,115,116]⟩,⟨#[110,111,116]⟩,⟨#[116,114,117,101]⟩,⟨#[102,97,108,115,101]⟩,⟨#[98,101,116,119,101,101,110]⟩,⟨#[97,110,100]⟩]
def kwIn:ByteArray:=⟨#[105,110]⟩
def kws:List ByteArray:=kws16++[kwIn]
def kwP (s:ByteArray):Bool:=memD s kws
theorem zcs (s:ByteArray) (w:World):Calls prog 243 #[.string s] w fun e w'=>e=.returned (.bool (kwP s))∧Below w.heap.size w w':=by
 have hb:=(Below.refl w.heap.size w).alloc (Nat.le_refl _) (.cells (kws.map Value.string).toArray 9);have vm:=show Blk (w.alloc (.cells (kws.map Value.string).toArray 9)) w.heap.size 9 (kws.map Value.string)from Blk.new w _ _
 have HC:=hid (slices_Contains_string w.heap.size 0 17 17 kws s (w.alloc (.cells (kws.map Value.string).toArray 9)) zy0 zy0 (fun j hj=>by
  rw[Nat.zero_add,vm.cell j,List.getElem?_map,List.getElem?_eq_getElem hj,List.getD_eq_getElem?_getD,List.getElem?_eq_getElem hj];rfl))
 have HV:Hid (Lib.containsS (kws.take 17) s=kwP s):=hid (by rw[containsD];rfl);go_enter func243,ntmps243;go_wp2_with fail;refine HC.out.mono ?_;rintro e w1 ⟨rfl,rfl⟩;rw[HV.out];go_wp2_with fail;go_ret;exact zvl
def nameP (s:ByteArray):Bool:=if h:0<s.size then decide (s.size≤32)&&ltN s[0].toNat&&allN nmN (tl s)&& !kwP s else false
theorem name_any (s:ByteArray) (w:World):Calls prog 201 #[.string s] w fun e w'=>e=.returned (.bool (nameP s))∧Below w.heap.size w w':=by
 by_cases h0:s.size=0
 ·obtain⟨e1,e2⟩:=str_empty h0;have HV:Hid (nameP s=false):=hid (by unfold nameP;rw[dif_neg om]);clear h0;go_enter func201,ntmps201;go_wp2_with fail;go_ret;rw[HV.out];exact zv0
 ·obtain⟨e1,e2⟩:=str_full (s:=s) om;have bq:0<s.size:=om;by_cases h1:s.size≤32
  ·have hi:(s.size:Int)≤32:=om;have HV:Hid (nameP s=(ltN s[0].toNat&&allN nmN (tl s)&& !kwP s)):=hid (by
    unfold nameP;rw[dif_pos bq,decide_eq_true h1];rfl)
   have HL:=hid (letter_any s[0].toNat w);have HC:=hid (all_any s om _ _ decName w);have HK:=hid (zcs s w);generalize allN nmN (tl s)=r at *;generalize kwP s=q at *;generalize ltN s[0].toNat=l at *;cases l<;>cases r;all_goals
    go_enter func201,ntmps201;go_wp2_with fail;refine HL.out.mono ?_;rintro e w1 ⟨rfl,hw⟩;subst hw;go_wp2_with fail;first
     | (go_ret;exact⟨zao (by rw[HV.out];rfl),Below.refl _ _⟩)
     | (refine HC.out.mono ?_
        rintro e w2 ⟨rfl,hw⟩;subst hw;go_wp2_with fail;first
         | (go_ret;exact⟨zao (by rw[HV.out];rfl),Below.refl _ _⟩)
         | (refine HK.out.mono ?_
            rintro e w3 ⟨rfl,aJ⟩;go_wp2_with fail;go_ret;exact⟨zao (by rw[HV.out];rfl),aJ⟩))
  ·have hi:¬(s.size:Int)≤32:=om;have HV:Hid (nameP s=false):=hid (by unfold nameP;rw[dif_pos om,decide_eq_false h1];simp);clear h0;go_enter func201,ntmps201;go_wp2_with fail;go_ret;rw[HV.out];exact zv0
structure FieldAt (W:World) (ad:Addr) (f:Fd) (WA:Option Addr) (c:Nat):Prop where
 name:W.cell? ad=some (.string f.name)
 kind:W.cell? ⟨ad.block,ad.off+1,none⟩=some (.int .i64 f.kind)
 min:W.cell? ⟨ad.block,ad.off+2,none⟩=some (.int .i64 f.min)
 max:W.cell? ⟨ad.block,ad.off+3,none⟩=some (.int .i64 f.max)
 words:W.cell? ⟨ad.block,ad.off+4,none⟩=some (.slice WA f.words.length c)
 strs:Strs W WA f.words
theorem FieldAt.up {W W':World} {ad:Addr} {f:Fd} {WA:Option Addr} {c:Nat} (h:FieldAt W ad f WA c) (hb:Below W.heap.size W W'):FieldAt W' ad f WA c :=
 ⟨zaa h.name hb,zaa h.kind hb,zaa h.min hb,zaa h.max hb,zaa h.words hb,h.strs.up hb⟩
structure Flds (W:World) (A:Option Addr) (L:List Fd):Prop where
 at_:∀i f,L[i]? =some f→∃ad WA c,A=some ad∧FieldAt W (ad.add (i*5)) f WA c
theorem Flds.up {W W':World} {A:Option Addr} {L:List Fd} (h:Flds W A L) (hb:Below W.heap.size W W'):Flds W' A L:=⟨fun i f hf=>by
 obtain⟨ad,WA,c,h1,h2⟩:=h.at_ i f hf;exact⟨ad,WA,c,h1,h2.up hb⟩⟩
abbrev fcs (f:Fd) (WA:Option Addr) (c:Nat):List Value:=[.string f.name,.int .i64 f.kind,.int .i64 f.min,.int .i64 f.max,.slice WA f.words.length c]
def zbx:List ByteArray→List ByteArray→Int
 | _,[]=>0
 | S,w::r=>if wordP w=false then 1 else if memD w S then 8 else zbx (S++[w]) r
def wordsP (l:List ByteArray):Int:=if l.length<1∨64<l.length then 6 else zbx [] l
theorem word_len {s:ByteArray} (h:wordP s=true):s.size≤1000000:=by
 unfold wordP at h;simp only[Bool.and_eq_true,decide_eq_true_eq]at h;omega
theorem checkWords_any (A:Option Addr) (c:Nat) (l:List ByteArray) (hl:l.length≤1000000) (w:World) (hS:Strs w A l) :
 Calls prog 244 #[.slice A l.length c] w fun e w'=>e=.returned (.int .i64 (wordsP l))∧Below w.heap.size w w':=by
 by_cases h6:l.length<1∨64<l.length
 ·have HV:Hid (wordsP l=6):=hid (by rw[wordsP,if_pos h6]);by_cases h1:l.length<1
  ·have hi:(l.length:Int)<1:=om;clear h6;go_enter func244,ntmps244;go_wp2_with fail;go_ret;rw[HV.out];exact zv0
  ·have hi:¬(l.length:Int)<1:=om;have lB:(64:Int)<(l.length:Int):=om;clear h6;go_enter func244,ntmps244;go_wp2_with fail;go_ret;rw[HV.out];exact zv0
 ·have hi:¬(l.length:Int)<1:=om;have lB:¬(64:Int)<(l.length:Int):=om;have hl64:l.length≤64:=om;have HV:Hid (wordsP l=zbx [] l):=hid (by rw[wordsP,if_neg h6]);clear h6;have di:=@run_makeMap prog;go_enter func244,ntmps244;go_upto_region 4 with fail;have cY:=(Hp.start w).setNew strK;clear di;generalize w.alloc (.map #[] 0)=W at *;obtain⟨gm,dk⟩:∃g,w.heap.size=g:=⟨_,rfl⟩;rw[dk]at cY;try simp only[dk]
  go_upto_region 5 with fail;go_loopg [17] l.length (fun m kh wx=>∃i:Nat,i≤l.length∧m=l.length-i∧kh=.int .i64 (i:Int)∧Hp [] w [iset strK gm (l.take i)] wx∧Hid (zbx [] l=zbx (l.take i) (l.drop i)));case atStart=>exact⟨0,Nat.zero_le _,rfl,rfl,cY,hid rfl⟩
  case round =>
   obtain⟨i,hi,rfl,rfl,hM,HE⟩:=hrel;clear cY;by_cases ay:i<l.length
   ·have aM:(i:Int)<(l.length:Int):=om;have aL:(0:Int)≤(i:Int):=om;obtain⟨s,su⟩:∃s,l[i]? =some s:=⟨_,List.getElem?_eq_getElem ay⟩;obtain⟨ad,rfl,ca⟩:=(hS.up hM.below0).at_ i s su;have HT:=hid (zan su);have cg:Hid (zbx [] l=if wordP s=false then 1 else if memD s (l.take i)then 8 else zbx (l.take (i+1)) (l.drop (i+1))):=hid (by
     rw[HE.out,zcu su,zbx,HT.out])
    have HW:=hid (word_any s wr);have vL:=hid (fun hs=>(show(Instr.lookup 222 (.map (some gm)) (.string s) false).run prog wr=.ok (.bool (memD s (l.take i))) wr from zb4 strK (hM.sep.ok _ (List.mem_singleton.2 rfl)) s hs));have iI:=hid (word_len (s:=s));have iJ:(l.take i).length≤64:=by rw[List.length_take];omega
    have HTL:Hid (i<maxLen):=hid zy2;clear su HE;generalize wordP s=q at *;generalize memD s (l.take i)=r at *;cases q with
    | false =>
      exact zt67
    | true =>
      have hss:=iI.out rfl;have dw:=vL.out (show s.size≤9223372036854775807 by omega);cases r with
      | true =>
        exact zt67
      | false =>
        go_wp2_with fail;refine HW.out.mono ?_;rintro e w1 ⟨rfl,hw⟩;subst hw;have af:w1.ownsMap prog 9 (plainElem (H:=Unit) prog 4) gm (l.take i).length (strK.setD (l.take i)):=iset_own strK (hM.sep.ok _ (List.mem_singleton.2 rfl));go_wp2_with (first|(at_mapUpdate;refine wpList_mapUpdate_own _ rfl _ _ _ 222 rfl 9 4 strK.law underlying222 (plainElem (H:=Unit) prog 4) gm (l.take i).length (strK.setD (l.take i)) rfl af zy2 _ _ (strK.kl s) rfl rfl (strK.key s (show s.size≤9223372036854775807 by omega)) _ [] (plainElem_bool underlying4 true) ?_;intro w2 br aV));have az:Hp [] w [iset strK gm (l.take (i+1))] w2:=by rw[HT.out];exact hM.setPut strK 0 rfl (show s.size≤9223372036854775807 by omega) br aV
        have jz:Hid (zbx [] l=zbx (l.take (i+1)) (l.drop (i+1))):=hid zuf;exact zt70
   ·have aM:¬(i:Int)<(l.length:Int):=om;have HR:Hid (wordsP l=0):=hid (by rw[HV.out,HE.out,List.drop_of_length_le om,zbx]);go_wp2_with fail;go_ret;rw[HR.out];exact zur
def numE (f:Fd):Int:=if 0<f.words.length then 3 else if f.min< -2147483648∨2147483647<f.max∨f.max<f.min then 2 else 0
def wrdE (f:Fd):Int:=if f.min≠0∨f.max≠0 then 3 else wordsP f.words
def fieldE (f:Fd):Int:=if f.kind=0 then numE f else if f.kind=1 then wrdE f else 3
structure FBd (f:Fd):Prop where
 name:f.name.size≤1000000
 words:f.words.length≤1000000
theorem checkField_any (f:Fd) (WA:Option Addr) (c:Nat) (hf:FBd f) (w:World) (hS:Strs w WA f.words) :
 Calls prog 202 #[.agg (fcs f WA c).toArray] w fun e w'=>e=.returned (.int .i64 (fieldE f))∧Below w.heap.size w w':=by
 have hb:=(Below.refl w.heap.size w).alloc (Nat.le_refl _) (.cells (fcs f WA c).toArray 57);obtain⟨c0,c1,c2,c3,c4⟩:=(show Blk (w.alloc (.cells (fcs f WA c).toArray 57)) w.heap.size 57 (fcs f WA c)from Blk.new w _ _).get5;have bK:=hS.up ((Below.refl w.heap.size w).alloc (Nat.le_refl _) (.cells (fcs f WA c).toArray 57));have HW:=hid (checkWords_any WA c f.words hf.words _ bK);have HV:Hid (fieldE f=if f.kind=0 then numE f else if f.kind=1 then wrdE f else 3):=hid rfl;cases h0:(f.kind==0)with
 | true =>
   have e0:f.kind=0:=by simpa using h0
   rw[if_pos e0]at HV;clear e0;by_cases hw:0<f.words.length
   ·have hi:(0:Int)<(f.words.length:Int):=om;have aN:Hid (fieldE f=3):=hid (by rw[HV.out,numE,if_pos hw]);exact zt21
   ·have hi:¬(0:Int)<(f.words.length:Int):=om;have aN:Hid (fieldE f=if f.min< -2147483648∨2147483647<f.max∨f.max<f.min then 2 else 0):=hid (by rw[HV.out,numE,if_neg hw]);by_cases a:f.min< -2147483648
    ·rw[if_pos (.inl a)]at aN;exact zt21
    ·by_cases b:2147483647<f.max
     ·rw[if_pos (.inr (.inl b))]at aN;exact zt21
     ·by_cases d:f.max<f.min
      ·rw[if_pos (.inr (.inr d))]at aN;exact zt21
      ·rw[if_neg om]at aN;exact zt21
 | false =>
   have e0:¬f.kind=0:=by simpa using h0
   rw[if_neg e0]at HV;clear e0;cases h1:(f.kind==1)with
   | false =>
     have e1:¬f.kind=1:=by simpa using h1
     rw[if_neg e1]at HV;clear e1;go_enter func202,ntmps202;go_wp2_with fail;go_ret;rw[HV.out];exact zvl
   | true =>
     have e1:f.kind=1:=by simpa using h1
     rw[if_pos e1]at HV;clear e1;have aN:Hid (fieldE f=if f.min≠0∨f.max≠0 then 3 else wordsP f.words):=hid HV.out;cases hn:(f.min != 0)with
     | true =>
       have en:f.min≠0:=by simpa using hn
       rw[if_pos (.inl en)]at aN;clear en;exact zt21
     | false =>
       have en:f.min=0:=by simpa using hn
       cases hx:(f.max != 0)with
       | true =>
         have ex:f.max≠0:=by simpa using hx
         rw[if_pos (.inr ex)]at aN;clear en ex;exact zt21
       | false =>
         have ex:f.max=0:=by simpa using hx
         rw[if_neg (by rintro(h|h)<;>contradiction)]at aN;clear en ex;go_enter func202,ntmps202;go_wp2_with fail;refine HW.out.mono ?_;rintro e w1 ⟨rfl,aC⟩;go_wp2_with fail;go_ret;rw[aN.out];exact⟨rfl,hb.trans (aC.mono hb.size)⟩
def findF:List Fd→ByteArray→Option Nat
 | [],_=>none
 | f::L,s=>if f.name=s then some 0 else(findF L s).map (· +1)
def findI (L:List Fd) (s:ByteArray):Int:=match findF L s with|some k=>(k:Int)|none=>-1
theorem find_some:∀(L:List Fd) (i:Nat) (f:Fd) (s:ByteArray),L[i]? =some f→f.name=s→(∀(j:Nat) (g:Fd),j<i→L[j]? =some g→g.name≠s)→findF L s=some i
 | [],i,f,s,h,_,_=>by simp at h
 | g::L,0,f,s,h,h2,_=>by
   have:g=f:=by simpa using h
   rw[findF,if_pos (by rw[this];exact h2)]
 | g::L,i+1,f,s,h,h2,h3=>by
   rw[findF,if_neg (h3 0 g om rfl),find_some L i f s zyc h2 (fun j g' hj hg=>h3 (j+1) g' om (by simpa using hg))];rfl
theorem find_none:∀(L:List Fd) (s:ByteArray),(∀(j:Nat) (g:Fd),L[j]? =some g→g.name≠s)→findF L s=none
 | [],s,_=>rfl
 | g::L,s,h=>by
   rw[findF,if_neg (h 0 g rfl),find_none L s (fun j g' hg=>h (j+1) g' (by simpa using hg))];rfl
theorem find_lt:∀(L:List Fd) (s:ByteArray) (k:Nat),findF L s=some k→k<L.length∧(∃f:Fd,L[k]? =some f∧f.name=s)∧∀(j:Nat) (g:Fd),j<k→L[j]? =some g→g.name≠s
 | [],s,k,h=>by cases h
 | g::L,s,k,h=>by
   rw[findF]at h;split at h
   ·rename_i hg;cases h;exact⟨by simp,⟨g,rfl,hg⟩,fun j g' hj=>absurd hj (Nat.not_lt_zero _)⟩
   ·rename_i hg;obtain⟨m,hm,rfl⟩:=Option.map_eq_some_iff.1 h;obtain⟨h1,⟨f,h2,h3⟩,h4⟩:=find_lt L s m hm;refine⟨by simpa using h1,⟨f,by simpa using h2,h3⟩,fun j g' hj lp=>?_⟩;cases j with
    | zero =>
      have:g=g':=by simpa using lp
      rw[←this];exact hg
    | succ j=>exact h4 j g' om (by simpa using lp)
theorem find1_any (f:Fd) (WA:Option Addr) (c g:Nat) (s:ByteArray) (w:World) (hg:w.cell? ⟨g,0,none⟩=some (.string s)) :
 Calls prog 203 #[.agg (fcs f WA c).toArray,.pointer (some ⟨g,0,none⟩)] w fun e w'=>e=.returned (.bool (decide (f.name=s)))∧Below w.heap.size w w':=by
 have hb:=(Below.refl w.heap.size w).alloc (Nat.le_refl _) (.cells (fcs f WA c).toArray 57);obtain⟨c0,-,-,-,-⟩:=(show Blk (w.alloc (.cells (fcs f WA c).toArray 57)) w.heap.size 57 (fcs f WA c)from Blk.new w _ _).get5;have cK:=zaa hg hb;have eX:=@strs_eq f.name s;generalize decide (f.name=s)=r at *;go_enter func203,ntmps203;go_wp2_with fail;go_ret;exact⟨by first|rfl|(rw[←eX]),hb⟩
theorem indexF_any (A:Option Addr) (c:Nat) (L:List Fd) (g:Nat) (s:ByteArray) (hL:L.length≤1000000) (w:World) (hS:Flds w A L) (hg:w.cell? ⟨g,0,none⟩=some (.string s)) :
 Calls prog 64 #[.slice A L.length c,.func (.func 203) #[] #[.pointer (some ⟨g,0,none⟩)]] w fun e w'=>e=.returned (.int .i64 (findI L s))∧Below w.heap.size w w':=by
 go_enter func64,ntmps64;go_upto_region 2 with fail;go_loopg [8] L.length (fun m s8 wx=>∃i:Nat,i≤L.length∧m=L.length-i∧s8=.int .i64 (i:Int)∧Below w.heap.size w wx∧Hid (∀(j:Nat) (f:Fd),j<i→L[j]? =some f→f.name≠s));case atStart=>exact⟨0,Nat.zero_le _,rfl,rfl,Below.refl _ _,hid (fun j f hj=>absurd hj (Nat.not_lt_zero _))⟩
 case round =>
  obtain⟨i,hi,rfl,rfl,hb,HI⟩:=hrel;by_cases ay:i<L.length
  ·have aM:(i:Int)<(L.length:Int):=om;have aL:(0:Int)≤(i:Int):=om;obtain⟨f,hf⟩:∃f,L[i]? =some f:=⟨_,List.getElem?_eq_getElem ay⟩;obtain⟨ad,WA,wc,rfl,hF⟩:=(hS.up hb).at_ i f hf;have c0:=hF.name;have c1:=hF.kind;have c2:=hF.min;have c3:=hF.max;have c4:=hF.words;have HC:=hid (find1_any f WA wc g s wr (zaa hg hb));by_cases eE:f.name=s
   ·have HV:Hid (findI L s=(i:Int)):=hid (by unfold findI;rw[find_some L i f s hf eE HI.out]);rw[decide_eq_true eE]at HC;clear eE hf HI;go_wp2_with fail;refine HC.out.mono ?_;rintro e w1 ⟨rfl,aC⟩;clear HC;go_wp2_with fail;go_ret;rw[HV.out];exact⟨rfl,hb.trans (aC.mono hb.size)⟩
   ·have ed:Hid (∀(j:Nat) (f:Fd),j<i+1→L[j]? =some f→f.name≠s):=hid (fun j f' hj r9=>by
     by_cases tJ:j=i
     ·subst tJ;rw[hf]at r9;injection r9 with r9;rw[←r9];exact eE
     ·exact HI.out j f' om r9)
    rw[decide_eq_false eE]at HC;clear eE hf HI;go_wp2_with fail;refine HC.out.mono ?_;rintro e w1 ⟨rfl,aC⟩;clear HC;go_wp2_with fail;go_roundg (L.length-(i+1));case measure=>omega
    case rel=>exact⟨i+1,ay,rfl,by first|rfl|simp,hb.trans (aC.mono hb.size),ed⟩
  ·have aM:¬(i:Int)<(L.length:Int):=om;have HV:Hid (findI L s= -1):=hid (by unfold findI;rw[find_none L s (fun j g hj=>HI.out j g (by have:=(List.getElem?_eq_some_iff.1 hj).1;omega) hj)]);clear HI;go_wp2_with fail;go_ret;rw[HV.out];exact zvl
def findV (L:List Fd) (s:ByteArray):Value:=match findF L s with|some k=>.tuple #[.int .i64 (k:Int),.bool true]|none=>.tuple #[.int .i64 0,.bool false]
theorem find_any (nm s:ByteArray) (A:Option Addr) (c:Nat) (L:List Fd) (hL:L.length≤1000000) (w:World) (hS:Flds w A L) :
 Calls prog 155 #[.agg #[.string nm,.slice A L.length c],.string s] w fun e w'=>e=.returned (findV L s)∧Below w.heap.size w w':=by
 have hb:=((Below.refl w.heap.size w).alloc (Nat.le_refl _) (.cells #[.string nm,.slice A L.length c] 53)).alloc zy1 (.cells #[.string s] 9);have hk:=((Hp.start w).new 53 [.string nm,.slice A L.length c]).new 9 [.string s];have c1:=(hk.blk 1 rfl).cell 1;have c2:=(hk.blk 0 rfl).cell 0;simp only[List.getElem?_cons_zero,List.getElem?_cons_succ]at c1 c2;have HC:=hid (indexF_any A c L _ s hL _ (hS.up hk.below0) c2);have HV:Hid (findV L s=match findF L s with|some k=>.tuple #[.int .i64 (k:Int),.bool true]|none=>.tuple #[.int .i64 0,.bool false]):=hid rfl;clear hk;have bu:(w.alloc (.cells #[.string nm,.slice A L.length c] 53)).heap.size=w.heap.size+1:=by simp
 rw[bu]at HC c2;cases hf:findF L s with
 | none =>
   have hI:findI L s= -1:=by unfold findI;rw[hf]
   rw[hI]at HC;rw[hf]at HV;clear hI hf;go_enter func155,ntmps155;go_wp2_with fail;refine HC.out.mono ?_;rintro e w1 ⟨rfl,aC⟩;go_wp2_with fail;go_ret2;rw[HV.out];exact⟨rfl,hb.trans (aC.mono hb.size)⟩
 | some k =>
   have bk:=(find_lt L s k hf).1;have hI:findI L s=(k:Int):=by unfold findI;rw[hf]
   rw[hI]at HC;rw[hf]at HV;have hm:max (k:Int) 0=(k:Int):=om;have gK:(0:Int)≤(k:Int):=om;clear hI hf;go_enter func155,ntmps155;go_wp2_with fail;refine HC.out.mono ?_;rintro e w1 ⟨rfl,aC⟩;go_wp2_with fail;go_ret2;rw[HV.out];exact⟨by first|rfl|simp[hm],hb.trans (aC.mono hb.size)⟩
def za7:List ByteArray→List Fd→Int
 | _,[]=>0
 | S,f::r=>if nameP f.name=false then 1 else if memD f.name S then 8 else if fieldE f≠0 then fieldE f else za7 (S++[f.name]) r
def schemaE (nm:ByteArray) (L:List Fd):Int:=if nameP nm=false then 1 else if L.length<1∨16<L.length then 6 else za7 [] L
abbrev nms (L:List Fd):List ByteArray:=L.map Fd.name
structure SBd (nm:ByteArray) (L:List Fd):Prop where
 name:nm.size≤1000000
 len:L.length≤1000000
 fld:∀f∈L,FBd f
abbrev schV (nm:ByteArray) (A:Option Addr) (n c:Nat):Value:=.agg #[.string nm,.slice A n c]
theorem nms_take {L:List Fd} {i:Nat} {f:Fd} (h:L[i]? =some f):nms (L.take (i+1))=nms (L.take i)++[f.name]:=by
 rw[zan h];simp[nms]
theorem fieldsE_at {L:List Fd} {i:Nat} {f:Fd} {E:Int} (h:L[i]? =some f) (hE:E=za7 (nms (L.take i)) (L.drop i)):E=if nameP f.name=false then 1 else if memD f.name (nms (L.take i))then 8 else if fieldE f≠0 then fieldE f else za7 (nms (L.take (i+1))) (L.drop (i+1)):=by
 rw[hE,zcu h,za7,nms_take h]
theorem check_any (nm:ByteArray) (A:Option Addr) (c:Nat) (L:List Fd) (hB:SBd nm L) (w:World) (hS:Flds w A L) :
 Calls prog 153 #[schV nm A L.length c] w fun e w'=>e=.returned (.int .i64 (schemaE nm L))∧Below w.heap.size w w':=by
 have hk:=(Hp.start w).new 53 [.string nm,.slice A L.length c];have HN:=hid (name_any nm (w.alloc (.cells #[.string nm,.slice A L.length c] 53)));have HV:Hid (schemaE nm L=if nameP nm=false then 1 else if L.length<1∨16<L.length then 6 else za7 [] L):=hid rfl;have cV:=hB.len;have HBF:=hid hB.fld;obtain⟨g1,el⟩:∃g,w.heap.size=g:=⟨_,rfl⟩;rw[el]at hk;clear hB;generalize hq:nameP nm=q at *;clear hq;go_enter func153,ntmps153;go_upto_region 1 with fail;generalize w.alloc (.cells #[.string nm,.slice A L.length c] 53)=W at *;try simp only[el]
 have c0:=(hk.blk 0 rfl).cell 0;simp only[List.getElem?_cons_zero]at c0;go_wp2_with fail;refine HN.out.mono ?_;rintro e w1 ⟨rfl,aC⟩;have an:=hk.next aC;clear HN hk aC c0;cases q with
 | false =>
   go_wp2_with fail;go_ret;rw[HV.out];exact zvd
 | true =>
   have c1:=(an.blk 0 rfl).cell 1;simp only[List.getElem?_cons_zero,List.getElem?_cons_succ]at c1;by_cases h1:L.length<1
   ·have hi:(L.length:Int)<1:=om;have HR:Hid (schemaE nm L=6):=hid (by rw[HV.out,if_neg zy1,if_pos (.inl h1)]);clear h1;go_wp2_with fail;go_ret;rw[HR.out];exact zvd
   ·have hi:¬(L.length:Int)<1:=om;by_cases h2:16<L.length
    ·have lB:(16:Int)<(L.length:Int):=om;have HR:Hid (schemaE nm L=6):=hid (by rw[HV.out,if_neg zy1,if_pos (.inr h2)]);go_wp2_with fail;go_ret;rw[HR.out];exact zvd
    ·have lB:¬(16:Int)<(L.length:Int):=om;have HR:Hid (schemaE nm L=za7 [] L):=hid (by rw[HV.out,if_neg zy1,if_neg om]);have hl16:L.length≤16:=om;have di:=@run_makeMap prog;go_upto_region 6 with fail;have cY:=an.setNew strK;clear di an c1;generalize w1.alloc (.map #[] 0)=W2 at *;generalize w1.heap.size=gm at *;have c1:=(cY.blk 1 rfl).cell 1;simp only[List.getElem?_cons_zero,List.getElem?_cons_succ]at c1;go_upto_region 7 with fail;clear c1;go_loopg [25] L.length (fun m s25 wx=>∃i:Nat,i≤L.length∧m=L.length-i∧s25=.int .i64 (i:Int)∧Hp [] w [iset strK gm (nms (L.take i)),iblk g1 53 [.string nm,.slice A L.length c]] wx∧Hid (za7 [] L=za7 (nms (L.take i)) (L.drop i)));case atStart=>exact⟨0,Nat.zero_le _,rfl,rfl,cY,hid rfl⟩
     case round =>
      obtain⟨i,hi,rfl,rfl,hM,HE⟩:=hrel;clear cY;by_cases ay:i<L.length
      ·have aM:(i:Int)<(L.length:Int):=om;have aL:(0:Int)≤(i:Int):=om;obtain⟨f,hf⟩:∃f,L[i]? =some f:=⟨_,List.getElem?_eq_getElem ay⟩;have eb:=HBF.out f (List.mem_of_getElem? hf);obtain⟨ad,WA,wc,rfl,lJ⟩:=hS.at_ i f hf;have hF:=lJ.up hM.below0;have HF0:=hid lJ;have d0:=hF.name;have d1:=hF.kind;have d2:=hF.min;have d3:=hF.max;have d4:=hF.words;have HT:=hid (nms_take hf);have cg:=hid (fieldsE_at hf HE.out);have hfn:=eb.name;have gF:=hid eb;have iJ:(nms (L.take i)).length≤16:=by rw[List.length_map,List.length_take];omega
       clear hf HE eb;go_upto_region 9 with fail;have aA:=hM.new 57 (fcs f WA wc);have cS:=hF.strs.up ((Below.refl wr.heap.size wr).alloc (Nat.le_refl _) (.cells (fcs f WA wc).toArray 57));clear hM d0 d1 d2 d3 d4 hF;generalize wr.alloc (.cells #[.string f.name,.int .i64 f.kind,.int .i64 f.min,.int .i64 f.max,.slice WA f.words.length wc] 57)=w3 at *;generalize wr.heap.size=g5 at *;obtain⟨d0,d1,d2,d3,d4⟩:=(aA.blk 0 rfl).get5;have HN:=hid (name_any f.name w3);generalize hq:nameP f.name=q at *;clear hq;go_wp2_with fail;refine HN.out.mono ?_;rintro e w4 ⟨rfl,aK⟩;have az:=aA.next aK;have cS:=cS.up aK;clear HN aA aK d0 d1 d2 d3 d4;obtain⟨d0,d1,d2,d3,d4⟩:=(az.blk 0 rfl).get5;have dw:(Instr.lookup 222 (.map (some gm)) (.string f.name) false).run prog w4=.ok (.bool (memD f.name (nms (L.take i)))) w4:=zb4 strK (az.sep.ok _ (List.mem_cons_of_mem _ (List.mem_cons_self ..))) f.name (show f.name.size≤9223372036854775807 by omega);generalize memD f.name (nms (L.take i))=r at *;cases q with
       | false =>
         exact zt75
       | true =>
         cases r with
         | true =>
           exact zt75
         | false =>
           have af:w4.ownsMap prog 9 (plainElem (H:=Unit) prog 4) gm (nms (L.take i)).length (strK.setD (nms (L.take i))):=iset_own strK (az.sep.ok _ (List.mem_cons_of_mem _ (List.mem_cons_self ..)));go_upto_region 14 with(first|(at_mapUpdate;refine wpList_mapUpdate_own _ rfl _ _ _ 222 rfl 9 4 strK.law underlying222 (plainElem (H:=Unit) prog 4) gm (nms (L.take i)).length (strK.setD (nms (L.take i))) rfl af zy2 _ _ (strK.kl f.name) rfl rfl (strK.key f.name (show f.name.size≤9223372036854775807 by omega)) _ [] (plainElem_bool underlying4 true) ?_;intro w5 br aV));have aR:=az.setPut strK 1 rfl (show f.name.size≤9223372036854775807 by omega) br aV;rw[←HT.out]at aR;have aR:Hp [] w (iblk g5 57 (fcs f WA wc)::iset strK gm (nms (L.take (i+1)))::[iblk g1 53 [.string nm,.slice (some ad) L.length c]]) w5:=aR;have vV:=HF0.out.strs.up aR.below0;clear af br aV az dw d0 d1 d2 d3 d4;obtain⟨d0,d1,d2,d3,d4⟩:=(aR.blk 0 rfl).get5;have HC:=hid (checkField_any f WA wc gF.out w5 vV);generalize fieldE f=fe at *;go_wp2_with fail;refine HC.out.mono ?_;rintro e w6 ⟨rfl,dM⟩;have bn:=aR.next dM;clear HC aR dM d0 d1 d2 d3 d4;cases nS:(fe != 0)with
           | true =>
             have aT:fe≠0:=by simpa using nS
             have jz:Hid (za7 [] L=fe):=hid (by rw[cg.out,if_neg zy1,if_neg zy1,if_pos aT]);clear aT;go_wp2_with fail;go_ret;rw[HR.out,jz.out];exact⟨rfl,by first|exact bn.below0|(subst el;exact bn.below0)⟩
           | false =>
             have aT:fe=0:=by simpa using nS
             have jz:Hid (za7 [] L=za7 (nms (L.take (i+1))) (L.drop (i+1))):=hid (by rw[cg.out,if_neg zy1,if_neg zy1,if_neg (by simp[aT])]);clear aT;go_wp2_with fail;go_roundg (L.length-(i+1));case measure=>omega
             case rel=>exact⟨i+1,ay,rfl,by first|rfl|simp,bn.tail,jz⟩
      ·have aM:¬(i:Int)<(L.length:Int):=om;have gR:Hid (schemaE nm L=0):=hid (by rw[HR.out,HE.out,List.drop_of_length_le om,za7]);go_wp2_with fail;go_ret;rw[gR.out];exact⟨rfl,by first|exact hM.below0|(subst el;exact hM.below0)⟩
end Nf
end Go.Proofs.YtekkapgknohadaaGreatDoor
