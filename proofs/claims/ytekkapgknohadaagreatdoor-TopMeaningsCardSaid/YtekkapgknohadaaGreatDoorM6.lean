/- The lexer's classes of bytes: the closures on classes, the scanner's memory, while. -/
import Derived.Test.YtekkapgknohadaaGreatDoorM3
import Derived.Test.YtekkapgknohadaaGreatDoorM2
set_option linter.unusedVariables false
set_option maxRecDepth 100000
set_option maxHeartbeats 1000000
open Go.Proofs.Tryz
namespace Go.Proofs.YtekkapgknohadaaGreatDoor
section
open Go.RowKit
open Lib (hid)
def clsN (n:Nat):Nat:=if n=32∨n=9∨n=13∨n=10 then 1 else if(97≤n∧n≤122)∨(65≤n∧n≤90)then 2 else if 48≤n∧n≤57 then 3 else if n=95 then 4 else if n=45 then 5 else 0
def clsV (n:Nat):Value:=.int .u8 (clsN n:Int)
def tabV:List Value:=(List.range 256).map clsV
theorem zbg (P:UInt8→Bool) (h:(List.range 256).all (fun n=>P (UInt8.ofNat n))=true) (c:UInt8):P c=true:=by
 have h1:=List.all_eq_true.1 h c.toNat (List.mem_range.2 c.toNat_lt);simpa using h1
theorem cls_sp (c:UInt8):Lx.isSp c=decide (clsN c.toNat=1):=by
 simpa using zbg (fun c=>Lx.isSp c==decide (clsN c.toNat=1)) zym c
theorem cls_let (c:UInt8):Lx.isLet c=decide (clsN c.toNat=2):=by
 simpa using zbg (fun c=>Lx.isLet c==decide (clsN c.toNat=2)) zym c
theorem cls_dig (c:UInt8):Lx.isDig c=decide (clsN c.toNat=3):=by
 simpa using zbg (fun c=>Lx.isDig c==decide (clsN c.toNat=3)) zym c
theorem cls_nm (c:UInt8):Lx.isNm c=decide (clsN c.toNat=2∨clsN c.toNat=3∨clsN c.toNat=4):=by
 simpa using zbg (fun c=>Lx.isNm c==decide (clsN c.toNat=2∨clsN c.toNat=3∨clsN c.toNat=4)) zym c
theorem cls_wd (c:UInt8):Lx.isWd c=decide (clsN c.toNat=2∨clsN c.toNat=3∨clsN c.toNat=4∨clsN c.toNat=5):=by
 simpa using zbg (fun c=>Lx.isWd c==decide (clsN c.toNat=2∨clsN c.toNat=3∨clsN c.toNat=4∨clsN c.toNat=5)) zym c
theorem cls_lu (c:UInt8):Lx.isLU c=decide (clsN c.toNat=2∨clsN c.toNat=4):=by
 simpa using zbg (fun c=>Lx.isLU c==decide (clsN c.toNat=2∨clsN c.toNat=4)) zym c
theorem zb9 (n:Nat):clsN n≤5:=by
 unfold clsN;iterate 5 (split;omega)
 omega
theorem tabV_at (c:UInt8):tabV[c.toNat]? =some (clsV c.toNat):=by
 have:=c.toNat_lt;simp[tabV,this]
def scnL (s:ByteArray) (a:Nat):List Value:=.string s::(tabV++[.int .i64 (a:Int)])
theorem zcc (s:ByteArray) (a:Nat) (c:UInt8):(scnL s a)[1+c.toNat]? =some (.int .u8 (clsN c.toNat:Int)):=by
 have h:=c.toNat_lt;have h2:tabV.length=256:=by simp[tabV]
 rw[scnL,show 1+c.toNat=c.toNat+1 by omega,List.getElem?_cons_succ,List.getElem?_append_left om,tabV_at];rfl
theorem zap (s:ByteArray) (a:Nat):(scnL s a)[257]? =some (.int .i64 (a:Int)):=by
 have h2:tabV.length=256:=by simp[tabV]
 rw[scnL,List.getElem?_cons_succ,List.getElem?_append_right om,h2];rfl
theorem scnL_set (s:ByteArray) (a b:Nat):(scnL s a).set 257 (.int .i64 (b:Int))=scnL s b:=by
 have h2:tabV.length=256:=by simp[tabV]
 rw[scnL,List.set_cons_succ,List.set_append_right _ _ om,h2];rfl
abbrev Scn (w:World) (g:Nat) (s:ByteArray) (a:Nat):Prop:=Blk w g 150 (scnL s a)
theorem zbq (k:Nat) (w:World):Calls prog 132 #[.int .u8 (k:Int)] w fun e w'=>e=.returned (.bool (decide (k=2∨k=3∨k=4)))∧w'=w:=by
 by_cases h2:(k:Int)=2
 ·have kH:decide ((k:Int)=2)=true:=by simpa using h2
  exact zt84
 ·by_cases h3:(k:Int)=3
  ·exact zt84
  ·go_enter func132,ntmps132;go_wp2;go_ret;exact⟨zao zyn,rfl⟩
theorem wd_any (k:Nat) (w:World):Calls prog 134 #[.int .u8 (k:Int)] w fun e w'=>e=.returned (.bool (decide (k=2∨k=3∨k=4∨k=5)))∧w'=w:=by
 by_cases h2:k=2∨k=3∨k=4
 ·have H:=hid h2;clear h2;have hd:decide (k=2∨k=3∨k=4)=true:=by simpa using H.out
  go_enter func134,ntmps134;go_wp2_with fail;refine(zbq k _).mono ?_;rintro e w1 ⟨rfl,rfl⟩;rw[hd];go_wp2_with fail;go_ret;exact⟨zao (by symm;rw[decide_eq_true_iff];have:=H.out;omega),rfl⟩
 ·have H:=hid h2;clear h2;have hd:decide (k=2∨k=3∨k=4)=false:=by simpa using H.out
  go_enter func134,ntmps134;go_wp2_with fail;refine(zbq k _).mono ?_;rintro e w1 ⟨rfl,rfl⟩;rw[hd];go_wp2_with fail;go_ret;exact⟨zao (by rw[Bool.eq_iff_iff];have:=H.out;simp;omega),rfl⟩
theorem dg_any (k:Nat) (w:World):Calls prog 135 #[.int .u8 (k:Int)] w fun e w'=>e=.returned (.bool (decide (k=3)))∧w'=w:=by
 go_enter func135,ntmps135;go_wp2;go_ret;exact⟨zao zyn,rfl⟩
theorem ws_any (k:Nat) (w:World):Calls prog 138 #[.int .u8 (k:Int)] w fun e w'=>e=.returned (.bool (decide (k=1)))∧w'=w:=by
 go_enter func138,ntmps138;go_wp2;go_ret;exact⟨zao zyn,rfl⟩
theorem zam {B:Nat} {a w:World} (h:Below B a w) (n:Nat):Below B a (w.drewN n):=h.trans ⟨rfl,rfl,rfl,Nat.le_refl _,fun _ _=>rfl⟩
def WhRel (p:UInt8→Bool) (s:ByteArray) (i:Nat) (w:World) (v:Value) (W:World):Prop:=∃k:Nat,k≤s.size∧v=.int .i64 (k:Int)∧i+Lx.sp p ((tl s).drop i)=k+Lx.sp p ((tl s).drop k)∧Below w.heap.size w W
theorem WhRel.start {p:UInt8→Bool} {s:ByteArray} {i:Nat} {w:World} (h:i≤s.size):WhRel p s i w (.int .i64 (i:Int)) w:=⟨i,h,rfl,rfl,Below.refl _ _⟩
theorem WhRel.next {p:UInt8→Bool} {s:ByteArray} {i k:Nat} {w W:World} (h:k<s.size) (hp:p s[k]=true) (he:i+Lx.sp p ((tl s).drop i)=k+Lx.sp p ((tl s).drop k)) (hb:Below w.heap.size w W):WhRel p s i w (.int .i64 ((k:Int)+1)) W:=by
 have hl:=zad s;have h2:=Lx.sp_drop (p:=p) (l:=tl s) (i:=k) om (by rw[zat s k h];exact hp);exact⟨k+1,by omega,by simp,by omega,hb⟩
theorem wh_stop {p:UInt8→Bool} {s:ByteArray} {k:Nat} (h:k<s.size) (hp:p s[k]=false):Lx.sp p ((tl s).drop k)=0:=by
 have hl:=zad s;exact Lx.sp_drop_stop om (by rw[zat s k h];exact hp)
theorem wh_end {p:UInt8→Bool} {s:ByteArray} {k:Nat} (h:¬k<s.size):Lx.sp p ((tl s).drop k)=0:=by
 have hl:=zad s;exact Lx.sp_drop_end om
theorem while_sp (g:Nat) (s:ByteArray) (a i:Nat) (w:World) (hS:Scn w g s a) (hs:s.size≤65536) (hi:i≤s.size) :
 Calls prog 131 #[.pointer (some ⟨g,0,none⟩),.int .i64 (i:Int),.func (.func 138) #[] #[]] w fun e w'=>e=.returned (.int .i64 ((i+Lx.sp Lx.isSp ((tl s).drop i):Nat):Int))∧Below w.heap.size w w':=by
 go_enter func131,ntmps131;go_wp2;go_loopw [1] (WhRel Lx.isSp s i w) (fun v _=>s.size-(intOf v).toNat);case atStart=>exact WhRel.start hi
 case round =>
  obtain⟨k,hk,rfl,he,hb⟩:=hrel;have HE:=hid he;clear he;have j6:=hS.below hb hS.lt;have c0:wr.cell? ⟨g,0,none⟩=some (.string s):=j6.cell 0;by_cases aQ:k<s.size
  ·have hd:decide ((k:Int)<(s.size:Int))=true:=by simpa using aQ
   have c1:wr.cell? ⟨g,1+s[k].toNat,none⟩=some (.int .u8 (clsN s[k].toNat:Int)):=(j6.cell _).trans (zcc s a s[k]);have h5:=zb9 s[k].toNat;have h6:=s[k].toNat_lt;cases hp:Lx.isSp s[k]with
   | true =>
    have HP:=hid hp;have bP:decide (clsN s[k].toNat=1)=true:=by rw[←cls_sp,hp]
    clear hp;go_wp2_with fail;go_quiet ((go_at_call 138;exact Calls.quiet_of_same (ws_any _ _)));exact zt26
   | false =>
    have HP:=hid hp;have bP:decide (clsN s[k].toNat=1)=false:=by rw[←cls_sp,hp]
    clear hp;go_wp2_with fail;go_quiet ((go_at_call 138;exact Calls.quiet_of_same (ws_any _ _)));go_wp2;go_ret;exact⟨zay zyt,zam hb _⟩
  ·exact zt19
theorem while_dg (g:Nat) (s:ByteArray) (a i:Nat) (w:World) (hS:Scn w g s a) (hs:s.size≤65536) (hi:i≤s.size) :
 Calls prog 131 #[.pointer (some ⟨g,0,none⟩),.int .i64 (i:Int),.func (.func 135) #[] #[]] w fun e w'=>e=.returned (.int .i64 ((i+Lx.sp Lx.isDig ((tl s).drop i):Nat):Int))∧Below w.heap.size w w':=by
 go_enter func131,ntmps131;go_wp2;go_loopw [1] (WhRel Lx.isDig s i w) (fun v _=>s.size-(intOf v).toNat);case atStart=>exact WhRel.start hi
 case round =>
  obtain⟨k,hk,rfl,he,hb⟩:=hrel;have HE:=hid he;clear he;have j6:=hS.below hb hS.lt;have c0:wr.cell? ⟨g,0,none⟩=some (.string s):=j6.cell 0;by_cases aQ:k<s.size
  ·have hd:decide ((k:Int)<(s.size:Int))=true:=by simpa using aQ
   have c1:wr.cell? ⟨g,1+s[k].toNat,none⟩=some (.int .u8 (clsN s[k].toNat:Int)):=(j6.cell _).trans (zcc s a s[k]);have h5:=zb9 s[k].toNat;have h6:=s[k].toNat_lt;cases hp:Lx.isDig s[k]with
   | true =>
    have HP:=hid hp;have bP:decide (clsN s[k].toNat=3)=true:=by rw[←cls_dig,hp]
    clear hp;go_wp2_with fail;go_quiet ((go_at_call 135;exact Calls.quiet_of_same (dg_any _ _)));exact zt26
   | false =>
    have HP:=hid hp;have bP:decide (clsN s[k].toNat=3)=false:=by rw[←cls_dig,hp]
    clear hp;go_wp2_with fail;go_quiet ((go_at_call 135;exact Calls.quiet_of_same (dg_any _ _)));go_wp2;go_ret;exact⟨zay zyt,zam hb _⟩
  ·exact zt19
theorem while_nm (g:Nat) (s:ByteArray) (a i:Nat) (w:World) (hS:Scn w g s a) (hs:s.size≤65536) (hi:i≤s.size) :
 Calls prog 131 #[.pointer (some ⟨g,0,none⟩),.int .i64 (i:Int),.func (.func 132) #[] #[]] w fun e w'=>e=.returned (.int .i64 ((i+Lx.sp Lx.isNm ((tl s).drop i):Nat):Int))∧Below w.heap.size w w':=by
 go_enter func131,ntmps131;go_wp2;go_loopw [1] (WhRel Lx.isNm s i w) (fun v _=>s.size-(intOf v).toNat);case atStart=>exact WhRel.start hi
 case round =>
  obtain⟨k,hk,rfl,he,hb⟩:=hrel;have HE:=hid he;clear he;have j6:=hS.below hb hS.lt;have c0:wr.cell? ⟨g,0,none⟩=some (.string s):=j6.cell 0;by_cases aQ:k<s.size
  ·have hd:decide ((k:Int)<(s.size:Int))=true:=by simpa using aQ
   have c1:wr.cell? ⟨g,1+s[k].toNat,none⟩=some (.int .u8 (clsN s[k].toNat:Int)):=(j6.cell _).trans (zcc s a s[k]);have h5:=zb9 s[k].toNat;have h6:=s[k].toNat_lt;cases hp:Lx.isNm s[k]with
   | true =>
    have HP:=hid hp;have bP:decide (clsN s[k].toNat=2∨clsN s[k].toNat=3∨clsN s[k].toNat=4)=true:=by rw[←cls_nm,hp]
    clear hp;go_wp2_with fail;go_quiet ((go_at_call 132;exact Calls.quiet_of_same (zbq _ _)));exact zt26
   | false =>
    have HP:=hid hp;have bP:decide (clsN s[k].toNat=2∨clsN s[k].toNat=3∨clsN s[k].toNat=4)=false:=by rw[←cls_nm,hp]
    clear hp;go_wp2_with fail;go_quiet ((go_at_call 132;exact Calls.quiet_of_same (zbq _ _)));go_wp2;go_ret;exact⟨zay zyt,zam hb _⟩
  ·exact zt19
theorem while_wd (g:Nat) (s:ByteArray) (a i:Nat) (w:World) (hS:Scn w g s a) (hs:s.size≤65536) (hi:i≤s.size) :
 Calls prog 131 #[.pointer (some ⟨g,0,none⟩),.int .i64 (i:Int),.func (.func 134) #[] #[]] w fun e w'=>e=.returned (.int .i64 ((i+Lx.sp Lx.isWd ((tl s).drop i):Nat):Int))∧Below w.heap.size w w':=by
 go_enter func131,ntmps131;go_wp2;go_loopw [1] (WhRel Lx.isWd s i w) (fun v _=>s.size-(intOf v).toNat);case atStart=>exact WhRel.start hi
 case round =>
  obtain⟨k,hk,rfl,he,hb⟩:=hrel;have HE:=hid he;clear he;have j6:=hS.below hb hS.lt;have c0:wr.cell? ⟨g,0,none⟩=some (.string s):=j6.cell 0;by_cases aQ:k<s.size
  ·have hd:decide ((k:Int)<(s.size:Int))=true:=by simpa using aQ
   have c1:wr.cell? ⟨g,1+s[k].toNat,none⟩=some (.int .u8 (clsN s[k].toNat:Int)):=(j6.cell _).trans (zcc s a s[k]);have h5:=zb9 s[k].toNat;have h6:=s[k].toNat_lt;cases hp:Lx.isWd s[k]with
   | true =>
    have HP:=hid hp;have bP:decide (clsN s[k].toNat=2∨clsN s[k].toNat=3∨clsN s[k].toNat=4∨clsN s[k].toNat=5)=true:=by rw[←cls_wd,hp]
    clear hp;go_wp2_with fail;go_quiet ((go_at_call 134;exact Calls.quiet_of_same (wd_any _ _)));exact zt26
   | false =>
    have HP:=hid hp;have bP:decide (clsN s[k].toNat=2∨clsN s[k].toNat=3∨clsN s[k].toNat=4∨clsN s[k].toNat=5)=false:=by rw[←cls_wd,hp]
    clear hp;go_wp2_with fail;go_quiet ((go_at_call 134;exact Calls.quiet_of_same (wd_any _ _)));go_wp2;go_ret;exact⟨zay zyt,zam hb _⟩
  ·exact zt19
end
section
open Go.RowKit
open Lib (hid)
theorem kw_or (s:ByteArray):Lx.kw (tl s)=((s.toList==[112,111,108,105,99,121])||(s.toList==[117,115,101,115])||(s.toList==[114,101,118,101,97,108])||(s.toList==[112,114,111,118,101])||(s.toList==[115,99,111,112,101])||(s.toList==[108,105,109,105,116])||(s.toList==[101,115,99,114,111,119])||(s.toList==[101,110,100])||(s.toList==[97,108,108])||(s.toList==[97,110,121])||(s.toList==[97,116,108,101,97,115,116])||(s.toList==[110,111,116])||(s.toList==[116,114,117,101])||(s.toList==[102,97,108,115,101])||(s.toList==[98,101,116,119,101,101,110])||(s.toList==[97,110,100])||(s.toList==[105,110])):=by
 rw[zbb];simp only[Lx.kw,Lx.kws,List.contains_cons,List.contains_nil,Bool.or_false,Bool.or_assoc]
theorem zcs (s:ByteArray) (w:World):Calls prog 133 #[.string s] w fun e w'=>e=.returned (.bool (Lx.kw (tl s)))∧w'=w:=by
 go_enter func133,ntmps133;go_wp2;all_goals
  go_ret;refine⟨zao ?_,rfl⟩;rw[kw_or];first|(simp only[*,Bool.or_true,Bool.true_or,Bool.or_false];done)|simp_all
def NumRel (s:ByteArray) (lim:Nat) (W0:World) (n i:Value) (W:World):Prop:=∃k:Nat,k≤s.size∧i=.int .i64 (k:Int)∧n=.int .i64 (Lx.dv ((tl s).take k):Int)∧Lx.dv ((tl s).take k)≤lim∧W=W0
theorem bytes_below {w0 w:World} {B:Nat} (h:Below B w0 w) (hB:B≤w.heap.size) (e:TypeId) (s:ByteArray):Below B w0 (Lib.bytesWorld w e s) :=
 h.trans ⟨rfl,rfl,rfl,by rw[Lib.bytesWorld_size];omega,fun k hk=>Lib.bytesWorld_at_old w e s k om⟩
theorem bytes_at {w:World} {e:TypeId} {s:ByteArray} {k:Nat} (h:k<s.size):(Lib.bytesWorld w e s).cell? ⟨w.heap.size,k,none⟩=some (.int .u8 (s[k].toNat:Int)):=by
 rw[Lib.bytesWorld_cell w e s k h];have h2:=zat s k h;have h3:k<(tl s).length:=by rw[zad];exact h
 rw[show s.data.toList.getD k 0=(tl s)[k]from by rw[List.getD_eq_getElem?_getD,List.getElem?_eq_getElem h3];rfl,h2]
theorem dv_next (s:ByteArray) (k:Nat) (h:k<s.size) (hd:Lx.isDig s[k]=true):(Lx.dv ((tl s).take (k+1)):Int)=10*(Lx.dv ((tl s).take k):Int)+((s[k].toNat:Int)-48):=by
 rw[take_snoc s k h,Lx.dv_snoc];have:48≤s[k].toNat:=by
  simp[Lx.isDig,UInt8.le_iff_toNat_le]at hd;exact hd.1
 omega
theorem dig_range {c:UInt8} (h:Lx.isDig c=true):48≤c.toNat∧c.toNat≤57:=by
 simp[Lx.isDig,UInt8.le_iff_toNat_le]at h;exact h
theorem num_plain (s:ByteArray) (w:World) (h0:0<s.size) (hs:s.size≤65536) (hc:decide ((s[0].toNat:Int)=45)=false) (hD:Hid (∀k (h:k<s.size),Lx.isDig s[k]=true)) :
 Calls prog 136 #[.string s] w fun e w'=>e=.returned (.bool (decide (Lx.dv (tl s)≤2147483647)))∧Below w.heap.size w w':=by
 have wZ:=fun W=>Lib.run_convert_string_bytes (P:=prog) W 9 98 5 s underlying9 underlying98 underlying5;have dQ:((s[0].toNat:Int)==45)=false:=by simpa using hc
 go_enter func136,ntmps136;go_wp2;clear wZ;go_loopw [4,17] (NumRel s 2147483647 (Lib.bytesWorld w 5 s)) (fun _ i _=>s.size-(intOf i).toNat);case atStart=>exact⟨0,Nat.zero_le _,rfl,rfl,by simp[Lx.dv],rfl⟩
 case round =>
  obtain⟨k,hk,rfl,rfl,dD,rfl⟩:=hrel;have hb:=bytes_below (Below.refl w.heap.size w) (Nat.le_refl _) 5 s;by_cases aQ:k<s.size
  ·have pX:=bytes_at (w:=w) (e:=5) aQ;have hdg:=dig_range (hD.out k aQ);have kU:=hid (dv_next s k aQ (hD.out k aQ));generalize Lx.dv ((tl s).take k)=n at *;go_wp2
   ·go_ret;refine⟨zao ?_,hb⟩;have h8:=kU.out;have h9:2147483647<Lx.dv ((tl s).take (k+1)):=om;have eB:=Lx.dv_mono ((tl s).take (k+1)) ((tl s).drop (k+1));rw[List.take_append_drop]at eB;symm;rw[decide_eq_false_iff_not];omega
   ·go_roundw;case rel =>
     have h8:=kU.out;have h9:Lx.dv ((tl s).take (k+1))≤2147483647:=om;exact⟨k+1,by omega,by simp,val_int h8.symm,h9,rfl⟩
    case measure=>simp[intOf];omega
  ·exact zt74
theorem num_minus (s r:ByteArray) (w:World) (h0:0<s.size) (hs:s.size≤65536) (hr:Hid (s.extract 1 s.size=r)) (hrs:r.size≤65536) (hc:decide ((s[0].toNat:Int)=45)=true) (hD:Hid (∀k (h:k<r.size),Lx.isDig r[k]=true)) :
 Calls prog 136 #[.string s] w fun e w'=>e=.returned (.bool (decide (Lx.dv (tl r)≤2147483648)))∧Below w.heap.size w w':=by
 have wZ:=fun W=>Lib.run_convert_string_bytes (P:=prog) W 9 98 5 r underlying9 underlying98 underlying5;have dQ:((s[0].toNat:Int)==45)=true:=by simpa using hc
 go_enter func136,ntmps136;have dO:=hr.out;go_wp2;clear wZ dO;go_loopw [4,17] (NumRel r 2147483648 (Lib.bytesWorld w 5 r)) (fun _ i _=>r.size-(intOf i).toNat);case atStart=>exact⟨0,Nat.zero_le _,rfl,rfl,by simp[Lx.dv],rfl⟩
 case round =>
  obtain⟨k,hk,rfl,rfl,dD,rfl⟩:=hrel;have hb:=bytes_below (Below.refl w.heap.size w) (Nat.le_refl _) 5 r;by_cases aQ:k<r.size
  ·have pX:=bytes_at (w:=w) (e:=5) aQ;have hdg:=dig_range (hD.out k aQ);have kU:=hid (dv_next r k aQ (hD.out k aQ));generalize Lx.dv ((tl r).take k)=n at *;go_wp2
   ·go_ret;refine⟨zao ?_,hb⟩;have h8:=kU.out;have h9:2147483648<Lx.dv ((tl r).take (k+1)):=om;have eB:=Lx.dv_mono ((tl r).take (k+1)) ((tl r).drop (k+1));rw[List.take_append_drop]at eB;symm;rw[decide_eq_false_iff_not];omega
   ·go_roundw;case rel =>
     have h8:=kU.out;have h9:Lx.dv ((tl r).take (k+1))≤2147483648:=om;exact⟨k+1,by omega,by simp,val_int h8.symm,h9,rfl⟩
    case measure=>simp[intOf];omega
  ·exact zt74
def SG:List (List UInt8):=[[33,61],[60,61],[62,61],[61],[60],[62],[58],[46],[44],[40],[41],[123],[125]]
def fs:List (List UInt8)→List UInt8→Nat
 | [],_=>0
 | x::r,l=>if Lib.hasPrefix l x then x.length else fs r l
theorem fs_sg (l:List UInt8):fs SG l=Lx.sg l:=by
 match l with
 | []=>rfl
 | [c]=>simpa using zbg (fun c=>fs SG [c]==Lx.sg [c]) zym c
 | c::d::r =>
  by_cases hd:d=61
  ·subst hd;have h1:fs SG (c::61::r)=fs SG [c,61]:=rfl;have h2:Lx.sg (c::61::r)=Lx.sg [c,61]:=rfl;rw[h1,h2];simpa using zbg (fun c=>fs SG [c,61]==Lx.sg [c,61]) zym c
  ·have h3:((61:UInt8)==d)=false:=by simpa using fun h=>hd h.symm
   have h4:(d==61)=false:=by simpa using hd
   have h1:fs SG (c::d::r)=fs SG [c]:=by
    simp only[SG,fs,Lib.hasPrefix,List.isPrefixOf,h3,Bool.and_false,Bool.and_true]
   have h2:Lx.sg (c::d::r)=Lx.sg [c]:=by simp only[Lx.sg,Lx.two,h4,Bool.false_and,Bool.false_eq_true,if_false]
   rw[h1,h2];simpa using zbg (fun c=>fs SG [c]==Lx.sg [c]) zym c
def SgRel (s:ByteArray) (w:World) (i:Value) (W:World):Prop:=∃k:Nat,k≤13∧i=.int .i64 (k:Int)∧Lx.sg (tl s)=fs (SG.drop k) (tl s)∧W=w
def SGv:Array Value:=#[.string ⟨#[33,61]⟩,.string ⟨#[60,61]⟩,.string ⟨#[62,61]⟩,.string ⟨#[61]⟩,.string ⟨#[60]⟩,.string ⟨#[62]⟩,.string ⟨#[58]⟩,.string ⟨#[46]⟩,.string ⟨#[44]⟩,.string ⟨#[40]⟩,.string ⟨#[41]⟩,.string ⟨#[123]⟩,.string ⟨#[125]⟩]
theorem hpre (s p:ByteArray) (v:Bool) (w:World) (h:Lib.hasPrefix (tl s) p.data.toList=v):Calls prog 184 #[.string s,.string p] w fun e w'=>e=.returned (.bool v)∧w'=w :=
 (strings_HasPrefix s p w).mono fun e w' ⟨he,hw⟩=>⟨by rw[he];exact zao h,hw⟩
theorem sign_any (s:ByteArray) (w:World):Calls prog 137 #[.string s] w fun e w'=>e=.returned (.int .i64 (Lx.sg (tl s):Int))∧w'=w:=by
 go_enter func137,ntmps137;go_wp2;go_loopw [6] (SgRel s w) (fun i _=>13-(intOf i).toNat);case atStart=>exact⟨0,by omega,rfl,(fs_sg _).symm,rfl⟩
 case round =>
  obtain⟨k,hk,rfl,he,rfl⟩:=hrel;have HE:=hid he;clear he;have mg:k=0∨k=1∨k=2∨k=3∨k=4∨k=5∨k=6∨k=7∨k=8∨k=9∨k=10∨k=11∨k=12∨k=13:=om;rcases mg with rfl|rfl|rfl|rfl|rfl|rfl|rfl|rfl|rfl|rfl|rfl|rfl|rfl|rfl
  ·clear hk;have bZ:∀W:World,(Instr.index 257 (.agg SGv) (.int .i64 0)).run prog W=.ok (.string ⟨#[33,61]⟩) W:=fun _=>kr;unfold SGv at bZ;cases hp:Lib.hasPrefix (tl s) [33,61]with
   | true =>
    go_wp2_with ((with_reducible refine(hpre s ⟨#[33,61]⟩ true _ hp).mono ?_);rintro e w1 ⟨rfl,rfl⟩);go_ret;exact zve
   | false =>
    go_wp2_with ((with_reducible refine(hpre s ⟨#[33,61]⟩ false _ hp).mono ?_);rintro e w1 ⟨rfl,rfl⟩);go_roundw;case rel=>exact⟨1,by omega,rfl,by rw[HE.out];simp[SG,fs,hp],rfl⟩
    case measure=>simp[intOf]
  ·clear hk;have bZ:∀W:World,(Instr.index 257 (.agg SGv) (.int .i64 1)).run prog W=.ok (.string ⟨#[60,61]⟩) W:=fun _=>kr;unfold SGv at bZ;cases hp:Lib.hasPrefix (tl s) [60,61]with
   | true =>
    go_wp2_with ((with_reducible refine(hpre s ⟨#[60,61]⟩ true _ hp).mono ?_);rintro e w1 ⟨rfl,rfl⟩);go_ret;exact zve
   | false =>
    go_wp2_with ((with_reducible refine(hpre s ⟨#[60,61]⟩ false _ hp).mono ?_);rintro e w1 ⟨rfl,rfl⟩);go_roundw;case rel=>exact⟨2,by omega,rfl,by rw[HE.out];simp[SG,fs,hp],rfl⟩
    case measure=>simp[intOf]
  ·clear hk;have bZ:∀W:World,(Instr.index 257 (.agg SGv) (.int .i64 2)).run prog W=.ok (.string ⟨#[62,61]⟩) W:=fun _=>kr;unfold SGv at bZ;cases hp:Lib.hasPrefix (tl s) [62,61]with
   | true =>
    go_wp2_with ((with_reducible refine(hpre s ⟨#[62,61]⟩ true _ hp).mono ?_);rintro e w1 ⟨rfl,rfl⟩);go_ret;exact zve
   | false =>
    go_wp2_with ((with_reducible refine(hpre s ⟨#[62,61]⟩ false _ hp).mono ?_);rintro e w1 ⟨rfl,rfl⟩);go_roundw;case rel=>exact⟨3,by omega,rfl,by rw[HE.out];simp[SG,fs,hp],rfl⟩
    case measure=>simp[intOf]
  ·clear hk;have bZ:∀W:World,(Instr.index 257 (.agg SGv) (.int .i64 3)).run prog W=.ok (.string ⟨#[61]⟩) W:=fun _=>kr;unfold SGv at bZ;cases hp:Lib.hasPrefix (tl s) [61]with
   | true =>
    go_wp2_with ((with_reducible refine(hpre s ⟨#[61]⟩ true _ hp).mono ?_);rintro e w1 ⟨rfl,rfl⟩);go_ret;exact zve
   | false =>
    go_wp2_with ((with_reducible refine(hpre s ⟨#[61]⟩ false _ hp).mono ?_);rintro e w1 ⟨rfl,rfl⟩);go_roundw;case rel=>exact⟨4,by omega,rfl,by rw[HE.out];simp[SG,fs,hp],rfl⟩
    case measure=>simp[intOf]
  ·clear hk;have bZ:∀W:World,(Instr.index 257 (.agg SGv) (.int .i64 4)).run prog W=.ok (.string ⟨#[60]⟩) W:=fun _=>kr;unfold SGv at bZ;cases hp:Lib.hasPrefix (tl s) [60]with
   | true =>
    go_wp2_with ((with_reducible refine(hpre s ⟨#[60]⟩ true _ hp).mono ?_);rintro e w1 ⟨rfl,rfl⟩);go_ret;exact zve
   | false =>
    go_wp2_with ((with_reducible refine(hpre s ⟨#[60]⟩ false _ hp).mono ?_);rintro e w1 ⟨rfl,rfl⟩);go_roundw;case rel=>exact⟨5,by omega,rfl,by rw[HE.out];simp[SG,fs,hp],rfl⟩
    case measure=>simp[intOf]
  ·clear hk;have bZ:∀W:World,(Instr.index 257 (.agg SGv) (.int .i64 5)).run prog W=.ok (.string ⟨#[62]⟩) W:=fun _=>kr;unfold SGv at bZ;cases hp:Lib.hasPrefix (tl s) [62]with
   | true =>
    go_wp2_with ((with_reducible refine(hpre s ⟨#[62]⟩ true _ hp).mono ?_);rintro e w1 ⟨rfl,rfl⟩);go_ret;exact zve
   | false =>
    go_wp2_with ((with_reducible refine(hpre s ⟨#[62]⟩ false _ hp).mono ?_);rintro e w1 ⟨rfl,rfl⟩);go_roundw;case rel=>exact⟨6,by omega,rfl,by rw[HE.out];simp[SG,fs,hp],rfl⟩
    case measure=>simp[intOf]
  ·clear hk;have bZ:∀W:World,(Instr.index 257 (.agg SGv) (.int .i64 6)).run prog W=.ok (.string ⟨#[58]⟩) W:=fun _=>kr;unfold SGv at bZ;cases hp:Lib.hasPrefix (tl s) [58]with
   | true =>
    go_wp2_with ((with_reducible refine(hpre s ⟨#[58]⟩ true _ hp).mono ?_);rintro e w1 ⟨rfl,rfl⟩);go_ret;exact zve
   | false =>
    go_wp2_with ((with_reducible refine(hpre s ⟨#[58]⟩ false _ hp).mono ?_);rintro e w1 ⟨rfl,rfl⟩);go_roundw;case rel=>exact⟨7,by omega,rfl,by rw[HE.out];simp[SG,fs,hp],rfl⟩
    case measure=>simp[intOf]
  ·clear hk;have bZ:∀W:World,(Instr.index 257 (.agg SGv) (.int .i64 7)).run prog W=.ok (.string ⟨#[46]⟩) W:=fun _=>kr;unfold SGv at bZ;cases hp:Lib.hasPrefix (tl s) [46]with
   | true =>
    go_wp2_with ((with_reducible refine(hpre s ⟨#[46]⟩ true _ hp).mono ?_);rintro e w1 ⟨rfl,rfl⟩);go_ret;exact zve
   | false =>
    go_wp2_with ((with_reducible refine(hpre s ⟨#[46]⟩ false _ hp).mono ?_);rintro e w1 ⟨rfl,rfl⟩);go_roundw;case rel=>exact⟨8,by omega,rfl,by rw[HE.out];simp[SG,fs,hp],rfl⟩
    case measure=>simp[intOf]
  ·clear hk;have bZ:∀W:World,(Instr.index 257 (.agg SGv) (.int .i64 8)).run prog W=.ok (.string ⟨#[44]⟩) W:=fun _=>kr;unfold SGv at bZ;cases hp:Lib.hasPrefix (tl s) [44]with
   | true =>
    go_wp2_with ((with_reducible refine(hpre s ⟨#[44]⟩ true _ hp).mono ?_);rintro e w1 ⟨rfl,rfl⟩);go_ret;exact zve
   | false =>
    go_wp2_with ((with_reducible refine(hpre s ⟨#[44]⟩ false _ hp).mono ?_);rintro e w1 ⟨rfl,rfl⟩);go_roundw;case rel=>exact⟨9,by omega,rfl,by rw[HE.out];simp[SG,fs,hp],rfl⟩
    case measure=>simp[intOf]
  ·clear hk;have bZ:∀W:World,(Instr.index 257 (.agg SGv) (.int .i64 9)).run prog W=.ok (.string ⟨#[40]⟩) W:=fun _=>kr;unfold SGv at bZ;cases hp:Lib.hasPrefix (tl s) [40]with
   | true =>
    go_wp2_with ((with_reducible refine(hpre s ⟨#[40]⟩ true _ hp).mono ?_);rintro e w1 ⟨rfl,rfl⟩);go_ret;exact zve
   | false =>
    go_wp2_with ((with_reducible refine(hpre s ⟨#[40]⟩ false _ hp).mono ?_);rintro e w1 ⟨rfl,rfl⟩);go_roundw;case rel=>exact⟨10,by omega,rfl,by rw[HE.out];simp[SG,fs,hp],rfl⟩
    case measure=>simp[intOf]
  ·clear hk;have bZ:∀W:World,(Instr.index 257 (.agg SGv) (.int .i64 10)).run prog W=.ok (.string ⟨#[41]⟩) W:=fun _=>kr;unfold SGv at bZ;cases hp:Lib.hasPrefix (tl s) [41]with
   | true =>
    go_wp2_with ((with_reducible refine(hpre s ⟨#[41]⟩ true _ hp).mono ?_);rintro e w1 ⟨rfl,rfl⟩);go_ret;exact zve
   | false =>
    go_wp2_with ((with_reducible refine(hpre s ⟨#[41]⟩ false _ hp).mono ?_);rintro e w1 ⟨rfl,rfl⟩);go_roundw;case rel=>exact⟨11,by omega,rfl,by rw[HE.out];simp[SG,fs,hp],rfl⟩
    case measure=>simp[intOf]
  ·clear hk;have bZ:∀W:World,(Instr.index 257 (.agg SGv) (.int .i64 11)).run prog W=.ok (.string ⟨#[123]⟩) W:=fun _=>kr;unfold SGv at bZ;cases hp:Lib.hasPrefix (tl s) [123]with
   | true =>
    go_wp2_with ((with_reducible refine(hpre s ⟨#[123]⟩ true _ hp).mono ?_);rintro e w1 ⟨rfl,rfl⟩);go_ret;exact zve
   | false =>
    go_wp2_with ((with_reducible refine(hpre s ⟨#[123]⟩ false _ hp).mono ?_);rintro e w1 ⟨rfl,rfl⟩);go_roundw;case rel=>exact⟨12,by omega,rfl,by rw[HE.out];simp[SG,fs,hp],rfl⟩
    case measure=>simp[intOf]
  ·clear hk;have bZ:∀W:World,(Instr.index 257 (.agg SGv) (.int .i64 12)).run prog W=.ok (.string ⟨#[125]⟩) W:=fun _=>kr;unfold SGv at bZ;cases hp:Lib.hasPrefix (tl s) [125]with
   | true =>
    go_wp2_with ((with_reducible refine(hpre s ⟨#[125]⟩ true _ hp).mono ?_);rintro e w1 ⟨rfl,rfl⟩);go_ret;exact zve
   | false =>
    go_wp2_with ((with_reducible refine(hpre s ⟨#[125]⟩ false _ hp).mono ?_);rintro e w1 ⟨rfl,rfl⟩);go_roundw;case rel=>exact⟨13,by omega,rfl,by rw[HE.out];simp[SG,fs,hp],rfl⟩
    case measure=>simp[intOf]
  ·go_wp2_with fail;go_ret;exact⟨zay (by rw[HE.out];rfl),rfl⟩
end
section
open Go.RowKit
open Lib (hid)
theorem zbi (s:ByteArray) (a b:Nat):tl (s.extract a b)=((tl s).drop a).take (b-a):=by
 exact Lib.extract_data s a b
theorem val_cast {i n:Nat} {x:Int} (hx:x=i):(.int .i64 ((i+n:Nat):Int):Value)=.int .i64 (x+n):=by rw[hx];simp
theorem while_nm_n (x:Int) (i n:Nat) (g:Nat) (s:ByteArray) (a:Nat) (w:World) (hx:x=i) (hn:Lx.sp Lx.isNm ((tl s).drop i)=n) (hS:Scn w g s a) (hs:s.size≤65536) (hi:i≤s.size) :
 Calls prog 131 #[.pointer (some ⟨g,0,none⟩),.int .i64 x,.func (.func 132) #[] #[]] w fun e w'=>e=.returned (.int .i64 (x+n))∧Below w.heap.size w w':=by
 rw[←val_cast hx,←hn,hx];exact while_nm g s a i w hS hs hi
theorem zci (x:Int) (i n:Nat) (g:Nat) (s:ByteArray) (a:Nat) (w:World) (hx:x=i) (hn:Lx.sp Lx.isWd ((tl s).drop i)=n) (hS:Scn w g s a) (hs:s.size≤65536) (hi:i≤s.size) :
 Calls prog 131 #[.pointer (some ⟨g,0,none⟩),.int .i64 x,.func (.func 134) #[] #[]] w fun e w'=>e=.returned (.int .i64 (x+n))∧Below w.heap.size w w':=by
 rw[←val_cast hx,←hn,hx];exact while_wd g s a i w hS hs hi
theorem zbv (x:Int) (i n:Nat) (g:Nat) (s:ByteArray) (a:Nat) (w:World) (hx:x=i) (hn:Lx.sp Lx.isDig ((tl s).drop i)=n) (hS:Scn w g s a) (hs:s.size≤65536) (hi:i≤s.size) :
 Calls prog 131 #[.pointer (some ⟨g,0,none⟩),.int .i64 x,.func (.func 135) #[] #[]] w fun e w'=>e=.returned (.int .i64 (x+n))∧Below w.heap.size w w':=by
 rw[←val_cast hx,←hn,hx];exact while_dg g s a i w hS hs hi
theorem while_sp_n (x:Int) (i n:Nat) (g:Nat) (s:ByteArray) (a:Nat) (w:World) (hx:x=i) (hn:Lx.sp Lx.isSp ((tl s).drop i)=n) (hS:Scn w g s a) (hs:s.size≤65536) (hi:i≤s.size) :
 Calls prog 131 #[.pointer (some ⟨g,0,none⟩),.int .i64 x,.func (.func 138) #[] #[]] w fun e w'=>e=.returned (.int .i64 (x+n))∧Below w.heap.size w w':=by
 rw[←val_cast hx,←hn,hx];exact while_sp g s a i w hS hs hi
theorem Blk.drewN {w:World} {g:Nat} {t:TypeId} {cs:List Value} (h:Blk w g t cs) (n:Nat):Blk (w.drewN n) g t cs:=h
theorem zbn {p:UInt8→Bool} {s:ByteArray} {a n:Nat} (h:Lx.sp p ((tl s).drop a)=n) (ha:a≤s.size):a+n≤s.size:=by
 have:=Lx.sp_le p ((tl s).drop a);rw[h,List.length_drop,zad]at this;omega
abbrev t3 (k e r:Int):Value:=.tuple #[.int .i64 k,.int .i64 e,.int .i64 r]
theorem ex_size (s:ByteArray) {a b:Nat} (h:b≤s.size):(s.extract a b).size=b-a:=by
 rw[ByteArray.size_extract];omega
theorem ex_at (s:ByteArray) {a b k:Nat} (h:k<(s.extract a b).size) (h2:a+k<s.size):(s.extract a b)[k]=s[a+k]:=by
 rw[ByteArray.getElem_extract]
theorem num_p_at (s:ByteArray) (a n:Nat) (v:Bool) (w:World) (hs:s.size≤65536) (h0:0<n) (bB:a+n≤s.size) (hn:Lx.sp Lx.isDig ((tl s).drop a)=n) (hc:((s[a].toNat:Int)==45)=false) (hv:decide (Lx.dv (((tl s).drop a).take n)≤2147483647)=v) :
 Calls prog 136 #[.string (s.extract a (a+n))] w fun e w'=>e=.returned (.bool v)∧Below w.heap.size w w':=by
 have hz:=ex_size s (a:=a) bB;have h1:tl (s.extract a (a+n))=((tl s).drop a).take n:=by rw[zbi,Nat.add_sub_cancel_left]
 refine(num_plain (s.extract a (a+n)) w om om ?_ ?_).mono fun e w' ⟨he,hw⟩=>⟨by rw[he,h1,hv],hw⟩
 ·rw[ex_at s om om];simpa using hc
 ·intro k hk;rw[ex_at s hk om];have:=Lx.sp_all (p:=Lx.isDig) (l:=(tl s).drop a) k om zue;rw[List.getElem_drop,zat s (a+k) om]at this;exact this
theorem num_m_at (s:ByteArray) (a n:Nat) (v:Bool) (w:World) (hs:s.size≤65536) (bB:a+1+n≤s.size) (hn:Lx.sp Lx.isDig ((tl s).drop (a+1))=n) (hc:((s[a].toNat:Int)==45)=true) (hv:decide (Lx.dv (((tl s).drop (a+1)).take n)≤2147483648)=v) :
 Calls prog 136 #[.string (s.extract a (a+1+n))] w fun e w'=>e=.returned (.bool v)∧Below w.heap.size w w':=by
 have hz:=ex_size s (a:=a) bB;have aY:=ex_size (s.extract a (a+1+n)) (a:=1) (Nat.le_refl _);have h1:tl ((s.extract a (a+1+n)).extract 1 (s.extract a (a+1+n)).size)=((tl s).drop (a+1)).take n:=by
  rw[zbi,zbi,hz,List.drop_take,List.drop_drop,List.take_take,show min (a+1+n-a-1) (a+1+n-a-1)=n by omega]
 refine(num_minus (s.extract a (a+1+n)) _ w om om rfl om ?_ ?_).mono fun e w' ⟨he,hw⟩=>⟨by rw[he,h1,hv],hw⟩
 ·rw[ex_at s om om];simpa using hc
 ·intro k hk;rw[ex_at _ hk om,ex_at s om om];have:=Lx.sp_all (p:=Lx.isDig) (l:=(tl s).drop (a+1)) k om zue;rw[List.getElem_drop,zat s (a+1+k) om]at this;simp only[Nat.add_assoc]at this ⊢;exact this
theorem sign_dr (s:ByteArray) (a n:Nat) (w:World) (hn:Lx.sg ((tl s).drop a)=n):Calls prog 137 #[.string (s.extract a s.size)] w fun e w'=>e=.returned (.int .i64 (n:Int))∧w'=w :=
 (sign_any _ w).mono fun e w' ⟨he,hw⟩=>⟨by rw[he,zbi,List.take_of_length_le zue,hn],hw⟩
theorem keyword_at (s:ByteArray) (v:Bool) (w:World) (h:Lx.kw (tl s)=v):Calls prog 133 #[.string s] w fun e w'=>e=.returned (.bool v)∧w=w' :=
 (zcs s w).mono fun e w' ⟨he,hw⟩=>⟨by rw[he,h],hw.symm⟩
theorem name_no (g:Nat) (s:ByteArray) (a:Nat) (w:World) (hS:Scn w g s a) (hs:s.size≤65536) (ha:a<s.size) (hc:Lx.isLet s[a]=false):Calls prog 66 #[.pointer (some ⟨g,0,none⟩)] w fun e w'=>e=.returned (t3 0 a 0)∧Below w.heap.size w w':=by
 have c0:w.cell? ⟨g,0,none⟩=some (.string s):=hS.cell 0;have c2:w.cell? ⟨g,257,none⟩=some (.int .i64 (a:Int)):=(hS.cell _).trans (zap s a);have c1:w.cell? ⟨g,1+s[a].toNat,none⟩=some (.int .u8 (clsN s[a].toNat:Int)):=(hS.cell _).trans (zcc s a s[a]);have h5:=zb9 s[a].toNat;have h6:=s[a].toNat_lt;have h7:((clsN s[a].toNat:Int) != 2)=true:=by rw[cls_let]at hc;simp at hc ⊢;omega
 clear hc;go_enter func66,ntmps66;go_wp2_with fail;go_quiet (fail);go_wp2_with fail;go_quiet (fail);go_wp2_with fail;go_ret3;exact⟨rfl,zam (zam (Below.refl _ _) _) _⟩
theorem name_err (g:Nat) (s:ByteArray) (a:Nat) (w:World) (hS:Scn w g s a) (hs:s.size≤65536) (ha:a<s.size) (hc:Lx.isLet s[a]=true) (n:Nat) (hn:Hid (Lx.sp Lx.isNm ((tl s).drop a)=n)) (gz:32<n):Calls prog 66 #[.pointer (some ⟨g,0,none⟩)] w fun e w'=>e=.returned (t3 0 a 5)∧Below w.heap.size w w':=by
 have bB:=zbn hn.out (Nat.le_of_lt ha);have c0:w.cell? ⟨g,0,none⟩=some (.string s):=hS.cell 0;have c2:w.cell? ⟨g,257,none⟩=some (.int .i64 (a:Int)):=(hS.cell _).trans (zap s a);have c1:w.cell? ⟨g,1+s[a].toNat,none⟩=some (.int .u8 (clsN s[a].toNat:Int)):=(hS.cell _).trans (zcc s a s[a]);have h5:=zb9 s[a].toNat;have h6:=s[a].toNat_lt;have h7:((clsN s[a].toNat:Int) != 2)=false:=by rw[cls_let]at hc;simp at hc ⊢;omega
 clear hc;go_enter func66,ntmps66;go_wp2_with fail;go_quiet (fail);go_wp2_with fail;go_quiet (fail);go_wp2_with fail;refine(while_nm_n _ a n g s a _ rfl hn.out (Blk.drewN hS _) hs om).mono ?_;exact zt23
theorem name_ok_true (g:Nat) (s:ByteArray) (a:Nat) (w:World) (hS:Scn w g s a) (hs:s.size≤65536) (ha:a<s.size) (hc:Lx.isLet s[a]=true) (n:Nat) (hn:Hid (Lx.sp Lx.isNm ((tl s).drop a)=n)) (gz:n≤32) (hk:Hid (Lx.kw (((tl s).drop a).take n)=true)):Calls prog 66 #[.pointer (some ⟨g,0,none⟩)] w fun e w'=>e=.returned (t3 2 ((a:Int)+n) 0)∧Below w.heap.size w w':=by
 have bB:=zbn hn.out (Nat.le_of_lt ha);have c0:w.cell? ⟨g,0,none⟩=some (.string s):=hS.cell 0;have c2:w.cell? ⟨g,257,none⟩=some (.int .i64 (a:Int)):=(hS.cell _).trans (zap s a);have c1:w.cell? ⟨g,1+s[a].toNat,none⟩=some (.int .u8 (clsN s[a].toNat:Int)):=(hS.cell _).trans (zcc s a s[a]);have h5:=zb9 s[a].toNat;have h6:=s[a].toNat_lt;have h7:((clsN s[a].toNat:Int) != 2)=false:=by rw[cls_let]at hc;simp at hc ⊢;omega
 clear hc;go_enter func66,ntmps66;go_wp2_with fail;go_quiet (fail);go_wp2_with fail;go_quiet (fail);go_wp2_with fail;refine(while_nm_n _ a n g s a _ rfl hn.out (Blk.drewN hS _) hs om).mono ?_;rintro e w1 ⟨rfl,aC⟩;go_wp2_with fail;refine(keyword_at _ true _ (by rw[zbi,Nat.add_sub_cancel_left];exact hk.out)).mono ?_;rintro e w2 ⟨rfl,rfl⟩;go_wp2_with fail;go_ret3;exact zut
theorem name_ok_false (g:Nat) (s:ByteArray) (a:Nat) (w:World) (hS:Scn w g s a) (hs:s.size≤65536) (ha:a<s.size) (hc:Lx.isLet s[a]=true) (n:Nat) (hn:Hid (Lx.sp Lx.isNm ((tl s).drop a)=n)) (gz:n≤32) (hk:Hid (Lx.kw (((tl s).drop a).take n)=false)):Calls prog 66 #[.pointer (some ⟨g,0,none⟩)] w fun e w'=>e=.returned (t3 0 ((a:Int)+n) 0)∧Below w.heap.size w w':=by
 have bB:=zbn hn.out (Nat.le_of_lt ha);have c0:w.cell? ⟨g,0,none⟩=some (.string s):=hS.cell 0;have c2:w.cell? ⟨g,257,none⟩=some (.int .i64 (a:Int)):=(hS.cell _).trans (zap s a);have c1:w.cell? ⟨g,1+s[a].toNat,none⟩=some (.int .u8 (clsN s[a].toNat:Int)):=(hS.cell _).trans (zcc s a s[a]);have h5:=zb9 s[a].toNat;have h6:=s[a].toNat_lt;have h7:((clsN s[a].toNat:Int) != 2)=false:=by rw[cls_let]at hc;simp at hc ⊢;omega
 clear hc;go_enter func66,ntmps66;go_wp2_with fail;go_quiet (fail);go_wp2_with fail;go_quiet (fail);go_wp2_with fail;refine(while_nm_n _ a n g s a _ rfl hn.out (Blk.drewN hS _) hs om).mono ?_;rintro e w1 ⟨rfl,aC⟩;go_wp2_with fail;refine(keyword_at _ false _ (by rw[zbi,Nat.add_sub_cancel_left];exact hk.out)).mono ?_;rintro e w2 ⟨rfl,rfl⟩;go_wp2_with fail;go_ret3;exact zut
theorem word_no (g:Nat) (s:ByteArray) (a:Nat) (w:World) (hS:Scn w g s a) (hs:s.size≤65536) (ha:a<s.size) (hc:(s[a]==39)=false):Calls prog 67 #[.pointer (some ⟨g,0,none⟩)] w fun e w'=>e=.returned (t3 0 a 0)∧Below w.heap.size w w':=by
 have c0:w.cell? ⟨g,0,none⟩=some (.string s):=hS.cell 0;have c2:w.cell? ⟨g,257,none⟩=some (.int .i64 (a:Int)):=(hS.cell _).trans (zap s a);have h6:=s[a].toNat_lt;have h7:((s[a].toNat:Int) != 39)=true:=by simp at hc ⊢;intro h8;exact hc (UInt8.toNat_inj.1 (by have h9:(39:UInt8).toNat=39:=rfl;omega))
 clear hc;go_enter func67,ntmps67;go_wp2_with fail;go_quiet (fail);go_wp2_with fail;go_ret3;exact⟨rfl,zam (Below.refl _ _) _⟩
theorem word_long (g:Nat) (s:ByteArray) (a:Nat) (w:World) (hS:Scn w g s a) (hs:s.size≤65536) (ha:a<s.size) (hc:(s[a]==39)=true) (n:Nat) (hn:Hid (Lx.sp Lx.isWd ((tl s).drop (a+1))=n)) (gz:32<n):Calls prog 67 #[.pointer (some ⟨g,0,none⟩)] w fun e w'=>e=.returned (t3 0 a 5)∧Below w.heap.size w w':=by
 have bB:=zbn hn.out (show a+1≤s.size by omega);have c0:w.cell? ⟨g,0,none⟩=some (.string s):=hS.cell 0;have c2:w.cell? ⟨g,257,none⟩=some (.int .i64 (a:Int)):=(hS.cell _).trans (zap s a);have h6:=s[a].toNat_lt;have h7:((s[a].toNat:Int) != 39)=false:=by simp at hc ⊢;rw[hc];rfl
 clear hc;exact zt9
theorem word_empty (g:Nat) (s:ByteArray) (a:Nat) (w:World) (hS:Scn w g s a) (hs:s.size≤65536) (ha:a<s.size) (hc:(s[a]==39)=true) (n:Nat) (hn:Hid (Lx.sp Lx.isWd ((tl s).drop (a+1))=n)) (h0:n=0):Calls prog 67 #[.pointer (some ⟨g,0,none⟩)] w fun e w'=>e=.returned (t3 0 a 4)∧Below w.heap.size w w':=by
 have bB:=zbn hn.out (show a+1≤s.size by omega);have c0:w.cell? ⟨g,0,none⟩=some (.string s):=hS.cell 0;have c2:w.cell? ⟨g,257,none⟩=some (.int .i64 (a:Int)):=(hS.cell _).trans (zap s a);have h6:=s[a].toNat_lt;have h7:((s[a].toNat:Int) != 39)=false:=by simp at hc ⊢;rw[hc];rfl
 clear hc;subst h0;go_enter func67,ntmps67;go_wp2_with fail;go_quiet (fail);go_wp2_with fail;refine(zci _ (a+1) 0 g s a _ zy1 hn.out (Blk.drewN hS _) hs om).mono ?_;exact zt23
theorem word_end (g:Nat) (s:ByteArray) (a:Nat) (w:World) (hS:Scn w g s a) (hs:s.size≤65536) (ha:a<s.size) (hc:(s[a]==39)=true) (n:Nat) (hn:Hid (Lx.sp Lx.isWd ((tl s).drop (a+1))=n)) (gz:n≤32) (h0:0<n) (he:a+1+n=s.size):Calls prog 67 #[.pointer (some ⟨g,0,none⟩)] w fun e w'=>e=.returned (t3 0 a 4)∧Below w.heap.size w w':=by
 have bB:=zbn hn.out (show a+1≤s.size by omega);have c0:w.cell? ⟨g,0,none⟩=some (.string s):=hS.cell 0;have c2:w.cell? ⟨g,257,none⟩=some (.int .i64 (a:Int)):=(hS.cell _).trans (zap s a);have h6:=s[a].toNat_lt;have h7:((s[a].toNat:Int) != 39)=false:=by simp at hc ⊢;rw[hc];rfl
 clear hc;have HE:=hid he;have vZ:(((a:Int)+1+n)==(s.size:Int))=true:=by simp;omega
 have he3:decide ((a:Int)+1+n=(s.size:Int))=true:=by simp;omega
 clear he;exact zt9
theorem word_open (g:Nat) (s:ByteArray) (a:Nat) (w:World) (hS:Scn w g s a) (hs:s.size≤65536) (ha:a<s.size) (hc:(s[a]==39)=true) (n:Nat) (hn:Hid (Lx.sp Lx.isWd ((tl s).drop (a+1))=n)) (gz:n≤32) (h0:0<n) (he:a+1+n<s.size) (hq:(s[a+1+n]==39)=false):Calls prog 67 #[.pointer (some ⟨g,0,none⟩)] w fun e w'=>e=.returned (t3 0 a 4)∧Below w.heap.size w w':=by
 have bB:=zbn hn.out (show a+1≤s.size by omega);have c0:w.cell? ⟨g,0,none⟩=some (.string s):=hS.cell 0;have c2:w.cell? ⟨g,257,none⟩=some (.int .i64 (a:Int)):=(hS.cell _).trans (zap s a);have h6:=s[a].toNat_lt;have h7:((s[a].toNat:Int) != 39)=false:=by simp at hc ⊢;rw[hc];rfl
 clear hc;have e1:(((a:Int)+1+n)==((a:Int)+1))=false:=by simp;omega
 have e2:(((a:Int)+1+n)==(s.size:Int))=false:=by simp;omega
 have lr:((s[a+1+n].toNat:Int) != 39)=true:=by simp at hq ⊢;intro h8;exact hq (UInt8.toNat_inj.1 (by have h9:(39:UInt8).toNat=39:=rfl;omega))
 have h6':=s[a+1+n].toNat_lt;clear hq;exact zt9
theorem word_ok (g:Nat) (s:ByteArray) (a:Nat) (w:World) (hS:Scn w g s a) (hs:s.size≤65536) (ha:a<s.size) (hc:(s[a]==39)=true) (n:Nat) (hn:Hid (Lx.sp Lx.isWd ((tl s).drop (a+1))=n)) (gz:n≤32) (h0:0<n) (he:a+1+n<s.size) (hq:(s[a+1+n]==39)=true):Calls prog 67 #[.pointer (some ⟨g,0,none⟩)] w fun e w'=>e=.returned (t3 0 ((a:Int)+1+n+1) 0)∧Below w.heap.size w w':=by
 have bB:=zbn hn.out (show a+1≤s.size by omega);have c0:w.cell? ⟨g,0,none⟩=some (.string s):=hS.cell 0;have c2:w.cell? ⟨g,257,none⟩=some (.int .i64 (a:Int)):=(hS.cell _).trans (zap s a);have h6:=s[a].toNat_lt;have h7:((s[a].toNat:Int) != 39)=false:=by simp at hc ⊢;rw[hc];rfl
 clear hc;have e1:(((a:Int)+1+n)==((a:Int)+1))=false:=by simp;omega
 have e2:(((a:Int)+1+n)==(s.size:Int))=false:=by simp;omega
 have lr:((s[a+1+n].toNat:Int) != 39)=false:=by simp at hq ⊢;rw[hq];rfl
 have h6':=s[a+1+n].toNat_lt;clear hq;exact zt9
theorem numb_no_p (g:Nat) (s:ByteArray) (a:Nat) (w:World) (hS:Scn w g s a) (hs:s.size≤65536) (ha:a<s.size) (hc:(s[a]==45)=false) (n:Nat) (hn:Hid (Lx.sp Lx.isDig ((tl s).drop a)=n)) (h0:n=0):Calls prog 68 #[.pointer (some ⟨g,0,none⟩)] w fun e w'=>e=.returned (t3 0 a 0)∧Below w.heap.size w w':=by
 have bB:=zbn hn.out (Nat.le_of_lt ha);have c0:w.cell? ⟨g,0,none⟩=some (.string s):=hS.cell 0;have c2:w.cell? ⟨g,257,none⟩=some (.int .i64 (a:Int)):=(hS.cell _).trans (zap s a);have h6:=s[a].toNat_lt;have h7:((s[a].toNat:Int)==45)=false:=by simp at hc ⊢;intro h8;exact hc (UInt8.toNat_inj.1 zu2)
 clear hc;subst h0;go_enter func68,ntmps68;go_wp2_with fail;go_quiet (fail);go_wp2_with fail;refine(zbv _ a 0 g s a _ rfl hn.out (Blk.drewN hS _) hs om).mono ?_;exact zt23
theorem numb_no_m (g:Nat) (s:ByteArray) (a:Nat) (w:World) (hS:Scn w g s a) (hs:s.size≤65536) (ha:a<s.size) (hc:(s[a]==45)=true) (n:Nat) (hn:Hid (Lx.sp Lx.isDig ((tl s).drop (a+1))=n)) (h0:n=0):Calls prog 68 #[.pointer (some ⟨g,0,none⟩)] w fun e w'=>e=.returned (t3 0 a 0)∧Below w.heap.size w w':=by
 have bB:=zbn hn.out (show a+1≤s.size by omega);have c0:w.cell? ⟨g,0,none⟩=some (.string s):=hS.cell 0;have c2:w.cell? ⟨g,257,none⟩=some (.int .i64 (a:Int)):=(hS.cell _).trans (zap s a);have h6:=s[a].toNat_lt;have h7:((s[a].toNat:Int)==45)=true:=by simp at hc ⊢;rw[hc];rfl
 clear hc;subst h0;go_enter func68,ntmps68;go_wp2_with fail;go_quiet (fail);go_wp2_with fail;refine(zbv _ (a+1) 0 g s a _ zy1 hn.out (Blk.drewN hS _) hs om).mono ?_;exact zt23
theorem numb_p_true (g:Nat) (s:ByteArray) (a:Nat) (w:World) (hS:Scn w g s a) (hs:s.size≤65536) (ha:a<s.size) (hc:(s[a]==45)=false) (n:Nat) (hn:Hid (Lx.sp Lx.isDig ((tl s).drop a)=n)) (h0:0<n) (hv:decide (Lx.dv (((tl s).drop a).take n)≤2147483647)=true):Calls prog 68 #[.pointer (some ⟨g,0,none⟩)] w fun e w'=>e=.returned (t3 1 ((a:Int)+n) 0)∧Below w.heap.size w w':=by
 have bB:=zbn hn.out (Nat.le_of_lt ha);have c0:w.cell? ⟨g,0,none⟩=some (.string s):=hS.cell 0;have c2:w.cell? ⟨g,257,none⟩=some (.int .i64 (a:Int)):=(hS.cell _).trans (zap s a);have h6:=s[a].toNat_lt;have h7:((s[a].toNat:Int)==45)=false:=by simp at hc ⊢;intro h8;exact hc (UInt8.toNat_inj.1 zu2)
 clear hc;have HV:=hid hv;clear hv;have e1:(((a:Int)+n)==(a:Int))=false:=by simp;omega
 go_enter func68,ntmps68;go_wp2_with fail;go_quiet (fail);go_wp2_with fail;refine(zbv _ a n g s a _ rfl hn.out (Blk.drewN hS _) hs om).mono ?_;rintro e w1 ⟨rfl,aC⟩;go_wp2_with fail;refine(num_p_at s a n true _ hs h0 bB hn.out h7 HV.out).mono ?_;exact zt52
theorem numb_m_true (g:Nat) (s:ByteArray) (a:Nat) (w:World) (hS:Scn w g s a) (hs:s.size≤65536) (ha:a<s.size) (hc:(s[a]==45)=true) (n:Nat) (hn:Hid (Lx.sp Lx.isDig ((tl s).drop (a+1))=n)) (h0:0<n) (hv:decide (Lx.dv (((tl s).drop (a+1)).take n)≤2147483648)=true):Calls prog 68 #[.pointer (some ⟨g,0,none⟩)] w fun e w'=>e=.returned (t3 1 ((a:Int)+1+n) 0)∧Below w.heap.size w w':=by
 have bB:=zbn hn.out (show a+1≤s.size by omega);have c0:w.cell? ⟨g,0,none⟩=some (.string s):=hS.cell 0;have c2:w.cell? ⟨g,257,none⟩=some (.int .i64 (a:Int)):=(hS.cell _).trans (zap s a);have h6:=s[a].toNat_lt;have h7:((s[a].toNat:Int)==45)=true:=by simp at hc ⊢;rw[hc];rfl
 clear hc;have HV:=hid hv;clear hv;have e1:(((a:Int)+1+n)==((a:Int)+1))=false:=by simp;omega
 go_enter func68,ntmps68;go_wp2_with fail;go_quiet (fail);go_wp2_with fail;refine(zbv _ (a+1) n g s a _ zy1 hn.out (Blk.drewN hS _) hs om).mono ?_;rintro e w1 ⟨rfl,aC⟩;go_wp2_with fail;refine(num_m_at s a n true _ hs bB hn.out h7 HV.out).mono ?_;exact zt52
theorem numb_p_false (g:Nat) (s:ByteArray) (a:Nat) (w:World) (hS:Scn w g s a) (hs:s.size≤65536) (ha:a<s.size) (hc:(s[a]==45)=false) (n:Nat) (hn:Hid (Lx.sp Lx.isDig ((tl s).drop a)=n)) (h0:0<n) (hv:decide (Lx.dv (((tl s).drop a).take n)≤2147483647)=false):Calls prog 68 #[.pointer (some ⟨g,0,none⟩)] w fun e w'=>e=.returned (t3 0 a 2)∧Below w.heap.size w w':=by
 have bB:=zbn hn.out (Nat.le_of_lt ha);have c0:w.cell? ⟨g,0,none⟩=some (.string s):=hS.cell 0;have c2:w.cell? ⟨g,257,none⟩=some (.int .i64 (a:Int)):=(hS.cell _).trans (zap s a);have h6:=s[a].toNat_lt;have h7:((s[a].toNat:Int)==45)=false:=by simp at hc ⊢;intro h8;exact hc (UInt8.toNat_inj.1 zu2)
 clear hc;have HV:=hid hv;clear hv;have e1:(((a:Int)+n)==(a:Int))=false:=by simp;omega
 go_enter func68,ntmps68;go_wp2_with fail;go_quiet (fail);go_wp2_with fail;refine(zbv _ a n g s a _ rfl hn.out (Blk.drewN hS _) hs om).mono ?_;rintro e w1 ⟨rfl,aC⟩;go_wp2_with fail;refine(num_p_at s a n false _ hs h0 bB hn.out h7 HV.out).mono ?_;exact zt52
theorem numb_m_false (g:Nat) (s:ByteArray) (a:Nat) (w:World) (hS:Scn w g s a) (hs:s.size≤65536) (ha:a<s.size) (hc:(s[a]==45)=true) (n:Nat) (hn:Hid (Lx.sp Lx.isDig ((tl s).drop (a+1))=n)) (h0:0<n) (hv:decide (Lx.dv (((tl s).drop (a+1)).take n)≤2147483648)=false):Calls prog 68 #[.pointer (some ⟨g,0,none⟩)] w fun e w'=>e=.returned (t3 0 a 2)∧Below w.heap.size w w':=by
 have bB:=zbn hn.out (show a+1≤s.size by omega);have c0:w.cell? ⟨g,0,none⟩=some (.string s):=hS.cell 0;have c2:w.cell? ⟨g,257,none⟩=some (.int .i64 (a:Int)):=(hS.cell _).trans (zap s a);have h6:=s[a].toNat_lt;have h7:((s[a].toNat:Int)==45)=true:=by simp at hc ⊢;rw[hc];rfl
 clear hc;have HV:=hid hv;clear hv;have e1:(((a:Int)+1+n)==((a:Int)+1))=false:=by simp;omega
 go_enter func68,ntmps68;go_wp2_with fail;go_quiet (fail);go_wp2_with fail;refine(zbv _ (a+1) n g s a _ zy1 hn.out (Blk.drewN hS _) hs om).mono ?_;rintro e w1 ⟨rfl,aC⟩;go_wp2_with fail;refine(num_m_at s a n false _ hs bB hn.out h7 HV.out).mono ?_;exact zt52
theorem sign_at (g:Nat) (s:ByteArray) (a:Nat) (w:World) (hS:Scn w g s a) (hs:s.size≤65536) (ha:a<s.size) (n:Nat) (hn:Lx.sg ((tl s).drop a)=n) (hb:n≤2):Calls prog 69 #[.pointer (some ⟨g,0,none⟩)] w fun e w'=>e=.returned (t3 2 ((a:Int)+n) 0)∧Below w.heap.size w w':=by
 have c0:w.cell? ⟨g,0,none⟩=some (.string s):=hS.cell 0;have c2:w.cell? ⟨g,257,none⟩=some (.int .i64 (a:Int)):=(hS.cell _).trans (zap s a);have HN:=hid hn;clear hn;go_enter func69,ntmps69;go_wp2_with fail;go_quiet ((go_at_call 137;exact Calls.quiet_of_same (sign_dr s a n _ HN.out)));go_wp2_with fail;go_ret3;exact⟨rfl,zam (Below.refl _ _) _⟩
end
section
open Go.RowKit
open Lib (hid)
theorem index_nl (l:List UInt8):Lib.indexByte l 10=if Lx.sp (fun c=>c != 10) l<l.length then(Lx.sp (fun c=>c != 10) l:Int)else -1:=by
 induction l with
 | nil=>rfl
 | cons c m ih =>
  unfold Lib.indexByte;cases hc:(c==10)with
  | true =>
   rw[if_pos rr,Lx.sp_stop (p:=fun c=>c != 10) (by show(!(c==10))=false;rw[hc];rfl),if_pos zy1];rfl
  | false =>
   rw[if_neg zy1,Lx.sp_succ (p:=fun c=>c != 10) (by show(!(c==10))=true;rw[hc];rfl),ih];have dD:=Lx.sp_le (fun c=>c != 10) m;by_cases h:Lx.sp (fun c=>c != 10) m<m.length
   ·rw[if_pos h,if_neg (by rw[beq_iff_eq];omega),if_pos (by rw[List.length_cons];omega)];simp
   ·rw[if_neg h,if_pos rr,if_neg (by simp only[List.length_cons];omega)]
theorem gb_trans {w w1 w2:World} {r:Option Nat} (h:w.grownBy w1 r) (k:w1.grownBy w2 r):w.grownBy w2 r :=
 ⟨k.os.trans h.os,k.tape.trans h.tape,k.output.trans h.output,Nat.le_trans h.size k.size,fun i hi hn=>(k.block i (Nat.lt_of_lt_of_le hi h.size) hn).trans (h.block i hi hn)⟩
theorem gb_below {w w1:World} {r:Option Nat} (h:Below w.heap.size w w1):w.grownBy w1 r:=⟨h.os,h.tape,h.output,h.size,fun i hi _=>h.block i hi⟩
theorem gb_set {w:World} {g i:Nat} (v:Value):w.grownBy (w.setCell ⟨g,i,none⟩ v) (some g) :=
 ⟨rfl,rfl,rfl,by simp[World.setCell],fun k _ hn=>Below.heap_setCell _ _ _ _ (fun h=>hn (by rw[h]))⟩
theorem gb_drewN {w w1:World} {r:Option Nat} (h:w.grownBy w1 r) (n:Nat):w.grownBy (w1.drewN n) r:=gb_trans h ⟨rfl,rfl,rfl,Nat.le_refl _,fun _ _ _=>rfl⟩
theorem Scn.set {w:World} {g:Nat} {s:ByteArray} {a:Nat} (h:Scn w g s a) (b:Nat):Scn (w.setCell ⟨g,257,none⟩ (.int .i64 (b:Int))) g s b:=by
 have:=Blk.set_ h 257 (.int .i64 (b:Int));rw[scnL_set]at this;exact this
def atOf (g:Nat) (w:World):Nat:=match w.cell? ⟨g,257,none⟩with|some (.int _ q)=>q.toNat|_=>0
theorem zbu {w:World} {g:Nat} {s:ByteArray} {a:Nat} (h:Scn w g s a):atOf g w=a:=by
 unfold atOf;rw[h.cell 257,zap];simp
def SkRel (s:ByteArray) (g a:Nat) (w:World) (_:Value) (W:World):Prop:=∃b,Scn W g s b∧b≤s.size∧w.grownBy W (some g)∧a+Lx.sk false ((tl s).drop a)=b+Lx.sk false ((tl s).drop b)
theorem sk_sps (s:ByteArray) {a n:Nat} (hn:Lx.sp Lx.isSp ((tl s).drop a)=n):Lx.sk false ((tl s).drop a)=n+Lx.sk false ((tl s).drop (a+n)):=by
 rw[Lx.sk_run,hn,List.drop_drop]
theorem sk_here (s:ByteArray) {a n:Nat} (hn:Lx.sp Lx.isSp ((tl s).drop a)=n) (h:a+n<s.size) (hh:(s[a+n]==35)=false):Lx.sk false ((tl s).drop (a+n))=0:=by
 have hl:a+n<(tl s).length:=by rw[zad];exact h
 rw[List.drop_eq_getElem_cons hl,zat s _ h];refine Lx.sk_stop ?_ hh;have h2:=Lx.sp_end (p:=Lx.isSp) (l:=(tl s).drop a) (by rw[List.length_drop];omega);simp only[hn,List.getElem_drop]at h2;rw[zat s _ h]at h2;exact h2
theorem sk_comment (s:ByteArray) {b j:Nat} (h:b<s.size) (hh:(s[b]==35)=true) (hj:Lx.sp (fun c=>c != 10) ((tl s).drop b)=j):0<j∧b+j≤s.size∧Lx.sk false ((tl s).drop b)=j+Lx.sk false ((tl s).drop (b+j)):=by
 have hl:b<(tl s).length:=by rw[zad];exact h
 have e:(tl s).drop b=35::(tl s).drop (b+1):=by rw[List.drop_eq_getElem_cons hl,zat s _ h];simp at hh;rw[hh]
 have hf:=zbn hj (Nat.le_of_lt h);have jT:=hj;rw[e,Lx.sp_succ zy0]at jT;refine⟨by omega,hf,?_⟩;rw[←List.drop_drop,e,Lx.sk_hash,←jT,List.drop_succ_cons,Lx.sk_line];omega
theorem index_at (s:ByteArray) (b:Nat) (k:Int) (w:World) (hk:Lib.indexByte ((tl s).drop b) 10=k) :
 Calls prog 139 #[.string (s.extract b s.size),.int .u8 10] w fun e w'=>e=.returned (.int .i64 k)∧w'=w :=
 (strings_IndexByte _ 10 w).mono fun e w' ⟨he,hw⟩=>⟨by rw[he];refine zay ?_;rw[←hk];have:(s.extract b s.size).data.toList=(tl s).drop b:=Lib.extract_to_end s b;rw[this];rfl,hw⟩
theorem skip_any (g:Nat) (s:ByteArray) (a:Nat) (w:World) (hS:Scn w g s a) (hs:s.size≤65536) (ha:a≤s.size) :
 Calls prog 70 #[.pointer (some ⟨g,0,none⟩)] w fun e w'=>e=.returned (.tuple #[])∧Scn w' g s (a+Lx.sk false ((tl s).drop a))∧w.grownBy w' (some g):=by
 go_enter func70,ntmps70;go_wp2_with fail;go_loopw [2] (SkRel s g a w) (fun _ W=>s.size-atOf g W);case atStart=>exact⟨a,hS,ha,⟨rfl,rfl,rfl,Nat.le_refl _,fun _ _ _=>rfl⟩,rfl⟩
 case round =>
  obtain⟨b,hB,hb,hg,he⟩:=hrel;have HE:=hid he;clear he;have HM:=hid (zbu hB);have c2:wr.cell? ⟨g,257,none⟩=some (.int .i64 (b:Int)):=(hB.cell _).trans (zap s b);obtain⟨n,hn⟩:∃n,Lx.sp Lx.isSp ((tl s).drop b)=n:=⟨_,rfl⟩;have HN:=hid hn;have bB:=zbn hn hb;clear hn;go_wp2_with fail;refine(while_sp_n _ b n g s b _ rfl HN.out hB hs hb).mono ?_;rintro e w1 ⟨rfl,aC⟩;have fF:=hB.below aC hB.lt;have d2:w1.cell? ⟨g,257,none⟩=some (.int .i64 (b:Int)):=(fF.cell _).trans (zap s b);have d3:w1.frozen? ⟨g,257,none⟩=false:=fF.frozen _;go_wp2_with fail;have dW:=Scn.set fF (b+n);have cK:=gb_trans (gb_trans hg (gb_below aC)) (gb_set (w:=w1) (g:=g) (i:=257) (.int .i64 ((b+n:Nat):Int)));have rN:=hid (HE.out.trans (show b+Lx.sk false ((tl s).drop b)=b+n+Lx.sk false ((tl s).drop (b+n)) by rw[sk_sps s HN.out];omega));have qo:=hid (sk_here s HN.out);clear d2 d3 fF aC hg c2 hB HE HN;rw[←Int.natCast_add];have fw:b≤b+n:=Nat.le_add_right _ _;generalize w1.setCell ⟨g,257,none⟩ (.int .i64 ((b+n:Nat):Int))=W2 at *;generalize b+n=c at *;have c0:W2.cell? ⟨g,0,none⟩=some (.string s):=dW.cell 0;have c2:W2.cell? ⟨g,257,none⟩=some (.int .i64 (c:Int)):=(dW.cell 257).trans (zap s c);by_cases ii:c=s.size
  ·have h1:((c:Int)==(s.size:Int))=true:=by simp;omega
   have hz:Lx.sk false ((tl s).drop (c))=0:=by rw[List.drop_eq_nil_of_le zyw];rfl
   have HZ:=hid hz;clear hz;have HEND:=hid ii;clear ii;exact zt47
  ·have h1:((c:Int)==(s.size:Int))=false:=by simp;omega
   have aQ:c<s.size:=om;have h6:=s[c].toNat_lt;cases hq:(s[c]==35)with
   | false =>
    have h7:((s[c].toNat:Int) != 35)=true:=by simp at hq ⊢;intro h8;exact hq (UInt8.toNat_inj.1 (by have h9:(35:UInt8).toNat=35:=rfl;omega))
    have HZ:=hid (qo.out aQ hq);clear hq;exact zt47
   | true =>
    have h7:((s[c].toNat:Int) != 35)=false:=by simp at hq ⊢;rw[hq];rfl
    obtain⟨j,hj⟩:∃j,Lx.sp (fun c=>c != 10) ((tl s).drop (c))=j:=⟨_,rfl⟩;obtain⟨j0,j1,j2⟩:=sk_comment s aQ hq hj;have J2:=hid j2;clear j2 hq;have bZ:=index_nl ((tl s).drop (c));rw[hj,List.length_drop,zad]at bZ;by_cases aW:j<s.size-(c)
    ·rw[if_pos aW]at bZ;have HX:=hid bZ;clear bZ hj;go_quiet (fail);have il:=dW.drewN nq;have eD:=gb_drewN cK nq;clear c0 c2 dW cK;generalize W2.drewN nq=W3 at *;have c0:W3.cell? ⟨g,0,none⟩=some (.string s):=il.cell 0;have c2:W3.cell? ⟨g,257,none⟩=some (.int .i64 (c:Int)):=(il.cell 257).trans (zap s c);have c3:W3.frozen? ⟨g,257,none⟩=false:=il.frozen _;go_wp2_with fail;go_quiet ((go_at_call 139;exact Calls.quiet_of_same (index_at s (c) j _ HX.out)));go_wp2_with fail;go_roundw;case rel =>
      refine⟨c+j,?_,j1,gb_trans (gb_drewN eD _) (gb_set _),?_⟩
      ·have h:=Scn.set (il.drewN nq) (c+j);rw[Int.natCast_add]at h;exact h
      ·rw[rN.out,J2.out];omega
     case measure =>
      have h:=Scn.set (il.drewN nq) (c+j);exact zt44
    ·rw[if_neg aW]at bZ;have HX:=hid bZ;clear bZ hj;go_quiet (fail);have il:=dW.drewN nq;have eD:=gb_drewN cK nq;clear c0 c2 dW cK;generalize W2.drewN nq=W3 at *;have c0:W3.cell? ⟨g,0,none⟩=some (.string s):=il.cell 0;have c2:W3.cell? ⟨g,257,none⟩=some (.int .i64 (c:Int)):=(il.cell 257).trans (zap s c);have c3:W3.frozen? ⟨g,257,none⟩=false:=il.frozen _;go_wp2_with fail;go_quiet ((go_at_call 139;exact Calls.quiet_of_same (index_at s (c) (-1) _ HX.out)));go_wp2_with fail;go_roundw;case rel =>
      refine⟨s.size,Scn.set (il.drewN nq) s.size,Nat.le_refl _,gb_trans (gb_drewN eD _) (gb_set _),?_⟩;rw[rN.out,J2.out,show c+j=s.size by omega];omega
     case measure =>
      rw[zbu (Scn.set (il.drewN nq) s.size),HM.out];omega
end
section
open Go.RowKit
open Lib (hid)
def zeroL:List Value:=List.replicate 256 (.int .u8 0)
def putS (t:List Value) (l:List (Nat×Nat)):List Value:=l.foldl (fun t p=>t.set p.1 (.int .u8 (p.2:Int))) t
theorem putS_snoc (t:List Value) (l:List (Nat×Nat)) (i v:Nat):putS t (l++[(i,v)])=(putS t l).set i (.int .u8 (v:Int)):=by simp[putS]
def spL:List (Nat×Nat):=[(32,1),(9,1),(13,1),(10,1)]
def letL (k:Nat):List (Nat×Nat):=(List.range k).flatMap fun i=>[(97+i,2),(65+i,2)]
def digL2 (k:Nat):List (Nat×Nat):=(List.range k).map fun i=>(48+i,3)
theorem letL_succ (k:Nat):letL (k+1)=letL k++[(97+k,2)]++[(65+k,2)]:=by simp[letL,List.range_succ]
theorem digL2_succ (k:Nat):digL2 (k+1)=digL2 k++[(48+k,3)]:=by simp[digL2,List.range_succ]
def tab2 (k:Nat):List Value:=putS (putS zeroL spL) (letL k)
def tab3 (k:Nat):List Value:=putS (tab2 26) (digL2 k)
theorem tab_all:((tab3 10).set 95 (.int .u8 4)).set 45 (.int .u8 5)=tabV:=kr
theorem zeroL_len:zeroL.length=256:=by rw[zeroL,List.length_replicate]
theorem some_at {t:List Value} (h:t.length=256) {i:Nat} (hi:i<256):∃v,t[i]? =some v:=⟨t[i],List.getElem?_eq_getElem om⟩
def bytes4:Array Value:=#[.int .u8 32,.int .u8 9,.int .u8 13,.int .u8 10]
structure CL (w W:World) (t:List Value):Prop where
 b0:Blk W w.heap.size 147 zeroL
 b1:Blk W (w.heap.size+1) 147 t
 b2:W.heap[w.heap.size+1+1]? =some (.cells bytes4 5 (4,5))
 below:Below w.heap.size w W
 len:t.length=256
theorem CL.set {w W:World} {t:List Value} (h:CL w W t) (i:Nat) (v:Value):CL w (W.setCell ⟨w.heap.size+1,i,none⟩ v) (t.set i v) :=
 ⟨h.b0.far zy1 _,h.b1.set_ i v,(Below.heap_setCell _ _ _ _ zy1).trans h.b2,h.below.setCell zy1 _,by rw[List.length_set];exact h.len⟩
theorem CL.start (w:World):CL w (((w.alloc (.cells zeroL.toArray 147)).alloc (.cells zeroL.toArray 147)).alloc (.cells bytes4 5 (4,5))) zeroL:=by
 refine⟨((Blk.new w _ _).alloc _).alloc _,?_,?_,?_,zeroL_len⟩
 ·have h:=(Blk.new (w.alloc (.cells zeroL.toArray 147)) 147 zeroL).alloc (.cells bytes4 5 (4,5));simpa using h
 ·have h:=heap_alloc_new ((w.alloc (.cells zeroL.toArray 147)).alloc (.cells zeroL.toArray 147)) (.cells bytes4 5 (4,5));simpa using h
 ·exact(((Below.refl _ _).alloc (Nat.le_refl _) _).alloc zy1 _).alloc zy8 _
def R1 (w:World) (c i:Value) (W:World):Prop:=∃k:Nat,k≤4∧i=.int .i64 (k:Int)∧CL w W (putS zeroL (spL.take k))
def R2 (w:World) (c:Value) (W:World):Prop:=∃k:Nat,k≤26∧c=.int .i32 (97+(k:Int))∧CL w W (tab2 k)
def R3 (w:World) (c:Value) (W:World):Prop:=∃k:Nat,k≤10∧c=.int .i32 (48+(k:Int))∧CL w W (tab3 k)
theorem CL.cell {w W:World} {t:List Value} (h:CL w W t) (i:Nat) (hi:i<256):∃v,W.cell? ⟨w.heap.size+1,i,none⟩=some v:=by
 obtain⟨v,hv⟩:=some_at h.len hi;exact⟨v,(h.b1.cell i).trans hv⟩
theorem below_setRow {B:Nat} {w W:World} (h:Below B w W) {g:Nat} (hg:B≤g) (cs:Array Value):Below B w (W.setRow g cs) :=
 h.trans ⟨rfl,rfl,rfl,by simp[World.setRow],fun k hk=>by simp only[World.setRow,Array.getElem?_modify];rw[if_neg om]⟩
theorem classes_any (w:World):Calls prog 65 #[] w fun e w'=>e=.returned (.agg tabV.toArray)∧Below w.heap.size w w':=by
 have hz:∀W:World,(zeroValue 147).run prog W=.ok (.agg zeroL.toArray) W:=fun _=>kr;have kc:=_root_.Go.Joins.run_convert_bytes_const_at (P:=prog) ((w.alloc (.cells zeroL.toArray 147)).alloc (.cells zeroL.toArray 147)) 98 5 #[.int .u8 32,.int .u8 9,.int .u8 13,.int .u8 10] 4 4 (w.heap.size+1+1) zy1 underlying98 underlying5;have h0:=CL.start w;go_enter func65,ntmps65;go_wp2_with fail;unfold bytes4 at h0;clear hz kc;generalize ((w.alloc (.cells zeroL.toArray 147)).alloc (.cells zeroL.toArray 147)).alloc (.cells _ 5 (4,5))=W0 at *;go_loopw [3,9] (R1 w) (fun _ i _=>4-(intOf i).toNat);case atStart=>exact⟨0,by omega,rfl,h0⟩
 case round =>
  obtain⟨k,hk,rfl,hC⟩:=hrel;have mg:k=0∨k=1∨k=2∨k=3∨k=4:=om;have d2:∀j,wr.cell? ⟨w.heap.size+1+1,j,none⟩=bytes4[j]? :=fun j=>Joins.cell_of_block hC.b2 j;rcases mg with rfl|rfl|rfl|rfl|rfl
  ·obtain⟨v,hv⟩:=hC.cell 32 zy0;have hf:wr.frozen? ⟨w.heap.size+1,32,none⟩=false:=hC.b1.frozen _;have d3:wr.cell? ⟨w.heap.size+1+1,0,none⟩=some (.int .u8 32):=d2 0;clear d2;go_wp2_with fail;go_roundw;case rel=>exact⟨1,by decide,rfl,hC.set 32 (.int .u8 1)⟩
   case measure=>simp[intOf]
  ·obtain⟨v,hv⟩:=hC.cell 9 zy0;have hf:wr.frozen? ⟨w.heap.size+1,9,none⟩=false:=hC.b1.frozen _;have d3:wr.cell? ⟨w.heap.size+1+1,1,none⟩=some (.int .u8 9):=d2 1;clear d2;go_wp2_with fail;go_roundw;case rel=>exact⟨2,by decide,rfl,hC.set 9 (.int .u8 1)⟩
   case measure=>simp[intOf]
  ·obtain⟨v,hv⟩:=hC.cell 13 zy0;have hf:wr.frozen? ⟨w.heap.size+1,13,none⟩=false:=hC.b1.frozen _;have d3:wr.cell? ⟨w.heap.size+1+1,2,none⟩=some (.int .u8 13):=d2 2;clear d2;go_wp2_with fail;go_roundw;case rel=>exact⟨3,by decide,rfl,hC.set 13 (.int .u8 1)⟩
   case measure=>simp[intOf]
  ·obtain⟨v,hv⟩:=hC.cell 10 zy0;have hf:wr.frozen? ⟨w.heap.size+1,10,none⟩=false:=hC.b1.frozen _;have d3:wr.cell? ⟨w.heap.size+1+1,3,none⟩=some (.int .u8 10):=d2 3;clear d2;go_wp2_with fail;go_roundw;case rel=>exact⟨4,by decide,rfl,hC.set 10 (.int .u8 1)⟩
   case measure=>simp[intOf]
  ·clear d2;rw[show((4:Nat):Int)=4 from rfl];go_wp2_with fail;go_loopw [4] (R2 w) (fun c _=>(123-intOf c).toNat);case atStart=>exact⟨0,by omega,rfl,hC⟩
   case round =>
    clear hC;obtain⟨k,hk,rfl,hC⟩:=hrel;by_cases aQ:k<26
    ·obtain⟨v,hv⟩:=hC.cell (97+k) om;have hf:wr.frozen? ⟨w.heap.size+1,97+k,none⟩=false:=hC.b1.frozen _;obtain⟨v2,fR⟩:=hC.cell (k+65) om;have sM:=hC.b1.frozen (k+65);go_wp2_with fail;go_roundw;case rel =>
      refine⟨k+1,by omega,val_int om,?_⟩;have h:=(hC.set (97+k) (.int .u8 2)).set (k+65) (.int .u8 2);rw[show tab2 (k+1)=((tab2 k).set (97+k) (.int .u8 2)).set (k+65) (.int .u8 2) by unfold tab2;rw[letL_succ,putS_snoc,putS_snoc,Nat.add_comm 65 k];rfl];exact h
     case measure=>simp[intOf];omega
    ·have uP:k=26:=om;subst uP;rw[show(97+((26:Nat):Int))=123 from rfl];go_wp2_with fail;go_loopw [5] (R3 w) (fun c _=>(58-intOf c).toNat);case atStart=>exact⟨0,by omega,rfl,hC⟩
     case round =>
      clear hC;obtain⟨k,hk,rfl,hC⟩:=hrel;by_cases aQ:k<10
      ·obtain⟨v,hv⟩:=hC.cell (48+k) om;have hf:wr.frozen? ⟨w.heap.size+1,48+k,none⟩=false:=hC.b1.frozen _;go_wp2_with fail;go_roundw;case rel =>
        refine⟨k+1,by omega,val_int om,?_⟩;have h:=hC.set (48+k) (.int .u8 3);rw[show tab3 (k+1)=(tab3 k).set (48+k) (.int .u8 3) by unfold tab3;rw[digL2_succ,putS_snoc];rfl];exact h
       case measure=>simp[intOf];omega
      ·have aI:k=10:=om;subst aI;rw[show(48+((10:Nat):Int))=58 from rfl];obtain⟨v,hv⟩:=hC.cell 95 zy0;have hf:=hC.b1.frozen 95;obtain⟨v2,fR⟩:=hC.cell 45 zy0;have sM:=hC.b1.frozen 45;have hD:=(hC.set 95 (.int .u8 4)).set 45 (.int .u8 5);rw[tab_all]at hD;have HD:=hid hD;clear hD hC;go_upto_region 16 with fail;have hD:=HD.out;clear HD hv hf fR sM;generalize (wr.setCell ⟨w.heap.size+1,95,none⟩ (.int .u8 4)).setCell ⟨w.heap.size+1,45,none⟩ (.int .u8 5)=W5 at *;have bu:(prog.info? 147).map (·.size)=some tabV.toArray.size:=kr;have iF:zeroL.toArray.size=tabV.toArray.size:=kr;have nZ:tabV.toArray.all (·.oneCell')=true:=kr;go_wp2_with (first|(refine wpList_load_row rfl 147 (.tmp 1) rfl (w.heap.size+1) rfl 147 tabV.toArray (0,0) _ hD.b1 underlying147 rfl bu ?_)|(refine wpList_store_row rfl 147 (.tmp 0) (.tmp 34) rfl w.heap.size tabV.toArray rfl rfl 147 zeroL.toArray hD.b0 bu iF nZ ?_));refine bodyPost_ret (v:=.agg tabV.toArray) (results_cell_row rfl _ _ w.heap.size 147 tabV.toArray (0,0) _ rfl (setRow_heap W5 w.heap.size _ _ _ _ hD.b0) underlying147 rfl bu) rfl ⟨rfl,?_⟩;exact below_setRow hD.below (Nat.le_refl _) _
end
section
open Go.RowKit
open Lib (hid)
def Fm (f g:Nat) (s:ByteArray) (b:Nat) (k e r:Int):Prop:=∀W:World,Scn W g s b→Calls prog f #[.pointer (some ⟨g,0,none⟩)] W fun e' w'=>e'=.returned (t3 k e r)∧Below W.heap.size W w'
inductive Out (g:Nat) (s:ByteArray) (b:Nat):Prop
 | err0 (e:Nat) (he:e≠0) (h0:Fm 66 g s b 0 b e) (ht:Lx.tk ((tl s).drop b)=.inl e)
 | err1 (e:Nat) (he:e≠0) (h0:Fm 66 g s b 0 b 0) (h1:Fm 67 g s b 0 b e) (ht:Lx.tk ((tl s).drop b)=.inl e)
 | err2 (e:Nat) (he:e≠0) (h0:Fm 66 g s b 0 b 0) (h1:Fm 67 g s b 0 b 0) (h2:Fm 68 g s b 0 b e) (ht:Lx.tk ((tl s).drop b)=.inl e)
 | tok0 (k n:Nat) (hk:k≠1) (h0:Fm 66 g s b k (b+n) 0) (ht:Lx.tk ((tl s).drop b)=.inr (k,n))
 | tok1 (n:Nat) (h0:Fm 66 g s b 0 b 0) (h1:Fm 67 g s b 0 (b+n) 0) (ht:Lx.tk ((tl s).drop b)=.inr (0,n))
 | tok2 (n:Nat) (h0:Fm 66 g s b 0 b 0) (h1:Fm 67 g s b 0 b 0) (h2:Fm 68 g s b 1 (b+n) 0) (ht:Lx.tk ((tl s).drop b)=.inr (1,n))
 | tok3 (n:Nat) (h0:Fm 66 g s b 0 b 0) (h1:Fm 67 g s b 0 b 0) (h2:Fm 68 g s b 0 b 0) (h3:Fm 69 g s b 2 (b+n) 0) (ht:Lx.tk ((tl s).drop b)=.inr (2,n))
 | none (h0:Fm 66 g s b 0 b 0) (h1:Fm 67 g s b 0 b 0) (h2:Fm 68 g s b 0 b 0) (h3:Fm 69 g s b 2 b 0) (ht:Lx.tk ((tl s).drop b)=.inl 4)
theorem drop_cons (s:ByteArray) {b:Nat} (hb:b<s.size):(tl s).drop b=s[b]::(tl s).drop (b+1):=by
 rw[List.drop_eq_getElem_cons zye,zat s b hb]
theorem out_sign (g:Nat) (s:ByteArray) (b:Nat) (hs:s.size≤65536) (hb:b<s.size)
 (h0:Fm 66 g s b 0 b 0) (h1:Fm 67 g s b 0 b 0) (h2:Fm 68 g s b 0 b 0) (ht:Lx.tk ((tl s).drop b)=Lx.tkSign ((tl s).drop b)):Out g s b:=by
 have dD:=(Lx.sg_le ((tl s).drop b)).2;by_cases hn:Lx.sg ((tl s).drop b)=0
 ·rw[Lx.tkSign,if_pos hn]at ht;refine .none h0 h1 h2 (fun W hS=>?_) ht;have h:=sign_at g s b W hS hs hb 0 hn om;simpa using h
 ·rw[Lx.tkSign,if_neg hn]at ht;exact .tok3 _ h0 h1 h2 (fun W hS=>sign_at g s b W hS hs hb _ rfl dD) ht
theorem Fm.of {f g:Nat} {s:ByteArray} {b:Nat} {k e r k' e' r':Int} (h:Fm f g s b k e r) (h1:k=k') (h2:e=e') (h3:r=r'):Fm f g s b k' e' r':=by rw[←h1,←h2,←h3];exact h
theorem out_of (g:Nat) (s:ByteArray) (b:Nat) (hs:s.size≤65536) (hb:b<s.size):Out g s b:=by
 have hd:=drop_cons s hb;cases hl:Lx.isLet s[b]with
 | true =>
  have ht:Lx.tk ((tl s).drop b)=Lx.tkName ((tl s).drop b):=by rw[hd,Lx.tk,if_pos hl]
  obtain⟨n,hn⟩:∃n,Lx.sp Lx.isNm ((tl s).drop b)=n:=⟨_,rfl⟩;by_cases gz:32<n
  ·exact .err0 5 zy0 (fun W hS=>name_err g s b W hS hs hb hl n hn gz) (by rw[ht,Lx.tkName,hn,if_pos gz])
  ·cases hk:Lx.kw (((tl s).drop b).take n)with
   | true=>exact .tok0 2 n zy0 (fun W hS=>name_ok_true g s b W hS hs hb hl n hn om hk) (by rw[ht,Lx.tkName,hn,if_neg gz,hk];rfl)
   | false=>exact .tok0 0 n zy0 (fun W hS=>name_ok_false g s b W hS hs hb hl n hn om hk) (by rw[ht,Lx.tkName,hn,if_neg gz,hk];rfl)
 | false =>
  have h0:Fm 66 g s b 0 b 0:=fun W hS=>name_no g s b W hS hs hb hl;have kO:¬Lx.isLet s[b]=true:=by rw[hl];decide
  cases hq:(s[b]==39)with
  | true =>
   have ht:Lx.tk ((tl s).drop b)=Lx.tkWord ((tl s).drop (b+1)):=by rw[hd,Lx.tk,if_neg kO,if_pos hq]
   obtain⟨n,hn⟩:∃n,Lx.sp Lx.isWd ((tl s).drop (b+1))=n:=⟨_,rfl⟩;have bB:=zbn hn (show b+1≤s.size by omega);rw[Lx.tkWord,hn,List.getElem?_drop]at ht;by_cases gz:32<n
   ·exact .err1 5 zy0 h0 (fun W hS=>word_long g s b W hS hs hb hq n hn gz) (by rw[ht,if_pos gz])
   ·rw[if_neg gz]at ht;by_cases dJ:n=0
    ·exact .err1 4 zy0 h0 (fun W hS=>word_empty g s b W hS hs hb hq n hn dJ) (by rw[ht,if_pos (.inl dJ)])
    ·by_cases he:b+1+n=s.size
     ·refine .err1 4 zy0 h0 (fun W hS=>word_end g s b W hS hs hb hq n hn om om he) (by rw[ht,if_pos (.inr ?_)]);rw[List.getElem?_eq_none zyw];simp
     ·have aQ:b+1+n<s.size:=om;have oB:(tl s)[b+1+n]? =some s[b+1+n]:=by rw[List.getElem?_eq_getElem (by rw[zad];exact aQ),zat s _ aQ]
      cases lr:(s[b+1+n]==39)with
      | false =>
       refine .err1 4 zy0 h0 (fun W hS=>word_open g s b W hS hs hb hq n hn om om aQ lr) (by rw[ht,if_pos (.inr ?_)]);rw[oB];simpa using lr
      | true =>
       have eP:¬(n=0∨(tl s)[b+1+n]? ≠some 39):=by
        rw[oB];have h5:s[b+1+n]=39:=by simpa using lr
        rw[h5];simp[dJ]
       exact .tok1 (n+2) h0 (Fm.of (fun W hS=>word_ok g s b W hS hs hb hq n hn om om aQ lr) rfl om rfl) (by rw[ht,if_neg eP])
  | false =>
   have h1:Fm 67 g s b 0 b 0:=fun W hS=>word_no g s b W hS hs hb hq;have hq':¬(s[b]==39)=true:=by rw[hq];decide
   cases hm:(s[b]==45)with
   | true =>
    obtain⟨n,hn⟩:∃n,Lx.sp Lx.isDig ((tl s).drop (b+1))=n:=⟨_,rfl⟩;have ht:Lx.tk ((tl s).drop b)=if n=0 then Lx.tkSign ((tl s).drop b)else if Lx.dv (((tl s).drop (b+1)).take n)≤2147483648 then .inr (1,n+1)else .inl 2:=by
     rw[hd,Lx.tk,if_neg kO,if_neg hq',if_pos hm,hn]
    by_cases dJ:n=0
    ·rw[if_pos dJ]at ht;exact out_sign g s b hs hb h0 h1 (fun W hS=>numb_no_m g s b W hS hs hb hm n hn dJ) ht
    ·rw[if_neg dJ]at ht;by_cases hv:Lx.dv (((tl s).drop (b+1)).take n)≤2147483648
     ·rw[if_pos hv]at ht;exact .tok2 (n+1) h0 h1 (Fm.of (fun W hS=>numb_m_true g s b W hS hs hb hm n hn om (decide_eq_true hv)) rfl om rfl) ht
     ·rw[if_neg hv]at ht;exact .err2 2 zy0 h0 h1 (fun W hS=>numb_m_false g s b W hS hs hb hm n hn om (decide_eq_false hv)) ht
   | false =>
    have rJ:¬(s[b]==45)=true:=by rw[hm];decide
    obtain⟨n,hn⟩:∃n,Lx.sp Lx.isDig ((tl s).drop b)=n:=⟨_,rfl⟩;have ht:Lx.tk ((tl s).drop b)=if n=0 then Lx.tkSign ((tl s).drop b)else if Lx.dv (((tl s).drop b).take n)≤2147483647 then .inr (1,n)else .inl 2:=by
     rw[←hn,hd,Lx.tk,if_neg kO,if_neg hq',if_neg rJ]
    by_cases dJ:n=0
    ·rw[if_pos dJ]at ht;exact out_sign g s b hs hb h0 h1 (fun W hS=>numb_no_p g s b W hS hs hb hm n hn dJ) ht
    ·rw[if_neg dJ]at ht;by_cases hv:Lx.dv (((tl s).drop b).take n)≤2147483647
     ·rw[if_pos hv]at ht;exact .tok2 n h0 h1 (fun W hS=>numb_p_true g s b W hS hs hb hm n hn om (decide_eq_true hv)) ht
     ·rw[if_neg hv]at ht;exact .err2 2 zy0 h0 h1 (fun W hS=>numb_p_false g s b W hS hs hb hm n hn om (decide_eq_false hv)) ht
end
end Go.Proofs.YtekkapgknohadaaGreatDoor
