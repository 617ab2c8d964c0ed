/- normal: threshold. -/
import Derived.Test.YtekkapgknohadaaGreatDoorM24
set_option linter.unusedVariables false
set_option maxRecDepth 20000
set_option maxHeartbeats 16000000
open Go.Proofs.Tryz
namespace Go.Proofs.YtekkapgknohadaaGreatDoor
namespace Nf
open Go.RowKit Go.Shelf
open Lib (hid)
open Pa (F Nd)
theorem trues_app:∀(f g:F),trues (f.app g)=trues f+trues g
 | .nil,g=>by rw[F.app,trues,Int.zero_add]
 | .cons x k r,g=>by rw[F.app,trues,trues,trues_app,Int.add_assoc]
theorem rest_app:∀(f g:F),rest (f.app g)=(rest f).app (rest g)
 | .nil,g=>rfl
 | .cons x k r,g=>by
   rw[F.app,rest,rest,rest_app];split<;>rfl
theorem flat_app (w:Bool) (k:Int):∀(f g:F),flat w k (f.app g)=(flat w k f).app (flat w k g)
 | .nil,g=>rfl
 | .cons x ks r,g=>by
   rw[F.app,flat,flat,flat_app];split
   ·rw[F.app_assoc]
   ·rfl
theorem trues_le:∀(f:F),0≤trues f∧trues f≤(f.len:Int)
 | .nil=>⟨Int.le_refl _,Int.le_refl _⟩
 | .cons x k r=>by
   have:=trues_le r;rw[trues,F.len];split<;>omega
theorem CvM.one {B:Nat} {W:World}:∀{f:F} {vs:List Value},CvM B W f vs→∀u∈vs,u.oneCell'=true
 | .nil,vs,h,u,hu=>by rw[show vs=[]from h]at hu;cases hu
 | .cons x ks r,vs,h,u,hu=>by
   obtain⟨v,us,rfl,h2,h3⟩:=h;rcases List.mem_cons.1 hu with rfl|hu
   ·by_cases hk:x.kind=5
    ·rw[if_pos hk]at h3;obtain⟨-,A,c,ws,rfl,-⟩:=h3;rfl
    ·rw[if_neg hk]at h3;obtain⟨-,A,c,rfl,-⟩:=h3;rfl
   ·exact CvM.one h2 u hu
theorem flat_pos {B:Nat} {W:World} (w:Bool) (k:Int):∀{l:F} {vs:List Value},CvM B W l vs→0<l.len→0<(flat w k l).len
 | .nil,_,_,h=>by cases h
 | .cons x ks r,vs,h,_=>by
   obtain⟨v,us,rfl,h2,h3⟩:=h;rw[flat];cases ho:opens w k x ks with
   | false=>rw[if_neg zy0];show 0<_+1;omega
   | true =>
     rw[if_pos rfl,F.len_app];have hk:x.kind=5:=by
      unfold opens at ho;simp only[Bool.and_eq_true,decide_eq_true_eq]at ho;exact ho.1
     rw[if_pos hk]at h3;obtain⟨-,A,c,ws,-,hp,-,hc⟩:=h3;have:=hc.len;omega
theorem vls_row {B:Nat} {W:World} {A:Option Addr} {n c:Nat} {t:TypeId} {vs:List Value} (hr:W.ownsRow 0 t 1 (.slice A n c) n vs) (hn:vs.length=n) (hB:∀g,A=some g→B≤g.block):Vls B W A vs:=fun i u hu=>by
 have hi:=(List.getElem?_eq_some_iff.1 hu).1;obtain⟨g,cap,e,-⟩:=zak hr om;injection e with e1 e2 e3;subst e1;exact⟨⟨g,0,none⟩,rfl,hB _ rfl,by rw[zce];exact zal hr hu⟩
theorem cond_info:(prog.info? 91).map (fun i=>(i.zero,i.size,i.bytes))=some (some .nilIface,1,16):=kr
abbrev zb5 (v:Value) (vs:List Value):It:=irow 91 1 v vs.length vs
theorem ta1 (k:Int) (A:Option Addr) (n c:Nat):∀W,(Instr.typeAssert (gtV k A n c) 91 235 true).run prog W=.ok (.tuple #[.agg #[.int .i64 0,.int .i64 0,.string ⟨#[]⟩,.string ⟨#[]⟩,.slice none 0 0,.int .i64 0,.slice none 0 0],.bool false]) W:=fun W=>kr
theorem ta2 (k:Int) (A:Option Addr) (n c:Nat):∀W,(Instr.typeAssert (gtV k A n c) 91 237 true).run prog W=.ok (.tuple #[.agg #[.int .i64 k,.slice A n c],.bool true]) W:=fun W=>kr
theorem ta3 (k n:Int) (s t:ByteArray) (A:Option Addr) (vn vc:Nat):∀W,(Instr.typeAssert (atV k n s t none 0 0 0 A vn vc) 91 235 true).run prog W=.ok (.tuple #[.agg #[.int .i64 k,.int .i64 n,.string s,.string t,.slice none 0 0,.int .i64 0,.slice A vn vc],.bool true]) W:=fun W=>kr
theorem ta4 (k n:Int) (s t:ByteArray) (A:Option Addr) (vn vc:Nat):∀W,(Instr.typeAssert (atV k n s t none 0 0 0 A vn vc) 91 237 true).run prog W=.ok (.tuple #[.agg #[.int .i64 0,.slice none 0 0],.bool false]) W:=fun W=>kr
structure ThrI (B:Nat) (w0:World) (f:F) (vs:List Value) (a b:F) (rs vb:List Value):Prop where
 eq:f=a.app b
 cb:CvM B w0 b vb
 dr:vs.drop a.len=vb
 cr:CvM B w0 (rest a) rs
 le:rs.length≤a.len
theorem ThrI.step {B:Nat} {w0:World} {f:F} {vs:List Value} {a:F} {x:Nd} {ks r:F} {rs:List Value} {v:Value} {us:List Value} (h:ThrI B w0 f vs a (.cons x ks r) rs (v::us)) :
 vs[a.len]? =some v∧(a.app (.cons x ks .nil)).len=a.len+1∧((x.kind=0∨x.kind=1)→ThrI B w0 f vs (a.app (.cons x ks .nil)) r rs us)∧(¬(x.kind=0∨x.kind=1)→ThrI B w0 f vs (a.app (.cons x ks .nil)) r (rs++[v]) us):=by
 have hl:(a.app (.cons x ks .nil)).len=a.len+1:=by rw[F.len_app];rfl
 have hd:vs.drop (a.app (.cons x ks .nil)).len=us:=by
  rw[hl,←List.drop_drop,h.dr];rfl
 have he:f=(a.app (.cons x ks .nil)).app r:=by rw[F.app_assoc,h.eq];rfl
 obtain⟨v',us',e1,c1,c2⟩:=h.cb;injection e1 with e1 e2;subst e1 e2;have hr:=h.le;refine⟨?_,hl,fun hx=>⟨he,c1,hd,?_,by omega⟩,fun hx=>⟨he,c1,hd,?_,by rw[hl,List.length_append];simp;omega⟩⟩
 ·have:=congrArg (fun l=>l[0]?) h.dr;simpa using this
 ·rw[rest_app,rest,if_pos hx,rest,F.app_nil];exact h.cr
 ·rw[rest_app,rest,if_neg hx,rest];exact h.cr.app ⟨v,[],rfl,rfl,c2⟩
structure FlI (B:Nat) (w0:World) (wh:Bool) (K:Int) (l:F) (rs:List Value) (a b:F) (qs vb:List Value):Prop where
 eq:l=a.app b
 cb:CvM B w0 b vb
 dr:rs.drop a.len=vb
 cq:CvM B w0 (flat wh K a) qs
theorem FlI.len {B:Nat} {w0:World} {wh:Bool} {K:Int} {l:F} {rs:List Value} {a b:F} {qs vb:List Value} (h:FlI B w0 wh K l rs a b qs vb):qs.length≤l.size:=by
 have h1:=h.cq.len;have h2:=F.len_size (flat wh K a);have h3:=flat_size wh K a;have h4:l.size=a.size+b.size:=by rw[h.eq,F.size_app]
 omega
theorem FlI.step {B:Nat} {w0:World} {wh:Bool} {K:Int} {l:F} {rs:List Value} {a:F} {x:Nd} {ks r:F} {qs:List Value} {v:Value} {us:List Value} (h:FlI B w0 wh K l rs a (.cons x ks r) qs (v::us)) :
 rs[a.len]? =some v∧(a.app (.cons x ks .nil)).len=a.len+1∧(opens wh K x ks=false→FlI B w0 wh K l rs (a.app (.cons x ks .nil)) r (qs++[v]) us)∧(opens wh K x ks=true→∀ws,CvM B w0 ks ws→FlI B w0 wh K l rs (a.app (.cons x ks .nil)) r (qs++ws) us):=by
 have hl:(a.app (.cons x ks .nil)).len=a.len+1:=by rw[F.len_app];rfl
 have hd:rs.drop (a.app (.cons x ks .nil)).len=us:=by
  rw[hl,←List.drop_drop,h.dr];rfl
 have he:l=(a.app (.cons x ks .nil)).app r:=by rw[F.app_assoc,h.eq];rfl
 obtain⟨v',us',e1,c1,c2⟩:=h.cb;injection e1 with e1 e2;subst e1 e2;refine⟨?_,hl,fun hx=>⟨he,c1,hd,?_⟩,fun hx ws hc=>⟨he,c1,hd,?_⟩⟩
 ·have:=congrArg (fun l=>l[0]?) h.dr;simpa using this
 ·rw[flat_app,flat,hx,if_neg zy0,flat];exact h.cq.app ⟨v,[],rfl,rfl,c2⟩
 ·rw[flat_app,flat,hx,if_pos rfl,flat,F.app_nil];exact h.cq.app hc
theorem threshold_any (w0:World) (k:Int) (f:F) (vs:List Value) (LA:Option Addr) (lc:Nat) (hf:f.size≤100000) (an: -1000000≤k) (ah:k≤1000000) (B:Nat) (bM:B≤w0.heap.size) (hV:Vls B w0 LA vs) (hC:CvM B w0 f vs) (w:World) (h0:Below w0.heap.size w0 w) :
 Calls prog 94 #[.int .i64 k,.slice LA vs.length lc] w fun e w'=>(∃v,e=.returned v∧CvM B w' (thr k f) [v])∧Below w.heap.size w w':=by
 have fK:vs.length=f.len:=hC.len;have dX:f.len≤f.size:=F.len_size f;obtain⟨i0,aL,bg,aY,bh⟩:=info_parts cond_info;have ar:=(Hp.start w).nilrow 91 1;have HL:=hid fK;have HS:=hid hf;have hvb:vs.length≤100000:=om;clear fK dX hf;go_enter func94,ntmps94;go_upto_region 3 with fail;go_loopg [0,5,17] f.len (fun m s0 s5 kh wx=>∃(a b:F) (rs vb:List Value) (OA:Option Addr) (oc:Nat),m=b.len∧s0=.int .i64 (k-trues a)∧s5=.slice OA rs.length oc∧kh=.int .i64 (a.len:Int)∧Hid (ThrI B w0 f vs a b rs vb)∧Hp [] w [zb5 (.slice OA rs.length oc) rs] wx);case atStart=>exact⟨.nil,f,[],vs,none,0,rfl,by simp[trues],rfl,rfl,hid ⟨rfl,hC,rfl,rfl,Nat.le_refl _⟩,ar⟩
 case round =>
  obtain⟨a,b,rs,vb,OA,oc,rfl,rfl,rfl,rfl,HI,hM⟩:=hrel;clear ar;cases b with
  | nil =>
    have fT:f=a:=by rw[HI.out.eq,F.app_nil]
    subst fT;have tM:=HI.out.cr;have hII:¬(f.len:Int)<(vs.length:Int):=by have:=HL.out;omega
    have fJ:rs.length=(rest f).len:=tM.len;have HC:=hid tM;have qU:rs.length≤100000:=by have:=HI.out.le;have:=HS.out;have:=F.len_size f;omega
    have HZ:=hid (rest_size f);obtain⟨K,hK⟩:∃K,k-trues f=K:=⟨_,rfl⟩;have n7:Hid (thr k f=thrB K (rest f)):=hid (by unfold thr;rw[hK]);rw[hK];have hKb: -2000000≤K∧K≤2000000:=by have:=trues_le f;have:=F.len_size f;have:=HS.out;omega
    generalize rest f=l at *;clear tM hK HI hV hC;by_cases h1:K≤0
    ·have HT:=hid (fun W=>za8 true W B);have HV:Hid (thr k f=tru true):=hid (by rw[n7.out,thrB,if_pos h1]);exact zt36
    ·by_cases h2:(rs.length:Int)<K
     ·have HT:=hid (fun W=>za8 false W B);have HV:Hid (thr k f=tru false):=hid (by rw[n7.out,thrB,if_neg h1,if_pos om]);exact zt36
     ·by_cases h3:rs.length=1
      ·have HV:Hid (thr k f=l):=hid (by rw[n7.out,thrB,if_neg h1,if_neg om,if_pos om]);obtain⟨v,rfl⟩:=List.length_eq_one_iff.1 h3;obtain⟨g,cap,fS,-⟩:=zak (hM.row 0 rfl) zy1;injection fS with fS _ _;subst fS;have ce:=zal (hM.row 0 rfl) (j:=0) (u:=v) rfl;have aD:(((([v]:List Value).length:Nat):Int)==1)=true:=rfl;go_wp2_with fail;go_ret;exact⟨⟨v,rfl,by rw[HV.out];exact CvM.up (h0.trans (hM.below0.mono h0.size)) HC.out⟩,hM.below0⟩
      ·have h3b:((rs.length:Int)==1)=false:=by simpa using fun e:(rs.length:Int)=1=>h3 om
       have bq:2≤rs.length:=om;obtain⟨wh,tT⟩:∃b,decide (K=(rs.length:Int))=b:=⟨_,rfl⟩;have hwb:(K==(rs.length:Int))=wh:=tT;have HV:Hid (thr k f=gate (if wh=true then((flat wh K l).len:Int)else K) (flat wh K l)):=hid (by
        rw[n7.out,thrB,if_neg h1,if_neg om,if_neg om,←fJ,tT];congr 1;rw[←tT];by_cases e:K=(rs.length:Int)
        ·rw[if_pos e,if_pos (decide_eq_true e)]
        ·rw[if_neg e,if_neg (by rw[decide_eq_false e];decide)])
       have bc:=(hM.nilrow 91 1);have HRL:=hid fJ;have hll2:2≤l.len:=om;clear fJ;go_upto_region 26 with fail;go_loopg [11,71] l.len (fun m pC sS wx=>∃(a b:F) (qs vb:List Value) (QA:Option Addr) (qc:Nat),m=b.len∧pC=.slice QA qs.length qc∧sS=.int .i64 (a.len:Int)∧Hid (FlI B w0 wh K l rs a b qs vb)∧Hp [] w [zb5 (.slice QA qs.length qc) qs,zb5 (.slice OA rs.length oc) rs] wx);case atStart=>exact⟨.nil,l,[],rs,none,0,rfl,rfl,rfl,hid ⟨rfl,HC.out,rfl,rfl⟩,bc⟩
       case round =>
        obtain⟨a,b,qs,vb,QA,qc,rfl,rfl,rfl,HI,hM⟩:=hrel;clear bc;cases b with
        | nil =>
          have rH:l=a:=by rw[HI.out.eq,F.app_nil]
          subst rH;have hII:¬(l.len:Int)<(rs.length:Int):=by have:=HRL.out;omega
          have uq:=HI.out.cq;have fD:=uq.len;have hqp:=flat_pos wh K HC.out om;have HQ:=hid uq;have hb:=hM.below0;have HB:=hid (h0.trans (hb.mono h0.size));have ru:=hid (vls_row (B:=B) (hM.row 0 rfl) rfl (fun ag e=>Nat.le_trans bM (Nat.le_trans h0.size (hM.ge (by rw[show QA=some ag from e];simp[ow,irow,Value.ownBlock])))));have mb:=hid (And.intro fD hqp);clear uq HI HC fD hqp;cases wh;all_goals
           go_wp2_with fail;go_ret;refine⟨⟨_,rfl,?_⟩,hb⟩;rw[HV.out];refine⟨_,[],rfl,rfl,?_⟩;rw[if_pos rfl];first
            | exact⟨rfl,QA,qc,qs,rfl,by have:=mb.out;omega,ru.out,HQ.out.up HB.out⟩
            | exact⟨rfl,QA,qc,qs,(by show gtV (qs.length:Int) QA qs.length qc=gtV (if True then((flat true K l).len:Int)else K) QA qs.length qc;rw[if_pos trivial,←mb.out.1]),by have:=mb.out;omega,ru.out,HQ.out.up HB.out⟩
        | cons x ks r =>
          have cS:=fun(v:Value) (us:List Value) (e:vb=v::us)=>FlI.step (by subst e;exact HI.out:FlI B w0 wh K l rs a (.cons x ks r) qs (v::us));have fD:=HI.out.len;have bu:ks.size≤l.size:=by
           have:l.size=a.size+(ks.size+r.size+1):=by rw[HI.out.eq,F.size_app];rfl
           omega
          obtain⟨v,us,iX,gD,dQ⟩:=HI.out.cb;obtain⟨s1,s2,s3,s4⟩:=cS v us iX;clear cS;have ay:=(List.getElem?_eq_some_iff.1 s1).1;have aM:(a.len:Int)<(rs.length:Int):=om;have gK:(0:Int)≤(a.len:Int):=om;obtain⟨go,cap,fS,-⟩:=zak (hM.row 1 rfl) om;have me:OA=some ⟨go,0,none⟩:=by injection fS
          subst me;clear fS;have ca:=zal (hM.row 1 rfl) s1;have hqn:qs.length≤100000:=by have:=HS.out;have:=HZ.out;omega
          have bL:ks.size≤100000:=by have:=HS.out;have:=HZ.out;omega
          have ew:=hid s2;have H3:=hid s3;have H4:=hid s4;clear s1 s2 s3 s4 iX HI gD fD bu;by_cases h5:x.kind=5
          ·rw[if_pos h5]at dQ;obtain⟨-,A2,c2,ws,rfl,hwp,hwv,ue⟩:=dQ;have iI:=hid ue.len;have tr:=ta2 x.num A2 ws.length c2;have HCW:=hid ue;have o7:Hid (opens wh K x ks=(wh&&decide (x.num=(ws.length:Int))|| !wh&&decide (K=1)&&decide (x.num=1))):=hid (by unfold opens;rw[decide_eq_true h5,iI.out,Bool.true_and]);have uV:ws.length≤100000:=by have:=F.len_size ks;have:=iI.out;omega
           have aA:=hM.new 237 [.int .i64 x.num,.slice A2 ws.length c2];go_upto_region 31 with fail;generalize wr.alloc (.cells #[.int .i64 x.num,.slice A2 ws.length c2] 237)=W2 at *;generalize wr.heap.size=g2 at *;clear hM ca ue h5;have x0:=(aA.blk 0 rfl).cell 0;have x1:=(aA.blk 0 rfl).cell 1;simp only[List.getElem?_cons_zero,List.getElem?_cons_succ]at x0 x1;have aC:(x.num==(ws.length:Int))=decide (x.num=(ws.length:Int)):=rfl;have aG:(K==1)=decide (K=1):=rfl;have aJ:(x.num==1)=decide (x.num=1):=rfl;generalize decide (x.num=(ws.length:Int))=B1 at *;generalize decide (K=1)=B2 at *;generalize decide (x.num=1)=B3 at *;obtain⟨ng,jb⟩:∃ad,A2=some ad:=by
            obtain⟨ad,e,-,-⟩:=hwv 0 _ (List.getElem?_eq_getElem hwp);exact⟨ad,e⟩
           subst jb;have HNW:Hid (∀j u,ws[j]? =some u→W2.cell? (ng.add j)=some u):=hid fun j u hu=>by
            obtain⟨ad,e,-,h9⟩:=hwv j u hu;injection e with e;subst e;exact zaa (zaa h9 h0) aA.below0
           cases iK:opens wh K x ks with
           | true =>
             have HX:=hid (H4.out iK ws HCW.out);rw[iK]at o7;clear H3 H4 iK;cases wh<;>cases B1<;>cases B2<;>cases B3;all_goals
              first
              | (have h9:=o7.out;cases h9;done)
              | skip
             all_goals
              clear o7;go_wp2_with (at_builtin;refine zac rfl _ _ 181 rfl 0 91 i0 _ 1 16 underlying181 aL bg aY bh rfl zy0 _ qs.length qs rfl (aA.row 1 rfl) ng ws.length c2 ws rfl om HNW.out HCW.out.one hwp zy2 om (Nat.zero_le _) ?_;intro v' w3 af ai aH;obtain⟨pK,qc2,rfl⟩:=zab af;have az:=(aA.grown 1 rfl af ai aH).tail;clear af ai aH aA);go_roundg r.len;case measure=>show r.len<r.len+1;omega
              case rel=>exact⟨a.app (.cons x ks .nil),r,qs++ws,us,pK,qc2,rfl,by rw[List.length_append],by rw[ew.out];first|rfl|simp,HX,by unfold zb5;rw[List.length_append];exact az⟩
           | false =>
             have HX:=hid (H3.out iK);rw[iK]at o7;clear H3 H4 iK;cases wh<;>cases B1<;>cases B2<;>cases B3;all_goals
              first
              | (have h9:=o7.out;cases h9;done)
              | skip
             all_goals
              clear o7;go_wp2_with (at_builtin;refine zac rfl _ _ 181 rfl 0 91 i0 _ 1 16 underlying181 aL bg aY bh rfl zy0 _ qs.length qs rfl ((aA.alloc _).row 1 rfl) ⟨W2.heap.size,0,none⟩ 1 1 [gtV x.num (some ng) ws.length c2] rfl rfl (new1p _ _ _) zy3 zy0 zy2 om (Nat.zero_le _) ?_;intro v' w3 af ai aH;obtain⟨pK,qc2,rfl⟩:=zab af;have az:=((aA.alloc (.cells #[gtV x.num (some ng) ws.length c2] 91)).grown 1 rfl af ai aH).tail;clear af ai aH aA);go_roundg r.len;case measure=>show r.len<r.len+1;omega
              case rel=>exact⟨a.app (.cons x ks .nil),r,qs++[_],us,pK,qc2,rfl,by rw[List.length_append];rfl,by rw[ew.out];first|rfl|simp,HX,by unfold zb5;rw[List.length_append];exact az⟩
          ·rw[if_neg h5]at dQ;obtain⟨-,A2,c2,rfl,-⟩:=dQ;have hta4:=ta4 (x.kind:Int) x.num (bs x.name) (bs x.attr) A2 (vals ks).length c2;have HX:=hid (H3.out (by unfold opens;rw[decide_eq_false h5];rfl));clear H3 H4 h5;go_wp2_with (at_builtin;refine zac rfl _ _ 181 rfl 0 91 i0 _ 1 16 underlying181 aL bg aY bh rfl zy0 _ qs.length qs rfl ((hM.alloc _).row 0 rfl) ⟨wr.heap.size,0,none⟩ 1 1 [atV (x.kind:Int) x.num (bs x.name) (bs x.attr) none 0 0 0 A2 (vals ks).length c2] rfl rfl (new1p _ _ _) zy3 zy0 zy2 om (Nat.zero_le _) ?_;intro v' w3 af ai aH;obtain⟨pK,qc2,rfl⟩:=zab af;have az:=((hM.alloc (.cells #[atV (x.kind:Int) x.num (bs x.name) (bs x.attr) none 0 0 0 A2 (vals ks).length c2] 91)).grown 0 rfl af ai aH);clear af ai aH hM);go_roundg r.len;case measure=>show r.len<r.len+1;omega
           case rel=>exact⟨a.app (.cons x ks .nil),r,qs++[_],us,pK,qc2,rfl,by rw[List.length_append];rfl,by rw[ew.out];first|rfl|simp,HX,by unfold zb5;rw[List.length_append];exact az⟩
  | cons x ks r =>
    have cS:=fun(v:Value) (us:List Value) (e:vb=v::us)=>ThrI.step (by subst e;exact HI.out:ThrI B w0 f vs a (.cons x ks r) rs (v::us));obtain⟨v,us,iX,gD,dQ⟩:=HI.out.cb;obtain⟨s1,s2,s3,s4⟩:=cS v us iX;clear cS;have ay:=(List.getElem?_eq_some_iff.1 s1).1;have aM:(a.len:Int)<(vs.length:Int):=om;have gK:(0:Int)≤(a.len:Int):=om;obtain⟨ad,mr,-,ca⟩:=hV a.len v s1;subst mr;replace ca:=zaa (zaa ca h0) hM.below0;have hrn:rs.length≤100000:=by have:=HI.out.le;omega
    have gC:=trues_le a;have eQ:(a.len:Int)≤100000:=om;have se:IntKind.i64.wrap (k-trues a-1)=k-trues a-1:=IntWalk.i64_in _ om;have ew:=hid s2;have H3:=hid s3;have H4:=hid s4;clear s1 s2 s3 s4 iX HI gD hC gC;by_cases h5:x.kind=5
    ·rw[if_pos h5]at dQ;obtain⟨-,A2,c2,ws,rfl,-⟩:=dQ;have HX:=hid (H4.out (by rw[h5];decide));have gE:Hid (trues (a.app (.cons x ks .nil))=trues a):=hid (by rw[trues_app,trues,if_neg (by rw[h5];decide),trues];omega);clear H3 H4 h5;have hta1:=ta1 x.num A2 ws.length c2;have tr:=ta2 x.num A2 ws.length c2;go_upto_region 15 with fail;have aA:=hM.new 237 [.int .i64 x.num,.slice A2 ws.length c2];generalize wr.alloc (.cells #[.int .i64 x.num,.slice A2 ws.length c2] 237)=W2 at *;generalize wr.heap.size=g2 at *;clear hM;have x0:=(aA.blk 0 rfl).cell 0;have x1:=(aA.blk 0 rfl).cell 1;simp only[List.getElem?_cons_zero,List.getElem?_cons_succ]at x0 x1;go_wp2_with (at_builtin;refine zac rfl _ _ 181 rfl 0 91 i0 _ 1 16 underlying181 aL bg aY bh rfl zy0 _ rs.length rs rfl ((aA.alloc _).row 1 rfl) ⟨W2.heap.size,0,none⟩ 1 1 [gtV x.num A2 ws.length c2] rfl rfl (new1p _ _ _) zy3 zy0 zy2 om (Nat.zero_le _) ?_;intro v' w3 af ai aH;obtain⟨jq,iY,rfl⟩:=zab af;have az:=((aA.alloc (.cells #[gtV x.num A2 ws.length c2] 91)).grown 1 rfl af ai aH).tail;clear af ai aH aA);go_roundg r.len;case measure=>show r.len<r.len+1;omega
     case rel=>exact⟨a.app (.cons x ks .nil),r,rs++[gtV x.num A2 ws.length c2],us,jq,iY,rfl,by rw[gE.out],by rw[List.length_append];rfl,by rw[ew.out];first|rfl|simp,HX,by unfold zb5;rw[List.length_append];exact az⟩
    ·rw[if_neg h5]at dQ;obtain⟨-,A2,c2,rfl,-⟩:=dQ;have hta3:=ta3 (x.kind:Int) x.num (bs x.name) (bs x.attr) A2 (vals ks).length c2;have aA:=hM.new 235 [.int .i64 (x.kind:Int),.int .i64 x.num,.string (bs x.name),.string (bs x.attr),.slice none 0 0,.int .i64 0,.slice A2 (vals ks).length c2];by_cases gJ:x.kind=0
     ·have hz:((x.kind:Int)==0)=true:=by rw[gJ];rfl
      have HX:=hid (H3.out (.inl gJ));have gE:Hid (trues (a.app (.cons x ks .nil))=trues a+1):=hid (by rw[trues_app,trues,if_pos gJ,trues];omega);clear H3 H4 h5 gJ;go_wp2_with fail;go_roundg r.len;case measure=>show r.len<r.len+1;omega
      case rel=>exact⟨a.app (.cons x ks .nil),r,rs,us,OA,oc,rfl,by rw[gE.out];exact congrArg _ om,rfl,by rw[ew.out];first|rfl|simp,HX,aA.tail⟩
     ·have hz:((x.kind:Int)==0)=false:=by simpa using gJ
      by_cases ni:x.kind=1
      ·have aY:((x.kind:Int)==1)=true:=by rw[ni];rfl
       have HX:=hid (H3.out (.inr ni));have gE:Hid (trues (a.app (.cons x ks .nil))=trues a):=hid (by rw[trues_app,trues,if_neg gJ,trues];omega);clear H3 H4 h5 gJ ni;go_wp2_with fail;go_roundg r.len;case measure=>show r.len<r.len+1;omega
       case rel=>exact⟨a.app (.cons x ks .nil),r,rs,us,OA,oc,rfl,by rw[gE.out],rfl,by rw[ew.out];first|rfl|simp,HX,aA.tail⟩
      ·have rY:((x.kind:Int)==1)=false:=by simpa using fun e:(x.kind:Int)=1=>ni om
       have HX:=hid (H4.out (fun e=>e.elim gJ ni));have gE:Hid (trues (a.app (.cons x ks .nil))=trues a):=hid (by rw[trues_app,trues,if_neg gJ,trues];omega);clear H3 H4 h5 gJ ni;go_upto_region 8 with fail;generalize wr.alloc (.cells #[.int .i64 (x.kind:Int),.int .i64 x.num,.string (bs x.name),.string (bs x.attr),.slice none 0 0,.int .i64 0,.slice A2 (vals ks).length c2] 235)=W2 at *;generalize wr.heap.size=g2 at *;clear hM;obtain⟨x0,x1,x2,x3,x4,x5,x6⟩:=(aA.blk 0 rfl).get7;go_wp2_with (at_builtin;refine zac rfl _ _ 181 rfl 0 91 i0 _ 1 16 underlying181 aL bg aY bh rfl zy0 _ rs.length rs rfl ((aA.alloc _).row 1 rfl) ⟨W2.heap.size,0,none⟩ 1 1 [atV (x.kind:Int) x.num (bs x.name) (bs x.attr) none 0 0 0 A2 (vals ks).length c2] rfl rfl (new1p _ _ _) zy3 zy0 zy2 om (Nat.zero_le _) ?_;intro v' w3 af ai aH;obtain⟨jq,iY,rfl⟩:=zab af;have az:=((aA.alloc (.cells #[atV (x.kind:Int) x.num (bs x.name) (bs x.attr) none 0 0 0 A2 (vals ks).length c2] 91)).grown 1 rfl af ai aH).tail;clear af ai aH aA);go_roundg r.len;case measure=>show r.len<r.len+1;omega
       case rel=>exact⟨a.app (.cons x ks .nil),r,rs++[atV (x.kind:Int) x.num (bs x.name) (bs x.attr) none 0 0 0 A2 (vals ks).length c2],us,jq,iY,rfl,by rw[gE.out],by rw[List.length_append];rfl,by rw[ew.out];first|rfl|simp,HX,by unfold zb5;rw[List.length_append];exact az⟩
end Nf
namespace Nf
open Go.RowKit Go.Shelf
def vlV:Vl→Value
 | .n x=>.iface 323 (.int .i64 x)
 | .w s=>.iface 324 (.string s)
def CmpR:Vl→Vl→Int→Prop
 | .n a,.n b,r=>(r=0↔a=b)∧(r<0↔a<b)
 | .w s,.w t,r=>r=0↔s=t
 | _,_,r=>True
theorem cmpL_zero:∀{a b:List UInt8},Lib.compareBytes a b=0↔a=b
 | [],[]=>by simp[Lib.compareBytes]
 | [],_::_=>by simp[Lib.compareBytes]
 | _::_,[]=>by simp[Lib.compareBytes]
 | a::l,b::m=>by
   rw[Lib.compareBytes];by_cases h1:a<b
   ·rw[if_pos h1];simp only[List.cons.injEq];refine⟨fun h=>(by cases h),fun h=>?_⟩;rw[h.1]at h1;exact absurd h1 (UInt8.lt_irrefl _)
   ·rw[if_neg h1];by_cases h2:b<a
    ·rw[if_pos h2];simp only[List.cons.injEq];refine⟨fun h=>(by cases h),fun h=>?_⟩;rw[h.1]at h2;exact absurd h2 (UInt8.lt_irrefl _)
    ·rw[if_neg h2,cmpL_zero,List.cons.injEq];have e:a=b:=by
      have h3:¬a.toNat<b.toNat:=fun h=>h1 (UInt8.lt_iff_toNat_lt.2 h);have h4:¬b.toNat<a.toNat:=fun h=>h2 (UInt8.lt_iff_toNat_lt.2 h);exact UInt8.toNat_inj.1 om
     simp[e]
theorem nan_any (a:Int) (w:World):Calls prog 295 #[.int .i64 a] w fun e w'=>e=.returned (.bool false)∧w'=w:=by
 have h:(a != a)=false:=by simp
 go_enter func295,ntmps295;go_wp2_with fail;go_ret;exact zv6
theorem cmpN_any (a b:Int) (w:World):Calls prog 294 #[.int .i64 a,.int .i64 b] w fun e w'=>(∃r,e=.returned (.int .i64 r)∧CmpR (.n a) (.n b) r)∧w'=w:=by
 have h1:=nan_any a w;have h2:=nan_any b w;go_enter func294,ntmps294;go_wp2_with fail;refine h1.mono ?_;rintro e w' ⟨rfl,rfl⟩;go_wp2_with fail;refine h2.mono ?_;rintro e w' ⟨rfl,rfl⟩;by_cases h3:a<b
 ·go_wp2_with fail;go_ret;exact⟨⟨-1,rfl,by show _∧_;omega⟩,rfl⟩
 ·by_cases h4:b<a
  ·go_wp2_with fail;go_ret;exact⟨⟨1,rfl,by show _∧_;omega⟩,rfl⟩
  ·go_wp2_with fail;go_ret;exact⟨⟨0,rfl,by show _∧_;omega⟩,rfl⟩
theorem tan (b:Int):∀W,(Instr.typeAssert (.iface 323 (.int .i64 b)) 309 323 true).run prog W=.ok (.tuple #[.int .i64 b,.bool true]) W:=fun W=>kr
theorem taw (b:ByteArray):∀W,(Instr.typeAssert (.iface 324 (.string b)) 309 324 true).run prog W=.ok (.tuple #[.string b,.bool true]) W:=fun W=>kr
theorem ncmp_any (a b:Int) (w:World):Calls prog 293 #[.int .i64 a,.iface 323 (.int .i64 b)] w fun e w'=>(∃r,e=.returned (.int .i64 r)∧CmpR (.n a) (.n b) r)∧w'=w:=by
 have h1:=tan b;have h2:=cmpN_any a b w;go_enter func293,ntmps293;go_wp2_with fail;refine h2.mono ?_;rintro e w' ⟨⟨r,rfl,hr⟩,rfl⟩;have HR:=Lib.hid hr;clear hr;go_wp2_with fail;go_ret;exact⟨⟨r,rfl,HR.out⟩,rfl⟩
theorem wcmp_any (a b:ByteArray) (w:World):Calls prog 296 #[.string a,.iface 324 (.string b)] w fun e w'=>(∃r,e=.returned (.int .i64 r)∧CmpR (.w a) (.w b) r)∧w'=w:=by
 have h1:=taw b;have h2:=strings_Compare a b w;have h3:Lib.compareBytes a.data.toList b.data.toList=0↔a=b:=by
  rw[cmpL_zero];constructor
  ·intro h;cases a;cases b;simp at h;rw[h]
  ·intro h;rw[h]
 generalize Lib.compareBytes a.data.toList b.data.toList=r at *;go_enter func296,ntmps296;go_wp2_with fail;refine h2.mono ?_;rintro e w' ⟨rfl,rfl⟩;have HR:=Lib.hid h3;clear h3;go_wp2_with fail;go_ret;exact⟨⟨r,rfl,HR.out⟩,rfl⟩
theorem schemaOf_any (d:Po) (L:Lp) (A:Option Addr) (c:Nat) (S:List Sm) (u:Nat) (x:Bp) (hu:d.uses[u]? =some x) (m:Sm) (hm:zaq S x.2=some m) (hL:S.length≤1000000) (hU:d.uses.length≤1000000) (w0 w:World) (hS:Schs w0 A S) (hP:Prs w0 L.ua d.uses) (h0:Below w0.heap.size w0 w) :
 Calls prog 173 #[polV d L,.slice A S.length c,.int .i64 (u:Int)] w fun e w'=>(∃FA fc,e=.returned (smV m FA fc)∧Flds w0 FA m.fields)∧Below w.heap.size w w':=by
 obtain⟨ua,uc,ra,rc,na,nc⟩:=L;obtain⟨pad,ju,-,pb⟩:=hP.at_ u x hu;change ua=some pad at ju;subst ju;have hk:=((Hp.start w).new 29 (polcs d ⟨some pad,uc,ra,rc,na,nc⟩)).new 53 zS;obtain⟨g,hg⟩:∃g,w.heap.size=g:=⟨_,rfl⟩;obtain⟨q,hq⟩:∃q,g+1=q:=⟨_,rfl⟩;simp only[sizeA,hg,hq]at hk;have jA:=(List.getElem?_eq_some_iff.1 hu).1;have huu:(u:Int)<(d.uses.length:Int):=om;have hu0:(0:Int)≤(u:Int):=om;have HM:=Lib.hid hm;clear hu hm jA;go_enter func173,ntmps173;go_upto_region 2 with fail;try simp only[hg,hq]
 have ar:Hp [] w [iblk q 53 zS,iblk g 29 (polcs d ⟨some pad,uc,ra,rc,na,nc⟩)] ((w.alloc (.cells #[.string d.name,.slice (some pad) d.uses.length uc,.slice ra d.reveal.length rc,.slice na d.nodes.length nc,.int .i64 d.root,.string d.scope,.int .i64 d.limit,.string d.escrow] 29)).alloc (.cells #[.string ⟨#[]⟩,.slice none 0 0] 53)):=hk;clear hk;generalize (w.alloc (.cells #[.string d.name,.slice (some pad) d.uses.length uc,.slice ra d.reveal.length rc,.slice na d.nodes.length nc,.int .i64 d.root,.string d.scope,.int .i64 d.limit,.string d.escrow] 29)).alloc (.cells #[.string ⟨#[]⟩,.slice none 0 0] 53)=W1 at *;go_loopg [11] S.length (fun m9 fu wx=>∃i:Nat,i≤S.length∧m9=S.length-i∧fu=.int .i64 (i:Int)∧Hp [] w [iblk q 53 zS,iblk g 29 (polcs d ⟨some pad,uc,ra,rc,na,nc⟩)] wx∧Hid (zaq (S.take i) x.2=none));case atStart=>exact⟨0,Nat.zero_le _,rfl,rfl,ar,Lib.hid rfl⟩
 case round =>
  obtain⟨i,hi,rfl,rfl,hM,HE⟩:=hrel;clear ar;by_cases ay:i<S.length
  ·have aM:(i:Int)<(S.length:Int):=om;have aL:(0:Int)≤(i:Int):=om;obtain⟨m2,dG⟩:∃m,S[i]? =some m:=⟨_,List.getElem?_eq_getElem ay⟩;obtain⟨ad,FA,fc,rfl,c0,c1,hF⟩:=hS.at_ i m2 dG;replace c0:=zaa (zaa c0 h0) hM.below0;replace c1:=zaa (zaa c1 h0) hM.below0;have pb2:=zaa (zaa pb h0) hM.below0;have HT:=Lib.hid (find_take (p:=fun(m:Sm)=>decide (m.name=x.2)) dG HE.out);have aA:=hM.new 53 [.string m2.name,.slice FA m2.fields.length fc];have eX:=@strs_eq m2.name x.2;clear dG HE;go_upto_region 4 with fail;have pb3:=zaa pb2 ((Below.refl wr.heap.size wr).alloc (Nat.le_refl _) (.cells #[.string m2.name,.slice FA m2.fields.length fc] 53));generalize wr.alloc (.cells #[.string m2.name,.slice FA m2.fields.length fc] 53)=W2 at *;generalize wr.heap.size=g2 at *;have d0:=(aA.blk 0 rfl).cell 0;have d1:=(aA.blk 0 rfl).cell 1;have u1:=(aA.blk 2 rfl).cell 1;simp only[List.getElem?_cons_zero,List.getElem?_cons_succ]at d0 d1 u1;clear c0 c1 hM pb2;by_cases gS:m2.name=x.2
   ·rw[decide_eq_true gS]at eX;rw[if_pos (by simpa using gS)]at HT;have cg:Hid (m2=m):=Lib.hid (Option.some.inj ((show zaq S x.2=some m2 from HT.out).symm.trans HM.out));clear gS HT;have df:=fun k=>aA.drewN k;go_quiet (fail);replace df:=df nq;clear aA d0 d1 u1 pb3;generalize W2.drewN nq=W3 at *;have d0:=(df.blk 0 rfl).cell 0;have d1:=(df.blk 0 rfl).cell 1;simp only[List.getElem?_cons_zero,List.getElem?_cons_succ]at d0 d1;go_wp2_with (refine wpList_store_row rfl 53 (.tmp 6) (.tmp 24) rfl q [.string m2.name,.slice FA m2.fields.length fc].toArray rfl rfl 53 zS.toArray (df.blk 1 rfl) kr kr kr ?_);have az:=df.rowAt 1 rfl [.string m2.name,.slice FA m2.fields.length fc];have e0:=(az.blk 1 rfl).cell 0;have e1:=(az.blk 1 rfl).cell 1;simp only[List.getElem?_cons_zero,List.getElem?_cons_succ]at e0 e1;refine bodyPost_ret (v:=smV m2 FA fc) (by simp[results,results173,go_sem,e0,e1]) rfl ?_;have hb:Below w.heap.size w _:=az.below0;rw[←cg.out];exact⟨⟨FA,fc,rfl,hF⟩,by first|exact hb|(subst hg;exact hb)⟩
   ·rw[decide_eq_false gS]at eX;rw[if_neg (by simpa using gS)]at HT;clear gS;have df:=fun k=>aA.drewN k;go_quiet (fail);replace df:=df nq;generalize W2.drewN nq=W3 at *;go_wp2_with fail;go_roundg (S.length-(i+1));case measure=>omega
    case rel=>exact⟨i+1,ay,rfl,by first|rfl|simp,df.tail,HT⟩
  ·exact zt69
end Nf
end Go.Proofs.YtekkapgknohadaaGreatDoor
