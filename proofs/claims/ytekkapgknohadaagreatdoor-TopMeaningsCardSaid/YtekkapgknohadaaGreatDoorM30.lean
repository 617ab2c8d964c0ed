/- plan: checkAtom. Printed by mkmq.py. -/
import Derived.Test.YtekkapgknohadaaGreatDoorM26
set_option linter.unusedVariables false
set_option maxRecDepth 20000
set_option maxHeartbeats 4000000
open Go.Proofs.Tryz
namespace Go.Proofs.YtekkapgknohadaaGreatDoor
namespace Nf
open Go.RowKit Go.Shelf
open Lib (hid)
structure OkAt (n:Nat) (a:At):Prop where
 k0:0≤a.kind
 k5:a.kind≤5
 a0:0≤a.a
 a1:a.a<n
 b0:0≤a.b
 b1:a.b<n
 one:a.kind≤2→a.b=0
 two:3≤a.kind→a.a≠a.b
 c01:a.kind≤1→0≤a.lo∧a.lo≤4294967295∧a.hi=0
 c2:a.kind=2→0≤a.lo∧a.lo≤a.hi∧a.hi≤4294967295
 c34:a.kind=3∨a.kind=4→a.lo=0∧a.hi=0
 c5:a.kind=5→ -4294967295≤a.lo∧a.lo≤a.hi∧a.hi≤4294967295∧a.hi-a.lo≤4294967295
section
variable {W:World} {g1 g2 ga gn:Nat} {lo hi:Int}
theorem ck1_any {b:Int} {n:Nat} (h0:0≤b) (h1:b<n) (cx:W.cell? ⟨gn,0,none⟩=some (.int .i64 (n:Int))):Calls prog 177 #[.int .i64 b,ptO gn] W fun e w'=>e=.returned (.bool true)∧w'=W:=by
 go_enter func177,ntmps177;go_wp2_with fail;go_ret;exact zvn
theorem ck2_any (h0:0≤lo) (h1:lo≤4294967295) (h2:hi=0) (c1:W.cell? ⟨g1,0,none⟩=some (.bool true)) (c3:W.cell? ⟨ga,3,none⟩=some (.int .i64 lo)) (c4:W.cell? ⟨ga,4,none⟩=some (.int .i64 hi)):Calls prog 178 #[ptO g1,ptO ga] W fun e w'=>e=.returned (.bool true)∧w'=W:=by
 subst h2;go_enter func178,ntmps178;go_wp2_with fail;go_ret;exact zvn
theorem ck3_any (h0:0≤lo) (h1:lo≤4294967295) (h2:hi=0) (c1:W.cell? ⟨g1,0,none⟩=some (.bool true)) (c3:W.cell? ⟨ga,3,none⟩=some (.int .i64 lo)) (c4:W.cell? ⟨ga,4,none⟩=some (.int .i64 hi)):Calls prog 179 #[ptO g1,ptO ga] W fun e w'=>e=.returned (.bool true)∧w'=W:=by
 subst h2;go_enter func179,ntmps179;go_wp2_with fail;go_ret;exact zvn
theorem ck4_any (h0:0≤lo) (h1:lo≤hi) (h2:hi≤4294967295) (c1:W.cell? ⟨g1,0,none⟩=some (.bool true)) (c3:W.cell? ⟨ga,3,none⟩=some (.int .i64 lo)) (c4:W.cell? ⟨ga,4,none⟩=some (.int .i64 hi)):Calls prog 180 #[ptO g1,ptO ga] W fun e w'=>e=.returned (.bool true)∧w'=W:=by
 go_enter func180,ntmps180;go_wp2_with fail;go_ret;exact zvn
theorem ck5_any (h0:lo=0) (h1:hi=0) (c1:W.cell? ⟨g2,0,none⟩=some (.bool true)) (c3:W.cell? ⟨ga,3,none⟩=some (.int .i64 lo)) (c4:W.cell? ⟨ga,4,none⟩=some (.int .i64 hi)):Calls prog 181 #[ptO g2,ptO ga] W fun e w'=>e=.returned (.bool true)∧w'=W:=by
 subst h0 h1;go_enter func181,ntmps181;go_wp2_with fail;go_ret;exact zvn
theorem ck6_any (h0:lo=0) (h1:hi=0) (c1:W.cell? ⟨g2,0,none⟩=some (.bool true)) (c3:W.cell? ⟨ga,3,none⟩=some (.int .i64 lo)) (c4:W.cell? ⟨ga,4,none⟩=some (.int .i64 hi)):Calls prog 182 #[ptO g2,ptO ga] W fun e w'=>e=.returned (.bool true)∧w'=W:=by
 subst h0 h1;go_enter func182,ntmps182;go_wp2_with fail;go_ret;exact zvn
theorem ck7_any (h0: -4294967295≤lo) (h1:lo≤hi) (h2:hi≤4294967295) (h3:hi-lo≤4294967295) (c1:W.cell? ⟨g2,0,none⟩=some (.bool true)) (c3:W.cell? ⟨ga,3,none⟩=some (.int .i64 lo)) (c4:W.cell? ⟨ga,4,none⟩=some (.int .i64 hi)):Calls prog 183 #[ptO g2,ptO ga] W fun e w'=>e=.returned (.bool true)∧w'=W:=by
 have hw:IntKind.i64.wrap (hi-lo)=hi-lo:=IntWalk.i64_in _ om;go_enter func183,ntmps183;go_wp2_with fail;go_ret;exact zvn
end
abbrev ckFs (ga g1 g2:Nat):Array Value:=#[cl2 178 g1 ga,cl2 179 g1 ga,cl2 180 g1 ga,cl2 181 g2 ga,cl2 182 g2 ga,cl2 183 g2 ga]
theorem built_ck (ga g1 g2:Nat):prog.built 209 [(0,cl2 178 g1 ga),(1,cl2 179 g1 ga),(2,cl2 180 g1 ga),(3,cl2 181 g2 ga),(4,cl2 182 g2 ga),(5,cl2 183 g2 ga)]=some (ckFs ga g1 g2):=kr
theorem pcheck_atom (a:At) (n:Nat) (hn:n≤64) (h:OkAt n a) (w:World) :
 Calls prog 121 #[atVal a,.int .i64 (n:Int)] w fun e w'=>e=.returned (.int .i64 0)∧Below w.heap.size w w':=by
 obtain⟨ak,aa,ab,lo,hi⟩:=a;obtain⟨k0,k5,a0,a1,b0,b1,mu,ly,c01,c2,c34,c5⟩:=h;simp only at k0 k5 a0 a1 b0 b1 mu ly c01 c2 c34 c5;have hk:=(Hp.start w).new 133 (atC ⟨ak,aa,ab,lo,hi⟩);have bL:=hk.new 3 [.int .i64 (n:Int)];simp only[sizeA]at bL;obtain⟨ga,hg⟩:∃g,w.heap.size=g:=⟨_,rfl⟩;rw[hg]at bL;obtain⟨gn,nU⟩:∃g,ga+1=g:=⟨_,rfl⟩;rw[nU]at bL;have q1:¬ak<0:=om;have q2:¬(6:Int)≤ak:=om;have lQ:=hid mu;have lG:=hid ly;have H01:=hid c01;have H2:=hid c2;have H34:=hid c34;have H5:=hid c5;have HA:=hid (And.intro a0 a1);have HB:=hid (And.intro b0 b1);clear hk mu ly c01 c2 c34 c5 a0 a1 b0 b1 hn;go_enter func121,ntmps121;go_upto_region 1 with fail;try simp only[hg,sizeA,nU]
 have an:Hp [] w [iblk gn 3 [.int .i64 (n:Int)],iblk ga 133 (atC ⟨ak,aa,ab,lo,hi⟩)] ((w.alloc (.cells #[.int .i64 ak,.int .i64 aa,.int .i64 ab,.int .i64 lo,.int .i64 hi] 133)).alloc (.cells #[.int .i64 (n:Int)] 3)):=bL;clear bL;generalize (w.alloc (.cells #[.int .i64 ak,.int .i64 aa,.int .i64 ab,.int .i64 lo,.int .i64 hi] 133)).alloc (.cells #[.int .i64 (n:Int)] 3)=W1 at *;clear nU;obtain⟨x0,x1,x2,x3,x4⟩:=Blk.get5 (an.blk 1 rfl);have y0:W1.cell? ⟨gn,0,none⟩=some (.int .i64 (n:Int)):=(an.blk 0 rfl).cell 0;simp only at x0 x1 x2 x3 x4;have ah:=an.new 4 [.bool (decide (ab=0))];obtain⟨g1,el⟩:∃g,W1.heap.size=g:=⟨_,rfl⟩;rw[el]at ah;have e1:(ab==0)=decide (ab=0):=rfl;go_upto_region 3 with fail;try rw[el]
 try simp only[el,e1]
 replace ah:Hp [] w [iblk g1 4 [.bool (decide (ab=0))],iblk gn 3 [.int .i64 (n:Int)],iblk ga 133 (atC ⟨ak,aa,ab,lo,hi⟩)] (W1.alloc (.cells #[.bool (decide (ab=0))] 4)):=ah;generalize W1.alloc (.cells #[.bool (decide (ab=0))] 4)=W2 at *;clear an el x0 x1 x2 x3 x4 y0 e1;obtain⟨x0,x1,x2,x3,x4⟩:=Blk.get5 (ah.blk 2 rfl);have y0:W2.cell? ⟨gn,0,none⟩=some (.int .i64 (n:Int)):=(ah.blk 1 rfl).cell 0;simp only at x0 x1 x2 x3 x4;have HC:=hid (ck1_any (W:=W2) (gn:=gn) HB.out.1 HB.out.2 y0);go_upto_region 4 with(first|(refine HC.out.mono ?_;rintro e9 w9 ⟨rfl,rfl⟩)|fail);have e2:(aa != ab)=decide (aa≠ab):=by rw[Bool.eq_iff_iff];simp
 try simp only[e2]
 obtain⟨g2,cK⟩:∃g,w9.heap.size=g:=⟨_,rfl⟩;have aj:Hp [] w [iblk g2 4 [.bool (decide (aa≠ab))],iblk g1 4 [.bool (decide (ab=0))],iblk gn 3 [.int .i64 (n:Int)],iblk ga 133 (atC ⟨ak,aa,ab,lo,hi⟩)] (w9.alloc (.cells #[.bool (decide (aa≠ab))] 4)):=by
  rw[←cK];exact ah.new 4 [.bool (decide (aa≠ab))]
 try rw[cK]
 clear ah x0 x1 x2 x3 x4 y0 e2 HC;generalize w9.alloc (.cells #[.bool (decide (aa≠ab))] 4)=W3 at *;clear cK;have cV:=built_ck ga g1 g2;have aw:Hp [] w [iblk W3.heap.size 209 [.nilFunc,.nilFunc,.nilFunc,.nilFunc,.nilFunc,.nilFunc],iblk g2 4 [.bool (decide (aa≠ab))],iblk g1 4 [.bool (decide (ab=0))],iblk gn 3 [.int .i64 (n:Int)],iblk ga 133 (atC ⟨ak,aa,ab,lo,hi⟩)] (W3.alloc (.cells #[.nilFunc,.nilFunc,.nilFunc,.nilFunc,.nilFunc,.nilFunc] 209)):=aj.new 209 [.nilFunc,.nilFunc,.nilFunc,.nilFunc,.nilFunc,.nilFunc];go_upto_region 5 with(refine wpList_store_row rfl 209 (.tmp 8) (.tmp 30) rfl W3.heap.size (ckFs ga g1 g2) rfl rfl 209 #[.nilFunc,.nilFunc,.nilFunc,.nilFunc,.nilFunc,.nilFunc] (aw.blk 0 rfl) kr kr kr ?_);have aE:=aw.rowAt 0 rfl (ckFs ga g1 g2).toList;simp only[List.set_cons_zero]at aE;have aO:Hp [] w [iblk W3.heap.size 209 (ckFs ga g1 g2).toList,iblk g2 4 [.bool (decide (aa≠ab))],iblk g1 4 [.bool (decide (ab=0))],iblk gn 3 [.int .i64 (n:Int)],iblk ga 133 (atC ⟨ak,aa,ab,lo,hi⟩)] ((W3.alloc (.cells #[.nilFunc,.nilFunc,.nilFunc,.nilFunc,.nilFunc,.nilFunc] 209)).setRow W3.heap.size (ckFs ga g1 g2)):=aE;clear aE aw aj cV;generalize (W3.alloc (.cells #[.nilFunc,.nilFunc,.nilFunc,.nilFunc,.nilFunc,.nilFunc] 209)).setRow W3.heap.size (ckFs ga g1 g2)=W5 at *;generalize W3.heap.size=gt at *;obtain⟨x0,x1,x2,x3,x4⟩:=Blk.get5 (aO.blk 4 rfl);have y0:W5.cell? ⟨gn,0,none⟩=some (.int .i64 (n:Int)):=(aO.blk 3 rfl).cell 0;have y1:W5.cell? ⟨g1,0,none⟩=some (.bool (decide (ab=0))):=(aO.blk 2 rfl).cell 0;have y2:W5.cell? ⟨g2,0,none⟩=some (.bool (decide (aa≠ab))):=(aO.blk 1 rfl).cell 0;have b0:W5.cell? ⟨gt,0,none⟩=some (cl2 178 g1 ga):=(aO.blk 0 rfl).cell 0;have b1:W5.cell? ⟨gt,1,none⟩=some (cl2 179 g1 ga):=(aO.blk 0 rfl).cell 1;have b2:W5.cell? ⟨gt,2,none⟩=some (cl2 180 g1 ga):=(aO.blk 0 rfl).cell 2;have b3:W5.cell? ⟨gt,3,none⟩=some (cl2 181 g2 ga):=(aO.blk 0 rfl).cell 3;have b4:W5.cell? ⟨gt,4,none⟩=some (cl2 182 g2 ga):=(aO.blk 0 rfl).cell 4;have b5:W5.cell? ⟨gt,5,none⟩=some (cl2 183 g2 ga):=(aO.blk 0 rfl).cell 5;simp only at x0 x1 x2 x3 x4;have hD:=aO.below0;go_upto_region 7 with fail;have HC:=hid (ck1_any (W:=W5) (gn:=gn) HA.out.1 HA.out.2 y0);have h6:ak=0∨ak=1∨ak=2∨ak=3∨ak=4∨ak=5:=om;rcases h6 with rfl|rfl|rfl|rfl|rfl|rfl
 ·clear b1 b2 b3 b4 b5;have u:=H01.out zy0;rw[decide_eq_true (lQ.out zy0)]at y1;have HD:=hid (ck2_any u.1 u.2.1 u.2.2 y1 x3 x4);exact zt7
 ·clear b0 b2 b3 b4 b5;have u:=H01.out zy0;rw[decide_eq_true (lQ.out zy0)]at y1;have HD:=hid (ck3_any u.1 u.2.1 u.2.2 y1 x3 x4);exact zt7
 ·clear b0 b1 b3 b4 b5;have u:=H2.out rfl;rw[decide_eq_true (lQ.out zy0)]at y1;have HD:=hid (ck4_any u.1 u.2.1 u.2.2 y1 x3 x4);exact zt7
 ·clear b0 b1 b2 b4 b5;have u:=H34.out (.inl rfl);rw[decide_eq_true (lG.out zy0)]at y2;have HD:=hid (ck5_any u.1 u.2 y2 x3 x4);exact zt7
 ·clear b0 b1 b2 b3 b5;have u:=H34.out (.inr rfl);rw[decide_eq_true (lG.out zy0)]at y2;have HD:=hid (ck6_any u.1 u.2 y2 x3 x4);exact zt7
 ·clear b0 b1 b2 b3 b4;have u:=H5.out rfl;rw[decide_eq_true (lG.out zy0)]at y2;have HD:=hid (ck7_any u.1 u.2.1 u.2.2.1 u.2.2.2 y2 x3 x4);exact zt7
end Nf
end Go.Proofs.YtekkapgknohadaaGreatDoor
