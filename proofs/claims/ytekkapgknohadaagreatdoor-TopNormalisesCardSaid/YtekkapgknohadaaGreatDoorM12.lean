/- The parser's reader: condition. -/
import Derived.Test.YtekkapgknohadaaGreatDoorM10
import Derived.BigQuiet
set_option linter.unusedVariables false
set_option maxRecDepth 20000
set_option maxHeartbeats 8000000
namespace Go.Proofs.YtekkapgknohadaaGreatDoor
open Go.RowKit Go.Shelf
open Lib (hid)
attribute [local go_sem] tf0 tf1 tf2
theorem value_none (R : PR) (ts q : List Lx.Tok) (W : World) (h : PRok R ts W) (hl : Shorts ts) (hv : Pa.valueR ts = (none, q)) : Calls Tryz.prog 186 #[ptr R.gp] W fun e w' => e = panP (Pa.atT q) ∧ Hp [R.gp, R.gt] W [ipr R q] w' := by
 refine (value_any R ts W h hl).mono ?_
 intro e w' hT
 unfold TOut at hT
 rw [Pa.leafR, hv] at hT
 exact hT
theorem value_some (R : PR) (ts q : List Lx.Tok) (n : Pa.Nd) (W : World) (h : PRok R ts W) (hl : Shorts ts) (hv : Pa.valueR ts = (some n, q)) : Calls Tryz.prog 186 #[ptr R.gp] W fun e w' => ∃ x g, LF.out x = Pa.leaf n ∧ x.roots = [g] ∧ e = .returned (ptr g) ∧ Hp [R.gp, R.gt] W (ipr R q :: x.its) w' := by
 refine (value_any R ts W h hl).mono ?_
 intro e w' hT
 unfold TOut at hT
 rw [Pa.leafR, hv] at hT
 exact hT
theorem TOut.node {R : PR} {W : World} {r : Pa.Rd Pa.F} {n : Pa.Nd} {f : Pa.F} {q : List Lx.Tok} {w' : World} {g : Nat} {kv : Value} (h : r = (some (.cons n f .nil), q)) (x : LF) (hx : LF.out x = f) (hH : Hp [R.gp, R.gt] W (ipr R q :: itree n g kv :: iptrs kv x.roots :: x.its) w') : TOut R W r (.returned (ptr g)) w' := by
 subst h
 refine ⟨.cons n g kv x .nil, g, ?_, rfl, rfl, ?_⟩
 ·show Pa.F.cons n (LF.out x) .nil = _
  rw [hx]
 ·show Hp _ W (ipr R q :: itree n g kv :: iptrs kv x.roots :: (x.its ++ [])) w'
  rw [List.append_nil]
  exact hH
theorem cond_done {o : List Nat} {W wE : World} {R : PR} {q : List Lx.Tok} {gn : Nat} {t : TypeId} {cs : List Value} {kv : Value} {r : List It} (nd : Pa.Nd) (h : Hp o W (ipr R q :: iblk gn t cs :: r) wE) : Hp o W (ipr R q :: itree nd wE.heap.size kv :: r) (wE.alloc (.cells (tcs nd kv).toArray 163)) := by
 refine ((h.new 163 (tcs nd kv)).perm ?_).sub (r := [iblk gn t cs])
 refine (List.Perm.swap _ _ _).trans (List.Perm.cons _ ?_)
 show (itree nd _ _ :: iblk gn t cs :: r).Perm (itree nd _ _ :: (r ++ [iblk gn t cs]))
 exact List.Perm.cons _ (List.perm_append_singleton _ _).symm
theorem perm3 {α : Type} (a b : α) (x y z : List α) : (a :: (z ++ (y ++ b :: x))).Perm (b :: a :: (x ++ (y ++ z))) := by
 refine (List.Perm.cons a ?_).trans (List.Perm.swap _ _ _)
 refine (List.Perm.append_left z List.perm_middle).trans ?_
 refine List.perm_middle.trans (List.Perm.cons b ?_)
 refine List.perm_append_comm.trans ?_
 rw [← List.append_assoc]
 exact List.Perm.append_right z List.perm_append_comm
theorem perm4 {α : Type} (a b c : α) (x y : List α) : ((a :: y) ++ (b :: c :: x)).Perm (c :: b :: a :: (x ++ y)) := by
 have h1 : ((a :: y) ++ (b :: c :: x)).Perm ((b :: c :: x) ++ (a :: y)) := List.perm_append_comm
 refine h1.trans ?_
 refine (List.Perm.swap _ _ _).trans ?_
 exact List.Perm.cons _ (List.Perm.cons _ List.perm_middle)
theorem reads_value (R : PR) (m : Nat) : Reads R 186 Pa.leafR m := ⟨enters_of Tryz.func186 (by kernel_rfl) rfl, Pa.leaf_keeps, fun ts W _ h hl => value_any R ts W h hl⟩
theorem zb2 {W : World} {b g i j : Nat} {v : Value} (h : W.cell? ⟨b, j, none⟩ = some v) (hne : g ≠ b) (u : Value) : (W.setCell ⟨g, i, none⟩ u).cell? ⟨b, j, none⟩ = some v := by
 rw [← h]
 simp only [World.cell?, World.setCell]
 rw [Array.getElem?_modify, if_neg hne]
abbrev itok (g : Nat) (t : Lx.Tok) : It := iblk g 154 [.int .i64 (t.kind : Int), .string (bs t.text), .int .i64 (t.at_ : Int)]
theorem condition_any (R : PR) (ts : List Lx.Tok) (W : World) (h : PRok R ts W) (hl : Shorts ts) : Calls Tryz.prog 144 #[ptr R.gp] W (TOut R W (Pa.condR ts)) := by
 obtain ⟨t, q, rfl⟩ := h.cons
 have HT := hid (za1 R t q W h)
 have hS := h.self
 have HV : Hid (Pa.condR (t :: q) = (Pa.valueR (t :: q)).then fun a q =>
  match Pa.cmpOf q with
  | some k => (Pa.valueR q.tail).then fun b q => (some (.cons ⟨6, k, [], [], t.at_⟩ ((Pa.leaf a).app (Pa.leaf b)) .nil), q)
  | none =>
   if Pa.isT Pa.kBetween q then (Pa.valueR q.tail).then fun b q => (Pa.needR Pa.kAnd q).then fun _ q => (Pa.valueR q).then fun c q => (some (.cons ⟨7, 0, [], [], t.at_⟩ ((Pa.leaf a).app ((Pa.leaf b).app (Pa.leaf c))) .nil), q)
   else if Pa.isT Pa.kIn q then (Pa.needR Pa.sBra q.tail).then fun _ q => (Pa.listR Pa.leafR q.length q).then fun l q => (Pa.needR Pa.sKet q).then fun _ q => (some (.cons ⟨8, 0, [], [], t.at_⟩ ((Pa.leaf a).app (Pa.F.cat l)) .nil), q)
   else (none, q)) := hid rfl
 have hsl := h.suf.length_le
 have hlen := h.len
 have hg := h.good
 have hkp := Pa.value_keeps (t :: q) hg
 go_enter Tryz.func144, Tryz.ntmps144
 go_wp2_with fail
 refine HT.out.mono ?_
 rintro e w1 ⟨rfl, hb⟩
 have hk1 := hS.next hb
 clear hS hb h HT
 have HA := hid (fun a q1 hv => value_some R (t :: q) q1 a w1 hk1.pr hl hv)
 have HB := hid (fun q1 hv => value_none R (t :: q) q1 w1 hk1.pr hl hv)
 unfold tokV
 generalize Pa.valueR (t :: q) = x1 at *
 obtain ⟨o1, q1⟩ := x1
 simp only at hkp
 cases o1 with
 | none =>
  rw [Pa.then_none] at HV
  go_wp2_with fail
  refine (HB.out q1 rfl).mono ?_
  rintro e w2 ⟨rfl, hH⟩
  unfold panP
  go_wp2_with fail
  exact ⟨rfl, TOut.bad HV.out (Hp.rd1 (r := []) hk1 hH)⟩
 | some a =>
  rw [Pa.then_some] at HV
  go_wp2_with fail
  refine (HA.out a q1 rfl).mono ?_
  rintro e w2 ⟨x, gx, hxo, hxr, rfl, hH⟩
  have hk2 := Hp.rd (r := []) hk1 hH
  rw [List.append_nil] at hk2
  clear hk1 hH HA HB
  obtain ⟨t1, r1, rfl⟩ := hk2.pr.cons
  obtain ⟨gn, hgn⟩ : ∃ g, w2.heap.size = g := ⟨_, rfl⟩
  have hk3 : Hp [R.gp, R.gt] W (ipr R (t1 :: r1) :: iblk gn 68 (ncs ⟨0, 0, [], [], t.at_⟩) :: x.its) (w2.alloc (.cells #[.int .i64 0, .int .i64 0, .string ⟨#[]⟩, .string ⟨#[]⟩, .slice none 0 0, .int .i64 (t.at_ : Int)] 68)) := by
   rw [← hgn]
   exact (hk2.new 68 (ncs ⟨0, 0, [], [], t.at_⟩)).perm (List.Perm.swap _ _ _)
  clear hk2
  go_wp2_with fail
  clear hgn
  generalize w2.alloc (.cells #[.int .i64 0, .int .i64 0, .string ⟨#[]⟩, .string ⟨#[]⟩, .slice none 0 0, .int .i64 (t.at_ : Int)] 68) = w3 at *
  refine (za1 R t1 r1 _ hk3.pr).mono ?_
  rintro e w4 ⟨rfl, hb⟩
  have hk4 := hk3.next hb
  clear hk3 hb
  obtain ⟨gk, hgk⟩ : ∃ g, w4.heap.size = g := ⟨_, rfl⟩
  have hk5 : Hp [R.gp, R.gt] W (ipr R (t1 :: r1) :: itok gk t1 :: iblk gn 68 (ncs ⟨0, 0, [], [], t.at_⟩) :: x.its) (w4.alloc (.cells #[.int .i64 (t1.kind : Int), .string (bs t1.text), .int .i64 (t1.at_ : Int)] 154)) := by
   rw [← hgk]
   exact (hk4.new 154 [.int .i64 (t1.kind : Int), .string (bs t1.text), .int .i64 (t1.at_ : Int)]).perm (List.Perm.swap _ _ _)
  clear hk4
  unfold tokV
  go_upto_region 7 with fail
  clear hgk
  generalize w4.alloc (.cells #[.int .i64 (t1.kind : Int), .string (bs t1.text), .int .i64 (t1.at_ : Int)] 154) = w5 at *
  go_cut [20] (fun s20 wx => s20 = .bool (Pa.cmpOf (t1 :: r1)).isSome ∧ Hp [R.gp, R.gt] W (ipr R (t1 :: r1) :: itok gk t1 :: iblk gn 68 (ncs ⟨0, 0, [], [], t.at_⟩) :: x.its) wx)
  case first =>
   clear HV
   obtain ⟨c0, c1, c2⟩ := (hk5.blk 1 rfl).get3
   cases hk : (t1.kind == 2) with
   | true =>
    have hd : ((t1.kind : Int) == 2) = true := (kindI (n := 2)).trans hk
    have hC := hk5.drew
    have HQ : Hid ((Pa.cmpOf (t1 :: r1)) = cmpT t1.text) := hid (by rw [cmpOf_eq, hk]; rfl)
    go_region_held3 (fun w' => w'.cell? ⟨gk, 0, none⟩ = some (.int .i64 (t1.kind : Int)) ∧ w'.cell? ⟨gk, 1, none⟩ = some (.string (bs t1.text))) (first | exact ⟨c0, c1⟩ | exact ⟨d0, d1⟩)
     (first | (go_at_call 187; refine (comparisons_any _).mono ?_; rintro e w6 ⟨rfl, hH⟩; have hk6 := Hp.call (a := []) hC hH; obtain ⟨d0, d1, d2⟩ := (hk6.blk 2 rfl).get3) | (go_at_call 86; refine (contains_any t1.text _ _ (by first | exact hk6.blk 0 rfl | exact hk6.drew.blk 0 rfl)).mono ?_; rintro e w7 ⟨rfl, rfl⟩))
    go_wp2_with fail
    go_meet
    rw [HQ.out]
    exact ⟨rfl, hk6.tail⟩
   | false =>
    have hd : ((t1.kind : Int) == 2) = false := (kindI (n := 2)).trans hk
    have HQ : Hid ((Pa.cmpOf (t1 :: r1)) = none) := hid (by rw [cmpOf_eq, hk]; rfl)
    go_quiet (fail)
    go_wp2_with fail
    go_meet
    rw [HQ.out]
    exact ⟨rfl, hk5.drewN _⟩
  case rest =>
   obtain ⟨rfl, hk6⟩ := hcut
   clear hk5
   cases hc : Pa.cmpOf (t1 :: r1) with
   | some k =>
    rw [hc] at HV
    simp only at HV
    obtain ⟨hkind, hk66, -⟩ := Pa.cmpOf_kind hc
    have hct : cmpT t1.text = some k := by
     rw [cmpOf_eq, hkind] at hc
     exact hc
    obtain ⟨j, -, hj1, hj2, hj3⟩ := hk6.pr.at
    obtain ⟨c0, c1, f1, k0, k1, -, -, -⟩ := hk6.pr.atk hj1
    have hk7 := hk6.step (by omega) hj2 (n := (j : Int) + 1) rfl
    have hgr := hk7.pr.good
    have hsr : r1 <:+ t :: q := (List.suffix_cons _ _).trans hkp.1
    clear hj1 hj2 hk6 hc
    go_upto_region 9 with fail
    clear c0 c1 f1
    generalize wc.setCell ⟨R.gp, 1, none⟩ (.int .i64 ((j : Int) + 1)) = w7 at *
    obtain ⟨c0, c1, c2⟩ := (hk7.blk 1 rfl).get3
    have hC := hk7.drew
    have hne : gn ≠ gk := by
     have := hk7.ne
     simp [iblk, ipr] at this
     omega
    first | go_region_held3 (fun w' => w'.cell? ⟨gk, 1, none⟩ = some (.string (bs t1.text))) (first | exact c1 | exact d1 | exact zb2 d1 hne _ | exact zb2 (zb2 d1 hne _) hne _)
     (first | (go_at_call 187; refine (comparisons_any _).mono ?_; rintro e w8 ⟨rfl, hH⟩; have hk8 := Hp.call (a := []) hC hH; obtain ⟨d0, d1, d2⟩ := (hk8.blk 2 rfl).get3; obtain ⟨n0, n1, n2, n3, n4, n5⟩ := (hk8.blk 3 rfl).get6; have f0 := (hk8.blk 3 rfl).frozen 0; have f1 := (hk8.blk 3 rfl).frozen 1) | (go_at_call 152; refine (index_any t1.text k hct _ _ (by first | exact hk8.blk 0 rfl | exact hk8.drew.blk 0 rfl)).mono ?_; rintro e w9 ⟨rfl, rfl⟩)) | fail
    have hk9 : Hp [R.gp, R.gt] W (ipr R r1 :: itok gk t1 :: iblk gn 68 (ncs ⟨6, k, [], [], t.at_⟩) :: x.its) ((w9.setCell ⟨gn, 0, none⟩ (.int .i64 6)).setCell ⟨gn, 1, none⟩ (.int .i64 (k : Int))) :=
     ((hk8.set 3 rfl 0 (.int .i64 6)).set 3 rfl 1 (.int .i64 (k : Int))).tail
    clear hk8 n0 n1 n2 n3 n4 n5 f0 f1 d0 d1 d2 c0 c1 c2 hC hk7 hne hH
    generalize (w9.setCell ⟨gn, 0, none⟩ (.int .i64 6)).setCell ⟨gn, 1, none⟩ (.int .i64 (k : Int)) = w10 at *
    have HA := hid (fun b q1 hv => value_some R r1 q1 b w10 hk9.pr (hl.suf hsr) hv)
    have HB := hid (fun q1 hv => value_none R r1 q1 w10 hk9.pr (hl.suf hsr) hv)
    have HVE : Hid (Pa.condR (t :: q) = (Pa.valueR r1).then fun b q => (some (Pa.F.cons ⟨6, k, [], [], t.at_⟩ ((Pa.leaf a).app (Pa.leaf b)) Pa.F.nil), q)) := hid HV.out
    clear HV
    generalize Pa.valueR r1 = x2 at *
    obtain ⟨o2, q2⟩ := x2
    cases o2 with
    | none =>
     rw [Pa.then_none] at HVE
     go_wp2_with fail
     refine (HB.out q2 rfl).mono ?_
     rintro e w11 ⟨rfl, hH⟩
     unfold panP
     go_wp2_with fail
     exact ⟨rfl, TOut.bad HVE.out ((hk9.rd1 hH).sub (r := _ :: _))⟩
    | some b =>
     rw [Pa.then_some] at HVE
     go_wp2_with fail
     refine (HA.out b q2 rfl).mono ?_
     rintro e w11 ⟨y, gy, hyo, hyr, rfl, hH⟩
     have hr : ptrs (x.app y).roots = [ptr gx, ptr gy] := by rw [LF.roots_app, hxr, hyr]; rfl
     have hr2 : (x.app y).roots.length = 2 := by rw [LF.roots_app, hxr, hyr]; rfl
     have hkE : Hp [R.gp, R.gt] W (ipr R q2 :: iblk gn 68 (ncs ⟨6, k, [], [], t.at_⟩) :: iptrs (.slice (some ⟨w11.heap.size, 0, none⟩) 2 2) (x.app y).roots :: (x.app y).its) (w11.alloc (.cells #[ptr gx, ptr gy] 159)) := by
      have h1 := (hk9.rd hH).newrow 159 [ptr gx, ptr gy] (by unfold maxLen; simp)
      unfold iptrs
      rw [hr, hr2, LF.its_app]
      refine (h1.perm ?_).sub (r := [itok gk t1])
      refine (List.Perm.swap _ _ _).trans (List.Perm.cons _ ?_)
      refine (List.Perm.cons _ (List.perm_append_comm (l₁ := y.its))).trans ?_
      show (_ :: itok gk t1 :: _ :: (x.its ++ y.its)).Perm (_ :: _ :: (x.its ++ y.its ++ [itok gk t1]))
      refine (List.Perm.cons _ (List.perm_append_singleton (itok gk t1) (_ :: (x.its ++ y.its))).symm).trans ?_
      exact List.Perm.swap _ _ _
     clear hk9 hH HA HB
     obtain ⟨A2, hA2⟩ : ∃ A : Option Addr, some ⟨w11.heap.size, 0, none⟩ = A := ⟨_, rfl⟩
     rw [hA2] at hkE
     go_upto_region 21 with fail
     clear hA2
     generalize w11.alloc (.cells #[ptr gx, ptr gy] 159) = wE at *
     obtain ⟨n0, n1, n2, n3, n4, n5⟩ := (hkE.blk 1 rfl).get6
     simp only at n0 n1 n2 n3 n4 n5
     go_wp2_with fail
     go_ret
     refine TOut.node HVE.out (x.app y) (by rw [LF.out_app, hxo, hyo]) (kv := .slice A2 2 2) ?_
     exact cond_done ⟨6, k, [], [], t.at_⟩ hkE
   | none =>
    rw [hc] at HV
    simp only at HV
    have hk7 := hk6.perm (List.Perm.cons _ ((List.perm_append_singleton (itok gk t1) (iblk gn 68 (ncs ⟨0, 0, [], [], t.at_⟩) :: x.its)).symm))
    have hk7 : Hp [R.gp, R.gt] W (ipr R (t1 :: r1) :: iblk gn 68 (ncs ⟨0, 0, [], [], t.at_⟩) :: x.its) wc := Hp.sub (r := [itok gk t1]) hk7
    clear hk6 hc
    go_wp2_with fail
    refine (zay Pa.kBetween R _ wc hk7.pr).mono ?_
    rintro e w7 ⟨rfl, hH⟩
    have hk8 := hk7.rd1 hH
    clear hk7 hH
    cases hbt : Pa.isT Pa.kBetween (t1 :: r1) with
    | true =>
     rw [takeT, if_pos hbt] at hk8
     rw [if_pos hbt] at HV
     have hk8 : Hp [R.gp, R.gt] W (ipr R r1 :: iblk gn 68 (ncs ⟨0, 0, [], [], t.at_⟩) :: x.its) w7 := hk8
     have hsr : r1 <:+ t :: q := (List.suffix_cons _ _).trans hkp.1
     obtain ⟨n0, n1, n2, n3, n4, n5⟩ := (hk8.blk 1 rfl).get6
     have f0 := (hk8.blk 1 rfl).frozen 0
     have hk9 : Hp [R.gp, R.gt] W (ipr R r1 :: iblk gn 68 (ncs ⟨7, 0, [], [], t.at_⟩) :: x.its) (w7.setCell ⟨gn, 0, none⟩ (.int .i64 7)) := hk8.set 1 rfl 0 (.int .i64 7)
     clear hk8 hbt
     go_wp2_with fail
     clear n0 n1 n2 n3 n4 n5 f0
     generalize w7.setCell ⟨gn, 0, none⟩ (.int .i64 7) = w10 at *
     have HA := hid (fun b q1 hv => value_some R r1 q1 b w10 hk9.pr (hl.suf hsr) hv)
     have HB := hid (fun q1 hv => value_none R r1 q1 w10 hk9.pr (hl.suf hsr) hv)
     have hkp2 := Pa.value_keeps r1 hk9.pr.good
     have HVE : Hid (Pa.condR (t :: q) = (Pa.valueR r1).then fun b q => (Pa.needR Pa.kAnd q).then fun _ q => (Pa.valueR q).then fun c q => (some (Pa.F.cons ⟨7, 0, [], [], t.at_⟩ ((Pa.leaf a).app ((Pa.leaf b).app (Pa.leaf c))) Pa.F.nil), q)) := hid HV.out
     clear HV
     generalize Pa.valueR r1 = x2 at *
     obtain ⟨o2, q2⟩ := x2
     simp only at hkp2
     cases o2 with
     | none =>
      rw [Pa.then_none] at HVE
      refine (HB.out q2 rfl).mono ?_
      rintro e w11 ⟨rfl, hH⟩
      unfold panP
      go_wp2_with fail
      exact ⟨rfl, TOut.bad HVE.out ((hk9.rd1 hH).sub (r := _ :: _))⟩
     | some b =>
      rw [Pa.then_some] at HVE
      refine (HA.out b q2 rfl).mono ?_
      rintro e w11 ⟨y, gy, hyo, hyr, rfl, hH⟩
      have hk10 := hk9.rd hH
      have hs2 := hkp2.1.trans hsr
      clear hk9 hH HA HB
      have HN := hid (zbk Pa.kAnd R q2 _ hk10.pr)
      have hkp3 := Pa.need_keeps Pa.kAnd q2 hkp2.2
      generalize Pa.needR Pa.kAnd q2 = x3 at *
      obtain ⟨o3, q3⟩ := x3
      simp only at hkp3
      cases o3 with
      | none =>
       rw [zan] at HN
       rw [Pa.then_none] at HVE
       go_wp2_with fail
       refine HN.out.mono ?_
       rintro e w12 ⟨rfl, hH⟩
       unfold panP
       go_wp2_with fail
       exact ⟨rfl, TOut.bad HVE.out ((hk10.rd1 hH).sub (r := _))⟩
      | some u =>
       rw [zam] at HN
       rw [Pa.then_some] at HVE
       go_wp2_with fail
       refine HN.out.mono ?_
       rintro e w12 ⟨rfl, hH⟩
       have hk11 := hk10.rd1 hH
       clear hk10 hH HN
       have hs3 := hkp3.1.trans hs2
       have HA := hid (fun b q1 hv => value_some R q3 q1 b w12 hk11.pr (hl.suf hs3) hv)
       have HB := hid (fun q1 hv => value_none R q3 q1 w12 hk11.pr (hl.suf hs3) hv)
       generalize Pa.valueR q3 = x4 at *
       obtain ⟨o4, q4⟩ := x4
       cases o4 with
       | none =>
        rw [Pa.then_none] at HVE
        go_wp2_with fail
        refine (HB.out q4 rfl).mono ?_
        rintro e w13 ⟨rfl, hH⟩
        unfold panP
        go_wp2_with fail
        exact ⟨rfl, TOut.bad HVE.out ((hk11.rd1 hH).sub (r := _))⟩
       | some c =>
        rw [Pa.then_some] at HVE
        go_wp2_with fail
        refine (HA.out c q4 rfl).mono ?_
        rintro e w13 ⟨z, gz, hzo, hzr, rfl, hH⟩
        have hr : ptrs (x.app (y.app z)).roots = [ptr gx, ptr gy, ptr gz] := by rw [LF.roots_app, LF.roots_app, hxr, hyr, hzr]; rfl
        have hr2 : (x.app (y.app z)).roots.length = 3 := by rw [LF.roots_app, LF.roots_app, hxr, hyr, hzr]; rfl
        have hkE : Hp [R.gp, R.gt] W (ipr R q4 :: iblk gn 68 (ncs ⟨7, 0, [], [], t.at_⟩) :: iptrs (.slice (some ⟨w13.heap.size, 0, none⟩) 3 3) (x.app (y.app z)).roots :: (x.app (y.app z)).its) (w13.alloc (.cells #[ptr gx, ptr gy, ptr gz] 159)) := by
         have h1 := (hk11.rd hH).newrow 159 [ptr gx, ptr gy, ptr gz] (by unfold maxLen; simp)
         unfold iptrs
         rw [hr, hr2, LF.its_app, LF.its_app]
         refine h1.perm ?_
         refine (List.Perm.swap _ _ _).trans (List.Perm.cons _ ?_)
         exact perm3 _ _ _ _ _
        clear hk11 hH HA HB
        obtain ⟨A2, hA2⟩ : ∃ A : Option Addr, some ⟨w13.heap.size, 0, none⟩ = A := ⟨_, rfl⟩
        rw [hA2] at hkE
        go_upto_region 21 with fail
        clear hA2
        generalize w13.alloc (.cells #[ptr gx, ptr gy, ptr gz] 159) = wE at *
        obtain ⟨n0, n1, n2, n3, n4, n5⟩ := (hkE.blk 1 rfl).get6
        simp only at n0 n1 n2 n3 n4 n5
        go_wp2_with fail
        go_ret
        refine TOut.node HVE.out (x.app (y.app z)) (by rw [LF.out_app, LF.out_app, hxo, hyo, hzo]) (kv := .slice A2 3 3) ?_
        exact cond_done ⟨7, 0, [], [], t.at_⟩ hkE
    | false =>
     rw [takeT, if_neg (by rw [hbt]; simp)] at hk8
     rw [if_neg (by rw [hbt]; simp)] at HV
     clear hbt
     go_wp2_with fail
     refine (zay Pa.kIn R _ w7 hk8.pr).mono ?_
     rintro e w8 ⟨rfl, hH⟩
     have hk9 := hk8.rd1 hH
     clear hk8 hH
     cases hin : Pa.isT Pa.kIn (t1 :: r1) with
     | true =>
      rw [takeT, if_pos hin] at hk9
      rw [if_pos hin] at HV
      have hk9 : Hp [R.gp, R.gt] W (ipr R r1 :: iblk gn 68 (ncs ⟨0, 0, [], [], t.at_⟩) :: x.its) w8 := hk9
      have hsr : r1 <:+ t :: q := (List.suffix_cons _ _).trans hkp.1
      obtain ⟨n0, n1, n2, n3, n4, n5⟩ := (hk9.blk 1 rfl).get6
      have f0 := (hk9.blk 1 rfl).frozen 0
      have hk10 : Hp [R.gp, R.gt] W (ipr R r1 :: iblk gn 68 (ncs ⟨8, 0, [], [], t.at_⟩) :: x.its) (w8.setCell ⟨gn, 0, none⟩ (.int .i64 8)) := hk9.set 1 rfl 0 (.int .i64 8)
      clear hk9 hin
      have HVE : Hid (Pa.condR (t :: q) = (Pa.needR Pa.sBra r1).then fun _ q => (Pa.listR Pa.leafR q.length q).then fun l q => (Pa.needR Pa.sKet q).then fun _ q => (some (Pa.F.cons ⟨8, 0, [], [], t.at_⟩ ((Pa.leaf a).app (Pa.F.cat l)) Pa.F.nil), q)) := hid HV.out
      clear HV
      go_wp2_with fail
      clear n0 n1 n2 n3 n4 n5 f0
      generalize w8.setCell ⟨gn, 0, none⟩ (.int .i64 8) = w10 at *
      have HN := hid (zbk Pa.sBra R r1 _ hk10.pr)
      have hkp3 := Pa.need_keeps Pa.sBra r1 hk10.pr.good
      generalize Pa.needR Pa.sBra r1 = x3 at *
      obtain ⟨o3, q3⟩ := x3
      simp only at hkp3
      cases o3 with
      | none =>
       rw [zan] at HN
       rw [Pa.then_none] at HVE
       refine HN.out.mono ?_
       rintro e w11 ⟨rfl, hH⟩
       unfold panP
       go_wp2_with fail
       exact ⟨rfl, TOut.bad HVE.out ((hk10.rd1 hH).sub (r := _ :: _))⟩
      | some u =>
       rw [zam] at HN
       rw [Pa.then_some] at HVE
       refine HN.out.mono ?_
       rintro e w11 ⟨rfl, hH⟩
       have hk11 := hk10.rd1 hH
       clear hk10 hH HN
       have hs3 := hkp3.1.trans hsr
       have hlen3 := hkp3.1.length_le
       have hk12 : Hp [R.gp, R.gt] W (ipr R q3 :: iblk gn 68 (ncs ⟨8, 0, [], [], t.at_⟩) :: iptrs (.slice (some ⟨w11.heap.size, 0, none⟩) 1 1) x.roots :: x.its) (w11.alloc (.cells #[ptr gx] 159)) := by
        have h1 := hk11.newrow 159 [ptr gx] (by unfold maxLen; simp)
        rw [hxr]
        exact h1.perm ((List.Perm.swap _ _ _).trans (List.Perm.cons _ (List.Perm.swap _ _ _)))
       have HLc := hid (list_any R 186 Pa.leafR q3 (reads_value R _) _ hk12.pr (hl.suf hs3))
       clear hk11
       generalize Pa.listR Pa.leafR q3.length q3 = x4 at *
       obtain ⟨o4, q4⟩ := x4
       cases o4 with
       | none =>
        rw [Pa.then_none] at HVE
        go_wp2_with fail
        refine HLc.out.mono ?_
        rintro e w12 ⟨rfl, hH⟩
        unfold panP
        go_wp2_with fail
        exact ⟨rfl, TOut.bad HVE.out ((hk12.rd1 hH).sub (r := _))⟩
       | some l =>
        rw [Pa.then_some] at HVE
        obtain ⟨i0, hi0, hz0, hz1, hz2⟩ := info_parts ptr_info
        go_wp2_with fail
        refine HLc.out.mono ?_
        rintro e w12 ⟨y, A4, c4, hyo, hyn, hyl, rfl, hH⟩
        have hk13 := hk12.rd hH
        have hk13 : Hp [R.gp, R.gt] W (ipr R q4 :: iptrs (.slice (some ⟨w11.heap.size, 0, none⟩) 1 1) x.roots :: iblk gn 68 (ncs ⟨8, 0, [], [], t.at_⟩) :: iptrs (.slice A4 y.roots.length c4) y.roots :: (x.app y).its) w12 := by
         rw [LF.its_app]
         refine hk13.perm (List.Perm.cons _ ?_)
         exact perm4 _ _ _ _ _
        clear hk12 hH HLc
        have hsz := hk13.size
        obtain ⟨g4, cap4, hv4, -⟩ := za5 (hk13.row 3 rfl) (List.length_pos_iff.2 hyn)
        have hA4 : A4 = some ⟨g4, 0, none⟩ := by injection hv4
        subst hA4
        clear hv4
        have hrow4 := fun j u => zaz (j := j) (u := u) (hk13.row 3 rfl)
        have hx1 : x.roots.length = 1 := by rw [hxr]; rfl
        have hp1 : ptrs x.roots = [ptr gx] := by rw [hxr]; rfl
        have hrw : w12.ownsRow 0 159 1 (.slice (some ⟨w11.heap.size, 0, none⟩) 1 1) 1 [ptr gx] := by
         have := hk13.row 1 rfl
         rwa [hx1, hp1] at this
        go_wp2_with (at_builtin; refine zac rfl _ _ 161 rfl 0 159 i0 _ 1 8 Tryz.underlying161 hi0 hz0 hz1 hz2 rfl (by decide) _ 1 [ptr gx] rfl hrw ⟨g4, 0, none⟩ y.roots.length c4 (ptrs y.roots) rfl (by simp [ptrs]) (fun j u hu => by rw [addr_add, Nat.zero_add]; exact hrow4 j u hu) (by intro u hu; obtain ⟨g, -, rfl⟩ := List.mem_map.1 hu; rfl) (List.length_pos_iff.2 hyn) (by unfold maxLen; omega) (by omega) (Nat.zero_le _) ?_; intro v' w13 hown hgrow hat)
        obtain ⟨A5, c5, rfl⟩ := zag hown
        have hpe : iptrs (.slice (some ⟨w11.heap.size, 0, none⟩) 1 1) x.roots = irow 159 1 (.slice (some ⟨w11.heap.size, 0, none⟩) 1 1) 1 [ptr gx] := by unfold iptrs; rw [hx1, hp1]
        rw [hpe] at hk13
        have hr : ptrs (x.app y).roots = [ptr gx] ++ ptrs y.roots := by rw [LF.roots_app, hxr]; rfl
        have hr2 : (x.app y).roots.length = 1 + y.roots.length := by rw [LF.roots_app, List.length_append, hx1]
        have hk14 : Hp [R.gp, R.gt] W (ipr R q4 :: iblk gn 68 (ncs ⟨8, 0, [], [], t.at_⟩) :: iptrs (.slice A5 (x.app y).roots.length c5) (x.app y).roots :: (x.app y).its) w13 := by
         have h1 := hk13.grown 1 rfl hown hgrow hat
         unfold iptrs
         rw [hr, hr2]
         refine (h1.perm ?_).sub (r := [iptrs (.slice (some ⟨g4, 0, none⟩) y.roots.length c4) y.roots])
         exact List.Perm.cons _ ((List.Perm.swap _ _ _).trans (List.Perm.cons _ (List.Perm.cons _ (List.perm_append_singleton _ _).symm)))
        rw [← hr2]
        clear hk13 hown hgrow hat hrw hrow4 hpe hr2 hr
        have HN := hid (zbk Pa.sKet R q4 _ hk14.pr)
        generalize Pa.needR Pa.sKet q4 = x5 at *
        obtain ⟨o5, q5⟩ := x5
        cases o5 with
        | none =>
         rw [zan] at HN
         rw [Pa.then_none] at HVE
         refine HN.out.mono ?_
         rintro e w14 ⟨rfl, hH⟩
         unfold panP
         go_wp2_with fail
         exact ⟨rfl, TOut.bad HVE.out ((hk14.rd1 hH).sub (r := _))⟩
        | some u2 =>
         rw [zam] at HN
         rw [Pa.then_some] at HVE
         refine HN.out.mono ?_
         rintro e w14 ⟨rfl, hH⟩
         have hkE := hk14.rd1 hH
         clear hk14 hH HN
         go_upto_region 21 with fail
         obtain ⟨n0, n1, n2, n3, n4, n5⟩ := (hkE.blk 1 rfl).get6
         simp only at n0 n1 n2 n3 n4 n5
         go_wp2_with fail
         go_ret
         refine TOut.node HVE.out (x.app y) (by rw [LF.out_app, hxo, hyo]) (kv := .slice A5 (x.app y).roots.length c5) ?_
         exact cond_done ⟨8, 0, [], [], t.at_⟩ hkE
     | false =>
      rw [takeT, if_neg (by rw [hin]; simp)] at hk9
      have HVE : Hid (Pa.condR (t :: q) = (none, t1 :: r1)) := hid (by rw [HV.out, if_neg (by rw [hin]; simp)])
      clear hin HV
      go_wp2_with fail
      refine (zc6 R t1 r1 _ hk9.pr).mono ?_
      rintro e w9 ⟨rfl, hH⟩
      unfold panP
      go_wp2_with fail
      exact ⟨rfl, TOut.bad HVE.out ((hk9.rd1 hH).sub (r := _))⟩
end Go.Proofs.YtekkapgknohadaaGreatDoor
