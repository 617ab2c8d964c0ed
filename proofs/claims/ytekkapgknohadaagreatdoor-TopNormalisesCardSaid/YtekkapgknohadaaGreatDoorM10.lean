/- The parser's reader: ref. -/
import Derived.Test.YtekkapgknohadaaGreatDoorM9
import Derived.Test.YtekkapgknohadaaGreatDoorM2
set_option linter.unusedVariables false
set_option maxRecDepth 20000
set_option maxHeartbeats 8000000
namespace Go.Proofs.YtekkapgknohadaaGreatDoor
open Go.RowKit Go.Shelf
open Lib (hid)
attribute [local go_sem] tf0 tf1 tf2
theorem zan {α : Type} (q : List Lx.Tok) (v : α → Value) : outN ((none, q) : Pa.Rd α) v = panP (Pa.atT q) := rfl
theorem zam {α : Type} (a : α) (q : List Lx.Tok) (v : α → Value) : outN ((some a, q) : Pa.Rd α) v = .returned (v a) := rfl
theorem ref_any (R : PR) (ts : List Lx.Tok) (W : World) (h : PRok R ts W) : Calls Tryz.prog 74 #[ptr R.gp] W fun e w' => e = outN (Pa.refR ts) (fun x => .agg #[Sv x.1, Sv x.2]) ∧ Hp [R.gp, R.gt] W [ipr R (Pa.refR ts).2] w' := by
 have hk0 := (h.self.new 89 [.string ⟨#[]⟩, .string ⟨#[]⟩]).perm (List.Perm.swap _ _ _)
 have HV : Hid (Pa.refR ts = (Pa.nameR ts).then fun a q => (Pa.needR Pa.sDot q).then fun _ q => (Pa.nameR q).then fun b q => (some (a, b), q)) := hid rfl
 have HN := hid (zb1 R ts _ hk0.pr)
 clear h
 generalize hg : W.heap.size = g at *
 generalize Pa.nameR ts = x1 at *
 obtain ⟨o1, q1⟩ := x1
 cases o1 with
 | none =>
  rw [zan] at HN
  rw [Pa.then_none] at HV
  go_enter Tryz.func74, Tryz.ntmps74
  go_wp2_with fail
  refine HN.out.mono ?_
  rintro e w1 ⟨rfl, hH⟩
  unfold panP
  go_wp2_with fail
  refine ⟨rfl, ?_⟩
  rw [HV.out]
  exact ⟨rfl, (hk0.rd1 hH).sub (r := [_])⟩
 | some a =>
  rw [zam] at HN
  rw [Pa.then_some] at HV
  go_enter Tryz.func74, Tryz.ntmps74
  go_wp2_with fail
  refine HN.out.mono ?_
  rintro e w1 ⟨rfl, hH⟩
  have hk1 := hk0.rd1 hH
  clear hH hk0 HN
  have HN := hid (zbk Pa.sDot R q1 _ hk1.pr)
  generalize Pa.needR Pa.sDot q1 = x2 at *
  obtain ⟨o2, q2⟩ := x2
  cases o2 with
  | none =>
   rw [zan] at HN
   rw [Pa.then_none] at HV
   go_wp2_with fail
   refine HN.out.mono ?_
   rintro e w2 ⟨rfl, hH⟩
   unfold panP
   go_wp2_with fail
   refine ⟨rfl, ?_⟩
   rw [HV.out]
   exact ⟨rfl, (hk1.rd1 hH).sub (r := [_])⟩
  | some u =>
   rw [zam] at HN
   rw [Pa.then_some] at HV
   go_wp2_with fail
   refine HN.out.mono ?_
   rintro e w2 ⟨rfl, hH⟩
   have hk2 := hk1.rd1 hH
   clear hH hk1 HN
   have HN := hid (zb1 R q2 _ hk2.pr)
   generalize Pa.nameR q2 = x3 at *
   obtain ⟨o3, q3⟩ := x3
   cases o3 with
   | none =>
    rw [zan] at HN
    rw [Pa.then_none] at HV
    go_wp2_with fail
    refine HN.out.mono ?_
    rintro e w3 ⟨rfl, hH⟩
    unfold panP
    go_wp2_with fail
    refine ⟨rfl, ?_⟩
    rw [HV.out]
    exact ⟨rfl, (hk2.rd1 hH).sub (r := [_])⟩
   | some b =>
    rw [zam] at HN
    rw [Pa.then_some] at HV
    go_wp2_with fail
    refine HN.out.mono ?_
    rintro e w3 ⟨rfl, hH⟩
    have hk3 := hk2.rd1 hH
    clear hH hk2 HN
    go_wp2_with (refine wpList_store_row rfl 89 (.tmp 2) (.tmp 11) rfl g ([Sv a, Sv b] : List Value).toArray rfl rfl 89 ([.string ⟨#[]⟩, .string ⟨#[]⟩] : List Value).toArray (hk3.blk 1 rfl) (by kernel_rfl) (by kernel_rfl) (by kernel_rfl) ?_)
    have hk4 := hk3.rowAt 1 rfl [Sv a, Sv b]
    obtain ⟨e0, e1⟩ := (hk4.blk 1 rfl).get2
    refine bodyPost_ret (v := .agg #[Sv a, Sv b]) (by simp [results, Tryz.results74, go_sem, e0, e1]) rfl ?_
    rw [HV.out]
    exact ⟨rfl, hk4.sub (r := [_])⟩
open Go.RowKit Go.Shelf
open Lib (hid)
attribute [local go_sem] tf0 tf1 tf2
inductive LF where
 | nil
 | cons (n : Pa.Nd) (g : Nat) (kv : Value) (kids rest : LF)
def LF.out : LF → Pa.F
 | .nil => .nil
 | .cons n _ _ k r => .cons n k.out r.out
def LF.app : LF → LF → LF
 | .nil, y => y
 | .cons n g kv k r, y => .cons n g kv k (r.app y)
def LF.roots : LF → List Nat
 | .nil => []
 | .cons _ g _ _ r => g :: r.roots
abbrev ptrs (l : List Nat) : List Value := l.map ptr
abbrev tcs (n : Pa.Nd) (kv : Value) : List Value := [.int .i64 (n.kind : Int), .int .i64 n.num, Sv n.name, Sv n.attr, .slice none 0 0, .int .i64 (n.at_ : Int), kv]
abbrev itree (n : Pa.Nd) (g : Nat) (kv : Value) : It := iblk g 163 (tcs n kv)
abbrev iptrs (v : Value) (l : List Nat) : It := irow 159 1 v l.length (ptrs l)
def LF.its : LF → List It
 | .nil => []
 | .cons n g kv k r => itree n g kv :: iptrs kv k.roots :: (k.its ++ r.its)
theorem LF.out_app (x y : LF) : (x.app y).out = x.out.app y.out := by
 induction x with
 | nil => rfl
 | cons n g kv k r _ ih => rw [LF.app, LF.out, LF.out, Pa.F.app, ih]
theorem LF.roots_app (x y : LF) : (x.app y).roots = x.roots ++ y.roots := by
 induction x with
 | nil => rfl
 | cons n g kv k r _ ih => rw [LF.app, LF.roots, LF.roots, ih]; rfl
theorem LF.its_app (x y : LF) : (x.app y).its = x.its ++ y.its := by
 induction x with
 | nil => rfl
 | cons n g kv k r _ ih => rw [LF.app, LF.its, LF.its, ih, List.cons_append, List.cons_append, List.append_assoc]
theorem LF.roots_len (x : LF) : x.roots.length = x.out.len := by
 induction x with
 | nil => rfl
 | cons n g kv k r _ ih => rw [LF.roots, LF.out, Pa.F.len, List.length_cons, ih]
def TOut (R : PR) (W : World) (r : Pa.Rd Pa.F) (e : Ending) (w' : World) : Prop :=
 match r.1 with
 | none => e = panP (Pa.atT r.2) ∧ Hp [R.gp, R.gt] W [ipr R r.2] w'
 | some f => ∃ x g, LF.out x = f ∧ x.roots = [g] ∧ e = .returned (ptr g) ∧ Hp [R.gp, R.gt] W (ipr R r.2 :: x.its) w'
theorem TOut.bad {R : PR} {W : World} {r : Pa.Rd Pa.F} {q : List Lx.Tok} {w' : World} (h : r = (none, q)) (hH : Hp [R.gp, R.gt] W [ipr R q] w') : TOut R W r (panP (Pa.atT q)) w' := by subst h; exact ⟨rfl, hH⟩
theorem TOut.leaf {R : PR} {W : World} {r : Pa.Rd Pa.F} {n : Pa.Nd} {q : List Lx.Tok} {w' : World} {g : Nat} (h : r = (some (Pa.leaf n), q)) (hH : Hp [R.gp, R.gt] W [ipr R q, itree n g (.slice none 0 0)] w') : TOut R W r (.returned (ptr g)) w' := by
 subst h
 refine ⟨.cons n g (.slice none 0 0) .nil .nil, g, rfl, rfl, rfl, ?_⟩
 exact (hH.nilrow 159 1).perm ((List.Perm.swap _ _ _).trans (List.Perm.cons _ (List.Perm.swap _ _ _)))
abbrev zNd : List Value := [.int .i64 0, .int .i64 0, .string ⟨#[]⟩, .string ⟨#[]⟩, .slice none 0 0, .int .i64 0]
abbrev ncs (n : Pa.Nd) : List Value := [.int .i64 (n.kind : Int), .int .i64 n.num, Sv n.name, Sv n.attr, .slice none 0 0, .int .i64 (n.at_ : Int)]
def Shorts (ts : List Lx.Tok) : Prop := ∀ t ∈ ts, t.text.length ≤ 100000
theorem value_any (R : PR) (ts : List Lx.Tok) (W : World) (h : PRok R ts W) (hl : Shorts ts) : Calls Tryz.prog 186 #[ptr R.gp] W fun e w' => TOut R W (Pa.leafR ts) e w' := by
 obtain ⟨t, q, rfl⟩ := h.cons
 have HT := hid (za1 R t q W h)
 have hS := h.self
 clear h
 have HV : Hid (Pa.leafR (t :: q) = (if Pa.isN (t :: q) then (Pa.refR (t :: q)).then fun x q => (some ⟨9, 0, x.1, x.2, t.at_⟩, q)
  else if Pa.isW (t :: q) then (Pa.wordR (t :: q)).then fun x q => (some ⟨11, 0, x, [], t.at_⟩, q)
  else if Pa.isM (t :: q) then (Pa.numR (t :: q)).then fun x q => (some ⟨10, x, [], [], t.at_⟩, q)
  else (none, t :: q) : Pa.Rd Pa.Nd).then fun n q => (some (Pa.leaf n), q)) := hid rfl
 go_enter Tryz.func186, Tryz.ntmps186
 go_wp2_with fail
 refine HT.out.mono ?_
 rintro e w1 ⟨rfl, hb⟩
 have hk1 := hS.next hb
 obtain ⟨g, hg⟩ : ∃ g, w1.heap.size = g := ⟨_, rfl⟩
 have hk2 : Hp [R.gp, R.gt] W [ipr R (t :: q), iblk g 68 (ncs ⟨0, 0, [], [], t.at_⟩)] (w1.alloc (.cells #[.int .i64 0, .int .i64 0, .string ⟨#[]⟩, .string ⟨#[]⟩, .slice none 0 0, .int .i64 (t.at_ : Int)] 68)) := by
  rw [← hg]
  exact (hk1.new 68 (ncs ⟨0, 0, [], [], t.at_⟩)).perm (List.Perm.swap _ _ _)
 clear hk1 hS hb HT
 unfold tokV
 go_wp2_with fail
 clear hg
 generalize w1.alloc (.cells #[.int .i64 0, .int .i64 0, .string ⟨#[]⟩, .string ⟨#[]⟩, .slice none 0 0, .int .i64 (t.at_ : Int)] 68) = w2 at *
 refine (isName_any R _ _ hk2.pr).mono ?_
 rintro e w3 ⟨rfl, hb⟩
 have hk3 := hk2.next hb
 clear hk2 hb
 cases h1 : Pa.isN (t :: q) with
 | true =>
  have HN := hid (ref_any R (t :: q) _ hk3.pr)
  have HV2 : Hid (Pa.leafR (t :: q) = ((Pa.refR (t :: q)).then fun x q => (some (Pa.leaf ⟨9, 0, x.1, x.2, t.at_⟩), q))) := hid (by
   rw [HV.out, if_pos h1]
   generalize Pa.refR (t :: q) = x
   obtain ⟨o, q⟩ := x
   cases o <;> rfl)
  clear HV h1
  generalize Pa.refR (t :: q) = x1 at *
  obtain ⟨o1, q1⟩ := x1
  cases o1 with
  | none =>
   rw [zan] at HN
   rw [Pa.then_none] at HV2
   go_wp2_with fail
   refine HN.out.mono ?_
   rintro e w4 ⟨rfl, hH⟩
   unfold panP
   go_wp2_with fail
   exact ⟨rfl, TOut.bad HV2.out ((hk3.rd1 hH).sub (r := [_]))⟩
  | some x =>
   rw [zam] at HN
   rw [Pa.then_some] at HV2
   go_wp2_with fail
   refine HN.out.mono ?_
   rintro e w4 ⟨rfl, hH⟩
   have hk4 := hk3.rd1 hH
   clear hH hk3 HN
   obtain ⟨a, b⟩ := x
   obtain ⟨g2, hg2⟩ : ∃ g, w4.heap.size = g := ⟨_, rfl⟩
   have hk5 : Hp [R.gp, R.gt] W [ipr R q1, iblk g 68 (ncs ⟨0, 0, [], [], t.at_⟩), iblk g2 89 [Sv a, Sv b]] (w4.alloc (.cells #[Sv a, Sv b] 89)) := by
    rw [← hg2]
    exact (hk4.new 89 [Sv a, Sv b]).perm ((List.Perm.swap _ _ _).trans (List.Perm.cons _ (List.Perm.swap _ _ _)))
   clear hk4
   go_wp2_with fail
   generalize w4.alloc (.cells #[.string (bs a), .string (bs b)] 89) = w5 at *
   obtain ⟨d0, d1⟩ := (hk5.blk 2 rfl).get2
   obtain ⟨c0, c1, c2, c3, c4, c5⟩ := (hk5.blk 1 rfl).get6
   have f0 := (hk5.blk 1 rfl).frozen 0
   have f2 := (hk5.blk 1 rfl).frozen 2
   have f3 := (hk5.blk 1 rfl).frozen 3
   have hne : g2 ≠ g := by
    have := hk5.ne
    simp [iblk, ipr] at this
    omega
   have hne2 : g ≠ g2 := fun h => hne h.symm
   have hk6 : Hp [R.gp, R.gt] W [ipr R q1, iblk g 68 (ncs ⟨9, 0, a, b, t.at_⟩), iblk g2 89 [Sv a, Sv b]] (((w5.setCell ⟨g, 0, none⟩ (.int .i64 9)).setCell ⟨g, 2, none⟩ (Sv a)).setCell ⟨g, 3, none⟩ (Sv b)).drew :=
    (((hk5.set 1 rfl 0 (.int .i64 9)).set 1 rfl 2 (Sv a)).set 1 rfl 3 (Sv b)).drew
   go_region
   clear c0 c1 c2 c3 c4 c5 d0 d1 f0 f2 f3 hne hne2 hk5
   generalize (((w5.setCell ⟨g, 0, none⟩ (.int .i64 9)).setCell ⟨g, 2, none⟩ (Sv a)).setCell ⟨g, 3, none⟩ (Sv b)).drew = w6 at *
   obtain ⟨c0, c1, c2, c3, c4, c5⟩ := (hk6.blk 1 rfl).get6
   simp only at c0 c1 c2 c3 c4 c5
   go_wp2_with fail
   go_ret
   refine TOut.leaf HV2.out ?_
   exact ((hk6.new 163 (tcs ⟨9, 0, a, b, t.at_⟩ (.slice none 0 0))).perm (List.Perm.swap _ _ _)).sub (r := [_, _])
 | false =>
  go_wp2_with fail
  refine (isWord_any R _ _ hk3.pr).mono ?_
  rintro e w4 ⟨rfl, hb⟩
  have hk4 := hk3.next hb
  clear hk3 hb
  cases h2 : Pa.isW (t :: q) with
  | true =>
   have HN := hid (word_any R (t :: q) _ hk4.pr)
   have HV2 : Hid (Pa.leafR (t :: q) = ((Pa.wordR (t :: q)).then fun x q => (some (Pa.leaf ⟨11, 0, x, [], t.at_⟩), q))) := hid (by
    rw [HV.out, if_neg (by rw [h1]; simp), if_pos h2]
    generalize Pa.wordR (t :: q) = x
    obtain ⟨o, q⟩ := x
    cases o <;> rfl)
   clear HV
   generalize Pa.wordR (t :: q) = x1 at *
   obtain ⟨o1, q1⟩ := x1
   cases o1 with
   | none =>
    rw [zan] at HN
    rw [Pa.then_none] at HV2
    go_wp2_with fail
    refine HN.out.mono ?_
    rintro e w9 ⟨rfl, hH⟩
    unfold panP
    go_wp2_with fail
    exact ⟨rfl, TOut.bad HV2.out ((hk4.rd1 hH).sub (r := [_]))⟩
   | some x =>
    rw [zam] at HN
    rw [Pa.then_some] at HV2
    go_wp2_with fail
    refine HN.out.mono ?_
    rintro e w9 ⟨rfl, hH⟩
    have hk5 := hk4.rd1 hH
    clear hH HN
    obtain ⟨c0, c1, c2, c3, c4, c5⟩ := (hk5.blk 1 rfl).get6
    have f0 := (hk5.blk 1 rfl).frozen 0
    have f1 := (hk5.blk 1 rfl).frozen 2
    simp only at c0 c1 c2 c3 c4 c5
    have hk6 : Hp [R.gp, R.gt] W [ipr R q1, iblk g 68 (ncs ⟨11, 0, x, [], t.at_⟩)] ((w9.setCell ⟨g, 0, none⟩ (.int .i64 11)).setCell ⟨g, 2, none⟩ (Sv x)) :=
     (hk5.set 1 rfl 0 (.int .i64 11)).set 1 rfl 2 (Sv x)
    go_upto_region 10 with fail
    clear c0 c1 c2 c3 c4 c5 f0 f1 hk5
    generalize (w9.setCell ⟨g, 0, none⟩ (.int .i64 11)).setCell ⟨g, 2, none⟩ (Sv x) = w10 at *
    obtain ⟨c0, c1, c2, c3, c4, c5⟩ := (hk6.blk 1 rfl).get6
    simp only at c0 c1 c2 c3 c4 c5
    go_wp2_with fail
    go_ret
    refine TOut.leaf HV2.out ?_
    exact ((hk6.new 163 (tcs ⟨11, 0, x, [], t.at_⟩ (.slice none 0 0))).perm (List.Perm.swap _ _ _)).sub (r := [_])
  | false =>
   have HT := hid (za1 R t q _ hk4.pr)
   cases h3 : Pa.isM (t :: q) with
   | true =>
    have hd : ((t.kind : Int) == 1) = true := (kindI (n := 1)).trans (by rw [Pa.isM] at h3; exact h3)
    have hl9 := hl
    go_wp2_with fail
    refine HT.out.mono ?_
    rintro e w8 ⟨rfl, hb⟩
    have hk8 := hk4.next hb
    clear hk4 hb HT
    unfold tokV
    have HN := hid (zbq R (t :: q) _ hk8.pr hl)
    have HV2 : Hid (Pa.leafR (t :: q) = ((Pa.numR (t :: q)).then fun x q => (some (Pa.leaf ⟨10, x, [], [], t.at_⟩), q))) := hid (by
     rw [HV.out, if_neg (by rw [h1]; simp), if_neg (by rw [h2]; simp), if_pos h3]
     generalize Pa.numR (t :: q) = x
     obtain ⟨o, q⟩ := x
     cases o <;> rfl)
    clear HV
    generalize Pa.numR (t :: q) = x1 at *
    obtain ⟨o1, q1⟩ := x1
    cases o1 with
    | none =>
     rw [zan] at HN
     rw [Pa.then_none] at HV2
     go_wp2_with fail
     refine HN.out.mono ?_
     rintro e w9 ⟨rfl, hH⟩
     unfold panP
     go_wp2_with fail
     exact ⟨rfl, TOut.bad HV2.out ((hk8.rd1 hH).sub (r := [_]))⟩
    | some x =>
     rw [zam] at HN
     rw [Pa.then_some] at HV2
     go_wp2_with fail
     refine HN.out.mono ?_
     rintro e w9 ⟨rfl, hH⟩
     have hk5 := hk8.rd1 hH
     clear hH HN
     obtain ⟨c0, c1, c2, c3, c4, c5⟩ := (hk5.blk 1 rfl).get6
     have f0 := (hk5.blk 1 rfl).frozen 0
     have f1 := (hk5.blk 1 rfl).frozen 1
     simp only at c0 c1 c2 c3 c4 c5
     have hk6 : Hp [R.gp, R.gt] W [ipr R q1, iblk g 68 (ncs ⟨10, x, [], [], t.at_⟩)] ((w9.setCell ⟨g, 0, none⟩ (.int .i64 10)).setCell ⟨g, 1, none⟩ (.int .i64 x)) :=
      (hk5.set 1 rfl 0 (.int .i64 10)).set 1 rfl 1 (.int .i64 x)
     go_upto_region 10 with fail
     clear c0 c1 c2 c3 c4 c5 f0 f1 hk5
     generalize (w9.setCell ⟨g, 0, none⟩ (.int .i64 10)).setCell ⟨g, 1, none⟩ (.int .i64 x) = w10 at *
     obtain ⟨c0, c1, c2, c3, c4, c5⟩ := (hk6.blk 1 rfl).get6
     simp only at c0 c1 c2 c3 c4 c5
     go_wp2_with fail
     go_ret
     refine TOut.leaf HV2.out ?_
     exact ((hk6.new 163 (tcs ⟨10, x, [], [], t.at_⟩ (.slice none 0 0))).perm (List.Perm.swap _ _ _)).sub (r := [_])
   | false =>
    have hd : ((t.kind : Int) == 1) = false := (kindI (n := 1)).trans (by rw [Pa.isM] at h3; exact h3)
    have HV2 : Hid (Pa.leafR (t :: q) = (none, t :: q)) := hid (by rw [HV.out, if_neg (by rw [h1]; simp), if_neg (by rw [h2]; simp), if_neg (by rw [h3]; simp)]; rfl)
    clear HV h1 h2 h3
    go_wp2_with fail
    refine HT.out.mono ?_
    rintro e w8 ⟨rfl, hb⟩
    have hk8 := hk4.next hb
    clear hk4 hb HT
    unfold tokV
    go_wp2_with fail
    refine (zc6 R t q _ hk8.pr).mono ?_
    rintro e w9 ⟨rfl, hH⟩
    unfold panP
    go_wp2_with fail
    exact ⟨rfl, TOut.bad HV2.out ((hk8.rd1 hH).sub (r := [_]))⟩
open Go.RowKit Go.Shelf
open Lib (hid)
theorem Hp.newrow {o : List Nat} {w W : World} {it : List It} (h : Hp o w it W) (e : TypeId) (xs : List Value) (hm : xs.length ≤ maxLen) : Hp o w (irow e 1 (.slice (some ⟨W.heap.size, 0, none⟩) xs.length xs.length) xs.length xs :: it) (W.alloc (.cells xs.toArray e)) := by
 have hB : Blk (W.alloc (.cells xs.toArray e)) W.heap.size e xs := Blk.new _ _ _
 have h1 : Hp (ow []) W [irow e 1 (.slice (some ⟨W.heap.size, 0, none⟩) xs.length xs.length) xs.length xs] (W.alloc (.cells xs.toArray e)) := by
  refine ⟨⟨fun x hx => ?_, by simp [irow, Value.ownBlock]⟩, ⟨(Below.refl _ _).alloc (Nat.zero_le _) _, fun k hk _ => Below.heap_alloc _ _ _ hk, fun b hb => .inr ?_⟩⟩
  ·rw [List.mem_singleton.1 hx]
   exact ⟨by rw [Nat.mul_one], .inr ⟨W.heap.size, xs.length, xs.toArray, rfl, Nat.zero_le _, hB, Nat.le_refl _, hm, by simp, by simp⟩⟩
  ·simp [irow, Value.ownBlock] at hb; omega
 exact Hp.call (a := []) h h1
theorem new1p (w : World) (t : TypeId) (a : Value) : ∀ (j : Nat) u, [a][j]? = some u → (w.alloc (.cells #[a] t)).cell? ((⟨w.heap.size, 0, none⟩ : Addr).add j) = some u := by
 intro j u hu
 have e : (⟨w.heap.size, 0, none⟩ : Addr).add j = ⟨w.heap.size, j, none⟩ := by unfold Addr.add; split <;> simp_all
 rw [e, (show Blk (w.alloc (.cells #[a] t)) w.heap.size t [a] from Blk.new w t [a]).cell j]
 exact hu
theorem ptr_info : (Tryz.prog.info? 159).map (fun i => (i.zero, i.size, i.bytes)) = some (some (.pointer none), 1, 8) := by kernel_rfl
def LOut (R : PR) (W : World) (r : Pa.Rd (List Pa.F)) (e : Ending) (w' : World) : Prop :=
 match r.1 with
 | none => e = panP (Pa.atT r.2) ∧ Hp [R.gp, R.gt] W [ipr R r.2] w'
 | some l => ∃ x A c, LF.out x = Pa.F.cat l ∧ x.roots ≠ [] ∧ x.roots.length ≤ 100000 ∧ e = .returned (.slice A x.roots.length c) ∧ Hp [R.gp, R.gt] W (ipr R r.2 :: iptrs (.slice A x.roots.length c) x.roots :: x.its) w'
theorem LOut.bad {R : PR} {W : World} {r : Pa.Rd (List Pa.F)} {q : List Lx.Tok} {w' : World} (h : r = (none, q)) (hH : Hp [R.gp, R.gt] W [ipr R q] w') : LOut R W r (panP (Pa.atT q)) w' := by subst h; exact ⟨rfl, hH⟩
structure Reads (R : PR) (f : FuncId) (rd : List Lx.Tok → Pa.Rd Pa.F) (m : Nat) : Prop where
 enters : ∀ args w, (callFunc f args).run Tryz.prog w = .ok (.enter f args) w
 keeps : Pa.Keeps rd
 calls : ∀ ts W, ts.length ≤ m → PRok R ts W → Shorts ts → Calls Tryz.prog f #[ptr R.gp] W (TOut R W (rd ts))
def contL (rd : List Lx.Tok → Pa.Rd Pa.F) (acc : List Pa.F) (k : Nat) (q : List Lx.Tok) : Pa.Rd (List Pa.F) :=
 if Pa.isT Pa.sComma q then (Pa.listR rd k q.tail).then fun l q => (some (acc ++ l), q) else (some acc, q)
theorem listR_cont (rd : List Lx.Tok → Pa.Rd Pa.F) (k : Nat) (ts : List Lx.Tok) {a : Pa.F} {q : List Lx.Tok} (h : rd ts = (some a, q)) : Pa.listR rd (k + 1) ts = contL rd [a] k q := by
 rw [Pa.listR, h, Pa.then_some]; rfl
theorem contL_step (rd : List Lx.Tok → Pa.Rd Pa.F) (acc : List Pa.F) (k : Nat) (q : List Lx.Tok) (hc : Pa.isT Pa.sComma q = true) {a : Pa.F} {q' : List Lx.Tok} (h : rd q.tail = (some a, q')) : contL rd acc (k + 1) q = contL rd (acc ++ [a]) k q' := by
 rw [contL, if_pos hc, listR_cont rd k q.tail h, contL, contL]
 split
 ·generalize Pa.listR rd k q'.tail = x
  obtain ⟨o, r⟩ := x
  cases o with
  | none => rfl
  | some l => simp
 ·rfl
theorem contL_bad (rd : List Lx.Tok → Pa.Rd Pa.F) (acc : List Pa.F) (k : Nat) (q : List Lx.Tok) (hc : Pa.isT Pa.sComma q = true) {q' : List Lx.Tok} (h : rd q.tail = (none, q')) : contL rd acc (k + 1) q = (none, q') := by
 rw [contL, if_pos hc, Pa.listR, h]; rfl
theorem Shorts.suf {q ts : List Lx.Tok} (h : Shorts ts) (hq : q <:+ ts) : Shorts q := fun t ht => h t (hq.subset ht)
theorem list_any (R : PR) (f : FuncId) (rd : List Lx.Tok → Pa.Rd Pa.F) (ts : List Lx.Tok) (hf : Reads R f rd ts.length) (W : World) (h : PRok R ts W) (hsh : Shorts ts) :
 Calls Tryz.prog 143 #[ptr R.gp, .func (.func f) #[ptr R.gp] #[]] W (LOut R W (Pa.listR rd ts.length ts)) := by
 have hen := hf.enters
 have HF := hid hf
 have hS := h.self
 have hg := h.good
 have hlen := h.len
 have hsl := h.suf.length_le
 obtain ⟨i0, hi0, hz0, hz1, hz2⟩ := info_parts ptr_info
 obtain ⟨m, hm⟩ : ∃ m, ts.length = m + 1 := by
  obtain ⟨t, q, rfl⟩ := h.cons
  exact ⟨q.length, rfl⟩
 have HM := hid hm
 have HC := hid (hf.calls ts W (Nat.le_refl _) h hsh)
 clear h
 have hkp := hf.keeps ts hg
 clear hf hm
 generalize hx1 : rd ts = x1 at *
 obtain ⟨o1, q1⟩ := x1
 simp only at hkp
 cases o1 with
 | none =>
  have HV : Hid (Pa.listR rd ts.length ts = (none, q1)) := hid (by rw [HM.out, Pa.listR, hx1]; rfl)
  go_enter Tryz.func143, Tryz.ntmps143
  go_wp2_with fail
  refine HC.out.mono ?_
  rintro e w1 ⟨rfl, hH⟩
  unfold panP
  go_wp2_with fail
  exact ⟨rfl, LOut.bad HV.out hH⟩
 | some f1 =>
  have HV : Hid (Pa.listR rd ts.length ts = contL rd [f1] m q1) := hid (by rw [HM.out]; exact listR_cont rd m ts hx1)
  clear hx1
  go_enter Tryz.func143, Tryz.ntmps143
  go_wp2_with fail
  refine HC.out.mono ?_
  rintro e w1 ⟨x, g, hxo, hxr, rfl, hH⟩
  have hm2 : q1.length ≤ m + 1 := by have := hkp.1.length_le; have := HM.out; omega
  have hm3 : m < 65537 := by have := HM.out; omega
  have hk0 : Hp [R.gp, R.gt] W (ipr R q1 :: iptrs (.slice (some ⟨w1.heap.size, 0, none⟩) 1 1) x.roots :: x.its) (w1.alloc (.cells #[ptr g] 159)) := by
   have h1 := hH.newrow 159 [ptr g] (by unfold maxLen; simp)
   rw [hxr]
   exact h1.perm (List.Perm.swap _ _ _)
  clear hH hS HC
  go_upto_region 2 with fail
  generalize w1.alloc (.cells #[ptr g] 159) = w2 at *
  generalize (some ⟨w1.heap.size, 0, none⟩ : Option Addr) = A0 at *
  go_loopg [5] (q1.length + 1) (fun n s5 wx => ∃ (k : Nat) (q : List Lx.Tok) (x : LF) (acc : List Pa.F) (A : Option Addr) (c : Nat), n = q.length + 1 ∧ s5 = .slice A x.roots.length c ∧ Hp [R.gp, R.gt] W (ipr R q :: iptrs (.slice A x.roots.length c) x.roots :: x.its) wx ∧ q.length ≤ k + 1 ∧ x.roots.length + q.length ≤ m + 2 ∧ Hid (q <:+ ts ∧ Pa.Good q ∧ x.roots ≠ [] ∧ LF.out x = Pa.F.cat acc ∧ Pa.listR rd ts.length ts = contL rd acc k q))
  case atStart =>
   refine ⟨m, q1, x, [f1], A0, 1, rfl, by rw [hxr]; rfl, ?_, hm2, by rw [hxr]; simp; omega, hid ⟨hkp.1, hkp.2, by rw [hxr]; simp, by rw [hxo]; exact (Pa.F.app_nil _).symm, HV.out⟩⟩
   have e9 : x.roots.length = 1 := by rw [hxr]; rfl
   rw [e9]
   exact hk0
  case round =>
   obtain ⟨k, q, y, acc, A, c, rfl, rfl, hM, hqk, hrl, HE⟩ := hrel
   clear hk0 HV hkp hxo hxr
   go_wp2_with fail
   refine (zay Pa.sComma R q wr hM.pr).mono ?_
   rintro e w3 ⟨rfl, hH⟩
   have hM1 := hM.rd1 hH
   clear hM hH
   cases hq : Pa.isT Pa.sComma q with
   | false =>
    have HR : Hid (Pa.listR rd ts.length ts = (some acc, q) ∧ y.roots ≠ [] ∧ LF.out y = Pa.F.cat acc) := hid ⟨by rw [HE.out.2.2.2.2, contL, if_neg (by rw [hq]; simp)], HE.out.2.2.1, HE.out.2.2.2.1⟩
    rw [takeT, if_neg (by rw [hq]; simp)] at hM1
    clear HE hq
    go_wp2_with fail
    go_ret
    unfold LOut
    rw [HR.out.1]
    exact ⟨y, A, c, HR.out.2.2, HR.out.2.1, by omega, rfl, hM1⟩
   | true =>
    rw [takeT, if_pos hq] at hM1
    have hgq := HE.out.2.1
    have hsq := HE.out.1
    have ht1 := Pa.tail_lt hgq
    have hgt := hgq.isT hq
    have hst := (List.tail_suffix q).trans hsq
    have hstl := hst.length_le
    have HC := hid (HF.out.calls q.tail w3 hstl hM1.pr (hsh.suf hst))
    have hkp := HF.out.keeps q.tail hgt
    obtain ⟨k, rfl⟩ : ∃ j, k = j + 1 := ⟨k - 1, by
     have h9 : 0 < q.tail.length := List.length_pos_iff.2 hgt.ne
     omega⟩
    generalize hx1 : rd q.tail = x1 at *
    obtain ⟨o1, q2⟩ := x1
    simp only at hkp
    cases o1 with
    | none =>
     have HR : Hid (Pa.listR rd ts.length ts = (none, q2)) := hid (by rw [HE.out.2.2.2.2]; exact contL_bad rd acc k q hq hx1)
     clear HE hq hx1 hgq hsq hgt hst hstl ht1
     go_wp2_with fail
     refine HC.out.mono ?_
     rintro e w4 ⟨rfl, hH⟩
     unfold panP
     go_wp2_with fail
     exact ⟨rfl, LOut.bad HR.out ((hM1.rd1 hH).sub (r := _ :: _))⟩
    | some f2 =>
     have HR : Hid (Pa.listR rd ts.length ts = contL rd (acc ++ [f2]) k q2 ∧ y.roots ≠ [] ∧ LF.out y = Pa.F.cat acc) := hid ⟨by rw [HE.out.2.2.2.2]; exact contL_step rd acc k q hq hx1, HE.out.2.2.1, HE.out.2.2.2.1⟩
     have hs2 := hkp.1.trans hst
     have hl2 := hkp.1.length_le
     clear HE hq hx1 hgq hsq hgt hst hstl
     go_wp2_with fail
     refine HC.out.mono ?_
     rintro e w4 ⟨z, gz, hzo, hzr, rfl, hH⟩
     have hM2 : Hp [R.gp, R.gt] W (ipr R q2 :: iptrs (.slice A y.roots.length c) y.roots :: (y.app z).its) w4 := by
      rw [LF.its_app]
      refine (hM1.rd hH).perm (List.Perm.cons _ ?_)
      refine (List.perm_append_comm (l₁ := z.its)).trans ?_
      exact .refl _
     have hsz := hM2.size
     clear hM1 hH HC
     go_wp2_with (at_builtin; refine zac rfl _ _ 161 rfl 0 159 i0 _ 1 8 Tryz.underlying161 hi0 hz0 hz1 hz2 rfl (by decide) _ y.roots.length (ptrs y.roots) rfl ((hM2.alloc _).row 1 rfl) ⟨w4.heap.size, 0, none⟩ 1 1 [ptr gz] rfl rfl (new1p _ _ _) (by intro u hu; simp at hu; rw [hu]; rfl) (by decide) (by unfold maxLen; omega) (by omega) (Nat.zero_le _) ?_; intro v' w5 hown hgrow hat)
     obtain ⟨A2, c2, rfl⟩ := zag hown
     have hM3 := (hM2.alloc (.cells #[ptr gz] 159)).grown 1 rfl hown hgrow hat
     have hr2 : (y.app z).roots = y.roots ++ [gz] := by rw [LF.roots_app, hzr]
     have hM4 : Hp [R.gp, R.gt] W (ipr R q2 :: iptrs (.slice A2 (y.app z).roots.length c2) (y.app z).roots :: (y.app z).its) w5 := by
      rw [hr2]
      have e1 : ptrs y.roots ++ [ptr gz] = ptrs (y.roots ++ [gz]) := by simp [ptrs]
      have e2 : (y.roots ++ [gz]).length = y.roots.length + 1 := by simp
      unfold iptrs
      rw [e2, ← e1]
      exact hM3
     have e2 : (y.app z).roots.length = y.roots.length + 1 := by rw [hr2]; simp
     clear hM2 hM3 hown hgrow hat
     rw [← e2]
     go_wp2_with fail
     go_roundg (q2.length + 1)
     case measure => omega
     case rel => exact ⟨k, q2, y.app z, acc ++ [f2], A2, c2, rfl, rfl, hM4, by omega, by omega, hid ⟨hs2, hkp.2, by rw [hr2]; simp, by rw [LF.out_app, HR.out.2.2, hzo, Pa.F.cat_snoc], HR.out.1⟩⟩
open Go.RowKit Go.Shelf
open Lib (hid)
theorem idx_bs (t : Pa.Tx) : ∀ (l : List Pa.Tx) (i : Nat), Lib.idxFromS (l.map bs) (bs t) i = (match l.findIdx? (fun s => s == t) with
 | some k => ((i + k : Nat) : Int)
 | none => -1)
 | [], i => rfl
 | a :: l, i => by
  rw [List.map_cons, Lib.idxFromS, List.findIdx?_cons]
  by_cases h : a = t
  ·subst h; simp
  ·have h2 : ¬ bs a = bs t := fun e => h (bs_inj.1 e)
   have h3 : (a == t) = false := by simpa using h
   rw [if_neg h2, idx_bs t l (i + 1), h3]
   cases hf : l.findIdx? (fun s => s == t) with
   | none => simp
   | some k =>
    show ((i + 1 + k : Nat) : Int) = ((i + (k + 1) : Nat) : Int)
    congr 1
    omega
abbrev cmpsV : List Value := [.string ⟨#[61]⟩, .string ⟨#[33, 61]⟩, .string ⟨#[60]⟩, .string ⟨#[60, 61]⟩, .string ⟨#[62]⟩, .string ⟨#[62, 61]⟩]
abbrev icmps (g : Nat) : It := iblk g 9 cmpsV
theorem cmps_cells {W : World} {g : Nat} (h : Blk W g 9 cmpsV) : ∀ j, j < (Pa.cmps.map bs).length → W.cell? ⟨g, 0 + j, none⟩ = some (.string ((Pa.cmps.map bs).getD j ByteArray.empty)) := by
 intro j hj
 rw [Nat.zero_add, h.cell j]
 have hj : j < 6 := hj
 match j, hj with
 | 0, _ => rfl
 | 1, _ => rfl
 | 2, _ => rfl
 | 3, _ => rfl
 | 4, _ => rfl
 | 5, _ => rfl
theorem cmps_take : (Pa.cmps.map bs).take 6 = Pa.cmps.map bs := rfl
def cmpT (t : Pa.Tx) : Option Nat := Pa.cmps.findIdx? fun s => s == t
theorem contains_any (t : Pa.Tx) (g : Nat) (W : World) (h : Blk W g 9 cmpsV) : Calls Tryz.prog 86 #[.slice (some ⟨g, 0, none⟩) 6 6, .string (bs t)] W fun e w' => e = .returned (.bool (cmpT t).isSome) ∧ w' = W := by
 refine (Tryz.slices_Contains_string g 0 6 6 (Pa.cmps.map bs) (bs t) W (by decide) (by decide) (cmps_cells h)).mono ?_
 rintro e w' ⟨rfl, rfl⟩
 refine ⟨?_, rfl⟩
 refine zap ?_
 rw [cmps_take, Lib.containsS, Lib.idxOfS, idx_bs]
 show _ = (cmpT t).isSome
 unfold cmpT
 cases Pa.cmps.findIdx? (fun s => s == t) with
 | none => rfl
 | some k => simp
theorem index_any (t : Pa.Tx) (k : Nat) (hk : cmpT t = some k) (g : Nat) (W : World) (h : Blk W g 9 cmpsV) : Calls Tryz.prog 152 #[.slice (some ⟨g, 0, none⟩) 6 6, .string (bs t)] W fun e w' => e = .returned (.int .i64 (k : Int)) ∧ w' = W := by
 refine (Tryz.slices_Index_string g 0 6 6 (Pa.cmps.map bs) (bs t) W (by decide) (by decide) (cmps_cells h)).mono ?_
 rintro e w' ⟨rfl, rfl⟩
 refine ⟨?_, rfl⟩
 refine zax ?_
 rw [cmps_take, Lib.idxOfS, idx_bs]
 unfold cmpT at hk
 rw [hk]
 simp
theorem comparisons_any (W : World) : Calls Tryz.prog 187 #[] W fun e w' => e = .returned (.slice (some ⟨W.heap.size, 0, none⟩) 6 6) ∧ Hp [] W [icmps W.heap.size] w' := by
 go_enter Tryz.func187, Tryz.ntmps187
 go_wp2_with fail
 go_ret
 exact ⟨rfl, (Hp.start W).new 9 cmpsV⟩
theorem cmpOf_eq (t : Lx.Tok) (q : List Lx.Tok) : Pa.cmpOf (t :: q) = if t.kind == 2 then cmpT t.text else none := rfl
end Go.Proofs.YtekkapgknohadaaGreatDoor
