/-
  Trees in memory; the parser's reader: value.
-/
import Derived.Test.YtminghdnclpocaaGreatDoorPbC
namespace Go.Proofs.YtminghdnclpocaaGreatDoor
open Go.RowKit Go.Shelf
set_option linter.unusedVariables false
attribute [local go_sem] tf0 tf1 tf2

/-- trees that stand side by side, and where they lie: the first one's node, its block, its kids' slice, its kids, the other trees -/
inductive LF where
  | nil
  | cons (n : Pa.Nd) (g : Nat) (kv : Value) (kids rest : LF)
def LF.out : LF → Pa.F
  | .nil => .nil
  | .cons n _ _ k r => .cons n k.out r.out
def LF.app : LF → LF → LF
  | .nil, y => y
  | .cons n g kv k r, y => .cons n g kv k (r.app y)
def LF.roots : LF → List Nat
  | .nil => []
  | .cons _ g _ _ r => g :: r.roots
abbrev ptrs (l : List Nat) : List Value := l.map ptr
/-- the cells of a tree -/
abbrev tcs (n : Pa.Nd) (kv : Value) : List Value := [.int .i64 (n.kind : Int), .int .i64 n.num, Sv n.name, Sv n.attr, .slice none 0 0, .int .i64 (n.at_ : Int), kv]
abbrev itree (n : Pa.Nd) (g : Nat) (kv : Value) : It := iblk g 100 (tcs n kv)
abbrev iptrs (v : Value) (l : List Nat) : It := irow 96 1 v l.length (ptrs l)
def LF.its : LF → List It
  | .nil => []
  | .cons n g kv k r => itree n g kv :: iptrs kv k.roots :: (k.its ++ r.its)
theorem LF.out_app (x y : LF) : (x.app y).out = x.out.app y.out := by
  induction x with
  | nil => rfl
  | cons n g kv k r _ ih => rw [LF.app, LF.out, LF.out, Pa.F.app, ih]
theorem LF.roots_app (x y : LF) : (x.app y).roots = x.roots ++ y.roots := by
  induction x with
  | nil => rfl
  | cons n g kv k r _ ih => rw [LF.app, LF.roots, LF.roots, ih]; rfl
theorem LF.its_app (x y : LF) : (x.app y).its = x.its ++ y.its := by
  induction x with
  | nil => rfl
  | cons n g kv k r _ ih => rw [LF.app, LF.its, LF.its, ih, List.cons_append, List.cons_append, List.append_assoc]
theorem LF.roots_len (x : LF) : x.roots.length = x.out.len := by
  induction x with
  | nil => rfl
  | cons n g kv k r _ ih => rw [LF.roots, LF.out, Pa.F.len, List.length_cons, ih]
/-- how reading a tree ends -/
def TOut (R : PR) (W : World) (r : Pa.Rd Pa.F) (e : Ending) (w' : World) : Prop :=
  match r.1 with
  | none => e = panP (Pa.atT r.2) ∧ Hp [R.gp, R.gt] W [ipr R r.2] w'
  | some f => ∃ x g, LF.out x = f ∧ x.roots = [g] ∧ e = .returned (ptr g) ∧ Hp [R.gp, R.gt] W (ipr R r.2 :: x.its) w'
theorem TOut.bad {R : PR} {W : World} {r : Pa.Rd Pa.F} {q : List Lx.Tok} {w' : World} (h : r = (none, q)) (hH : Hp [R.gp, R.gt] W [ipr R q] w') : TOut R W r (panP (Pa.atT q)) w' := by subst h; exact ⟨rfl, hH⟩
theorem TOut.leaf {R : PR} {W : World} {r : Pa.Rd Pa.F} {n : Pa.Nd} {q : List Lx.Tok} {w' : World} {g : Nat} (h : r = (some (Pa.leaf n), q)) (hH : Hp [R.gp, R.gt] W [ipr R q, itree n g (.slice none 0 0)] w') : TOut R W r (.returned (ptr g)) w' := by
  subst h
  refine ⟨.cons n g (.slice none 0 0) .nil .nil, g, rfl, rfl, rfl, ?_⟩
  exact (hH.nilrow 96 1).perm ((List.Perm.swap _ _ _).trans (List.Perm.cons _ (List.Perm.swap _ _ _)))
abbrev zNd : List Value := [.int .i64 0, .int .i64 0, .string ⟨#[]⟩, .string ⟨#[]⟩, .slice none 0 0, .int .i64 0]
abbrev ncs (n : Pa.Nd) : List Value := [.int .i64 (n.kind : Int), .int .i64 n.num, Sv n.name, Sv n.attr, .slice none 0 0, .int .i64 (n.at_ : Int)]
/-- texts of tokens are not too long -/
def Shorts (ts : List Lx.Tok) : Prop := ∀ t ∈ ts, t.text.length ≤ 100000
set_option maxRecDepth 20000 in
set_option maxHeartbeats 4000000 in
theorem value_any (R : PR) (ts : List Lx.Tok) (W : World) (h : PRok R ts W) (hl : Shorts ts) : Calls Tryz.prog 112 #[ptr R.gp] W fun e w' => TOut R W (Pa.leafR ts) e w' := by
  obtain ⟨t, q, rfl⟩ := h.cons
  have HT := Lib.hid (token_any R t q W h)
  have hS := h.self
  clear h
  have HV : Hid (Pa.leafR (t :: q) = (if Pa.isN (t :: q) then (Pa.refR (t :: q)).then fun x q => (some ⟨9, 0, x.1, x.2, t.at_⟩, q)
    else if Pa.isW (t :: q) then (Pa.wordR (t :: q)).then fun x q => (some ⟨11, 0, x, [], t.at_⟩, q)
    else if Pa.isM (t :: q) then (Pa.numR (t :: q)).then fun x q => (some ⟨10, x, [], [], t.at_⟩, q)
    else (none, t :: q) : Pa.Rd Pa.Nd).then fun n q => (some (Pa.leaf n), q)) := Lib.hid rfl
  go_enter Tryz.func112, Tryz.ntmps112
  go_wp2_with fail
  refine HT.out.mono ?_
  rintro e w1 ⟨rfl, hb⟩
  have hk1 := hS.next hb
  obtain ⟨g, hg⟩ : ∃ g, w1.heap.size = g := ⟨_, rfl⟩
  have hk2 : Hp [R.gp, R.gt] W [ipr R (t :: q), iblk g 46 (ncs ⟨0, 0, [], [], t.at_⟩)] (w1.alloc (.cells #[.int .i64 0, .int .i64 0, .string ⟨#[]⟩, .string ⟨#[]⟩, .slice none 0 0, .int .i64 (t.at_ : Int)] 46)) := by
    rw [← hg]
    exact (hk1.new 46 (ncs ⟨0, 0, [], [], t.at_⟩)).perm (List.Perm.swap _ _ _)
  clear hk1 hS hb HT
  unfold tokV
  go_wp2_with fail
  clear hg
  generalize w1.alloc (.cells #[.int .i64 0, .int .i64 0, .string ⟨#[]⟩, .string ⟨#[]⟩, .slice none 0 0, .int .i64 (t.at_ : Int)] 46) = w2 at *
  refine (isName_any R _ _ hk2.pr).mono ?_
  rintro e w3 ⟨rfl, hb⟩
  have hk3 := hk2.next hb
  clear hk2 hb
  cases h1 : Pa.isN (t :: q) with
  | true =>
    have HN := Lib.hid (ref_any R (t :: q) _ hk3.pr)
    have HV2 : Hid (Pa.leafR (t :: q) = ((Pa.refR (t :: q)).then fun x q => (some (Pa.leaf ⟨9, 0, x.1, x.2, t.at_⟩), q))) := Lib.hid (by
      rw [HV.out, if_pos h1]
      generalize Pa.refR (t :: q) = x
      obtain ⟨o, q⟩ := x
      cases o <;> rfl)
    clear HV h1
    generalize Pa.refR (t :: q) = x1 at *
    obtain ⟨o1, q1⟩ := x1
    cases o1 with
    | none =>
      rw [outN_none] at HN
      rw [Pa.then_none] at HV2
      go_wp2_with fail
      refine HN.out.mono ?_
      rintro e w4 ⟨rfl, hH⟩
      unfold panP
      go_wp2_with fail
      exact ⟨rfl, TOut.bad HV2.out ((hk3.rd1 hH).sub (r := [_]))⟩
    | some x =>
      rw [outN_some] at HN
      rw [Pa.then_some] at HV2
      go_wp2_with fail
      refine HN.out.mono ?_
      rintro e w4 ⟨rfl, hH⟩
      have hk4 := hk3.rd1 hH
      clear hH hk3 HN
      obtain ⟨a, b⟩ := x
      obtain ⟨g2, hg2⟩ : ∃ g, w4.heap.size = g := ⟨_, rfl⟩
      have hk5 : Hp [R.gp, R.gt] W [ipr R q1, iblk g 46 (ncs ⟨0, 0, [], [], t.at_⟩), iblk g2 52 [Sv a, Sv b]] (w4.alloc (.cells #[Sv a, Sv b] 52)) := by
        rw [← hg2]
        exact (hk4.new 52 [Sv a, Sv b]).perm ((List.Perm.swap _ _ _).trans (List.Perm.cons _ (List.Perm.swap _ _ _)))
      clear hk4
      go_wp2_with fail
      generalize w4.alloc (.cells #[.string (bs a), .string (bs b)] 52) = w5 at *
      obtain ⟨d0, d1⟩ := (hk5.blk 2 rfl).get2
      obtain ⟨c0, c1, c2, c3, c4, c5⟩ := (hk5.blk 1 rfl).get6
      have f0 := (hk5.blk 1 rfl).frozen 0
      have f2 := (hk5.blk 1 rfl).frozen 2
      have f3 := (hk5.blk 1 rfl).frozen 3
      have hne : g2 ≠ g := by
        have := hk5.ne
        simp [iblk, ipr] at this
        omega
      have hne2 : g ≠ g2 := fun h => hne h.symm
      have hk6 : Hp [R.gp, R.gt] W [ipr R q1, iblk g 46 (ncs ⟨9, 0, a, b, t.at_⟩), iblk g2 52 [Sv a, Sv b]] (((w5.setCell ⟨g, 0, none⟩ (.int .i64 9)).setCell ⟨g, 2, none⟩ (Sv a)).setCell ⟨g, 3, none⟩ (Sv b)).drew :=
        (((hk5.set 1 rfl 0 (.int .i64 9)).set 1 rfl 2 (Sv a)).set 1 rfl 3 (Sv b)).drew
      go_region
      clear c0 c1 c2 c3 c4 c5 d0 d1 f0 f2 f3 hne hne2 hk5
      generalize (((w5.setCell ⟨g, 0, none⟩ (.int .i64 9)).setCell ⟨g, 2, none⟩ (Sv a)).setCell ⟨g, 3, none⟩ (Sv b)).drew = w6 at *
      obtain ⟨c0, c1, c2, c3, c4, c5⟩ := (hk6.blk 1 rfl).get6
      simp only at c0 c1 c2 c3 c4 c5
      go_wp2_with fail
      go_ret
      refine TOut.leaf HV2.out ?_
      exact ((hk6.new 100 (tcs ⟨9, 0, a, b, t.at_⟩ (.slice none 0 0))).perm (List.Perm.swap _ _ _)).sub (r := [_, _])
  | false =>
    go_wp2_with fail
    refine (isWord_any R _ _ hk3.pr).mono ?_
    rintro e w4 ⟨rfl, hb⟩
    have hk4 := hk3.next hb
    clear hk3 hb
    cases h2 : Pa.isW (t :: q) with
    | true =>
      have HN := Lib.hid (word_any R (t :: q) _ hk4.pr)
      have HV2 : Hid (Pa.leafR (t :: q) = ((Pa.wordR (t :: q)).then fun x q => (some (Pa.leaf ⟨11, 0, x, [], t.at_⟩), q))) := Lib.hid (by
        rw [HV.out, if_neg (by rw [h1]; simp), if_pos h2]
        generalize Pa.wordR (t :: q) = x
        obtain ⟨o, q⟩ := x
        cases o <;> rfl)
      clear HV
      generalize Pa.wordR (t :: q) = x1 at *
      obtain ⟨o1, q1⟩ := x1
      cases o1 with
      | none =>
        rw [outN_none] at HN
        rw [Pa.then_none] at HV2
        go_wp2_with fail
        refine HN.out.mono ?_
        rintro e w9 ⟨rfl, hH⟩
        unfold panP
        go_wp2_with fail
        exact ⟨rfl, TOut.bad HV2.out ((hk4.rd1 hH).sub (r := [_]))⟩
      | some x =>
        rw [outN_some] at HN
        rw [Pa.then_some] at HV2
        go_wp2_with fail
        refine HN.out.mono ?_
        rintro e w9 ⟨rfl, hH⟩
        have hk5 := hk4.rd1 hH
        clear hH HN
        obtain ⟨c0, c1, c2, c3, c4, c5⟩ := (hk5.blk 1 rfl).get6
        have f0 := (hk5.blk 1 rfl).frozen 0
        have f1 := (hk5.blk 1 rfl).frozen 2
        simp only at c0 c1 c2 c3 c4 c5
        have hk6 : Hp [R.gp, R.gt] W [ipr R q1, iblk g 46 (ncs ⟨11, 0, x, [], t.at_⟩)] ((w9.setCell ⟨g, 0, none⟩ (.int .i64 11)).setCell ⟨g, 2, none⟩ (Sv x)) :=
          (hk5.set 1 rfl 0 (.int .i64 11)).set 1 rfl 2 (Sv x)
        go_upto_region 10 with fail
        clear c0 c1 c2 c3 c4 c5 f0 f1 hk5
        generalize (w9.setCell ⟨g, 0, none⟩ (.int .i64 11)).setCell ⟨g, 2, none⟩ (Sv x) = w10 at *
        obtain ⟨c0, c1, c2, c3, c4, c5⟩ := (hk6.blk 1 rfl).get6
        simp only at c0 c1 c2 c3 c4 c5
        go_wp2_with fail
        go_ret
        refine TOut.leaf HV2.out ?_
        exact ((hk6.new 100 (tcs ⟨11, 0, x, [], t.at_⟩ (.slice none 0 0))).perm (List.Perm.swap _ _ _)).sub (r := [_])
    | false =>
      have HT := Lib.hid (token_any R t q _ hk4.pr)
      cases h3 : Pa.isM (t :: q) with
      | true =>
        have hd : ((t.kind : Int) == 1) = true := (kindI (n := 1)).trans (by rw [Pa.isM] at h3; exact h3)
        have hl9 := hl
        go_wp2_with fail
        refine HT.out.mono ?_
        rintro e w8 ⟨rfl, hb⟩
        have hk8 := hk4.next hb
        clear hk4 hb HT
        unfold tokV
        have HN := Lib.hid (number_any R (t :: q) _ hk8.pr hl)
        have HV2 : Hid (Pa.leafR (t :: q) = ((Pa.numR (t :: q)).then fun x q => (some (Pa.leaf ⟨10, x, [], [], t.at_⟩), q))) := Lib.hid (by
          rw [HV.out, if_neg (by rw [h1]; simp), if_neg (by rw [h2]; simp), if_pos h3]
          generalize Pa.numR (t :: q) = x
          obtain ⟨o, q⟩ := x
          cases o <;> rfl)
        clear HV
        generalize Pa.numR (t :: q) = x1 at *
        obtain ⟨o1, q1⟩ := x1
        cases o1 with
        | none =>
          rw [outN_none] at HN
          rw [Pa.then_none] at HV2
          go_wp2_with fail
          refine HN.out.mono ?_
          rintro e w9 ⟨rfl, hH⟩
          unfold panP
          go_wp2_with fail
          exact ⟨rfl, TOut.bad HV2.out ((hk8.rd1 hH).sub (r := [_]))⟩
        | some x =>
          rw [outN_some] at HN
          rw [Pa.then_some] at HV2
          go_wp2_with fail
          refine HN.out.mono ?_
          rintro e w9 ⟨rfl, hH⟩
          have hk5 := hk8.rd1 hH
          clear hH HN
          obtain ⟨c0, c1, c2, c3, c4, c5⟩ := (hk5.blk 1 rfl).get6
          have f0 := (hk5.blk 1 rfl).frozen 0
          have f1 := (hk5.blk 1 rfl).frozen 1
          simp only at c0 c1 c2 c3 c4 c5
          have hk6 : Hp [R.gp, R.gt] W [ipr R q1, iblk g 46 (ncs ⟨10, x, [], [], t.at_⟩)] ((w9.setCell ⟨g, 0, none⟩ (.int .i64 10)).setCell ⟨g, 1, none⟩ (.int .i64 x)) :=
            (hk5.set 1 rfl 0 (.int .i64 10)).set 1 rfl 1 (.int .i64 x)
          go_upto_region 10 with fail
          clear c0 c1 c2 c3 c4 c5 f0 f1 hk5
          generalize (w9.setCell ⟨g, 0, none⟩ (.int .i64 10)).setCell ⟨g, 1, none⟩ (.int .i64 x) = w10 at *
          obtain ⟨c0, c1, c2, c3, c4, c5⟩ := (hk6.blk 1 rfl).get6
          simp only at c0 c1 c2 c3 c4 c5
          go_wp2_with fail
          go_ret
          refine TOut.leaf HV2.out ?_
          exact ((hk6.new 100 (tcs ⟨10, x, [], [], t.at_⟩ (.slice none 0 0))).perm (List.Perm.swap _ _ _)).sub (r := [_])
      | false =>
        have hd : ((t.kind : Int) == 1) = false := (kindI (n := 1)).trans (by rw [Pa.isM] at h3; exact h3)
        have HV2 : Hid (Pa.leafR (t :: q) = (none, t :: q)) := Lib.hid (by rw [HV.out, if_neg (by rw [h1]; simp), if_neg (by rw [h2]; simp), if_neg (by rw [h3]; simp)]; rfl)
        clear HV h1 h2 h3
        go_wp2_with fail
        refine HT.out.mono ?_
        rintro e w8 ⟨rfl, hb⟩
        have hk8 := hk4.next hb
        clear hk4 hb HT
        unfold tokV
        go_wp2_with fail
        refine (fail_any R t q _ hk8.pr).mono ?_
        rintro e w9 ⟨rfl, hH⟩
        unfold panP
        go_wp2_with fail
        exact ⟨rfl, TOut.bad HV2.out ((hk8.rd1 hH).sub (r := [_]))⟩
end Go.Proofs.YtminghdnclpocaaGreatDoor
