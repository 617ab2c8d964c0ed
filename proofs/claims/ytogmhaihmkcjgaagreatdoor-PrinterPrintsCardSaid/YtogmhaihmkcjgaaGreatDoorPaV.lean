import Derived.Test.YtogmhaihmkcjgaaGreatDoorLexA
import Derived.Lib.AtoiAllCases
import Derived.Lib.TrimByte
/-
 The parser in plain words: tokens are read from a list. No program in sight. Printed by mkpaa.py.
-/
namespace Go.Proofs.YtogmhaihmkcjgaaGreatDoor.Pa
open Lx (Tok)

abbrev Tx := List UInt8

def kPolicy : Tx := [112, 111, 108, 105, 99, 121]
def kUses : Tx := [117, 115, 101, 115]
def kReveal : Tx := [114, 101, 118, 101, 97, 108]
def kProve : Tx := [112, 114, 111, 118, 101]
def kScope : Tx := [115, 99, 111, 112, 101]
def kLimit : Tx := [108, 105, 109, 105, 116]
def kEscrow : Tx := [101, 115, 99, 114, 111, 119]
def kEnd : Tx := [101, 110, 100]
def kAll : Tx := [97, 108, 108]
def kAny : Tx := [97, 110, 121]
def kAtleast : Tx := [97, 116, 108, 101, 97, 115, 116]
def kNot : Tx := [110, 111, 116]
def kTrue : Tx := [116, 114, 117, 101]
def kFalse : Tx := [102, 97, 108, 115, 101]
def kBetween : Tx := [98, 101, 116, 119, 101, 101, 110]
def kAnd : Tx := [97, 110, 100]
def kIn : Tx := [105, 110]
def sEq : Tx := [61]
def sNe : Tx := [33, 61]
def sLt : Tx := [60]
def sLe : Tx := [60, 61]
def sGt : Tx := [62]
def sGe : Tx := [62, 61]
def sDot : Tx := [46]
def sColon : Tx := [58]
def sComma : Tx := [44]
def sOpen : Tx := [40]
def sClose : Tx := [41]
def sBra : Tx := [123]
def sKet : Tx := [125]
/-- the signs of the comparisons -/
def cmps : List Tx := [sEq, sNe, sLt, sLe, sGt, sGe]
/-- a node of a policy, without its kids -/
structure Nd where
 kind : Nat
 num : Int
 name : Tx
 attr : Tx
 at_ : Nat
/-- trees that stand side by side: the node of the first one, its kids, the other trees -/
inductive F where
 | nil
 | cons (n : Nd) (kids rest : F)
def F.app : F → F → F
 | .nil, g => g
 | .cons n k r, g => .cons n k (r.app g)
def F.cat : List F → F
 | [] => .nil
 | f :: l => f.app (F.cat l)
/-- how many trees -/
def F.len : F → Nat
 | .nil => 0
 | .cons _ _ r => r.len + 1
/-- how many nodes -/
def F.size : F → Nat
 | .nil => 0
 | .cons _ k r => k.size + r.size + 1
theorem F.app_nil (f : F) : f.app .nil = f := by
 induction f with
 | nil => rfl
 | cons n k r _ ih => rw [F.app, ih]
theorem F.app_assoc (f g h : F) : (f.app g).app h = f.app (g.app h) := by
 induction f with
 | nil => rfl
 | cons n k r _ ih => rw [F.app, F.app, F.app, ih]
theorem F.len_app (f g : F) : (f.app g).len = f.len + g.len := by
 induction f with
 | nil => simp [F.app, F.len]
 | cons n k r _ ih => rw [F.app, F.len, F.len, ih]; omega
theorem F.size_app (f g : F) : (f.app g).size = f.size + g.size := by
 induction f with
 | nil => simp [F.app, F.size]
 | cons n k r _ ih => rw [F.app, F.size, F.size, ih]; omega
theorem F.cat_snoc (l : List F) (f : F) : F.cat (l ++ [f]) = (F.cat l).app f := by
 induction l with
 | nil => exact F.app_nil f
 | cons a l ih => rw [List.cons_append, F.cat, F.cat, ih, F.app_assoc]
/-- the nodes in preorder, numbered from a on, each with the numbers of its kids -/
def F.idx : Nat → F → List Nat
 | _, .nil => []
 | a, .cons _ k r => a :: r.idx (a + 1 + k.size)
def F.num : Nat → F → List (Nd × List Nat)
 | _, .nil => []
 | a, .cons n k r => (n, k.idx (a + 1)) :: (k.num (a + 1) ++ r.num (a + 1 + k.size))
theorem F.num_len (f : F) : ∀ a, (f.num a).length = f.size := by
 induction f with
 | nil => intro a; rfl
 | cons n k r ih1 ih2 => intro a; rw [F.num, F.size, List.length_cons, List.length_append, ih1, ih2]
theorem F.idx_len (f : F) : ∀ a, (f.idx a).length = f.len := by
 induction f with
 | nil => intro a; rfl
 | cons n k r _ ih2 => intro a; rw [F.idx, F.len, List.length_cons, ih2]
theorem F.idx_app (f g : F) : ∀ a, (f.app g).idx a = f.idx a ++ g.idx (a + f.size) := by
 induction f with
 | nil => intro a; simp [F.app, F.idx, F.size]
 | cons n k r _ ih => intro a; rw [F.app, F.idx, F.idx, F.size, ih, List.cons_append]; congr 3; omega
theorem F.num_app (f g : F) : ∀ a, (f.app g).num a = f.num a ++ g.num (a + f.size) := by
 induction f with
 | nil => intro a; simp [F.app, F.num, F.size]
 | cons n k r _ ih => intro a; rw [F.app, F.num, F.num, F.size, ih, List.cons_append, List.append_assoc]; congr 4; omega
/-- a tree of one node -/
def leaf (n : Nd) : F := .cons n .nil .nil

/-- the offset of the next token -/
def atT : List Tok → Nat
 | [] => 0
 | t :: _ => t.at_
def isT (s : Tx) : List Tok → Bool
 | [] => false
 | t :: _ => t.kind == 2 && t.text == s
def isW : List Tok → Bool
 | [] => false
 | t :: _ => t.kind == 0 && t.text.head? == some 39
def isN : List Tok → Bool
 | [] => false
 | t :: r => t.kind == 0 && !isW (t :: r)
def isM : List Tok → Bool
 | [] => false
 | t :: _ => t.kind == 1
/-- the number that a token shows -/
def numV : Tx → Int
 | [] => 0
 | c :: m => if c = 45 then -(Lx.dv m : Int) else (Lx.dv (c :: m) : Int)
def headX : List Tok → Tx
 | [] => []
 | t :: _ => t.text
abbrev Rd (α : Type) := Option α × List Tok
def nameR (ts : List Tok) : Rd Tx := if isN ts then (some (headX ts), ts.tail) else (none, ts)
def wordR (ts : List Tok) : Rd Tx := if isW ts then (some (headX ts).tail.dropLast, ts.tail) else (none, ts)
def numR (ts : List Tok) : Rd Int := if isM ts then (some (numV (headX ts)), ts.tail) else (none, ts)
def needR (s : Tx) (ts : List Tok) : Rd Unit := if isT s ts then (some (), ts.tail) else (none, ts)
/-- one reading after another -/
def Rd.then {α β : Type} (r : Rd α) (f : α → List Tok → Rd β) : Rd β :=
 match r with
 | (none, q) => (none, q)
 | (some a, q) => f a q
@[simp] theorem then_none {α β : Type} (q : List Tok) (f : α → List Tok → Rd β) : Rd.then (none, q) f = (none, q) := rfl
@[simp] theorem then_some {α β : Type} (a : α) (q : List Tok) (f : α → List Tok → Rd β) : Rd.then (some a, q) f = f a q := rfl
def pairR (s : Tx) (ts : List Tok) : Rd (Tx × Tx) := (nameR ts).then fun a q => (needR s q).then fun _ q => (nameR q).then fun b q => (some (a, b), q)
def refR (ts : List Tok) : Rd (Tx × Tx) := pairR sDot ts
/-- elements that are separated by commas; at most so many -/
def listR {α : Type} (rd : List Tok → Rd α) : Nat → List Tok → Rd (List α)
 | 0, ts => (none, ts)
 | k + 1, ts => (rd ts).then fun a q => if isT sComma q then (listR rd k q.tail).then fun l q => (some (a :: l), q) else (some [a], q)
def valueR (ts : List Tok) : Rd Nd :=
 if isN ts then (refR ts).then fun x q => (some ⟨9, 0, x.1, x.2, atT ts⟩, q)
 else if isW ts then (wordR ts).then fun x q => (some ⟨11, 0, x, [], atT ts⟩, q)
 else if isM ts then (numR ts).then fun x q => (some ⟨10, x, [], [], atT ts⟩, q)
 else (none, ts)
/-- which comparison comes next -/
def cmpOf : List Tok → Option Nat
 | [] => none
 | t :: _ => if t.kind == 2 then cmps.findIdx? (fun s => s == t.text) else none
def leafR (ts : List Tok) : Rd F := (valueR ts).then fun n q => (some (leaf n), q)
def condR (ts : List Tok) : Rd F :=
 (valueR ts).then fun a q =>
  match cmpOf q with
  | some k => (valueR q.tail).then fun b q => (some (.cons ⟨6, k, [], [], atT ts⟩ ((leaf a).app (leaf b)) .nil), q)
  | none =>
   if isT kBetween q then (valueR q.tail).then fun b q => (needR kAnd q).then fun _ q => (valueR q).then fun c q => (some (.cons ⟨7, 0, [], [], atT ts⟩ ((leaf a).app ((leaf b).app (leaf c))) .nil), q)
   else if isT kIn q then (needR sBra q.tail).then fun _ q => (listR leafR q.length q).then fun l q => (needR sKet q).then fun _ q => (some (.cons ⟨8, 0, [], [], atT ts⟩ ((leaf a).app (F.cat l)) .nil), q)
   else (none, q)
/-- the kids of a node, in parentheses -/
def kidsR (rd : List Tok → Rd F) (n : Nd) (ts : List Tok) : Rd F :=
 (needR sOpen ts).then fun _ q => (listR rd q.length q).then fun l q => (needR sClose q).then fun _ q => (some (.cons n (F.cat l) .nil), q)
def exprR : Nat → List Tok → Rd F
 | 0, ts => (none, ts)
 | k + 1, ts =>
  if isT kAll ts then kidsR (exprR k) ⟨3, 0, [], [], atT ts⟩ ts.tail
  else if isT kAny ts then kidsR (exprR k) ⟨4, 0, [], [], atT ts⟩ ts.tail
  else if isT kAtleast ts then (numR ts.tail).then fun m q => kidsR (exprR k) ⟨5, m, [], [], atT ts⟩ q
  else if isT kNot ts then (exprR k ts.tail).then fun f q => (some (.cons ⟨2, 0, [], [], atT ts⟩ f .nil), q)
  else if isT kTrue ts then (some (leaf ⟨0, 0, [], [], atT ts⟩), ts.tail)
  else if isT kFalse ts then (some (leaf ⟨1, 0, [], [], atT ts⟩), ts.tail)
  else if isT sOpen ts then (exprR k ts.tail).then fun f q => (needR sClose q).then fun _ q => (some f, q)
  else condR ts
/-- a policy as it is read -/
structure Pl where
 name : Tx
 uses : List (Tx × Tx)
 reveal : List (Tx × Tx)
 scope : Tx
 limit : Int
 escrow : Tx
 root : F
def revealR (ts : List Tok) : Rd (List (Tx × Tx)) := if isT kReveal ts then listR refR ts.length ts.tail else (some [], ts)
def proveR (ts : List Tok) : Rd F := if isT kProve ts then exprR ts.length ts.tail else (some (leaf ⟨0, 0, [], [], atT ts⟩), ts)
def scopeR (ts : List Tok) : Rd (Tx × Int) := if isT kScope ts then (wordR ts.tail).then fun s q => (if isT kLimit q then (numR q.tail).then fun n q => (some (s, n), q) else (some (s, 0), q)) else (some ([], 0), ts)
def escrowR (ts : List Tok) : Rd Tx := if isT kEscrow ts then nameR ts.tail else (some [], ts)
def isE : List Tok → Bool
 | [] => false
 | t :: _ => t.kind == 3
def policyR (ts : List Tok) : Rd Pl :=
 (needR kPolicy ts).then fun _ q => (nameR q).then fun nm q => (needR kUses q).then fun _ q => (listR (pairR sColon) q.length q).then fun us q =>
 (revealR q).then fun rv q => (proveR q).then fun f q => (scopeR q).then fun s q => (escrowR q).then fun x q => (needR kEnd q).then fun _ q =>
 if isE q then (some ⟨nm, us, rv, s.1, s.2, x, f⟩, q) else (none, q)
end Go.Proofs.YtogmhaihmkcjgaaGreatDoor.Pa

/-
 What is known of the tokens of a source. No program in sight.
-/
namespace Go.Proofs.YtogmhaihmkcjgaaGreatDoor.Pa
open Lx (Tok)
set_option linter.unusedVariables false

/-- a word's text: what stands between its apostrophes -/
structure WordT (t w : Tx) : Prop where
 eq : t = 39 :: (w ++ [39])
 all : ∀ c ∈ w, Lx.isWd c = true
 pos : 0 < w.length
 le : w.length ≤ 32
structure NameT (t : Tx) : Prop where
 all : ∀ c ∈ t, Lx.isNm c = true
 fst : ∃ c m, t = c :: m ∧ Lx.isLet c = true
 le : t.length ≤ 32
 kw : Lx.kw t = false
/-- a number's text: whether it is negative, and its digits -/
structure NumT (t : Tx) (neg : Bool) (d : Tx) : Prop where
 eq : t = if neg then 45 :: d else d
 pos : 0 < d.length
 all : ∀ c ∈ d, Lx.isDig c = true
 le : Lx.dv d ≤ if neg then 2147483648 else 2147483647
inductive Fine (t : Tok) : Prop
 | word (w : Tx) (hk : t.kind = 0) (h : WordT t.text w)
 | name (hk : t.kind = 0) (h : NameT t.text)
 | num (neg : Bool) (d : Tx) (hk : t.kind = 1) (h : NumT t.text neg d)
 | sign (hk : t.kind = 2) (h0 : t.text ≠ [])
 | end_ (hk : t.kind = 3) (h : t.text = [])
theorem sp_mem {p : UInt8 → Bool} {l : List UInt8} {n : Nat} (h : n ≤ Lx.sp p l) : ∀ c ∈ l.take n, p c = true := by
 intro c hc
 obtain ⟨i, hi, rfl⟩ := List.getElem_of_mem hc
 rw [List.length_take] at hi
 rw [List.getElem_take]
 exact Lx.sp_all i (by omega) (by omega)
theorem isLet_ne {c : UInt8} (h : Lx.isLet c = true) : c ≠ 39 := by rintro rfl; exact absurd h (by decide)
theorem isDig_ne {c : UInt8} (h : Lx.isDig c = true) : c ≠ 45 := by rintro rfl; exact absurd h (by decide)
theorem fine_way {m : List UInt8} {k n : Nat} (h : Lx.Way m k n) (a : Nat) : Fine ⟨k, m.take n, a⟩ := by
 cases h with
 | name c m hc h =>
  have h1 : Lx.isNm c = true := by simp [Lx.isNm, hc]
  have hs := Lx.sp_le Lx.isNm (c :: m)
  cases hk : Lx.kw ((c :: m).take (Lx.sp Lx.isNm (c :: m))) with
  | true =>
   refine .sign rfl ?_
   rw [Lx.sp_succ h1]
   simp
  | false =>
   refine .name rfl ⟨sp_mem (Nat.le_refl _), ?_, ?_, hk⟩
   ·rw [Lx.sp_succ h1]
    exact ⟨c, m.take (Lx.sp Lx.isNm m), by simp, hc⟩
   ·rw [List.length_take]; omega
 | word m h0 h hq =>
  refine .word (m.take (Lx.sp Lx.isWd m)) rfl ⟨?_, sp_mem (Nat.le_refl _), ?_, ?_⟩
  ·show (39 :: m).take (Lx.sp Lx.isWd m + 2) = _
   obtain ⟨h1, h2⟩ := List.getElem?_eq_some_iff.1 hq
   rw [List.take_succ_cons, List.take_succ_eq_append_getElem h1, h2]
  ·have := Lx.sp_le Lx.isWd m
   rw [List.length_take]; omega
  ·rw [List.length_take]; omega
 | minus m h0 h =>
  have := Lx.sp_le Lx.isDig m
  refine .num true (m.take (Lx.sp Lx.isDig m)) rfl ⟨rfl, ?_, sp_mem (Nat.le_refl _), h⟩
  rw [List.length_take]; omega
 | digits c m hl h1 h2 h0 h =>
  have := Lx.sp_le Lx.isDig (c :: m)
  refine .num false _ rfl ⟨rfl, ?_, sp_mem (Nat.le_refl _), h⟩
  rw [List.length_take]; omega
 | sign c m hl h1 h2 h3 h =>
  refine .sign rfl ?_
  obtain ⟨j, hj⟩ : ∃ j, Lx.sg (c :: m) = j + 1 := ⟨Lx.sg (c :: m) - 1, by omega⟩
  show (c :: m).take (Lx.sg (c :: m)) ≠ []
  rw [hj]
  simp
theorem sc_fine {a : Nat} {l : List UInt8} {ts : List Tok} (h : Lx.Sc a l ts) : ∀ t ∈ ts, Fine t := by
 induction h with
 | done a l h => intro t ht; rw [List.mem_singleton.1 ht]; exact .end_ rfl rfl
 | step a l k n ts ht hl h ih =>
  intro t h1
  rcases List.mem_cons.1 h1 with rfl | h1
  ·exact fine_way (Lx.way_of ht) _
  ·exact ih t h1
/-- tokens that end as those of a source -/
structure Good (ts : List Tok) : Prop where
 fine : ∀ t ∈ ts, Fine t
 ends : ∃ us e, ts = us ++ [e] ∧ e.kind = 3 ∧ ∀ t ∈ us, t.kind ≤ 2
theorem sc_good {a : Nat} {l : List UInt8} {ts : List Tok} (h : Lx.Sc a l ts) : Good ts := by
 obtain ⟨us, e, h1, h2, _, _, h3, _⟩ := h.join
 exact ⟨sc_fine h, us, e, h1, h2, fun t ht => (h3 t ht).1⟩
theorem Good.ne {ts : List Tok} (h : Good ts) : ts ≠ [] := by
 obtain ⟨us, e, rfl, _⟩ := h.ends
 simp
theorem Good.tail {t : Tok} {ts : List Tok} (h : Good (t :: ts)) (hk : t.kind ≠ 3) : Good ts := by
 refine ⟨fun u hu => h.fine u (List.mem_cons_of_mem _ hu), ?_⟩
 obtain ⟨us, e, h1, h2, h3⟩ := h.ends
 cases us with
 | nil =>
  rw [List.nil_append, List.cons.injEq] at h1
  rw [h1.1] at hk
  exact absurd h2 hk
 | cons u us =>
  rw [List.cons_append, List.cons.injEq] at h1
  exact ⟨us, e, h1.2, h2, fun t ht => h3 t (List.mem_cons_of_mem _ ht)⟩
theorem Good.isT {s : Tx} {ts : List Tok} (h : Good ts) (hs : isT s ts = true) : Good ts.tail := by
 cases ts with
 | nil => cases hs
 | cons t r =>
  refine h.tail ?_
  have : t.kind = 2 := by have := hs; simp [Pa.isT] at this; exact this.1
  omega
theorem Good.isN {ts : List Tok} (h : Good ts) (hs : isN ts = true) : Good ts.tail := by
 cases ts with
 | nil => cases hs
 | cons t r =>
  refine h.tail ?_
  have : t.kind = 0 := by have := hs; simp [Pa.isN] at this; exact this.1
  omega
theorem Good.isW {ts : List Tok} (h : Good ts) (hs : isW ts = true) : Good ts.tail := by
 cases ts with
 | nil => cases hs
 | cons t r =>
  refine h.tail ?_
  have : t.kind = 0 := by have := hs; simp [Pa.isW] at this; exact this.1
  omega
theorem Good.isM {ts : List Tok} (h : Good ts) (hs : isM ts = true) : Good ts.tail := by
 cases ts with
 | nil => cases hs
 | cons t r =>
  refine h.tail ?_
  have : t.kind = 1 := by simpa [Pa.isM] using hs
  omega
theorem cmpOf_kind {t : Tok} {r : List Tok} {k : Nat} (h : cmpOf (t :: r) = some k) : t.kind = 2 ∧ k < 6 ∧ cmps[k]? = some t.text := by
 rw [cmpOf] at h
 by_cases h1 : (t.kind == 2) = true
 ·rw [if_pos h1] at h
  obtain ⟨h2, h3, _⟩ := List.findIdx?_eq_some_iff_getElem.1 h
  refine ⟨by simpa using h1, h2, ?_⟩
  rw [List.getElem?_eq_getElem h2]
  exact congrArg some (by simpa using h3)
 ·rw [if_neg h1] at h
  cases h
theorem Good.cmp {ts : List Tok} {k : Nat} (h : Good ts) (hs : cmpOf ts = some k) : Good ts.tail := by
 cases ts with
 | nil => cases hs
 | cons t r =>
  refine h.tail ?_
  have := (cmpOf_kind hs).1
  omega
/-- what a reading leaves is a part of what was there, and is good -/
def Keeps {α : Type} (rd : List Tok → Rd α) : Prop := ∀ ts, Good ts → (rd ts).2 <:+ ts ∧ Good (rd ts).2
/-- what a reading that succeeds leaves is less -/
def Eats {α : Type} (rd : List Tok → Rd α) : Prop := ∀ ts, Good ts → ∀ a, (rd ts).1 = some a → (rd ts).2.length < ts.length
theorem tail_lt {ts : List Tok} (h : Good ts) : ts.tail.length < ts.length := by
 cases ts with
 | nil => exact absurd rfl h.ne
 | cons t r => simp
theorem need_keeps (s : Tx) : Keeps (needR s) := by
 intro ts h
 unfold needR
 split
 ·rename_i h1; exact ⟨List.tail_suffix _, h.isT h1⟩
 ·exact ⟨List.suffix_refl _, h⟩
theorem name_keeps : Keeps nameR := by
 intro ts h
 unfold nameR
 split
 ·rename_i h1; exact ⟨List.tail_suffix _, h.isN h1⟩
 ·exact ⟨List.suffix_refl _, h⟩
theorem word_keeps : Keeps wordR := by
 intro ts h
 unfold wordR
 split
 ·rename_i h1; exact ⟨List.tail_suffix _, h.isW h1⟩
 ·exact ⟨List.suffix_refl _, h⟩
theorem num_keeps : Keeps numR := by
 intro ts h
 unfold numR
 split
 ·rename_i h1; exact ⟨List.tail_suffix _, h.isM h1⟩
 ·exact ⟨List.suffix_refl _, h⟩
theorem then_keeps {α β : Type} {rd : List Tok → Rd α} {f : α → List Tok → Rd β} (h : Keeps rd) (hf : ∀ a, Keeps (f a)) : Keeps (fun ts => (rd ts).then f) := by
 intro ts hg
 have h1 := h ts hg
 show ((rd ts).then f).2 <:+ ts ∧ Good ((rd ts).then f).2
 generalize rd ts = x at *
 obtain ⟨o, q⟩ := x
 cases o with
 | none => exact h1
 | some a =>
  have h2 := hf a q h1.2
  exact ⟨h2.1.trans h1.1, h2.2⟩
theorem then_at {α β : Type} {r : Rd α} {f : α → List Tok → Rd β} {ts : List Tok} (h : r.2 <:+ ts ∧ Good r.2) (hf : ∀ a, Keeps (f a)) : (r.then f).2 <:+ ts ∧ Good (r.then f).2 := by
 obtain ⟨o, q⟩ := r
 cases o with
 | none => exact h
 | some a =>
  have h2 := hf a q h.2
  exact ⟨h2.1.trans h.1, h2.2⟩
theorem some_keeps {α : Type} (a : List Tok → α) : Keeps (fun ts => (some (a ts), ts)) := fun ts h => ⟨List.suffix_refl _, h⟩
theorem pair_keeps (s : Tx) : Keeps (pairR s) := fun ts h => then_at (name_keeps ts h) fun a q hq => then_at (need_keeps s q hq) fun _ q hq => then_at (name_keeps q hq) fun b q hq => ⟨List.suffix_refl _, hq⟩
theorem list_keeps {α : Type} {rd : List Tok → Rd α} (h : Keeps rd) : ∀ k, Keeps (listR rd k)
 | 0 => fun ts hg => ⟨List.suffix_refl _, hg⟩
 | k + 1 => fun ts hg => then_at (h ts hg) fun a q hq => by
  split
  ·rename_i h1
   have h2 := then_at (list_keeps h k q.tail (hq.isT h1)) (f := fun l q => (some (a :: l), q)) fun l q hq => ⟨List.suffix_refl _, hq⟩
   exact ⟨h2.1.trans (List.tail_suffix _), h2.2⟩
  ·exact ⟨List.suffix_refl _, hq⟩
theorem value_keeps : Keeps valueR := by
 intro ts h
 unfold valueR
 split
 ·exact then_at (pair_keeps _ ts h) fun a q hq => ⟨List.suffix_refl _, hq⟩
 ·split
  ·exact then_at (word_keeps ts h) fun a q hq => ⟨List.suffix_refl _, hq⟩
  ·split
   ·exact then_at (num_keeps ts h) fun a q hq => ⟨List.suffix_refl _, hq⟩
   ·exact ⟨List.suffix_refl _, h⟩
theorem leaf_keeps : Keeps leafR := fun ts h => then_at (value_keeps ts h) fun a q hq => ⟨List.suffix_refl _, hq⟩
theorem up {α : Type} {r : List Tok → Rd α} {ts q : List Tok} (h : (r q).2 <:+ q ∧ Good (r q).2) (hq : q <:+ ts) : (r q).2 <:+ ts ∧ Good (r q).2 := ⟨h.1.trans hq, h.2⟩
theorem cond_keeps : Keeps condR := by
 intro ts h
 refine then_at (value_keeps ts h) fun a q hq => ?_
 split
 ·rename_i k hk
  have h1 := then_at (value_keeps q.tail (hq.cmp hk)) (f := fun b q => (some (F.cons ⟨6, k, [], [], atT ts⟩ ((leaf a).app (leaf b)) .nil), q)) fun b q hq => ⟨List.suffix_refl _, hq⟩
  exact ⟨h1.1.trans (List.tail_suffix _), h1.2⟩
 ·split
  ·rename_i hk
   have h1 := then_at (value_keeps q.tail (hq.isT hk)) (f := fun b q => (needR kAnd q).then fun _ q => (valueR q).then fun c q => (some (F.cons ⟨7, 0, [], [], atT ts⟩ ((leaf a).app ((leaf b).app (leaf c))) .nil), q)) fun b q hq => then_at (need_keeps _ q hq) fun _ q hq => then_at (value_keeps q hq) fun c q hq => ⟨List.suffix_refl _, hq⟩
   exact ⟨h1.1.trans (List.tail_suffix _), h1.2⟩
  ·split
   ·rename_i hk
    have h1 := then_at (need_keeps sBra q.tail (hq.isT hk)) (f := fun _ q => (listR leafR q.length q).then fun l q => (needR sKet q).then fun _ q => (some (F.cons ⟨8, 0, [], [], atT ts⟩ ((leaf a).app (F.cat l)) .nil), q)) fun _ q hq => then_at (list_keeps leaf_keeps _ q hq) fun l q hq => then_at (need_keeps _ q hq) fun _ q hq => ⟨List.suffix_refl _, hq⟩
    exact ⟨h1.1.trans (List.tail_suffix _), h1.2⟩
   ·exact ⟨List.suffix_refl _, hq⟩
theorem kids_keeps {rd : List Tok → Rd F} (h : Keeps rd) (n : Nd) : Keeps (kidsR rd n) := fun ts hg =>
 then_at (need_keeps _ ts hg) fun _ q hq => then_at (list_keeps h _ q hq) fun l q hq => then_at (need_keeps _ q hq) fun _ q hq => ⟨List.suffix_refl _, hq⟩
theorem lift {α : Type} {r : Rd α} {ts : List Tok} (h : r.2 <:+ ts.tail ∧ Good r.2) : r.2 <:+ ts ∧ Good r.2 := ⟨h.1.trans (List.tail_suffix _), h.2⟩
theorem expr_keeps : ∀ k, Keeps (exprR k)
 | 0 => fun ts h => ⟨List.suffix_refl _, h⟩
 | k + 1 => by
  have ih := expr_keeps k
  intro ts h
  rw [exprR]
  split
  ·rename_i h1; exact lift (kids_keeps ih _ ts.tail (h.isT h1))
  ·split
   ·rename_i h1; exact lift (kids_keeps ih _ ts.tail (h.isT h1))
   ·split
    ·rename_i h1; exact lift (then_at (num_keeps ts.tail (h.isT h1)) fun m q hq => kids_keeps ih _ q hq)
    ·split
     ·rename_i h1; exact lift (then_at (ih ts.tail (h.isT h1)) fun f q hq => ⟨List.suffix_refl _, hq⟩)
     ·split
      ·rename_i h1; exact ⟨List.tail_suffix _, h.isT h1⟩
      ·split
       ·rename_i h1; exact ⟨List.tail_suffix _, h.isT h1⟩
       ·split
        ·rename_i h1; exact lift (then_at (ih ts.tail (h.isT h1)) fun f q hq => then_at (need_keeps _ q hq) fun _ q hq => ⟨List.suffix_refl _, hq⟩)
        ·exact cond_keeps ts h
end Go.Proofs.YtogmhaihmkcjgaaGreatDoor.Pa

/-
 A tree has at most as many nodes as tokens were read. No program in sight.
-/
namespace Go.Proofs.YtogmhaihmkcjgaaGreatDoor.Pa
open Lx (Tok)
set_option linter.unusedVariables false

theorem need_eats {s : Tx} {ts q : List Tok} {u : Unit} (h : needR s ts = (some u, q)) : q.length + 1 ≤ ts.length := by
 unfold needR at h
 split at h
 ·rename_i h1
  cases h
  cases ts with
  | nil => cases h1
  | cons t r => simp
 ·cases h
theorem name_eats {ts q : List Tok} {a : Tx} (h : nameR ts = (some a, q)) : q.length + 1 ≤ ts.length := by
 unfold nameR at h
 split at h
 ·rename_i h1
  cases h
  cases ts with
  | nil => cases h1
  | cons t r => simp
 ·cases h
theorem word_eats {ts q : List Tok} {a : Tx} (h : wordR ts = (some a, q)) : q.length + 1 ≤ ts.length := by
 unfold wordR at h
 split at h
 ·rename_i h1
  cases h
  cases ts with
  | nil => cases h1
  | cons t r => simp
 ·cases h
theorem num_eats {ts q : List Tok} {a : Int} (h : numR ts = (some a, q)) : q.length + 1 ≤ ts.length := by
 unfold numR at h
 split at h
 ·rename_i h1
  cases h
  cases ts with
  | nil => cases h1
  | cons t r => simp
 ·cases h
theorem then_inv {α β : Type} {r : Rd α} {f : α → List Tok → Rd β} {b : β} {q : List Tok} (h : r.then f = (some b, q)) : ∃ a p, r = (some a, p) ∧ f a p = (some b, q) := by
 obtain ⟨o, p⟩ := r
 cases o with
 | none => cases h
 | some a => exact ⟨a, p, rfl, h⟩
theorem pair_eats {s : Tx} {ts q : List Tok} {x : Tx × Tx} (h : pairR s ts = (some x, q)) : q.length + 1 ≤ ts.length := by
 obtain ⟨a, p, h1, h⟩ := then_inv h
 obtain ⟨u, p2, h2, h⟩ := then_inv h
 obtain ⟨b, p3, h3, h⟩ := then_inv h
 cases h
 have := name_eats h1
 have := need_eats h2
 have := name_eats h3
 omega
theorem value_eats {ts q : List Tok} {n : Nd} (h : valueR ts = (some n, q)) : q.length + 1 ≤ ts.length := by
 unfold valueR at h
 split at h
 ·obtain ⟨x, p, h1, h⟩ := then_inv h
  cases h
  exact pair_eats h1
 ·split at h
  ·obtain ⟨x, p, h1, h⟩ := then_inv h
   cases h
   exact word_eats h1
  ·split at h
   ·obtain ⟨x, p, h1, h⟩ := then_inv h
    cases h
    exact num_eats h1
   ·cases h
theorem isT_len {s : Tx} {ts : List Tok} (h : isT s ts = true) : ts.tail.length + 1 = ts.length := by
 cases ts with
 | nil => cases h
 | cons t r => simp
theorem cmp_len {ts : List Tok} {k : Nat} (h : cmpOf ts = some k) : ts.tail.length + 1 = ts.length := by
 cases ts with
 | nil => cases h
 | cons t r => simp
theorem list_size {rd : List Tok → Rd F} (hr : ∀ ts q f, rd ts = (some f, q) → f.size + q.length ≤ ts.length) : ∀ k ts q l, listR rd k ts = (some l, q) → (F.cat l).size + q.length ≤ ts.length
 | 0, ts, q, l, h => by cases h
 | k + 1, ts, q, l, h => by
  rw [listR] at h
  obtain ⟨a, p, h1, h⟩ := then_inv h
  have h2 := hr _ _ _ h1
  split at h
  ·rename_i hc
   obtain ⟨l2, p2, h3, h⟩ := then_inv h
   have h4 := list_size hr k _ _ _ h3
   have h5 := isT_len hc
   cases h
   rw [F.cat, F.size_app]
   omega
  ·cases h
   rw [F.cat, F.cat, F.app_nil]
   exact h2
theorem leaf_size {ts q : List Tok} {f : F} (h : leafR ts = (some f, q)) : f.size + q.length ≤ ts.length := by
 obtain ⟨n, p, h1, h⟩ := then_inv h
 cases h
 have := value_eats h1
 show 0 + 0 + 1 + _ ≤ _
 omega
theorem leaf1 (n : Nd) : (leaf n).size = 1 := rfl
theorem cond_size {ts q : List Tok} {f : F} (h : condR ts = (some f, q)) : f.size + q.length ≤ ts.length := by
 obtain ⟨a, p, h1, h⟩ := then_inv h
 have e1 := value_eats h1
 split at h
 ·rename_i k hk
  obtain ⟨b, p2, h2, h⟩ := then_inv h
  cases h
  have e2 := value_eats h2
  have e3 := cmp_len hk
  rw [F.size, F.size_app, leaf1, leaf1, F.size]
  omega
 ·split at h
  ·rename_i hb
   obtain ⟨b, p2, h2, h⟩ := then_inv h
   obtain ⟨u, p3, h3, h⟩ := then_inv h
   obtain ⟨c, p4, h4, h⟩ := then_inv h
   cases h
   have e2 := value_eats h2
   have e3 := need_eats h3
   have e4 := value_eats h4
   have e5 := isT_len hb
   rw [F.size, F.size_app, F.size_app, leaf1, leaf1, leaf1, F.size]
   omega
  ·split at h
   ·rename_i hb
    obtain ⟨u, p2, h2, h⟩ := then_inv h
    obtain ⟨l, p3, h3, h⟩ := then_inv h
    obtain ⟨u2, p4, h4, h⟩ := then_inv h
    cases h
    have e2 := need_eats h2
    have e3 := list_size (fun _ _ _ => leaf_size) _ _ _ _ h3
    have e4 := need_eats h4
    have e5 := isT_len hb
    rw [F.size, F.size_app, leaf1, F.size]
    omega
   ·cases h
theorem kids_size {rd : List Tok → Rd F} (hr : ∀ ts q f, rd ts = (some f, q) → f.size + q.length ≤ ts.length) {n : Nd} {ts q : List Tok} {f : F} (h : kidsR rd n ts = (some f, q)) : f.size + q.length ≤ ts.length := by
 obtain ⟨u, p2, h2, h⟩ := then_inv h
 obtain ⟨l, p3, h3, h⟩ := then_inv h
 obtain ⟨u2, p4, h4, h⟩ := then_inv h
 cases h
 have e2 := need_eats h2
 have e3 := list_size hr _ _ _ _ h3
 have e4 := need_eats h4
 rw [F.size, F.size]
 omega
theorem expr_size : ∀ k ts q f, exprR k ts = (some f, q) → f.size + q.length ≤ ts.length
 | 0, ts, q, f, h => by cases h
 | k + 1, ts, q, f, h => by
  have ih := expr_size k
  rw [exprR] at h
  split at h
  ·rename_i h1; have := kids_size ih h; have := isT_len h1; omega
  ·split at h
   ·rename_i h1; have := kids_size ih h; have := isT_len h1; omega
   ·split at h
    ·rename_i h1
     obtain ⟨m, p, h2, h⟩ := then_inv h
     have := kids_size ih h; have := isT_len h1; have := num_eats h2; omega
    ·split at h
     ·rename_i h1
      obtain ⟨g, p, h2, h⟩ := then_inv h
      have := ih _ _ _ h2
      have := isT_len h1
      cases h
      rw [F.size, F.size]
      omega
     ·split at h
      ·rename_i h1
       have := isT_len h1
       cases h
       rw [leaf1]
       omega
      ·split at h
       ·rename_i h1
        have := isT_len h1
        cases h
        rw [leaf1]
        omega
       ·split at h
        ·rename_i h1
         obtain ⟨g, p, h2, h⟩ := then_inv h
         obtain ⟨u, p2, h3, h⟩ := then_inv h
         have := ih _ _ _ h2
         have := isT_len h1
         have := need_eats h3
         cases h
         omega
        ·exact cond_size h
end Go.Proofs.YtogmhaihmkcjgaaGreatDoor.Pa

/-
 Numbers and words of tokens: what the library's functions make of them. No program in sight.
-/
namespace Go.Proofs.YtogmhaihmkcjgaaGreatDoor.Pa
set_option linter.unusedVariables false

theorem dig_nat {c : UInt8} (h : Lx.isDig c = true) : 48 ≤ c.toNat ∧ c.toNat ≤ 57 := by
 unfold Lx.isDig at h
 simp only [Bool.and_eq_true, decide_eq_true_eq, UInt8.le_iff_toNat_le] at h
 exact h
/-- digits behind a number -/
def dvA (a : Nat) (l : Tx) : Nat := l.foldl (fun n c => 10 * n + (c.toNat - 48)) a
theorem dvA_le (l : Tx) : ∀ a, a ≤ dvA a l := by
 induction l with
 | nil => intro a; exact Nat.le_refl _
 | cons c m ih =>
  intro a
  have := ih (10 * a + (c.toNat - 48))
  show a ≤ dvA (10 * a + (c.toNat - 48)) m
  omega
theorem parse_dig : ∀ (l : Tx) (a : Nat), (∀ c ∈ l, Lx.isDig c = true) → dvA a l ≤ 2147483648 → Lib.parseUint10 a l = .ok (dvA a l)
 | [], a, _, _ => rfl
 | c :: m, a, h, hle => by
  have hc := dig_nat (h c (List.mem_cons_self ..))
  have h1 : dvA (10 * a + (c.toNat - 48)) m ≤ 2147483648 := hle
  have h2 := dvA_le m (10 * a + (c.toNat - 48))
  have ih := parse_dig m (10 * a + (c.toNat - 48)) (fun x hx => h x (List.mem_cons_of_mem _ hx)) h1
  rw [Lib.parseUint10, if_pos hc, if_neg (by omega), if_neg (by omega), Nat.mul_comm a 10, ih]
  rfl
theorem num_atoi {t : Tx} {neg : Bool} {d : Tx} (h : NumT t neg d) : Lib.atoiAll t = .ok (numV t) ∧ numV t = (if neg then -(Lx.dv d : Int) else (Lx.dv d : Int)) := by
 obtain ⟨he, hp, ha, hl⟩ := h
 have h3 : Lx.dv d ≤ 2147483648 := by cases neg <;> simp at hl <;> omega
 have hpd : Lib.parseMag d = .ok (Lx.dv d) := by
  unfold Lib.parseMag
  rw [if_neg (by intro h; rw [h] at hp; simp at hp), parse_dig d 0 ha h3]
  rfl
 cases neg with
 | true =>
  simp only [if_true] at he
  subst he
  refine ⟨?_, rfl⟩
  unfold Lib.atoiAll
  simp only [show (45 : UInt8).toNat = 45 from rfl, or_true, if_true, hpd]
  rw [if_neg (by omega), if_neg (by omega)]
  rfl
 | false =>
  simp only [Bool.false_eq_true, if_false] at he
  subst he
  cases t with
  | nil => simp at hp
  | cons c m =>
   have hc := dig_nat (ha c (List.mem_cons_self ..))
   have hne : c ≠ 45 := isDig_ne (ha c (List.mem_cons_self ..))
   have hv : numV (c :: m) = (Lx.dv (c :: m) : Int) := by rw [numV, if_neg hne]
   refine ⟨?_, by rw [hv]; rfl⟩
   rw [hv]
   rw [Lib.atoiAll_plain c m (by omega) (by omega), hpd, Lib.signless]
   rw [if_neg (by omega)]
theorem isWd_ne {c : UInt8} (h : Lx.isWd c = true) : c ≠ 39 := by rintro rfl; exact absurd h (by decide)
theorem word_mid {t w : Tx} (h : WordT t w) : t.tail.dropLast = w := by rw [h.eq]; simp
theorem word_trim {t w : Tx} (h : WordT t w) : Lib.trimB t 39 = w := by
 obtain ⟨he, ha, hp, hl⟩ := h
 subst he
 unfold Lib.trimB Lib.trimLeftB Lib.trimRightB
 have h1 : ∀ l : Tx, (∀ c ∈ l, Lx.isWd c = true) → 0 < l.length → ∀ r : Tx, (l ++ r).dropWhile (· == (39 : UInt8)) = l ++ r := by
  intro l hl h0 r
  cases l with
  | nil => simp at h0
  | cons c m =>
   rw [List.cons_append, List.dropWhile_cons, if_neg]
   have := isWd_ne (hl c (List.mem_cons_self ..))
   simpa using this
 have h2 : (39 :: (w ++ [39])).reverse = 39 :: (w.reverse ++ [39]) := by simp
 rw [h2, List.dropWhile_cons, if_pos (by decide), h1 w.reverse (fun c hc => ha c (List.mem_reverse.1 hc)) (by simpa using hp)]
 have h3 : (w.reverse ++ [39]).reverse = 39 :: w := by simp
 rw [h3, List.dropWhile_cons, if_pos (by decide)]
 have := h1 w ha hp []
 rwa [List.append_nil] at this
theorem num_bound {t : Tx} {neg : Bool} {d : Tx} (h : NumT t neg d) : -2147483648 ≤ numV t ∧ numV t ≤ 2147483647 := by
 have h1 := (num_atoi h).2
 have h2 := h.le
 cases neg <;> simp at h1 h2 <;> omega
end Go.Proofs.YtogmhaihmkcjgaaGreatDoor.Pa

/-
 Sizes of what is read. No program in sight.
-/
namespace Go.Proofs.YtogmhaihmkcjgaaGreatDoor.Pa
open Lx (Tok)
set_option linter.unusedVariables false

/-- every node has a property -/
def F.Ev (p : Nd → Prop) : F → Prop
 | .nil => True
 | .cons n k r => p n ∧ k.Ev p ∧ r.Ev p
theorem F.ev_app {p : Nd → Prop} {f g : F} (hf : f.Ev p) (hg : g.Ev p) : (f.app g).Ev p := by
 induction f with
 | nil => exact hg
 | cons n k r _ ih => exact ⟨hf.1, hf.2.1, ih hf.2.2⟩
theorem F.ev_cat {p : Nd → Prop} : ∀ {l : List F}, (∀ f ∈ l, f.Ev p) → (F.cat l).Ev p
 | [], _ => trivial
 | f :: l, h => F.ev_app (h f (List.mem_cons_self ..)) (F.ev_cat fun g hg => h g (List.mem_cons_of_mem _ hg))
theorem F.ev_num {p : Nd → Prop} (f : F) : ∀ a, f.Ev p → ∀ x ∈ f.num a, p x.1 := by
 induction f with
 | nil => intro a _ x hx; cases hx
 | cons n k r ih1 ih2 =>
  intro a h x hx
  rw [F.num] at hx
  rcases List.mem_cons.1 hx with rfl | hx
  ·exact h.1
  ·rcases List.mem_append.1 hx with hx | hx
   ·exact ih1 _ h.2.1 x hx
   ·exact ih2 _ h.2.2 x hx
theorem F.len_size (f : F) : f.len ≤ f.size := by
 induction f with
 | nil => exact Nat.le_refl 0
 | cons n k r _ ih => rw [F.len, F.size]; omega
theorem F.num_kids (f : F) : ∀ a, ∀ x ∈ f.num a, x.2.length ≤ f.size := by
 induction f with
 | nil => intro a x hx; cases hx
 | cons n k r ih1 ih2 =>
  intro a x hx
  rw [F.num] at hx
  rw [F.size]
  rcases List.mem_cons.1 hx with rfl | hx
  ·show (k.idx (a + 1)).length ≤ _
   rw [F.idx_len]
   have := k.len_size
   omega
  ·rcases List.mem_append.1 hx with hx | hx
   ·have := ih1 _ x hx; omega
   ·have := ih2 _ x hx; omega
def NdB (n : Nd) : Prop := n.name.length ≤ 32 ∧ n.attr.length ≤ 32
/-- what a reading returns has a property, and what it leaves is good -/
def Gd {α : Type} (rd : List Tok → Rd α) (Q : α → Prop) : Prop := ∀ ts q a, Good ts → rd ts = (some a, q) → Q a ∧ Good q
theorem name_gd : Gd nameR fun a => a.length ≤ 32 := by
 intro ts q a hg h
 have hk := (name_keeps ts hg).2
 rw [h] at hk
 refine ⟨?_, hk⟩
 unfold nameR at h
 split at h
 ·rename_i h1
  cases h
  cases ts with
  | nil => cases h1
  | cons t r =>
   have h2 : t.kind = 0 ∧ isW (t :: r) = false := by simpa [isN] using h1
   cases hg.fine t (List.mem_cons_self ..) with
   | word w hk h =>
    exfalso
    have := h2.2
    rw [isW, hk, h.eq] at this
    simp at this
   | name hk h => exact h.le
   | num neg d hk h => omega
   | sign hk h => omega
   | end_ hk h => omega
 ·cases h
theorem word_gd : Gd wordR fun a => a.length ≤ 32 := by
 intro ts q a hg h
 have hk := (word_keeps ts hg).2
 rw [h] at hk
 refine ⟨?_, hk⟩
 unfold wordR at h
 split at h
 ·rename_i h1
  cases h
  cases ts with
  | nil => cases h1
  | cons t r =>
   have h2 : t.kind = 0 ∧ t.text.head? = some 39 := by simpa [isW] using h1
   cases hg.fine t (List.mem_cons_self ..) with
   | word w hk h =>
    show t.text.tail.dropLast.length ≤ 32
    rw [h.eq]
    have := h.le
    simp; omega
   | name hk h =>
    exfalso
    obtain ⟨c, m, h3, h4⟩ := h.fst
    have h5 := h2.2
    rw [h3] at h5
    simp at h5
    subst h5
    exact absurd h4 (by decide)
   | num neg d hk h => omega
   | sign hk h => omega
   | end_ hk h => omega
 ·cases h
theorem num_gd : Gd numR fun a => -2147483648 ≤ a ∧ a ≤ 2147483647 := by
 intro ts q a hg h
 have hk := (num_keeps ts hg).2
 rw [h] at hk
 refine ⟨?_, hk⟩
 unfold numR at h
 split at h
 ·rename_i h1
  cases h
  cases ts with
  | nil => cases h1
  | cons t r =>
   have h2 : t.kind = 1 := by simpa [isM] using h1
   cases hg.fine t (List.mem_cons_self ..) with
   | num neg d hk h => exact num_bound h
   | word w hk h => omega
   | name hk h => omega
   | sign hk h => omega
   | end_ hk h => omega
 ·cases h
theorem need_gd (s : Tx) : Gd (needR s) fun _ => True := by
 intro ts q a hg h
 have hk := (need_keeps s ts hg).2
 rw [h] at hk
 exact ⟨trivial, hk⟩
theorem pair_gd (s : Tx) : Gd (pairR s) fun x => x.1.length ≤ 32 ∧ x.2.length ≤ 32 := by
 intro ts q x hg h
 obtain ⟨a, p, h1, h⟩ := then_inv h
 obtain ⟨u, p2, h2, h⟩ := then_inv h
 obtain ⟨b, p3, h3, h⟩ := then_inv h
 cases h
 have g1 := name_gd _ _ _ hg h1
 have g2 := need_gd s _ _ _ g1.2 h2
 have g3 := name_gd _ _ _ g2.2 h3
 exact ⟨⟨g1.1, g3.1⟩, g3.2⟩
theorem list_gd {α : Type} {rd : List Tok → Rd α} {Q : α → Prop} (h : Gd rd Q) : ∀ k, Gd (listR rd k) fun l => l.length ≤ k ∧ ∀ a ∈ l, Q a
 | 0 => fun ts q l hg h => by cases h
 | k + 1 => fun ts q l hg hl => by
  obtain ⟨a, p, h1, hl⟩ := then_inv hl
  have g1 := h _ _ _ hg h1
  split at hl
  ·rename_i hc
   obtain ⟨m, p2, h2, hl⟩ := then_inv hl
   cases hl
   have g2 := list_gd h k _ _ _ (g1.2.isT hc) h2
   refine ⟨⟨by simpa using g2.1.1, fun x hx => ?_⟩, g2.2⟩
   rcases List.mem_cons.1 hx with rfl | hx
   ·exact g1.1
   ·exact g2.1.2 x hx
  ·cases hl
   refine ⟨⟨by simp, fun x hx => ?_⟩, g1.2⟩
   rw [List.mem_singleton.1 hx]; exact g1.1
theorem value_gd : Gd valueR NdB := by
 intro ts q n hg h
 unfold valueR at h
 split at h
 ·obtain ⟨x, p, h1, h⟩ := then_inv h
  have g1 := pair_gd _ _ _ _ hg h1
  cases h
  exact ⟨g1.1, g1.2⟩
 ·split at h
  ·obtain ⟨x, p, h1, h⟩ := then_inv h
   have g1 := word_gd _ _ _ hg h1
   cases h
   exact ⟨⟨g1.1, Nat.zero_le _⟩, g1.2⟩
  ·split at h
   ·obtain ⟨x, p, h1, h⟩ := then_inv h
    have g1 := num_gd _ _ _ hg h1
    cases h
    exact ⟨⟨Nat.zero_le _, Nat.zero_le _⟩, g1.2⟩
   ·cases h
theorem leaf_ev {p : Nd → Prop} {n : Nd} (h : p n) : (leaf n).Ev p := ⟨h, trivial, trivial⟩
theorem leaf_gd : Gd leafR (F.Ev NdB) := by
 intro ts q f hg h
 obtain ⟨x, p, h1, h⟩ := then_inv h
 have g1 := value_gd _ _ _ hg h1
 cases h
 exact ⟨leaf_ev g1.1, g1.2⟩
theorem ndb0 (k : Nat) (m : Int) (a : Nat) : NdB ⟨k, m, [], [], a⟩ := ⟨Nat.zero_le _, Nat.zero_le _⟩
theorem cond_gd : Gd condR (F.Ev NdB) := by
 intro ts q f hg h
 obtain ⟨x, p, h1, h⟩ := then_inv h
 have g1 := value_gd _ _ _ hg h1
 split at h
 ·rename_i k hk
  obtain ⟨b, p2, h2, h⟩ := then_inv h
  have g2 := value_gd _ _ _ (g1.2.cmp hk) h2
  cases h
  exact ⟨⟨ndb0 _ _ _, F.ev_app (leaf_ev g1.1) (leaf_ev g2.1), trivial⟩, g2.2⟩
 ·split at h
  ·rename_i hk
   obtain ⟨b, p2, h2, h⟩ := then_inv h
   have g2 := value_gd _ _ _ (g1.2.isT hk) h2
   obtain ⟨u, p3, h3, h⟩ := then_inv h
   have g3 := need_gd _ _ _ _ g2.2 h3
   obtain ⟨c, p4, h4, h⟩ := then_inv h
   have g4 := value_gd _ _ _ g3.2 h4
   cases h
   exact ⟨⟨ndb0 _ _ _, F.ev_app (leaf_ev g1.1) (F.ev_app (leaf_ev g2.1) (leaf_ev g4.1)), trivial⟩, g4.2⟩
  ·split at h
   ·rename_i hk
    obtain ⟨u, p2, h2, h⟩ := then_inv h
    have g2 := need_gd _ _ _ _ (g1.2.isT hk) h2
    obtain ⟨l, p3, h3, h⟩ := then_inv h
    have g3 := list_gd leaf_gd _ _ _ _ g2.2 h3
    obtain ⟨v, p4, h4, h⟩ := then_inv h
    have g4 := need_gd _ _ _ _ g3.2 h4
    cases h
    exact ⟨⟨ndb0 _ _ _, F.ev_app (leaf_ev g1.1) (F.ev_cat g3.1.2), trivial⟩, g4.2⟩
   ·cases h
theorem kids_gd {rd : List Tok → Rd F} (h : Gd rd (F.Ev NdB)) (k : Nat) (m : Int) (a : Nat) : Gd (kidsR rd ⟨k, m, [], [], a⟩) (F.Ev NdB) := by
 intro ts q f hg hf
 obtain ⟨u, p2, h2, hf⟩ := then_inv hf
 have g2 := need_gd _ _ _ _ hg h2
 obtain ⟨l, p3, h3, hf⟩ := then_inv hf
 have g3 := list_gd h _ _ _ _ g2.2 h3
 obtain ⟨v, p4, h4, hf⟩ := then_inv hf
 have g4 := need_gd _ _ _ _ g3.2 h4
 cases hf
 exact ⟨⟨ndb0 _ _ _, F.ev_cat g3.1.2, trivial⟩, g4.2⟩
theorem expr_gd : ∀ k, Gd (exprR k) (F.Ev NdB)
 | 0 => fun ts q f hg h => by cases h
 | k + 1 => by
  have ih := expr_gd k
  intro ts q f hg h
  rw [exprR] at h
  split at h
  ·rename_i h1; exact kids_gd ih _ _ _ _ _ _ (hg.isT h1) h
  ·split at h
   ·rename_i h1; exact kids_gd ih _ _ _ _ _ _ (hg.isT h1) h
   ·split at h
    ·rename_i h1
     obtain ⟨m, p, h2, h⟩ := then_inv h
     exact kids_gd ih _ _ _ _ _ _ (num_gd _ _ _ (hg.isT h1) h2).2 h
    ·split at h
     ·rename_i h1
      obtain ⟨g, p, h2, h⟩ := then_inv h
      have g2 := ih _ _ _ (hg.isT h1) h2
      cases h
      exact ⟨⟨ndb0 _ _ _, g2.1, trivial⟩, g2.2⟩
     ·split at h
      ·rename_i h1; cases h; exact ⟨leaf_ev (ndb0 _ _ _), hg.isT h1⟩
      ·split at h
       ·rename_i h1; cases h; exact ⟨leaf_ev (ndb0 _ _ _), hg.isT h1⟩
       ·split at h
        ·rename_i h1
         obtain ⟨g, p, h2, h⟩ := then_inv h
         have g2 := ih _ _ _ (hg.isT h1) h2
         obtain ⟨u, p3, h3, h⟩ := then_inv h
         have g3 := need_gd _ _ _ _ g2.2 h3
         cases h
         exact ⟨g2.1, g3.2⟩
        ·exact cond_gd _ _ _ hg h
structure PlB (n : Nat) (p : Pl) : Prop where
 name : p.name.length ≤ 32
 scope : p.scope.length ≤ 32
 escrow : p.escrow.length ≤ 32
 ul : p.uses.length ≤ n
 rl : p.reveal.length ≤ n
 us : ∀ x ∈ p.uses, x.1.length ≤ 32 ∧ x.2.length ≤ 32
 rv : ∀ x ∈ p.reveal, x.1.length ≤ 32 ∧ x.2.length ≤ 32
 sz : p.root.size ≤ n
 ev : p.root.Ev NdB
theorem reveal_gd (n : Nat) : ∀ ts q l, Good ts → ts.length ≤ n → revealR ts = (some l, q) → (l.length ≤ n ∧ ∀ x ∈ l, x.1.length ≤ 32 ∧ x.2.length ≤ 32) ∧ Good q := by
 intro ts q l hg hn h
 unfold revealR at h
 split at h
 ·rename_i h1
  have g := list_gd (pair_gd sDot) _ _ _ _ (hg.isT h1) h
  exact ⟨⟨Nat.le_trans g.1.1 hn, g.1.2⟩, g.2⟩
 ·cases h
  exact ⟨⟨Nat.zero_le _, fun x hx => by cases hx⟩, hg⟩
theorem prove_gd : ∀ ts q f, Good ts → proveR ts = (some f, q) → f.size ≤ ts.length ∧ f.Ev NdB ∧ Good q := by
 intro ts q f hg h
 unfold proveR at h
 split at h
 ·rename_i h1
  have g := expr_gd _ _ _ _ (hg.isT h1) h
  have h2 := expr_size _ _ _ _ h
  have h3 := isT_len h1
  exact ⟨by omega, g⟩
 ·cases h
  have := List.length_pos_iff.2 hg.ne
  exact ⟨by rw [leaf1]; omega, leaf_ev (ndb0 _ _ _), hg⟩
theorem scope_gd : Gd scopeR fun s => s.1.length ≤ 32 := by
 intro ts q s hg h
 unfold scopeR at h
 split at h
 ·rename_i h1
  obtain ⟨w, p, h2, h⟩ := then_inv h
  have g2 := word_gd _ _ _ (hg.isT h1) h2
  split at h
  ·rename_i h3
   obtain ⟨m, p3, h4, h⟩ := then_inv h
   have g4 := num_gd _ _ _ (g2.2.isT h3) h4
   cases h
   exact ⟨g2.1, g4.2⟩
  ·cases h
   exact g2
 ·cases h
  exact ⟨Nat.zero_le _, hg⟩
theorem escrow_gd : Gd escrowR fun s => s.length ≤ 32 := by
 intro ts q s hg h
 unfold escrowR at h
 split at h
 ·rename_i h1; exact name_gd _ _ _ (hg.isT h1) h
 ·cases h
  exact ⟨Nat.zero_le _, hg⟩
theorem suf_len {α : Type} {rd : List Tok → Rd α} (hk : Keeps rd) {ts q : List Tok} {o : Option α} (hg : Good ts) (h : rd ts = (o, q)) : q.length ≤ ts.length := by
 have := (hk ts hg).1.length_le
 rw [h] at this
 exact this
theorem reveal_keeps : Keeps revealR := by
 intro ts h
 unfold revealR
 split
 ·rename_i h1; exact lift (list_keeps (pair_keeps sDot) _ ts.tail (h.isT h1))
 ·exact ⟨List.suffix_refl _, h⟩
theorem policy_gd {ts q : List Tok} {p : Pl} (hg : Good ts) (h : policyR ts = (some p, q)) : PlB ts.length p ∧ Good q := by
 obtain ⟨u1, q1, h1, h⟩ := then_inv h
 have g1 := need_gd _ _ _ _ hg h1
 have l1 := suf_len (need_keeps _) hg h1
 obtain ⟨nm, q2, h2, h⟩ := then_inv h
 have g2 := name_gd _ _ _ g1.2 h2
 have l2 := suf_len name_keeps g1.2 h2
 obtain ⟨u3, q3, h3, h⟩ := then_inv h
 have g3 := need_gd _ _ _ _ g2.2 h3
 have l3 := suf_len (need_keeps _) g2.2 h3
 obtain ⟨us, q4, h4, h⟩ := then_inv h
 have g4 := list_gd (pair_gd sColon) _ _ _ _ g3.2 h4
 have l4 := suf_len (list_keeps (pair_keeps sColon) _) g3.2 h4
 obtain ⟨rv, q5, h5, h⟩ := then_inv h
 have g5 := reveal_gd q4.length _ _ _ g4.2 (Nat.le_refl _) h5
 have l5 := suf_len reveal_keeps g4.2 h5
 obtain ⟨f, q6, h6, h⟩ := then_inv h
 have g6 := prove_gd _ _ _ g5.2 h6
 obtain ⟨s, q7, h7, h⟩ := then_inv h
 have g7 := scope_gd _ _ _ g6.2.2 h7
 obtain ⟨x, q8, h8, h⟩ := then_inv h
 have g8 := escrow_gd _ _ _ g7.2 h8
 obtain ⟨u9, q9, h9, h⟩ := then_inv h
 have g9 := need_gd _ _ _ _ g8.2 h9
 split at h
 ·cases h
  exact ⟨⟨g2.1, g7.1, g8.1, Nat.le_trans g4.1.1 (by omega), Nat.le_trans g5.1.1 (by omega), g4.1.2, g5.1.2, Nat.le_trans g6.1 (by omega), g6.2.1⟩, g9.2⟩
 ·cases h
end Go.Proofs.YtogmhaihmkcjgaaGreatDoor.Pa

/-
 Reading does not look at offsets. No program in sight.
-/
namespace Go.Proofs.YtogmhaihmkcjgaaGreatDoor.Pa
open Lx (Tok)
set_option linter.unusedVariables false

/-- a token without its offset -/
def er (t : Tok) : Tok := ⟨t.kind, t.text, 0⟩
def Nd.er (n : Nd) : Nd := ⟨n.kind, n.num, n.name, n.attr, 0⟩
def F.er : F → F
 | .nil => .nil
 | .cons n k r => .cons n.er k.er r.er
theorem F.er_app (f g : F) : (f.app g).er = f.er.app g.er := by
 induction f with
 | nil => rfl
 | cons n k r _ ih => show F.cons _ _ (r.app g).er = F.cons _ _ (r.er.app g.er); rw [ih]
theorem F.er_cat (l : List F) : (F.cat l).er = F.cat (l.map F.er) := by
 induction l with
 | nil => rfl
 | cons f l ih => rw [F.cat, F.er_app, ih]; rfl
theorem F.er_size (f : F) : f.er.size = f.size := by
 induction f with
 | nil => rfl
 | cons n k r ih1 ih2 => show k.er.size + r.er.size + 1 = k.size + r.size + 1; rw [ih1, ih2]
theorem F.er_idx (f : F) : ∀ a, f.er.idx a = f.idx a := by
 induction f with
 | nil => intro a; rfl
 | cons n k r _ ih2 => intro a; show a :: r.er.idx (a + 1 + k.er.size) = a :: r.idx (a + 1 + k.size); rw [ih2, F.er_size]
theorem F.er_num (f : F) : ∀ a, f.er.num a = (f.num a).map fun x => (x.1.er, x.2) := by
 induction f with
 | nil => intro a; rfl
 | cons n k r ih1 ih2 =>
  intro a
  show (n.er, k.er.idx (a + 1)) :: (k.er.num (a + 1) ++ r.er.num (a + 1 + k.er.size)) = ((n, k.idx (a + 1)) :: (k.num (a + 1) ++ r.num (a + 1 + k.size))).map _
  rw [F.er_idx, ih1, F.er_size, ih2, List.map_cons, List.map_append]
theorem isT_er (s : Tx) (ts : List Tok) : isT s (ts.map er) = isT s ts := by cases ts <;> rfl
theorem isW_er (ts : List Tok) : isW (ts.map er) = isW ts := by cases ts <;> rfl
theorem isN_er (ts : List Tok) : isN (ts.map er) = isN ts := by cases ts <;> rfl
theorem isM_er (ts : List Tok) : isM (ts.map er) = isM ts := by cases ts <;> rfl
theorem isE_er (ts : List Tok) : isE (ts.map er) = isE ts := by cases ts <;> rfl
theorem cmpOf_er (ts : List Tok) : cmpOf (ts.map er) = cmpOf ts := by cases ts <;> rfl
theorem headX_er (ts : List Tok) : headX (ts.map er) = headX ts := by cases ts <;> rfl
theorem atT_er (ts : List Tok) : atT (ts.map er) = 0 := by cases ts <;> rfl
theorem tail_er (ts : List Tok) : (ts.map er).tail = ts.tail.map er := by cases ts <;> rfl
/-- a result without offsets -/
def Rd.er {α : Type} (E : α → α) (r : Rd α) : Rd α := (r.1.map E, r.2.map Pa.er)
theorem er_none {α : Type} (E : α → α) (q : List Tok) : Rd.er E (none, q) = (none, q.map Pa.er) := rfl
theorem er_some {α : Type} (E : α → α) (a : α) (q : List Tok) : Rd.er E (some a, q) = (some (E a), q.map Pa.er) := rfl
theorem then_er {α β : Type} {E : α → α} {G : β → β} {r r' : Rd α} {f f' : α → List Tok → Rd β} (h : r' = r.er E) (hf : ∀ a q, f' (E a) (q.map er) = (f a q).er G) : r'.then f' = (r.then f).er G := by
 subst h
 obtain ⟨o, q⟩ := r
 cases o with
 | none => rfl
 | some a => exact hf a q
theorem name_er (ts : List Tok) : nameR (ts.map er) = (nameR ts).er id := by
 unfold nameR
 rw [isN_er, headX_er, tail_er]
 split <;> rfl
theorem word_er (ts : List Tok) : wordR (ts.map er) = (wordR ts).er id := by
 unfold wordR
 rw [isW_er, headX_er, tail_er]
 split <;> rfl
theorem num_er (ts : List Tok) : numR (ts.map er) = (numR ts).er id := by
 unfold numR
 rw [isM_er, headX_er, tail_er]
 split <;> rfl
theorem need_er (s : Tx) (ts : List Tok) : needR s (ts.map er) = (needR s ts).er id := by
 unfold needR
 rw [isT_er, tail_er]
 split <;> rfl
theorem pair_er (s : Tx) (ts : List Tok) : pairR s (ts.map er) = (pairR s ts).er id :=
 then_er (name_er ts) fun a q => then_er (need_er s q) fun _ q => then_er (name_er q) fun b q => rfl
theorem list_er {α : Type} {E : α → α} {rd : List Tok → Rd α} (h : ∀ ts, rd (ts.map er) = (rd ts).er E) : ∀ k ts, listR rd k (ts.map er) = (listR rd k ts).er (List.map E)
 | 0, ts => rfl
 | k + 1, ts => by
  rw [listR, listR]
  refine then_er (h ts) fun a q => ?_
  rw [isT_er]
  split
  ·rw [tail_er]
   exact then_er (list_er h k _) fun l q => rfl
  ·rfl
theorem value_er (ts : List Tok) : valueR (ts.map er) = (valueR ts).er Nd.er := by
 unfold valueR
 rw [isN_er, isW_er, isM_er, atT_er]
 split
 ·exact then_er (pair_er _ ts) fun x q => rfl
 ·split
  ·exact then_er (word_er ts) fun x q => rfl
  ·split
   ·exact then_er (num_er ts) fun x q => rfl
   ·rfl
theorem leaf_er (ts : List Tok) : leafR (ts.map er) = (leafR ts).er F.er := then_er (value_er ts) fun n q => rfl
theorem cond_er (ts : List Tok) : condR (ts.map er) = (condR ts).er F.er := by
 unfold condR
 refine then_er (value_er ts) fun a q => ?_
 rw [cmpOf_er]
 split
 ·rw [tail_er, atT_er]
  exact then_er (value_er _) fun b q => rfl
 ·rw [isT_er]
  split
  ·rw [tail_er, atT_er]
   exact then_er (value_er _) fun b q => then_er (need_er _ q) fun _ q => then_er (value_er q) fun c q => rfl
  ·rw [isT_er]
   split
   ·rw [tail_er, atT_er]
    refine then_er (need_er _ _) fun _ q => ?_
    rw [List.length_map]
    refine then_er (list_er leaf_er _ q) fun l q => then_er (need_er _ q) fun _ q => ?_
    rw [er_some, F.er, F.er_app, F.er_cat]
    rfl
   ·rfl
theorem kids_er {rd : List Tok → Rd F} (h : ∀ ts, rd (ts.map er) = (rd ts).er F.er) (k : Nat) (m : Int) (a : Nat) (ts : List Tok) : kidsR rd ⟨k, m, [], [], 0⟩ (ts.map er) = (kidsR rd ⟨k, m, [], [], a⟩ ts).er F.er := by
 unfold kidsR
 refine then_er (need_er _ ts) fun _ q => ?_
 rw [List.length_map]
 refine then_er (list_er h _ q) fun l q => then_er (need_er _ q) fun _ q => ?_
 rw [er_some, F.er, F.er_cat]
 rfl
theorem expr_er : ∀ k ts, exprR k (ts.map er) = (exprR k ts).er F.er
 | 0, ts => rfl
 | k + 1, ts => by
  have ih := expr_er k
  rw [exprR, exprR, isT_er, isT_er, isT_er, isT_er, isT_er, isT_er, isT_er, tail_er, atT_er]
  split
  ·exact kids_er ih _ _ _ _
  ·split
   ·exact kids_er ih _ _ _ _
   ·split
    ·exact then_er (num_er _) fun m q => kids_er ih _ _ _ _
    ·split
     ·exact then_er (ih _) fun f q => rfl
     ·split
      ·rfl
      ·split
       ·rfl
       ·split
        ·exact then_er (ih _) fun f q => then_er (need_er _ q) fun _ q => rfl
        ·exact cond_er ts
def Pl.er (p : Pl) : Pl := ⟨p.name, p.uses, p.reveal, p.scope, p.limit, p.escrow, p.root.er⟩
theorem reveal_er (ts : List Tok) : revealR (ts.map er) = (revealR ts).er id := by
 unfold revealR
 rw [isT_er, tail_er, List.length_map]
 split
 ·have := list_er (E := id) (pair_er sDot) ts.length ts.tail
  rw [List.map_id_fun] at this
  exact this
 ·rfl
theorem prove_er (ts : List Tok) : proveR (ts.map er) = (proveR ts).er F.er := by
 unfold proveR
 rw [isT_er, tail_er, List.length_map, atT_er]
 split
 ·exact expr_er _ _
 ·rfl
theorem scope_er (ts : List Tok) : scopeR (ts.map er) = (scopeR ts).er id := by
 unfold scopeR
 rw [isT_er, tail_er]
 split
 ·refine then_er (word_er _) fun s q => ?_
  rw [isT_er, tail_er]
  split
  ·exact then_er (num_er _) fun n q => rfl
  ·rfl
 ·rfl
theorem escrow_er (ts : List Tok) : escrowR (ts.map er) = (escrowR ts).er id := by
 unfold escrowR
 rw [isT_er, tail_er]
 split
 ·exact name_er _
 ·rfl
theorem policy_er (ts : List Tok) : policyR (ts.map er) = (policyR ts).er Pl.er := by
 refine then_er (need_er _ ts) fun _ q => then_er (name_er q) fun nm q => then_er (need_er _ q) fun _ q => ?_
 rw [List.length_map]
 have hl := list_er (E := id) (pair_er sColon) q.length q
 rw [List.map_id_fun] at hl
 refine then_er hl fun us q => then_er (reveal_er q) fun rv q => then_er (prove_er q) fun f q => then_er (scope_er q) fun s q => then_er (escrow_er q) fun x q => then_er (need_er _ q) fun _ q => ?_
 rw [isE_er]
 split <;> rfl
theorem kt_er {ts ts' : List Tok} (h : ts.map Lx.kt = ts'.map Lx.kt) : ts.map er = ts'.map er := by
 have e : ∀ l : List Tok, l.map er = (l.map Lx.kt).map fun x => ⟨x.1, x.2, 0⟩ := fun l => by rw [List.map_map]; rfl
 rw [e, e, h]
/-- tokens of the same kinds and texts are read in the same way -/
theorem policy_kt {ts ts' : List Tok} (h : ts.map Lx.kt = ts'.map Lx.kt) : (policyR ts).er Pl.er = (policyR ts').er Pl.er := by
 rw [← policy_er, ← policy_er, kt_er h]
end Go.Proofs.YtogmhaihmkcjgaaGreatDoor.Pa

/-
 What is read depends on the tokens that are read, and on the next one. No program in sight.
-/
namespace Go.Proofs.YtogmhaihmkcjgaaGreatDoor.Pa
open Lx (Tok)
set_option linter.unusedVariables false

/-- a reading that stops at or ahead of t is the same whatever stands behind t -/
def Lc (t : Tok) (r r' : List Tok) {α : Type} (x x' : Rd α) : Prop := ∀ o vs, x = (o, vs ++ t :: r) → x' = (o, vs ++ t :: r')
section
variable {t : Tok} {r r' : List Tok} {α β : Type}
theorem isT_hd (s : Tx) (us : List Tok) (t : Tok) (r : List Tok) : isT s (us ++ t :: r) = isT s (us ++ [t]) := by cases us <;> rfl
theorem isW_hd (us : List Tok) (t : Tok) (r : List Tok) : isW (us ++ t :: r) = isW (us ++ [t]) := by cases us <;> rfl
theorem isN_hd (us : List Tok) (t : Tok) (r : List Tok) : isN (us ++ t :: r) = isN (us ++ [t]) := by cases us <;> rfl
theorem isM_hd (us : List Tok) (t : Tok) (r : List Tok) : isM (us ++ t :: r) = isM (us ++ [t]) := by cases us <;> rfl
theorem isE_hd (us : List Tok) (t : Tok) (r : List Tok) : isE (us ++ t :: r) = isE (us ++ [t]) := by cases us <;> rfl
theorem cmpOf_hd (us : List Tok) (t : Tok) (r : List Tok) : cmpOf (us ++ t :: r) = cmpOf (us ++ [t]) := by cases us <;> rfl
theorem headX_hd (us : List Tok) (t : Tok) (r : List Tok) : headX (us ++ t :: r) = headX (us ++ [t]) := by cases us <;> rfl
theorem atT_hd (us : List Tok) (t : Tok) (r : List Tok) : atT (us ++ t :: r) = atT (us ++ [t]) := by cases us <;> rfl
theorem lc_here (o : Option α) (us : List Tok) : Lc t r r' (o, us ++ t :: r) (o, us ++ t :: r') := by
 intro o2 vs h
 simp only [Prod.mk.injEq] at h
 obtain ⟨rfl, h2⟩ := h
 rw [List.append_cancel_right h2]
theorem Lc.then {x x' : Rd α} {f f' : α → List Tok → Rd β} (h : Lc t r r' x x') (hg : Good x.2) (hf : ∀ a q, Good q → (f a q).2 <:+ q) (h2 : ∀ a w, x = (some a, w ++ t :: r) → Good (w ++ t :: r) → Lc t r r' (f a (w ++ t :: r)) (f' a (w ++ t :: r'))) : Lc t r r' (x.then f) (x'.then f') := by
 intro o vs hx
 obtain ⟨o1, q1⟩ := x
 cases o1 with
 | none =>
  rw [then_none] at hx
  simp only [Prod.mk.injEq] at hx
  obtain ⟨rfl, rfl⟩ := hx
  rw [h none vs rfl, then_none]
 | some a =>
  rw [then_some] at hx
  have h3 := hf a q1 hg
  rw [hx] at h3
  obtain ⟨w, hw⟩ := h3
  have hw : q1 = (w ++ vs) ++ t :: r := by rw [← hw, List.append_assoc]
  subst hw
  rw [h (some a) (w ++ vs) rfl, then_some]
  exact h2 a (w ++ vs) rfl hg o vs hx
theorem lc_eat (c : Bool) (v : α) (us : List Tok) : Lc t r r' (if c then (some v, (us ++ t :: r).tail) else (none, us ++ t :: r)) (if c then (some v, (us ++ t :: r').tail) else (none, us ++ t :: r')) := by
 cases c with
 | false => exact lc_here none us
 | true =>
  cases us with
  | nil =>
   intro o vs h
   simp only [if_true, Prod.mk.injEq] at h
   have := congrArg List.length h.2
   simp at this
   omega
  | cons u us => exact lc_here (some v) us
theorem Lc.tail {rd rd' : List Tok → Rd α} (us : List Tok) (hk : Keeps rd) (hg : Good (us ++ t :: r).tail) (h : ∀ u w, us = u :: w → Lc t r r' (rd (w ++ t :: r)) (rd' (w ++ t :: r'))) : Lc t r r' (rd (us ++ t :: r).tail) (rd' (us ++ t :: r').tail) := by
 cases us with
 | nil =>
  intro o vs h1
  have h2 := (hk _ hg).1
  rw [h1] at h2
  have := h2.length_le
  simp at this
  omega
 | cons u us => exact h u us rfl
theorem name_lc (us : List Tok) : Lc t r r' (nameR (us ++ t :: r)) (nameR (us ++ t :: r')) := by
 unfold nameR
 rw [isN_hd us t r, isN_hd us t r', headX_hd us t r, headX_hd us t r']
 exact lc_eat _ _ us
theorem word_lc (us : List Tok) : Lc t r r' (wordR (us ++ t :: r)) (wordR (us ++ t :: r')) := by
 unfold wordR
 rw [isW_hd us t r, isW_hd us t r', headX_hd us t r, headX_hd us t r']
 exact lc_eat _ _ us
theorem num_lc (us : List Tok) : Lc t r r' (numR (us ++ t :: r)) (numR (us ++ t :: r')) := by
 unfold numR
 rw [isM_hd us t r, isM_hd us t r', headX_hd us t r, headX_hd us t r']
 exact lc_eat _ _ us
theorem need_lc (s : Tx) (us : List Tok) : Lc t r r' (needR s (us ++ t :: r)) (needR s (us ++ t :: r')) := by
 unfold needR
 rw [isT_hd s us t r, isT_hd s us t r']
 exact lc_eat _ _ us
theorem kp {rd : List Tok → Rd α} (h : Keeps rd) {q : List Tok} (hg : Good q) : (rd q).2 <:+ q := (h q hg).1
theorem pair_lc (s : Tx) (us : List Tok) (hg : Good (us ++ t :: r)) : Lc t r r' (pairR s (us ++ t :: r)) (pairR s (us ++ t :: r')) :=
 (name_lc us).then (name_keeps _ hg).2 (fun a q hq => (then_at (need_keeps s q hq) fun _ q hq => then_at (name_keeps q hq) fun b q hq => ⟨List.suffix_refl _, hq⟩).1) fun a w _ hw =>
  (need_lc s w).then (need_keeps _ _ hw).2 (fun _ q hq => (then_at (name_keeps q hq) fun b q hq => ⟨List.suffix_refl _, hq⟩).1) fun _ w _ hw =>
   (name_lc w).then (name_keeps _ hw).2 (fun b q hq => List.suffix_refl _) fun b w _ hw => lc_here _ w
theorem lenr {us w : List Tok} {u : Tok} (h : us = u :: w) (r : List Tok) : (w ++ t :: r).length + 1 = (us ++ t :: r).length := by subst h; simp
theorem list_lc {rd rd' : List Tok → Rd α} {n n' : Nat} (hk : Keeps rd) (h : ∀ us, Good (us ++ t :: r) → (us ++ t :: r).length ≤ n → (us ++ t :: r').length ≤ n' → Lc t r r' (rd (us ++ t :: r)) (rd' (us ++ t :: r'))) :
  ∀ k k' us, Good (us ++ t :: r) → (us ++ t :: r).length ≤ k → (us ++ t :: r').length ≤ k' → (us ++ t :: r).length ≤ n → (us ++ t :: r').length ≤ n' → Lc t r r' (listR rd k (us ++ t :: r)) (listR rd' k' (us ++ t :: r'))
 | 0, k', us, hg, h1, h2, h3, h4 => by simp at h1
 | k + 1, 0, us, hg, h1, h2, h3, h4 => by simp at h2
 | k + 1, k' + 1, us, hg, h1, h2, h3, h4 => by
  rw [listR, listR]
  refine (h us hg h3 h4).then (hk _ hg).2 (fun a q hq => ?_) fun a w hx hw => ?_
  ·split
   ·rename_i hc
    exact (then_at (list_keeps hk k q.tail (hq.isT hc)) fun l q hq => ⟨List.suffix_refl _, hq⟩).1.trans (List.tail_suffix _)
   ·exact List.suffix_refl _
  ·have hl := (hk _ hg).1.length_le
   rw [hx] at hl
   simp only [List.length_append, List.length_cons] at hl h1 h2 h3 h4
   rw [isT_hd sComma w t r, isT_hd sComma w t r']
   cases hc : isT sComma (w ++ [t]) with
   | false =>
    exact lc_here _ w
   | true =>
    simp only [if_true]
    have hct : isT sComma (w ++ t :: r) = true := by rw [isT_hd]; exact hc
    refine Lc.tail (rd := fun q => (listR rd k q).then fun l q => (some (a :: l), q)) (rd' := fun q => (listR rd' k' q).then fun l q => (some (a :: l), q)) w (fun q hq => then_at (list_keeps hk k q hq) fun l q hq => ⟨List.suffix_refl _, hq⟩) (hw.isT hct) fun u w2 e => ?_
    have hl2 := lenr (t := t) e r
    have hl3 := lenr (t := t) e r'
    simp only [List.length_append, List.length_cons] at hl2 hl3
    have hg2 : Good (w2 ++ t :: r) := by have := hw.isT hct; rw [e] at this; exact this
    refine (list_lc hk h k k' w2 hg2 ?_ ?_ ?_ ?_).then (list_keeps hk k _ hg2).2 (fun l q hq => List.suffix_refl _) fun l w _ _ => lc_here _ w
    all_goals (simp only [List.length_append, List.length_cons]; omega)
theorem value_lc (us : List Tok) (hg : Good (us ++ t :: r)) : Lc t r r' (valueR (us ++ t :: r)) (valueR (us ++ t :: r')) := by
 unfold valueR
 rw [isN_hd us t r, isN_hd us t r', isW_hd us t r, isW_hd us t r', isM_hd us t r, isM_hd us t r', atT_hd us t r, atT_hd us t r']
 split
 ·exact (pair_lc _ us hg).then (pair_keeps _ _ hg).2 (fun a q hq => List.suffix_refl _) fun a w _ _ => lc_here _ w
 ·split
  ·exact (word_lc us).then (word_keeps _ hg).2 (fun a q hq => List.suffix_refl _) fun a w _ _ => lc_here _ w
  ·split
   ·exact (num_lc us).then (num_keeps _ hg).2 (fun a q hq => List.suffix_refl _) fun a w _ _ => lc_here _ w
   ·exact lc_here _ us
theorem leaf_lc (us : List Tok) (hg : Good (us ++ t :: r)) : Lc t r r' (leafR (us ++ t :: r)) (leafR (us ++ t :: r')) :=
 (value_lc us hg).then (value_keeps _ hg).2 (fun a q hq => List.suffix_refl _) fun a w _ _ => lc_here _ w
theorem good_tl {w w2 : List Tok} {u : Tok} (e : w = u :: w2) (h : Good (w ++ t :: r).tail) : Good (w2 ++ t :: r) := by subst e; exact h
theorem cond_lc (us : List Tok) (hg : Good (us ++ t :: r)) : Lc t r r' (condR (us ++ t :: r)) (condR (us ++ t :: r')) := by
 unfold condR
 rw [atT_hd us t r, atT_hd us t r']
 refine (value_lc us hg).then (value_keeps _ hg).2 (fun a q hq => ?_) fun a w _ hw => ?_
 ·split
  ·rename_i k hk
   exact (then_at (value_keeps q.tail (hq.cmp hk)) fun b q hq => ⟨List.suffix_refl _, hq⟩).1.trans (List.tail_suffix _)
  ·split
   ·rename_i hk
    exact (then_at (value_keeps q.tail (hq.isT hk)) fun b q hq => then_at (need_keeps _ q hq) fun _ q hq => then_at (value_keeps q hq) fun c q hq => ⟨List.suffix_refl _, hq⟩).1.trans (List.tail_suffix _)
   ·split
    ·rename_i hk
     exact (then_at (need_keeps sBra q.tail (hq.isT hk)) fun _ q hq => then_at (list_keeps leaf_keeps _ q hq) fun l q hq => then_at (need_keeps _ q hq) fun _ q hq => ⟨List.suffix_refl _, hq⟩).1.trans (List.tail_suffix _)
    ·exact List.suffix_refl _
 ·rw [cmpOf_hd w t r', ← cmpOf_hd w t r]
  split
  ·rename_i k hk
   have hg1 := hw.cmp hk
   refine Lc.tail (rd := fun q => (valueR q).then _) (rd' := fun q => (valueR q).then _) w (fun q hq => then_at (value_keeps q hq) fun b q hq => ⟨List.suffix_refl _, hq⟩) hg1 fun u w2 e => ?_
   have hg2 := good_tl e hg1
   exact (value_lc w2 hg2).then (value_keeps _ hg2).2 (fun a q hq => List.suffix_refl _) fun a w _ _ => lc_here _ w
  ·rw [isT_hd kBetween w t r', ← isT_hd kBetween w t r]
   split
   ·rename_i hk
    have hg1 := hw.isT hk
    refine Lc.tail (rd := fun q => (valueR q).then _) (rd' := fun q => (valueR q).then _) w (fun q hq => then_at (value_keeps q hq) fun b q hq => then_at (need_keeps _ q hq) fun _ q hq => then_at (value_keeps q hq) fun c q hq => ⟨List.suffix_refl _, hq⟩) hg1 fun u w2 e => ?_
    have hg2 := good_tl e hg1
    refine (value_lc w2 hg2).then (value_keeps _ hg2).2 (fun b q hq => (then_at (need_keeps _ q hq) fun _ q hq => then_at (value_keeps q hq) fun c q hq => ⟨List.suffix_refl _, hq⟩).1) fun b w _ hw => ?_
    refine (need_lc _ w).then (need_keeps _ _ hw).2 (fun b q hq => (then_at (value_keeps q hq) fun c q hq => ⟨List.suffix_refl _, hq⟩).1) fun _ w _ hw => ?_
    exact (value_lc w hw).then (value_keeps _ hw).2 (fun a q hq => List.suffix_refl _) fun a w _ _ => lc_here _ w
   ·rw [isT_hd kIn w t r', ← isT_hd kIn w t r]
    split
    ·rename_i hk
     have hg1 := hw.isT hk
     refine Lc.tail (rd := fun q => (needR sBra q).then _) (rd' := fun q => (needR sBra q).then _) w (fun q hq => then_at (need_keeps _ q hq) fun _ q hq => then_at (list_keeps leaf_keeps _ q hq) fun l q hq => then_at (need_keeps _ q hq) fun _ q hq => ⟨List.suffix_refl _, hq⟩) hg1 fun u w2 e => ?_
     have hg2 := good_tl e hg1
     refine (need_lc _ w2).then (need_keeps _ _ hg2).2 (fun b q hq => (then_at (list_keeps leaf_keeps _ q hq) fun l q hq => then_at (need_keeps _ q hq) fun _ q hq => ⟨List.suffix_refl _, hq⟩).1) fun _ w _ hw => ?_
     refine (list_lc (n := (w ++ t :: r).length) (n' := (w ++ t :: r').length) leaf_keeps (fun us hg _ _ => leaf_lc us hg) _ _ w hw (Nat.le_refl _) (Nat.le_refl _) (Nat.le_refl _) (Nat.le_refl _)).then (list_keeps leaf_keeps _ _ hw).2 (fun b q hq => (then_at (need_keeps _ q hq) fun _ q hq => ⟨List.suffix_refl _, hq⟩).1) fun l w _ hw => ?_
     exact (need_lc _ w).then (need_keeps _ _ hw).2 (fun b q hq => List.suffix_refl _) fun _ w _ _ => lc_here _ w
    ·exact lc_here _ w
theorem kids_lc {rd rd' : List Tok → Rd F} {n n' : Nat} (hk : Keeps rd) (h : ∀ us, Good (us ++ t :: r) → (us ++ t :: r).length ≤ n → (us ++ t :: r').length ≤ n' → Lc t r r' (rd (us ++ t :: r)) (rd' (us ++ t :: r'))) (m : Nd) (us : List Tok) (hg : Good (us ++ t :: r)) (h3 : (us ++ t :: r).length ≤ n) (h4 : (us ++ t :: r').length ≤ n') :
  Lc t r r' (kidsR rd m (us ++ t :: r)) (kidsR rd' m (us ++ t :: r')) := by
 unfold kidsR
 refine (need_lc _ us).then (need_keeps _ _ hg).2 (fun b q hq => (then_at (list_keeps hk _ q hq) fun l q hq => then_at (need_keeps _ q hq) fun _ q hq => ⟨List.suffix_refl _, hq⟩).1) fun _ w hx hw => ?_
 have hl := (need_keeps sOpen _ hg).1.length_le
 rw [hx] at hl
 simp only [List.length_append, List.length_cons] at hl h3 h4
 refine (list_lc hk h _ _ w hw (Nat.le_refl _) (Nat.le_refl _) ?_ ?_).then (list_keeps hk _ _ hw).2 (fun b q hq => (then_at (need_keeps _ q hq) fun _ q hq => ⟨List.suffix_refl _, hq⟩).1) fun l w _ hw => ?_
 ·simp only [List.length_append, List.length_cons]; omega
 ·simp only [List.length_append, List.length_cons]; omega
 ·exact (need_lc _ w).then (need_keeps _ _ hw).2 (fun b q hq => List.suffix_refl _) fun _ w _ _ => lc_here _ w
theorem expr_lc : ∀ k k' us, Good (us ++ t :: r) → (us ++ t :: r).length ≤ k → (us ++ t :: r').length ≤ k' → Lc t r r' (exprR k (us ++ t :: r)) (exprR k' (us ++ t :: r'))
 | 0, k', us, hg, h1, h2 => by simp at h1
 | k + 1, 0, us, hg, h1, h2 => by simp at h2
 | k + 1, k' + 1, us, hg, h1, h2 => by
  have ih : ∀ us, Good (us ++ t :: r) → (us ++ t :: r).length ≤ k → (us ++ t :: r').length ≤ k' → Lc t r r' (exprR k (us ++ t :: r)) (exprR k' (us ++ t :: r')) := fun us => expr_lc k k' us
  have hle : ∀ {u w}, us = u :: w → (w ++ t :: r).length ≤ k ∧ (w ++ t :: r').length ≤ k' := fun {u w} e => by
   have := lenr (t := t) e r
   have := lenr (t := t) e r'
   omega
  rw [exprR, exprR]
  rw [atT_hd us t r, atT_hd us t r', isT_hd kAll us t r', ← isT_hd kAll us t r, isT_hd kAny us t r', ← isT_hd kAny us t r, isT_hd kAtleast us t r', ← isT_hd kAtleast us t r, isT_hd kNot us t r', ← isT_hd kNot us t r, isT_hd kTrue us t r', ← isT_hd kTrue us t r, isT_hd kFalse us t r', ← isT_hd kFalse us t r, isT_hd sOpen us t r', ← isT_hd sOpen us t r]
  split
  ·rename_i hc
   exact Lc.tail us (kids_keeps (expr_keeps k) _) (hg.isT hc) fun u w e => kids_lc (expr_keeps k) ih _ w (good_tl e (hg.isT hc)) (hle e).1 (hle e).2
  ·split
   ·rename_i hc
    exact Lc.tail us (kids_keeps (expr_keeps k) _) (hg.isT hc) fun u w e => kids_lc (expr_keeps k) ih _ w (good_tl e (hg.isT hc)) (hle e).1 (hle e).2
   ·split
    ·rename_i hc
     refine Lc.tail (rd := fun q => (numR q).then _) (rd' := fun q => (numR q).then _) us (fun q hq => then_at (num_keeps q hq) fun m q hq => kids_keeps (expr_keeps k) _ q hq) (hg.isT hc) fun u w e => ?_
     have hg2 := good_tl e (hg.isT hc)
     refine (num_lc w).then (num_keeps _ hg2).2 (fun m q hq => (kids_keeps (expr_keeps k) _ q hq).1) fun m w2 hx hw => ?_
     have hl := (num_keeps _ hg2).1.length_le
     rw [hx] at hl
     have hl2 := hle e
     simp only [List.length_append, List.length_cons] at hl hl2
     refine kids_lc (expr_keeps k) ih _ w2 hw ?_ ?_
     all_goals (simp only [List.length_append, List.length_cons]; omega)
    ·split
     ·rename_i hc
      refine Lc.tail (rd := fun q => (exprR k q).then _) (rd' := fun q => (exprR k' q).then _) us (fun q hq => then_at (expr_keeps k q hq) fun m q hq => ⟨List.suffix_refl _, hq⟩) (hg.isT hc) fun u w e => ?_
      have hg2 := good_tl e (hg.isT hc)
      exact (ih w hg2 (hle e).1 (hle e).2).then (expr_keeps k _ hg2).2 (fun m q hq => List.suffix_refl _) fun m w _ _ => lc_here _ w
     ·split
      ·rename_i hc
       exact Lc.tail (rd := fun q => (some (leaf _), q)) (rd' := fun q => (some (leaf _), q)) us (fun q hq => ⟨List.suffix_refl _, hq⟩) (hg.isT hc) fun u w e => lc_here _ w
      ·split
       ·rename_i hc
        exact Lc.tail (rd := fun q => (some (leaf _), q)) (rd' := fun q => (some (leaf _), q)) us (fun q hq => ⟨List.suffix_refl _, hq⟩) (hg.isT hc) fun u w e => lc_here _ w
       ·split
        ·rename_i hc
         refine Lc.tail (rd := fun q => (exprR k q).then _) (rd' := fun q => (exprR k' q).then _) us (fun q hq => then_at (expr_keeps k q hq) fun m q hq => then_at (need_keeps _ q hq) fun _ q hq => ⟨List.suffix_refl _, hq⟩) (hg.isT hc) fun u w e => ?_
         have hg2 := good_tl e (hg.isT hc)
         refine (ih w hg2 (hle e).1 (hle e).2).then (expr_keeps k _ hg2).2 (fun m q hq => (then_at (need_keeps _ q hq) fun _ q hq => ⟨List.suffix_refl _, hq⟩).1) fun m w _ hw => ?_
         exact (need_lc _ w).then (need_keeps _ _ hw).2 (fun b q hq => List.suffix_refl _) fun _ w _ _ => lc_here _ w
        ·exact cond_lc us hg
theorem reveal_lc (us : List Tok) (hg : Good (us ++ t :: r)) : Lc t r r' (revealR (us ++ t :: r)) (revealR (us ++ t :: r')) := by
 unfold revealR
 rw [isT_hd kReveal us t r', ← isT_hd kReveal us t r]
 split
 ·rename_i hc
  refine Lc.tail (rd := listR refR _) (rd' := listR refR _) us (list_keeps (pair_keeps sDot) _) (hg.isT hc) fun u w e => ?_
  have hl1 := lenr (t := t) e r
  have hl2 := lenr (t := t) e r'
  exact list_lc (n := (w ++ t :: r).length) (n' := (w ++ t :: r').length) (pair_keeps sDot) (fun us hg _ _ => pair_lc _ us hg) _ _ w (good_tl e (hg.isT hc)) (by omega) (by omega) (Nat.le_refl _) (Nat.le_refl _)
 ·exact lc_here _ us
theorem prove_lc (us : List Tok) (hg : Good (us ++ t :: r)) : Lc t r r' (proveR (us ++ t :: r)) (proveR (us ++ t :: r')) := by
 unfold proveR
 rw [isT_hd kProve us t r', ← isT_hd kProve us t r, atT_hd us t r, atT_hd us t r']
 split
 ·rename_i hc
  refine Lc.tail (rd := exprR _) (rd' := exprR _) us (expr_keeps _) (hg.isT hc) fun u w e => ?_
  have hl1 := lenr (t := t) e r
  have hl2 := lenr (t := t) e r'
  exact expr_lc _ _ w (good_tl e (hg.isT hc)) (by omega) (by omega)
 ·exact lc_here _ us
theorem prove_keeps : Keeps proveR := by
 intro ts h
 unfold proveR
 split
 ·rename_i h1; exact lift (expr_keeps _ ts.tail (h.isT h1))
 ·exact ⟨List.suffix_refl _, h⟩
theorem scope_keeps : Keeps scopeR := by
 intro ts h
 unfold scopeR
 split
 ·rename_i h1
  refine lift (then_at (word_keeps ts.tail (h.isT h1)) fun s q hq => ?_)
  split
  ·rename_i h2
   have h3 := then_at (num_keeps q.tail (hq.isT h2)) (f := fun n q => (some (s, n), q)) fun n q hq => ⟨List.suffix_refl _, hq⟩
   exact ⟨h3.1.trans (List.tail_suffix _), h3.2⟩
  ·exact ⟨List.suffix_refl _, hq⟩
 ·exact ⟨List.suffix_refl _, h⟩
theorem escrow_keeps : Keeps escrowR := by
 intro ts h
 unfold escrowR
 split
 ·rename_i h1; exact lift (name_keeps ts.tail (h.isT h1))
 ·exact ⟨List.suffix_refl _, h⟩
theorem scope_lc (us : List Tok) (hg : Good (us ++ t :: r)) : Lc t r r' (scopeR (us ++ t :: r)) (scopeR (us ++ t :: r')) := by
 unfold scopeR
 rw [isT_hd kScope us t r', ← isT_hd kScope us t r]
 split
 ·rename_i hc
  have hkf : ∀ (s : Tx) q, Good q → (if isT kLimit q then (numR q.tail).then fun n q => (some (s, n), q) else (some (s, 0), q) : Rd (Tx × Int)).2 <:+ q ∧ Good (if isT kLimit q then (numR q.tail).then fun n q => (some (s, n), q) else (some (s, 0), q) : Rd (Tx × Int)).2 := by
   intro s q hq
   split
   ·rename_i h2
    have h3 := then_at (num_keeps q.tail (hq.isT h2)) (f := fun n q => (some (s, n), q)) fun n q hq => ⟨List.suffix_refl _, hq⟩
    exact ⟨h3.1.trans (List.tail_suffix _), h3.2⟩
   ·exact ⟨List.suffix_refl _, hq⟩
  refine Lc.tail (rd := fun q => (wordR q).then _) (rd' := fun q => (wordR q).then _) us (fun q hq => then_at (word_keeps q hq) fun s q hq => hkf s q hq) (hg.isT hc) fun u w e => ?_
  have hg2 := good_tl e (hg.isT hc)
  refine (word_lc w).then (word_keeps _ hg2).2 (fun s q hq => (hkf s q hq).1) fun s w _ hw => ?_
  rw [isT_hd kLimit w t r', ← isT_hd kLimit w t r]
  split
  ·rename_i h2
   refine Lc.tail (rd := fun q => (numR q).then _) (rd' := fun q => (numR q).then _) w (fun q hq => then_at (num_keeps q hq) fun m q hq => ⟨List.suffix_refl _, hq⟩) (hw.isT h2) fun u w2 e => ?_
   have hg3 := good_tl e (hw.isT h2)
   exact (num_lc w2).then (num_keeps _ hg3).2 (fun b q hq => List.suffix_refl _) fun _ w _ _ => lc_here _ w
  ·exact lc_here _ w
 ·exact lc_here _ us
theorem escrow_lc (us : List Tok) (hg : Good (us ++ t :: r)) : Lc t r r' (escrowR (us ++ t :: r)) (escrowR (us ++ t :: r')) := by
 unfold escrowR
 rw [isT_hd kEscrow us t r', ← isT_hd kEscrow us t r]
 split
 ·rename_i hc
  exact Lc.tail (rd := nameR) (rd' := nameR) us name_keeps (hg.isT hc) fun u w e => name_lc w
 ·exact lc_here _ us
/-- the last part of a policy's reading keeps -/
def endR (p : Pl) (q : List Tok) : Rd Pl := if isE q then (some p, q) else (none, q)
theorem end_keeps (p : Pl) : Keeps (endR p) := by
 intro q hq
 unfold endR
 split <;> exact ⟨List.suffix_refl _, hq⟩
theorem end_lc (p : Pl) (us : List Tok) : Lc t r r' (endR p (us ++ t :: r)) (endR p (us ++ t :: r')) := by
 unfold endR
 rw [isE_hd us t r', ← isE_hd us t r]
 split <;> exact lc_here _ us
def p6 (nm : Tx) (us : List (Tx × Tx)) (rv : List (Tx × Tx)) (f : F) (s : Tx × Int) (x : Tx) (q : List Tok) : Rd Pl := (needR kEnd q).then fun _ q => endR ⟨nm, us, rv, s.1, s.2, x, f⟩ q
def p5 (nm : Tx) (us : List (Tx × Tx)) (rv : List (Tx × Tx)) (f : F) (s : Tx × Int) (q : List Tok) : Rd Pl := (escrowR q).then fun x q => p6 nm us rv f s x q
def p4 (nm : Tx) (us : List (Tx × Tx)) (rv : List (Tx × Tx)) (f : F) (q : List Tok) : Rd Pl := (scopeR q).then fun s q => p5 nm us rv f s q
def p3 (nm : Tx) (us : List (Tx × Tx)) (rv : List (Tx × Tx)) (q : List Tok) : Rd Pl := (proveR q).then fun f q => p4 nm us rv f q
def p2 (nm : Tx) (us : List (Tx × Tx)) (q : List Tok) : Rd Pl := (revealR q).then fun rv q => p3 nm us rv q
def p1 (nm : Tx) (q : List Tok) : Rd Pl := (listR (pairR sColon) q.length q).then fun us q => p2 nm us q
def p0 (nm : Tx) (q : List Tok) : Rd Pl := (needR kUses q).then fun _ q => p1 nm q
theorem policy_p (ts : List Tok) : policyR ts = (needR kPolicy ts).then fun _ q => (nameR q).then fun nm q => p0 nm q := rfl
theorem p6_keeps (nm us rv f s x) : Keeps (p6 nm us rv f s x) := fun q hq => then_at (need_keeps _ q hq) fun _ q hq => end_keeps _ q hq
theorem p5_keeps (nm us rv f s) : Keeps (p5 nm us rv f s) := fun q hq => then_at (escrow_keeps q hq) fun x q hq => p6_keeps _ _ _ _ _ _ q hq
theorem p4_keeps (nm us rv f) : Keeps (p4 nm us rv f) := fun q hq => then_at (scope_keeps q hq) fun x q hq => p5_keeps _ _ _ _ _ q hq
theorem p3_keeps (nm us rv) : Keeps (p3 nm us rv) := fun q hq => then_at (prove_keeps q hq) fun x q hq => p4_keeps _ _ _ _ q hq
theorem p2_keeps (nm us) : Keeps (p2 nm us) := fun q hq => then_at (reveal_keeps q hq) fun x q hq => p3_keeps _ _ _ q hq
theorem p1_keeps (nm) : Keeps (p1 nm) := fun q hq => then_at (list_keeps (pair_keeps sColon) _ q hq) fun x q hq => p2_keeps _ _ q hq
theorem p0_keeps (nm) : Keeps (p0 nm) := fun q hq => then_at (need_keeps _ q hq) fun x q hq => p1_keeps _ q hq
theorem policy_keeps : Keeps policyR := fun q hq => then_at (need_keeps _ q hq) fun _ q hq => then_at (name_keeps q hq) fun nm q hq => p0_keeps _ q hq
/-- what a policy's reading does at a token that is not allowed does not depend on what follows -/
theorem policy_lc (us : List Tok) (hg : Good (us ++ t :: r)) : Lc t r r' (policyR (us ++ t :: r)) (policyR (us ++ t :: r')) := by
 rw [policy_p, policy_p]
 refine (need_lc _ us).then (need_keeps _ _ hg).2 (fun _ q hq => (then_at (name_keeps q hq) fun nm q hq => p0_keeps _ q hq).1) fun _ w _ hg => ?_
 refine (name_lc w).then (name_keeps _ hg).2 (fun _ q hq => (p0_keeps _ q hq).1) fun nm w _ hg => ?_
 refine (need_lc _ w).then (need_keeps _ _ hg).2 (fun _ q hq => (p1_keeps _ q hq).1) fun _ w _ hg => ?_
 refine (list_lc (n := (w ++ t :: r).length) (n' := (w ++ t :: r').length) (pair_keeps sColon) (fun us hg _ _ => pair_lc _ us hg) _ _ w hg (Nat.le_refl _) (Nat.le_refl _) (Nat.le_refl _) (Nat.le_refl _)).then (list_keeps (pair_keeps sColon) _ _ hg).2 (fun _ q hq => (p2_keeps _ _ q hq).1) fun us w _ hg => ?_
 refine (reveal_lc w hg).then (reveal_keeps _ hg).2 (fun _ q hq => (p3_keeps _ _ _ q hq).1) fun rv w _ hg => ?_
 refine (prove_lc w hg).then (prove_keeps _ hg).2 (fun _ q hq => (p4_keeps _ _ _ _ q hq).1) fun f w _ hg => ?_
 refine (scope_lc w hg).then (scope_keeps _ hg).2 (fun _ q hq => (p5_keeps _ _ _ _ _ q hq).1) fun s w _ hg => ?_
 refine (escrow_lc w hg).then (escrow_keeps _ hg).2 (fun _ q hq => (p6_keeps _ _ _ _ _ _ q hq).1) fun x w _ hg => ?_
 refine (need_lc _ w).then (need_keeps _ _ hg).2 (fun _ q hq => (end_keeps _ q hq).1) fun _ w _ hg => ?_
 exact end_lc _ w
end
end Go.Proofs.YtogmhaihmkcjgaaGreatDoor.Pa
-- halved
