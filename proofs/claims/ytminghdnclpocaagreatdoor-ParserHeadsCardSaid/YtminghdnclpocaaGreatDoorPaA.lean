/-
  The parser in plain words: tokens are read from a list. No program in sight. Printed by mkpaa.py.
-/
import Derived.Test.YtminghdnclpocaaGreatDoorLexQ
namespace Go.Proofs.YtminghdnclpocaaGreatDoor.Pa
open Lx (Tok)

abbrev Tx := List UInt8

def kPolicy : Tx := [112, 111, 108, 105, 99, 121]
def kUses : Tx := [117, 115, 101, 115]
def kReveal : Tx := [114, 101, 118, 101, 97, 108]
def kProve : Tx := [112, 114, 111, 118, 101]
def kScope : Tx := [115, 99, 111, 112, 101]
def kLimit : Tx := [108, 105, 109, 105, 116]
def kEscrow : Tx := [101, 115, 99, 114, 111, 119]
def kEnd : Tx := [101, 110, 100]
def kAll : Tx := [97, 108, 108]
def kAny : Tx := [97, 110, 121]
def kAtleast : Tx := [97, 116, 108, 101, 97, 115, 116]
def kNot : Tx := [110, 111, 116]
def kTrue : Tx := [116, 114, 117, 101]
def kFalse : Tx := [102, 97, 108, 115, 101]
def kBetween : Tx := [98, 101, 116, 119, 101, 101, 110]
def kAnd : Tx := [97, 110, 100]
def kIn : Tx := [105, 110]
def sEq : Tx := [61]
def sNe : Tx := [33, 61]
def sLt : Tx := [60]
def sLe : Tx := [60, 61]
def sGt : Tx := [62]
def sGe : Tx := [62, 61]
def sDot : Tx := [46]
def sColon : Tx := [58]
def sComma : Tx := [44]
def sOpen : Tx := [40]
def sClose : Tx := [41]
def sBra : Tx := [123]
def sKet : Tx := [125]
/-- the signs of the comparisons -/
def cmps : List Tx := [sEq, sNe, sLt, sLe, sGt, sGe]
/-- a node of a policy, without its kids -/
structure Nd where
  kind : Nat
  num : Int
  name : Tx
  attr : Tx
  at_ : Nat
/-- trees that stand side by side: the node of the first one, its kids, the other trees -/
inductive F where
  | nil
  | cons (n : Nd) (kids rest : F)
def F.app : F → F → F
  | .nil, g => g
  | .cons n k r, g => .cons n k (r.app g)
def F.cat : List F → F
  | [] => .nil
  | f :: l => f.app (F.cat l)
/-- how many trees -/
def F.len : F → Nat
  | .nil => 0
  | .cons _ _ r => r.len + 1
/-- how many nodes -/
def F.size : F → Nat
  | .nil => 0
  | .cons _ k r => k.size + r.size + 1
theorem F.app_nil (f : F) : f.app .nil = f := by
  induction f with
  | nil => rfl
  | cons n k r _ ih => rw [F.app, ih]
theorem F.app_assoc (f g h : F) : (f.app g).app h = f.app (g.app h) := by
  induction f with
  | nil => rfl
  | cons n k r _ ih => rw [F.app, F.app, F.app, ih]
theorem F.len_app (f g : F) : (f.app g).len = f.len + g.len := by
  induction f with
  | nil => simp [F.app, F.len]
  | cons n k r _ ih => rw [F.app, F.len, F.len, ih]; omega
theorem F.size_app (f g : F) : (f.app g).size = f.size + g.size := by
  induction f with
  | nil => simp [F.app, F.size]
  | cons n k r _ ih => rw [F.app, F.size, F.size, ih]; omega
theorem F.cat_snoc (l : List F) (f : F) : F.cat (l ++ [f]) = (F.cat l).app f := by
  induction l with
  | nil => exact F.app_nil f
  | cons a l ih => rw [List.cons_append, F.cat, F.cat, ih, F.app_assoc]
/-- the nodes in preorder, numbered from a on, each with the numbers of its kids -/
def F.idx : Nat → F → List Nat
  | _, .nil => []
  | a, .cons _ k r => a :: r.idx (a + 1 + k.size)
def F.num : Nat → F → List (Nd × List Nat)
  | _, .nil => []
  | a, .cons n k r => (n, k.idx (a + 1)) :: (k.num (a + 1) ++ r.num (a + 1 + k.size))
theorem F.num_len (f : F) : ∀ a, (f.num a).length = f.size := by
  induction f with
  | nil => intro a; rfl
  | cons n k r ih1 ih2 => intro a; rw [F.num, F.size, List.length_cons, List.length_append, ih1, ih2]
theorem F.idx_len (f : F) : ∀ a, (f.idx a).length = f.len := by
  induction f with
  | nil => intro a; rfl
  | cons n k r _ ih2 => intro a; rw [F.idx, F.len, List.length_cons, ih2]
theorem F.idx_app (f g : F) : ∀ a, (f.app g).idx a = f.idx a ++ g.idx (a + f.size) := by
  induction f with
  | nil => intro a; simp [F.app, F.idx, F.size]
  | cons n k r _ ih => intro a; rw [F.app, F.idx, F.idx, F.size, ih, List.cons_append]; congr 3; omega
theorem F.num_app (f g : F) : ∀ a, (f.app g).num a = f.num a ++ g.num (a + f.size) := by
  induction f with
  | nil => intro a; simp [F.app, F.num, F.size]
  | cons n k r _ ih => intro a; rw [F.app, F.num, F.num, F.size, ih, List.cons_append, List.append_assoc]; congr 4; omega
/-- a tree of one node -/
def leaf (n : Nd) : F := .cons n .nil .nil

/-- the offset of the next token -/
def atT : List Tok → Nat
  | [] => 0
  | t :: _ => t.at_
def isT (s : Tx) : List Tok → Bool
  | [] => false
  | t :: _ => t.kind == 2 && t.text == s
def isW : List Tok → Bool
  | [] => false
  | t :: _ => t.kind == 0 && t.text.head? == some 39
def isN : List Tok → Bool
  | [] => false
  | t :: r => t.kind == 0 && !isW (t :: r)
def isM : List Tok → Bool
  | [] => false
  | t :: _ => t.kind == 1
/-- the number that a token shows -/
def numV : Tx → Int
  | [] => 0
  | c :: m => if c = 45 then -(Lx.dv m : Int) else (Lx.dv (c :: m) : Int)
def headX : List Tok → Tx
  | [] => []
  | t :: _ => t.text
abbrev Rd (α : Type) := Option α × List Tok
def nameR (ts : List Tok) : Rd Tx := if isN ts then (some (headX ts), ts.tail) else (none, ts)
def wordR (ts : List Tok) : Rd Tx := if isW ts then (some (headX ts).tail.dropLast, ts.tail) else (none, ts)
def numR (ts : List Tok) : Rd Int := if isM ts then (some (numV (headX ts)), ts.tail) else (none, ts)
def needR (s : Tx) (ts : List Tok) : Rd Unit := if isT s ts then (some (), ts.tail) else (none, ts)
/-- one reading after another -/
def Rd.then {α β : Type} (r : Rd α) (f : α → List Tok → Rd β) : Rd β :=
  match r with
  | (none, q) => (none, q)
  | (some a, q) => f a q
@[simp] theorem then_none {α β : Type} (q : List Tok) (f : α → List Tok → Rd β) : Rd.then (none, q) f = (none, q) := rfl
@[simp] theorem then_some {α β : Type} (a : α) (q : List Tok) (f : α → List Tok → Rd β) : Rd.then (some a, q) f = f a q := rfl
def pairR (s : Tx) (ts : List Tok) : Rd (Tx × Tx) := (nameR ts).then fun a q => (needR s q).then fun _ q => (nameR q).then fun b q => (some (a, b), q)
def refR (ts : List Tok) : Rd (Tx × Tx) := pairR sDot ts
/-- elements that are separated by commas; at most so many -/
def listR {α : Type} (rd : List Tok → Rd α) : Nat → List Tok → Rd (List α)
  | 0, ts => (none, ts)
  | k + 1, ts => (rd ts).then fun a q => if isT sComma q then (listR rd k q.tail).then fun l q => (some (a :: l), q) else (some [a], q)
def valueR (ts : List Tok) : Rd Nd :=
  if isN ts then (refR ts).then fun x q => (some ⟨9, 0, x.1, x.2, atT ts⟩, q)
  else if isW ts then (wordR ts).then fun x q => (some ⟨11, 0, x, [], atT ts⟩, q)
  else if isM ts then (numR ts).then fun x q => (some ⟨10, x, [], [], atT ts⟩, q)
  else (none, ts)
/-- which comparison comes next -/
def cmpOf : List Tok → Option Nat
  | [] => none
  | t :: _ => if t.kind == 2 then cmps.findIdx? (fun s => s == t.text) else none
def leafR (ts : List Tok) : Rd F := (valueR ts).then fun n q => (some (leaf n), q)
def condR (ts : List Tok) : Rd F :=
  (valueR ts).then fun a q =>
    match cmpOf q with
    | some k => (valueR q.tail).then fun b q => (some (.cons ⟨6, k, [], [], atT ts⟩ ((leaf a).app (leaf b)) .nil), q)
    | none =>
      if isT kBetween q then (valueR q.tail).then fun b q => (needR kAnd q).then fun _ q => (valueR q).then fun c q => (some (.cons ⟨7, 0, [], [], atT ts⟩ ((leaf a).app ((leaf b).app (leaf c))) .nil), q)
      else if isT kIn q then (needR sBra q.tail).then fun _ q => (listR leafR q.length q).then fun l q => (needR sKet q).then fun _ q => (some (.cons ⟨8, 0, [], [], atT ts⟩ ((leaf a).app (F.cat l)) .nil), q)
      else (none, q)
/-- the kids of a node, in parentheses -/
def kidsR (rd : List Tok → Rd F) (n : Nd) (ts : List Tok) : Rd F :=
  (needR sOpen ts).then fun _ q => (listR rd q.length q).then fun l q => (needR sClose q).then fun _ q => (some (.cons n (F.cat l) .nil), q)
def exprR : Nat → List Tok → Rd F
  | 0, ts => (none, ts)
  | k + 1, ts =>
    if isT kAll ts then kidsR (exprR k) ⟨3, 0, [], [], atT ts⟩ ts.tail
    else if isT kAny ts then kidsR (exprR k) ⟨4, 0, [], [], atT ts⟩ ts.tail
    else if isT kAtleast ts then (numR ts.tail).then fun m q => kidsR (exprR k) ⟨5, m, [], [], atT ts⟩ q
    else if isT kNot ts then (exprR k ts.tail).then fun f q => (some (.cons ⟨2, 0, [], [], atT ts⟩ f .nil), q)
    else if isT kTrue ts then (some (leaf ⟨0, 0, [], [], atT ts⟩), ts.tail)
    else if isT kFalse ts then (some (leaf ⟨1, 0, [], [], atT ts⟩), ts.tail)
    else if isT sOpen ts then (exprR k ts.tail).then fun f q => (needR sClose q).then fun _ q => (some f, q)
    else condR ts
/-- a policy as it is read -/
structure Pl where
  name : Tx
  uses : List (Tx × Tx)
  reveal : List (Tx × Tx)
  scope : Tx
  limit : Int
  escrow : Tx
  root : F
def revealR (ts : List Tok) : Rd (List (Tx × Tx)) := if isT kReveal ts then listR refR ts.length ts.tail else (some [], ts)
def proveR (ts : List Tok) : Rd F := if isT kProve ts then exprR ts.length ts.tail else (some (leaf ⟨0, 0, [], [], atT ts⟩), ts)
def scopeR (ts : List Tok) : Rd (Tx × Int) := if isT kScope ts then (wordR ts.tail).then fun s q => (if isT kLimit q then (numR q.tail).then fun n q => (some (s, n), q) else (some (s, 0), q)) else (some ([], 0), ts)
def escrowR (ts : List Tok) : Rd Tx := if isT kEscrow ts then nameR ts.tail else (some [], ts)
def isE : List Tok → Bool
  | [] => false
  | t :: _ => t.kind == 3
def policyR (ts : List Tok) : Rd Pl :=
  (needR kPolicy ts).then fun _ q => (nameR q).then fun nm q => (needR kUses q).then fun _ q => (listR (pairR sColon) q.length q).then fun us q =>
  (revealR q).then fun rv q => (proveR q).then fun f q => (scopeR q).then fun s q => (escrowR q).then fun x q => (needR kEnd q).then fun _ q =>
  if isE q then (some ⟨nm, us, rv, s.1, s.2, x, f⟩, q) else (none, q)
end Go.Proofs.YtminghdnclpocaaGreatDoor.Pa
