/-
  numbered: the nodes of a tree in preorder.
-/
import Derived.Test.YtminghdnclpocaaGreatDoorPbI
namespace Go.Proofs.YtminghdnclpocaaGreatDoor
open Go.RowKit Go.Shelf
set_option linter.unusedVariables false

/-- a numbered node, and where the numbers of its kids lie -/
abbrev NV := (Pa.Nd × List Nat) × (Option Addr × Nat)
abbrev nats (l : List Nat) : List Value := l.map fun (n : Nat) => .int .i64 (n : Int)
abbrev nvc (x : NV) : List Value := [.int .i64 (x.1.1.kind : Int), .int .i64 x.1.1.num, Sv x.1.1.name, Sv x.1.1.attr, .slice x.2.1 x.1.2.length x.2.2, .int .i64 (x.1.1.at_ : Int)]
def ncells (P : List NV) : List Value := P.flatMap nvc
abbrev inodes (v : Value) (P : List NV) : It := irow 46 6 v P.length (ncells P)
abbrev inats (v : Value) (l : List Nat) : It := irow 3 1 v l.length (nats l)
def krows (P : List NV) : List It := P.map fun x => inats (.slice x.2.1 x.1.2.length x.2.2) x.1.2
theorem ncells_snoc (P : List NV) (x : NV) : ncells (P ++ [x]) = ncells P ++ nvc x := by simp [ncells]
theorem krows_app (P Q : List NV) : krows (P ++ Q) = krows P ++ krows Q := by simp [krows]
theorem ncells_len (P : List NV) : (ncells P).length = P.length * 6 := by
  induction P with
  | nil => rfl
  | cons x P ih =>
    have e : ncells (x :: P) = nvc x ++ ncells P := rfl
    rw [e, List.length_append, ih, List.length_cons]
    simp; omega
theorem node_info : (Tryz.prog.info? 46).map (fun i => (i.zero, i.size, i.bytes)) = some (some (.agg zNd.toArray), 6, 80) := by kernel_rfl
theorem int_info : (Tryz.prog.info? 3).map (fun i => (i.zero, i.size, i.bytes)) = some (some (.int .i64 0), 1, 8) := by kernel_rfl
/-- the pieces of one tree -/
abbrev tits (n : Pa.Nd) (g : Nat) (kv : Value) (k : LF) : List It := itree n g kv :: iptrs kv k.roots :: k.its
/-- numbering a tree behind other nodes -/
def NumOK (n : Pa.Nd) (g : Nat) (kv : Value) (k : LF) : Prop := ∀ (P : List NV) (v : Value) (W : World), P.length + (Pa.F.cons n k.out .nil).size ≤ 1000000 → Sep W (inodes v P :: tits n g kv k) →
  Calls Tryz.prog 54 #[ptr g, v] W fun e w' => ∃ Q v', Q.map Prod.fst = (Pa.F.cons n k.out .nil).num P.length ∧ e = .returned v' ∧ Hp (ow (inodes v P :: tits n g kv k)) W (inodes v' (P ++ Q) :: (tits n g kv k ++ krows Q)) w'
def LF.All (p : Pa.Nd → Nat → Value → LF → Prop) : LF → Prop
  | .nil => True
  | .cons n g kv k r => p n g kv k ∧ k.All p ∧ r.All p
/-- the first trees, and those that follow -/
theorem LF.split (x : LF) : ∀ i, i < x.roots.length → ∃ (a : LF) (n : Pa.Nd) (g : Nat) (kv : Value) (k b : LF), x = a.app (.cons n g kv k b) ∧ a.roots.length = i := by
  induction x with
  | nil => intro i h; simp [LF.roots] at h
  | cons n g kv k r _ ih =>
    intro i h
    cases i with
    | zero => exact ⟨.nil, n, g, kv, k, r, rfl, rfl⟩
    | succ i =>
      obtain ⟨a, n2, g2, kv2, k2, b, h1, h2⟩ := ih i (by simpa [LF.roots] using h)
      exact ⟨.cons n g kv k a, n2, g2, kv2, k2, b, by rw [h1]; rfl, by simp [LF.roots, h2]⟩
theorem LF.All.at {p : Pa.Nd → Nat → Value → LF → Prop} {a b k : LF} {n : Pa.Nd} {g : Nat} {kv : Value} (h : (a.app (.cons n g kv k b)).All p) : p n g kv k := by
  induction a with
  | nil => exact h.1
  | cons n2 g2 kv2 k2 r _ ih => exact ih h.2.2
end Go.Proofs.YtminghdnclpocaaGreatDoor
