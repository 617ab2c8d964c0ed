/-
  formula.truth.
-/
import Derived.Test.YteaaeaimjbaomaaDoorFm4
import Derived.Test.YteaaeaimjbaomaaDoorFmP
namespace Go.Proofs.YteaaeaimjbaomaaDoor
open Go.RowKit
set_option linter.unusedVariables false

def cntK (out : List Bool) : List Int → Int
  | [] => 0
  | x :: xs => (if out.getD x.toNat false then 1 else 0) + cntK out xs
def truthAt (L out : List Bool) (g : Gt) : Bool := if g.kids = [] then L.getD g.leaf.toNat false else decide (g.need ≤ cntK out g.kids)
def truthStep (F : List Gt) (L out : List Bool) (k : Nat) : List Bool := match F[k]? with
  | some g => out.set k (truthAt L out g)
  | none => out
def truthRun (F : List Gt) (L : List Bool) : Nat → List Bool → List Bool
  | 0, out => out
  | k + 1, out => truthRun F L k (truthStep F L out k)
def truthP (F : List Gt) (L : List Bool) : List Bool := truthRun F L F.length (List.replicate F.length false)
def blv (l : List Bool) : List Value := l.map Value.bool
/-- a slice of bools below block B -/
structure Bools (W : World) (B : Nat) (A : Option Addr) (l : List Bool) : Prop where
  some_ : l ≠ [] → ∃ ad, A = some ad ∧ ad.block < B ∧ Run W ad (blv l)
theorem Bools.keep {W W' : World} {B B' : Nat} {A : Option Addr} {l : List Bool} (h : Bools W B A l) (hb : Below B' W W') (hB : B ≤ B') : Bools W' B A l := ⟨fun hl => by
  obtain ⟨ad, h1, h2, h3⟩ := h.some_ hl
  exact ⟨ad, h1, h2, h3.keep hb (by omega)⟩⟩
theorem cntK_bd (out : List Bool) : ∀ ks, 0 ≤ cntK out ks ∧ cntK out ks ≤ ks.length
  | [] => by simp [cntK]
  | x :: xs => by
    have := cntK_bd out xs
    rw [cntK, List.length_cons]
    split <;> omega
theorem cntK_append (out : List Bool) (x : Int) : ∀ ks, cntK out (ks ++ [x]) = cntK out ks + if out.getD x.toNat false then 1 else 0
  | [] => by simp [cntK]
  | y :: ys => by rw [List.cons_append, cntK, cntK, cntK_append out x ys]; omega
theorem truthStep_length (F : List Gt) (L out : List Bool) (k : Nat) : (truthStep F L out k).length = out.length := by
  unfold truthStep; split <;> simp
theorem truthRun_length (F : List Gt) (L : List Bool) : ∀ k out, (truthRun F L k out).length = out.length
  | 0, out => rfl
  | k + 1, out => by rw [truthRun, truthRun_length F L k, truthStep_length]
theorem truthP_length (F : List Gt) (L : List Bool) : (truthP F L).length = F.length := by rw [truthP, truthRun_length, List.length_replicate]
end Go.Proofs.YteaaeaimjbaomaaDoor
