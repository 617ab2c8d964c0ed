/-
  Honest gates, plain.
-/
import Derived.Test.YteaaeaimjbaomaaDoorFm10
namespace Go.Proofs.YteaaeaimjbaomaaDoor
open Go.RowKit
set_option linter.unusedVariables false

def honKidsP (T : List Bool) : List Int → Int → List Bool → List Bool
  | [], _, out => out
  | x :: xs, left, out => if T.getD x.toNat false = true ∧ 0 < left then honKidsP T xs (left - 1) (out.set x.toNat true) else honKidsP T xs left out
def honStep (F : List Gt) (T out : List Bool) (i : Nat) : List Bool := match F[i]? with
  | some g => if out.getD i false then honKidsP T g.kids g.need out else out
  | none => out
def honRun (F : List Gt) (T : List Bool) : Nat → Nat → List Bool → List Bool
  | 0, _, out => out
  | m + 1, i, out => honRun F T m (i + 1) (honStep F T out i)
def honestP (F : List Gt) (T : List Bool) : List Bool := honRun F T F.length 0 ((List.replicate F.length false).set 0 (T.getD 0 false))
theorem honKidsP_length (T : List Bool) : ∀ ks left out, (honKidsP T ks left out).length = out.length
  | [], _, _ => rfl
  | x :: xs, left, out => by
    rw [honKidsP]
    split
    · rw [honKidsP_length T xs]; simp
    · rw [honKidsP_length T xs]
theorem honStep_length (F : List Gt) (T out : List Bool) (i : Nat) : (honStep F T out i).length = out.length := by
  unfold honStep
  split
  · split
    · rw [honKidsP_length]
    · rfl
  · rfl
theorem honRun_length (F : List Gt) (T : List Bool) : ∀ m i out, (honRun F T m i out).length = out.length
  | 0, _, _ => rfl
  | m + 1, i, out => by rw [honRun, honRun_length F T m, honStep_length]
theorem honestP_length (F : List Gt) (T : List Bool) : (honestP F T).length = F.length := by rw [honestP, honRun_length]; simp
end Go.Proofs.YteaaeaimjbaomaaDoor
