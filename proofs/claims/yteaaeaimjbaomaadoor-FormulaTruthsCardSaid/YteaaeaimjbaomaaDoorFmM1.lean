/-
  Formulas are monotone, plain.
-/
import Derived.Test.YteaaeaimjbaomaaDoorFm7
import Derived.Test.YteaaeaimjbaomaaDoorFmS1
namespace Go.Proofs.YteaaeaimjbaomaaDoor
set_option linter.unusedVariables false

/-- what holds in a holds in b -/
def leB (a b : List Bool) : Prop := ∀ i, gb a i = true → gb b i = true
theorem leB.refl (a : List Bool) : leB a a := fun _ h => h
theorem cntK_mono {a b : List Bool} (h : leB a b) : ∀ ks, cntK a ks ≤ cntK b ks
  | [] => Int.le_refl _
  | x :: xs => by
    have h1 := cntK_mono h xs
    have h2 := h x.toNat
    rw [cntK, cntK]
    by_cases ha : a.getD x.toNat false = true
    · rw [if_pos ha, if_pos (h2 ha)]; omega
    · rw [if_neg ha]; split <;> omega
theorem truthAt_mono {L M a b : List Bool} (hL : leB L M) (h : leB a b) (g : Gt) (ht : truthAt L a g = true) : truthAt M b g = true := by
  unfold truthAt at ht ⊢
  by_cases hk : g.kids = []
  · rw [if_pos hk] at ht ⊢; exact hL _ ht
  · rw [if_neg hk] at ht ⊢
    have := cntK_mono h g.kids
    have := of_decide_eq_true ht
    exact decide_eq_true (by omega)
theorem leB_set {a b : List Bool} (h : leB a b) (hl : a.length = b.length) (k : Nat) {x y : Bool} (hxy : x = true → y = true) : leB (a.set k x) (b.set k y) := by
  intro i hi
  by_cases hk : k < a.length
  · rw [gb_set _ _ _ _ hk] at hi
    rw [gb_set _ _ _ _ (by omega)]
    by_cases hik : i = k
    · rw [if_pos hik] at hi ⊢; exact hxy hi
    · rw [if_neg hik] at hi ⊢; exact h i hi
  · rw [List.set_eq_of_length_le (by omega)] at hi ⊢
    exact h i hi
theorem truthStep_mono {F : List Gt} {L M a b : List Bool} (hL : leB L M) (h : leB a b) (hl : a.length = b.length) (k : Nat) : leB (truthStep F L a k) (truthStep F M b k) := by
  unfold truthStep
  split
  · exact leB_set h hl k (truthAt_mono hL h _)
  · exact h
theorem truthRun_mono {F : List Gt} {L M : List Bool} (hL : leB L M) : ∀ (k : Nat) (a b : List Bool), leB a b → a.length = b.length → leB (truthRun F L k a) (truthRun F M k b)
  | 0, a, b, h, _ => h
  | k + 1, a, b, h, hl => by
    rw [truthRun, truthRun]
    exact truthRun_mono hL k _ _ (truthStep_mono hL h hl k) (by rw [truthStep_length, truthStep_length]; exact hl)
/-- if more leaves hold, no gate ceases to hold -/
theorem truthP_mono {F : List Gt} {L M : List Bool} (hL : leB L M) : leB (truthP F L) (truthP F M) := truthRun_mono hL _ _ _ (leB.refl _) rfl
/-- whether a formula holds -/
def holdsP (F : List Gt) (L : List Bool) : Bool := decide (F = []) || gb (truthP F L) 0
theorem holdsP_mono (F : List Gt) (n : Nat) : Mono (holdsP F) n := by
  intro c d _ _ h hc
  unfold holdsP at hc ⊢
  rw [Bool.or_eq_true] at hc ⊢
  exact hc.imp id (truthP_mono h 0)
end Go.Proofs.YteaaeaimjbaomaaDoor
