/-
  Reading the text of a formula, plain.
-/
import Derived.Test.YteaaeaimjbaomaaDoorFmT1
import Derived.Lib.Atoi
namespace Go.Proofs.YteaaeaimjbaomaaDoor
set_option linter.unusedVariables false

def isD (b : UInt8) : Bool := decide (48 ≤ b.toNat) && decide (b.toNat ≤ 57)
/-- how many digits of a number are read; z: the first one is 0 -/
def numL (z : Bool) : Nat → List UInt8 → Nat
  | k, [] => k
  | k, b :: r => if isD b && decide (k < 9) && !(decide (0 < k) && z) then numL z (k + 1) r else k
def isZ (l : List UInt8) : Bool := decide (l.headD 0 = 48)
def numLen (l : List UInt8) : Nat := numL (isZ l) 0 l
def numV (p : List UInt8) : Int := p.foldl (fun v b => 10 * v + ((b.toNat : Int) - 48)) 0
def nOk (l : List UInt8) : Bool := decide (0 < numLen l) && !isD ((l.drop (numLen l)).headD 0)
abbrev GR := Bool × List UInt8 × List Gt
def kidsR (g : List UInt8 → List Gt → GR) : Nat → List UInt8 → List Gt → List Int → GR × List Int
  | 0, l, G, ks => ((false, l, G), ks)
  | m + 1, l, G, ks =>
    if (g (l.drop 1) G).1 = false then (g (l.drop 1) G, ks)
    else if (g (l.drop 1) G).2.1.headD 0 = 44 then kidsR g m (g (l.drop 1) G).2.1 (g (l.drop 1) G).2.2 (ks ++ [(G.length : Int)])
    else if (g (l.drop 1) G).2.1.headD 0 = 41 then ((true, (g (l.drop 1) G).2.1.drop 1, (g (l.drop 1) G).2.2), ks ++ [(G.length : Int)])
    else ((false, (g (l.drop 1) G).2), ks ++ [(G.length : Int)])
def gateP : Nat → List UInt8 → List Gt → GR
  | 0, l, G => (false, l, G)
  | f + 1, l, G =>
    if nOk l = false then (false, l.drop (numLen l), G)
    else if (l.drop (numLen l)).headD 0 ≠ 40 then (true, l.drop (numLen l), G ++ [⟨0, [], numV (l.take (numLen l))⟩])
    else if (kidsR (gateP f) f (l.drop (numLen l)) (G ++ [⟨0, [], 0⟩]) []).1.1 = false then (kidsR (gateP f) f (l.drop (numLen l)) (G ++ [⟨0, [], 0⟩]) []).1
    else (true, (kidsR (gateP f) f (l.drop (numLen l)) (G ++ [⟨0, [], 0⟩]) []).1.2.1, (kidsR (gateP f) f (l.drop (numLen l)) (G ++ [⟨0, [], 0⟩]) []).1.2.2.set G.length ⟨numV (l.take (numLen l)), (kidsR (gateP f) f (l.drop (numLen l)) (G ++ [⟨0, [], 0⟩]) []).2, 0⟩)
theorem numL_le (z : Bool) : ∀ (l : List UInt8) (k : Nat), k ≤ numL z k l ∧ numL z k l ≤ k + l.length
  | [], k => ⟨Nat.le_refl _, by simp [numL]⟩
  | b :: r, k => by
    have := numL_le z r (k + 1)
    rw [numL, List.length_cons]
    split <;> omega
theorem numLen_le (l : List UInt8) : numLen l ≤ l.length := by have := (numL_le (isZ l) l 0).2; rw [numLen]; omega
theorem numL_nine (z : Bool) : ∀ (l : List UInt8) (k : Nat), k ≤ 9 → numL z k l ≤ 9
  | [], k, h => by simpa [numL] using h
  | b :: r, k, h => by
    rw [numL]
    split
    · rename_i h9
      simp only [Bool.and_eq_true, decide_eq_true_eq] at h9
      exact numL_nine z r (k + 1) (by omega)
    · exact h
theorem numLen_nine (l : List UInt8) : numLen l ≤ 9 := numL_nine _ l 0 (by omega)
theorem numV_append (p : List UInt8) (b : UInt8) : numV (p ++ [b]) = 10 * numV p + ((b.toNat : Int) - 48) := by simp [numV]
theorem numL_digits (z : Bool) : ∀ (l : List UInt8) (k : Nat), ∀ b ∈ l.take (numL z k l - k), isD b = true
  | [], k, b, h => by simp at h
  | c :: r, k, b, h => by
    rw [numL] at h
    by_cases h9 : (isD c && decide (k < 9) && !(decide (0 < k) && z)) = true
    · rw [if_pos h9] at h
      have hle := (numL_le z r (k + 1)).1
      rw [show numL z (k + 1) r - k = (numL z (k + 1) r - (k + 1)) + 1 by omega, List.take_succ_cons] at h
      rcases List.mem_cons.1 h with rfl | h
      · simp only [Bool.and_eq_true] at h9
        exact h9.1.1
      · exact numL_digits z r (k + 1) b h
    · rw [if_neg h9, Nat.sub_self] at h
      cases h
theorem numLen_digits (l : List UInt8) : ∀ b ∈ l.take (numLen l), isD b = true := by
  have := numL_digits (isZ l) l 0
  rw [Nat.sub_zero] at this
  exact this
theorem decFrom_digits : ∀ (p : List UInt8) (acc : Nat), (∀ b ∈ p, isD b = true) → ∃ m, Lib.decFrom acc p = some m ∧ (m : Int) = p.foldl (fun v b => 10 * v + ((b.toNat : Int) - 48)) (acc : Int)
  | [], acc, _ => ⟨acc, rfl, rfl⟩
  | b :: r, acc, h => by
    have hb := h b (List.mem_cons_self ..)
    unfold isD at hb
    simp only [Bool.and_eq_true, decide_eq_true_eq] at hb
    obtain ⟨m, h1, h2⟩ := decFrom_digits r (acc * 10 + (b.toNat - 48)) (fun c hc => h c (List.mem_cons_of_mem _ hc))
    refine ⟨m, ?_, ?_⟩
    · rw [Lib.decFrom, Lib.digitVal, if_pos hb]; exact h1
    · rw [h2, List.foldl_cons]
      congr 1
      omega
theorem atoi_digits (p : List UInt8) (hp : p ≠ []) (h : ∀ b ∈ p, isD b = true) : Lib.atoi p = some (numV p) := by
  obtain ⟨m, h1, h2⟩ := decFrom_digits p 0 h
  cases p with
  | nil => exact absurd rfl hp
  | cons b r =>
    have hb := h b (List.mem_cons_self ..)
    unfold isD at hb
    simp only [Bool.and_eq_true, decide_eq_true_eq] at hb
    have hn : Lib.decNat (b :: r) = some m := by rw [Lib.decNat, if_neg (by simp)]; exact h1
    have c1 : (b == 45) = false := by
      rw [beq_eq_false_iff_ne]; intro h9; rw [h9] at hb; simp at hb
    have c2 : (b == 43) = false := by
      rw [beq_eq_false_iff_ne]; intro h9; rw [h9] at hb; simp at hb
    rw [Lib.atoi, c1, c2]
    simp only [Bool.false_eq_true, if_false]
    rw [hn]
    show some (m : Int) = _
    rw [h2]; rfl
theorem nOk_pos {l : List UInt8} (h : nOk l = true) : 0 < numLen l ∧ isD ((l.drop (numLen l)).headD 0) = false := by
  unfold nOk at h
  simpa using h
theorem nOk_rest {l : List UInt8} (h : nOk l = true) : (l.drop (numLen l)).length < l.length := by
  have := nOk_pos h
  have := numLen_le l
  rw [List.length_drop]
  omega
theorem headD_pos {l : List UInt8} {c : UInt8} (h : l.headD 0 = c) (hc : c ≠ 0) : (l.drop 1).length + 1 = l.length := by
  cases l with
  | nil => exact absurd h.symm hc
  | cons a r => simp
/-- what a reader of gates keeps -/
structure GOut (l : List UInt8) (G : List Gt) (r : GR) : Prop where
  rest : r.2.1.length ≤ l.length
  lt : r.1 = true → r.2.1.length < l.length
  cnt : r.1 = true → r.2.2.length + r.2.1.length ≤ G.length + l.length
  pre : r.1 = true → ∃ Gn, r.2.2 = G ++ Gn ∧ 0 < Gn.length
structure KOut (l : List UInt8) (G : List Gt) (ks : List Int) (r : GR × List Int) : Prop where
  rest : r.1.2.1.length ≤ l.length
  cnt : r.1.1 = true → r.1.2.2.length + r.1.2.1.length + 1 ≤ G.length + l.length
  pre : r.1.1 = true → ∃ Gn, r.1.2.2 = G ++ Gn
  kn : r.1.1 = true → r.2.length + G.length ≤ r.1.2.2.length + ks.length ∧ ks.length < r.2.length
theorem kids_out {g : List UInt8 → List Gt → GR} (hg : ∀ l G, GOut l G (g l G)) : ∀ (m : Nat) (l : List UInt8) (G : List Gt) (ks : List Int), l ≠ [] → KOut l G ks (kidsR g m l G ks)
  | 0, l, G, ks, hl => ⟨Nat.le_refl _, fun h => (by cases h), fun h => (by cases h), fun h => (by cases h)⟩
  | m + 1, l, G, ks, hl => by
    have h := hg (l.drop 1) G
    have hl1 : (l.drop 1).length + 1 = l.length := by
      cases l with
      | nil => exact absurd rfl hl
      | cons a r => simp
    rw [kidsR]
    by_cases c1 : (g (l.drop 1) G).1 = false
    · rw [if_pos c1]
      have := h.rest
      exact ⟨by show (g (l.drop 1) G).2.1.length ≤ _; omega, fun h9 => (by rw [c1] at h9; cases h9), fun h9 => (by rw [c1] at h9; cases h9), fun h9 => (by rw [c1] at h9; cases h9)⟩
    · rw [if_neg c1]
      have c1' : (g (l.drop 1) G).1 = true := by simpa using c1
      have e1 := h.lt c1'
      have e2 := h.cnt c1'
      obtain ⟨Gn, e3, e4⟩ := h.pre c1'
      by_cases c2 : (g (l.drop 1) G).2.1.headD 0 = 44
      · rw [if_pos c2]
        have hne : (g (l.drop 1) G).2.1 ≠ [] := by
          intro h9
          rw [h9] at c2; cases c2
        have ih := kids_out hg m (g (l.drop 1) G).2.1 (g (l.drop 1) G).2.2 (ks ++ [(G.length : Int)]) hne
        refine ⟨?_, fun h9 => ?_, fun h9 => ?_, fun h9 => ?_⟩
        · have := ih.rest; omega
        · have := ih.cnt h9; omega
        · obtain ⟨Gm, q⟩ := ih.pre h9
          exact ⟨Gn ++ Gm, by rw [q, e3, List.append_assoc]⟩
        · obtain ⟨q1, q2⟩ := ih.kn h9
          have e5 := congrArg List.length e3
          simp only [List.length_append, List.length_cons, List.length_nil] at q1 q2 e5
          omega
      · rw [if_neg c2]
        by_cases c3 : (g (l.drop 1) G).2.1.headD 0 = 41
        · rw [if_pos c3]
          have := headD_pos c3 (by decide)
          refine ⟨?_, fun _ => ?_, fun _ => ⟨Gn, e3⟩, fun _ => ?_⟩
          · show ((g (l.drop 1) G).2.1.drop 1).length ≤ _; omega
          · show (g (l.drop 1) G).2.2.length + ((g (l.drop 1) G).2.1.drop 1).length + 1 ≤ _; omega
          · show (ks ++ [(G.length : Int)]).length + G.length ≤ (g (l.drop 1) G).2.2.length + ks.length ∧ ks.length < (ks ++ [(G.length : Int)]).length
            rw [e3]
            simp only [List.length_append, List.length_cons, List.length_nil]
            omega
        · rw [if_neg c3]
          exact ⟨by show (g (l.drop 1) G).2.1.length ≤ _; omega, fun h9 => (by cases h9), fun h9 => (by cases h9), fun h9 => (by cases h9)⟩
theorem gate_out : ∀ (f : Nat) (l : List UInt8) (G : List Gt), GOut l G (gateP f l G)
  | 0, l, G => ⟨Nat.le_refl _, fun h => (by cases h), fun h => (by cases h), fun h => (by cases h)⟩
  | f + 1, l, G => by
    have hd : (l.drop (numLen l)).length ≤ l.length := by rw [List.length_drop]; omega
    rw [gateP]
    by_cases c1 : nOk l = false
    · rw [if_pos c1]
      exact ⟨hd, fun h => (by cases h), fun h => (by cases h), fun h => (by cases h)⟩
    · rw [if_neg c1]
      have hr := nOk_rest (l := l) (by simpa using c1)
      by_cases c2 : (l.drop (numLen l)).headD 0 ≠ 40
      · rw [if_pos c2]
        refine ⟨hd, fun _ => hr, fun _ => ?_, fun _ => ⟨_, rfl, by simp⟩⟩
        show (G ++ [_]).length + _ ≤ _
        simp only [List.length_append, List.length_cons, List.length_nil]
        omega
      · rw [if_neg c2]
        have c2' : (l.drop (numLen l)).headD 0 = 40 := Classical.byContradiction c2
        have hne : l.drop (numLen l) ≠ [] := by
          intro h9
          rw [h9] at c2'; cases c2'
        have hk := kids_out (gate_out f) f (l.drop (numLen l)) (G ++ [⟨0, [], 0⟩]) [] hne
        generalize kidsR (gateP f) f (l.drop (numLen l)) (G ++ [⟨0, [], 0⟩]) [] = q at *
        have k1 := hk.rest
        by_cases c3 : q.1.1 = false
        · rw [if_pos c3]
          exact ⟨by omega, fun h => (by rw [c3] at h; cases h), fun h => (by rw [c3] at h; cases h), fun h => (by rw [c3] at h; cases h)⟩
        · rw [if_neg c3]
          have c3' : q.1.1 = true := by simpa using c3
          have k2 := hk.cnt c3'
          obtain ⟨Gn, k3⟩ := hk.pre c3'
          refine ⟨by show q.1.2.1.length ≤ _; omega, fun _ => by show q.1.2.1.length < _; omega, fun _ => ?_, fun _ => ?_⟩
          · show (q.1.2.2.set _ _).length + q.1.2.1.length ≤ _
            rw [List.length_set]
            simp only [List.length_append, List.length_cons, List.length_nil] at k2
            omega
          · refine ⟨⟨numV (l.take (numLen l)), q.2, 0⟩ :: Gn, ?_, by simp⟩
            show q.1.2.2.set _ _ = _
            rw [k3]
            simp
end Go.Proofs.YteaaeaimjbaomaaDoor
