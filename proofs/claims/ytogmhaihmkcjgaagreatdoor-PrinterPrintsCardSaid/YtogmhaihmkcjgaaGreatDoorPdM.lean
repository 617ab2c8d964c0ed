import Derived.Test.YtogmhaihmkcjgaaGreatDoorPcA
import Derived.Test.YtogmhaihmkcjgaaGreatDoorPbZ
import Derived.Lib.ItoaNum
/-
  Policies that are the same apart from the numbers of their nodes: plain. No program in sight.
-/
namespace Go.Proofs.YtogmhaihmkcjgaaGreatDoor
set_option linter.unusedVariables false

/-- two nodes alone, without their kids' places -/
def eqN (x y : Nk) : Bool := decide (x.kind = y.kind) && decide (x.num = y.num) && decide (x.name = y.name) && decide (x.attr = y.attr)
/-- lists of nodes, one by one -/
def eachP (v : Int → Int → Bool) : List Int → List Int → Bool
  | [], [] => true
  | a :: l, b :: m => v a b && eachP v l m
  | _, _ => false
theorem eachP_len {v : Int → Int → Bool} : ∀ {l m : List Int}, l.length ≠ m.length → eachP v l m = false
  | [], [], h => (h rfl).elim
  | [], _ :: _, _ => rfl
  | _ :: _, [], _ => rfl
  | a :: l, b :: m, h => by
    rw [eachP, eachP_len (l := l) (m := m) (by simpa using h), Bool.and_false]
/-- nodes that are equal, and what is below them -/
def sameN (ns ms : List Nk) : Nat → Int → Int → Bool
  | 0, _, _ => false
  | f + 1, i, k => match ns[i.toNat]?, ms[k.toNat]? with
    | some x, some y => eqN x y && eachP (sameN ns ms f) x.kids y.kids
    | _, _ => false
/-- a tree of so many levels stands here -/
def WfP (ns : List Nk) : Nat → Int → Prop
  | 0, _ => False
  | f + 1, a => 0 ≤ a ∧ ∃ n, ns[a.toNat]? = some n ∧ ∀ k ∈ n.kids, WfP ns f k
def sameP (a b : Po) : Bool :=
  decide (checkP a = 0) && decide (checkP b = 0) && decide (a.name = b.name) && decide (a.scope = b.scope) && decide (a.limit = b.limit) && decide (a.escrow = b.escrow) && decide (a.uses = b.uses) && decide (a.reveal = b.reveal) && sameN a.nodes b.nodes 32 a.root b.root
theorem loopP_ok {v : Int → List Int → Int × List Int} : ∀ (l S : List Int), (loopP v l S).1 = 0 → ∀ k ∈ l, ∃ T, (v k T).1 = 0
  | [], S, _, k, hk => by cases hk
  | a :: l, S, h, k, hk => by
    rw [loopP] at h
    split at h
    · rename_i h1; exact absurd h h1
    · rename_i h1
      rcases List.mem_cons.1 hk with rfl | hk
      · exact ⟨S, by omega⟩
      · exact loopP_ok l _ h k hk
theorem visit_wf (ns : List Nk) : ∀ (f : Nat) (a : Int) (c : Bool) (S : List Int), (visitP ns f a c S).1 = 0 → WfP ns f a
  | 0, a, c, S, h => by
    by_cases hb : a < 0 ∨ (ns.length : Int) ≤ a ∨ a ∈ S
    · rw [visitP_out hb] at h; cases h
    · rw [visitP_deep hb] at h; cases h
  | f + 1, a, c, S, h => by
    by_cases hb : a < 0 ∨ (ns.length : Int) ≤ a ∨ a ∈ S
    · rw [visitP_out hb] at h; cases h
    · obtain ⟨n, hn⟩ : ∃ n, ns[a.toNat]? = some n := ⟨_, List.getElem?_eq_getElem (by omega)⟩
      rw [visitP_in hb hn] at h
      split at h
      · rename_i h1; exact absurd h h1
      · refine ⟨by omega, n, hn, fun k hk => ?_⟩
        obtain ⟨T, hT⟩ := loopP_ok _ _ h k hk
        exact visit_wf ns f k _ T hT
theorem tree_wf {d : Po} (h : treeP d = 0) : WfP d.nodes 32 d.root := by
  refine visit_wf d.nodes 32 d.root true [] ?_
  unfold treeP at h
  split at h
  · rename_i h1; exact absurd h h1
  · rename_i h1; omega
theorem check_tree {d : Po} (h : checkP d = 0) : treeP d = 0 := by
  unfold checkP at h
  repeat' split at h
  all_goals first | omega | (rename_i h1 _ _ _; omega)
/-- a node without its offset -/
def Nk.er (n : Nk) : Nk := ⟨n.kind, n.num, n.name, n.attr, n.kids, 0⟩
def Po.er (d : Po) : Po := ⟨d.name, d.uses, d.reveal, d.nodes.map Nk.er, d.root, d.scope, d.limit, d.escrow⟩
end Go.Proofs.YtogmhaihmkcjgaaGreatDoor

/-
  Decimal texts are numbers of the lexer. Plain.
-/
namespace Go.Proofs.YtogmhaihmkcjgaaGreatDoor
open Go.RowKit Go.Shelf
set_option linter.unusedVariables false

theorem digb (k : Nat) (h : k < 10) : Lx.isDig (UInt8.ofNat (48 + k)) = true ∧ (UInt8.ofNat (48 + k)).toNat = 48 + k := by
  rcases (by omega : k = 0 ∨ k = 1 ∨ k = 2 ∨ k = 3 ∨ k = 4 ∨ k = 5 ∨ k = 6 ∨ k = 7 ∨ k = 8 ∨ k = 9) with rfl | rfl | rfl | rfl | rfl | rfl | rfl | rfl | rfl | rfl <;> decide
theorem decd (u : Nat) : (∀ c ∈ Lib.decDigits u, Lx.isDig c = true) ∧ Lx.dv (Lib.decDigits u) = u ∧ Lib.decDigits u ≠ [] := by
  induction u using Nat.strongRecOn with
  | _ u ih =>
    by_cases h : u < 10
    · rw [Lib.decDigits, dif_pos h]
      obtain ⟨h1, h2⟩ := digb u h
      refine ⟨fun c hc => by rw [List.mem_singleton.1 hc]; exact h1, ?_, by simp⟩
      simp only [Lx.dv, List.foldl_cons, List.foldl_nil, h2]
      omega
    · obtain ⟨h1, h2, h3⟩ := ih (u / 10) (by omega)
      obtain ⟨h4, h5⟩ := digb (u % 10) (by omega)
      rw [Lib.decDigits, dif_neg h]
      refine ⟨fun c hc => ?_, ?_, by simp⟩
      · rcases List.mem_append.1 hc with h6 | h6
        · exact h1 c h6
        · rw [List.mem_singleton.1 h6]; exact h4
      · rw [Lx.dv_snoc, h2, h5]; omega
theorem sp_every {p : UInt8 → Bool} : ∀ (l : List UInt8), (∀ c ∈ l, p c = true) → Lx.sp p l = l.length
  | [], _ => rfl
  | c :: l, h => by rw [Lx.sp_succ (h c (List.mem_cons_self ..)), sp_every l (fun x hx => h x (List.mem_cons_of_mem _ hx))]; rfl
theorem dig_not {c : UInt8} (h : Lx.isDig c = true) : Lx.isLet c = false ∧ (c == 39) = false ∧ (c == 45) = false ∧ c ≠ 45 := by
  obtain ⟨v⟩ := c
  revert h
  revert v
  decide +kernel
theorem numV_dec (n : Int) : Pa.numV (Lib.itoa n) = n := by
  unfold Lib.itoa
  split
  · rw [Pa.numV, if_pos rfl, (decd n.natAbs).2.1]; omega
  · obtain ⟨h4, h5, h6⟩ := decd n.toNat
    cases hd : Lib.decDigits n.toNat with
    | nil => exact absurd hd h6
    | cons c m =>
      rw [hd] at h4 h5
      rw [Pa.numV, if_neg (dig_not (h4 c (List.mem_cons_self ..))).2.2.2, h5]; omega
theorem dig_in {c : UInt8} (h : Lx.isDig c = true) : c ∈ ([45, 48, 49, 50, 51, 52, 53, 54, 55, 56, 57] : List UInt8) := by
  obtain ⟨v⟩ := c
  revert h
  revert v
  decide +kernel
theorem itoa_in (n : Int) : ∃ c m, Lib.itoa n = c :: m ∧ c ∈ ([45, 48, 49, 50, 51, 52, 53, 54, 55, 56, 57] : List UInt8) := by
  unfold Lib.itoa
  split
  · exact ⟨45, _, rfl, by decide⟩
  · obtain ⟨h4, h5, h6⟩ := decd n.toNat
    cases hd : Lib.decDigits n.toNat with
    | nil => exact absurd hd h6
    | cons c m =>
      rw [hd] at h4
      exact ⟨c, m, rfl, dig_in (h4 c (List.mem_cons_self ..))⟩
end Go.Proofs.YtogmhaihmkcjgaaGreatDoor

/-
  Comparisons with every number. Plain; the law of Compares.
-/
namespace Go.Proofs.YtogmhaihmkcjgaaGreatDoor.Lx
set_option linter.unusedVariables false

end Go.Proofs.YtogmhaihmkcjgaaGreatDoor.Lx
namespace Go.Proofs.YtogmhaihmkcjgaaGreatDoor
open Go.RowKit Go.Shelf
set_option linter.unusedVariables false

/-- numbers in their range, and offsets, do not matter to Check -/
def Nk.flat (n : Nk) : Nk := ⟨n.kind, if n.kind = 10 then 0 else n.num, n.name, n.attr, n.kids, 0⟩
/-! the law of Heads -/
instance : DecidableEq Nk := fun a b => decidable_of_iff (a.kind = b.kind ∧ a.num = b.num ∧ a.name = b.name ∧ a.attr = b.attr ∧ a.kids = b.kids ∧ a.at_ = b.at_) (by cases a; cases b; simp)
instance : DecidableEq Po := fun a b => decidable_of_iff (a.name = b.name ∧ a.uses = b.uses ∧ a.reveal = b.reveal ∧ a.nodes = b.nodes ∧ a.root = b.root ∧ a.scope = b.scope ∧ a.limit = b.limit ∧ a.escrow = b.escrow) (by cases a; cases b; simp)
end Go.Proofs.YtogmhaihmkcjgaaGreatDoor
