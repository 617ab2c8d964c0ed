/-
  Policies as data; what Check returns. No program in sight.
-/
import Derived.Test.YtogmhaihmkcjgaaGreatDoorLexA
import Derived.Test.YtogmhaihmkcjgaaGreatDoorKit
namespace Go.Proofs.YtogmhaihmkcjgaaGreatDoor
set_option linter.unusedVariables false

instance : DecidableEq ByteArray := fun a b => if h : a.data = b.data then .isTrue (by cases a; cases b; exact congrArg ByteArray.mk h) else .isFalse (fun e => h (by rw [e]))

/-- is it in the list? -/
def memD {α : Type} [DecidableEq α] (s : α) (S : List α) : Bool := S.any fun t => decide (t = s)
theorem memD_iff {α : Type} [DecidableEq α] {s : α} {S : List α} : memD s S = true ↔ s ∈ S := by
  unfold memD
  rw [List.any_eq_true]
  constructor
  · rintro ⟨t, h1, h2⟩; rw [← of_decide_eq_true h2]; exact h1
  · intro h; exact ⟨s, h, decide_eq_true rfl⟩
theorem memD_snoc {α : Type} [DecidableEq α] {s t : α} {S : List α} : memD s (S ++ [t]) = (memD s S || decide (t = s)) := by simp [memD]
theorem memD_take {α : Type} [DecidableEq α] {l : List α} {i : Nat} {s : α} : memD s (l.take i) = true ↔ ∃ k, k < i ∧ l[k]? = some s := by
  rw [memD_iff, List.mem_iff_getElem?]
  constructor
  · rintro ⟨k, hk⟩
    rw [List.getElem?_take] at hk
    split at hk
    · rename_i h; exact ⟨k, h, hk⟩
    · cases hk
  · rintro ⟨k, h, hk⟩
    exact ⟨k, by rw [List.getElem?_take, if_pos h]; exact hk⟩
/-- a node of a policy -/
structure Nk where
  kind : Int
  num : Int
  name : ByteArray
  attr : ByteArray
  kids : List Int
  at_ : Int
abbrev Bp := ByteArray × ByteArray
structure Po where
  name : ByteArray
  uses : List Bp
  reveal : List Bp
  nodes : List Nk
  root : Int
  scope : ByteArray
  limit : Int
  escrow : ByteArray
def ltN (n : Nat) : Bool := decide ((97 ≤ n ∧ n ≤ 122) ∨ (65 ≤ n ∧ n ≤ 90))
def dgN (n : Nat) : Bool := decide (48 ≤ n ∧ n ≤ 57)
def nmN (n : Nat) : Bool := ltN n || dgN n || decide (n = 95)
def wdN (n : Nat) : Bool := nmN n || decide (n = 45)
def allN (p : Nat → Bool) (l : List UInt8) : Bool := l.all fun b => p b.toNat
/-- a name -/
def nameP (s : ByteArray) : Bool := if h : 0 < s.size then decide (s.size ≤ 32) && ltN s[0].toNat && allN nmN (tl s) && !Lx.kw (tl s) else false
/-- a word -/
def wordP (s : ByteArray) : Bool := decide (0 < s.size) && decide (s.size ≤ 32) && allN wdN (tl s)
/-- may a node have so many kids? -/
def kidsP (kind : Int) (n : Nat) : Bool :=
  if kind = 0 ∨ kind = 1 ∨ kind = 9 ∨ kind = 10 ∨ kind = 11 then decide (n = 0)
  else if kind = 2 then decide (n = 1)
  else if kind = 3 ∨ kind = 4 ∨ kind = 5 then decide (1 ≤ n)
  else if kind = 6 then decide (n = 2)
  else if kind = 7 then decide (n = 3)
  else if kind = 8 then decide (2 ≤ n)
  else false
def textsP (n : Nk) : Bool :=
  if n.kind = 9 then nameP n.name && nameP n.attr
  else if n.kind = 11 then wordP n.name && decide (n.attr.size = 0)
  else decide (n.name.size = 0) && decide (n.attr.size = 0)
/-- the least and the greatest number of a node -/
def lowP (n : Nk) : Int := if n.kind = 5 then 1 else if n.kind = 10 then -2147483648 else 0
def highP (n : Nk) : Int := if n.kind = 5 then (n.kids.length : Int) else if n.kind = 6 then 5 else if n.kind = 10 then 2147483647 else 0
def shapeP (n : Nk) (c : Bool) : Bool := decide (0 ≤ n.kind) && decide (n.kind < 12) && (decide (n.kind ≤ 8) == c) && kidsP n.kind n.kids.length && textsP n
/-- the error of a node alone -/
def formP (n : Nk) (c : Bool) : Int := if shapeP n c = false then 3 else if n.num < lowP n ∨ highP n < n.num then 2 else 0
/-- kids one after the other, until one has an error -/
def loopP (v : Int → List Int → Int × List Int) : List Int → List Int → Int × List Int
  | [], S => (0, S)
  | k :: r, S => if (v k S).1 ≠ 0 then v k S else loopP v r (v k S).2
/-- the visit of a node and of what is below it: the error, and the nodes that were met -/
def visitP (ns : List Nk) : Nat → Int → Bool → List Int → Int × List Int
  | f, at_, c, S =>
    if at_ < 0 ∨ (ns.length : Int) ≤ at_ ∨ at_ ∈ S then (3, S)
    else match f with
      | 0 => (7, S)
      | f + 1 => match ns[at_.toNat]? with
        | none => (3, S)
        | some n => if formP n c ≠ 0 then (formP n c, S ++ [at_]) else loopP (fun k S => visitP ns f k (decide (n.kind ≤ 5)) S) n.kids (S ++ [at_])
def treeP (d : Po) : Int := if (visitP d.nodes 32 d.root true []).1 ≠ 0 then (visitP d.nodes 32 d.root true []).1 else if (visitP d.nodes 32 d.root true []).2.length ≠ d.nodes.length then 3 else 0
def pairsP (l : List Bp) : Bool := l.all fun x => nameP x.1 && nameP x.2
def namesP (d : Po) : Bool := nameP d.name && (decide (d.escrow.size = 0) || nameP d.escrow) && (decide (d.scope.size = 0) || wordP d.scope) && pairsP d.uses && pairsP d.reveal
/-- is an element of a list among those ahead of it? -/
def twiceP {α : Type} [DecidableEq α] : List α → List α → Bool
  | _, [] => false
  | S, x :: r => memD x S || twiceP (S ++ [x]) r
abbrev Po.al (d : Po) : List ByteArray := d.uses.map Prod.fst
/-- what Check returns -/
def checkP (d : Po) : Int :=
  if 512 < d.nodes.length ∨ d.uses.length < 1 ∨ 4 < d.uses.length ∨ 64 < d.reveal.length then 6
  else if namesP d = false then 3
  else if d.limit < 0 ∨ 65536 < d.limit ∨ (0 < d.limit ∧ d.scope.size = 0) then 2
  else if treeP d ≠ 0 then treeP d
  else if twiceP [] d.al = true ∨ twiceP [] d.reveal = true then 8
  else if d.reveal.all (fun x => memD x.1 d.al) = false then 9
  else if d.nodes.all (fun n => !decide (n.kind = 9) || memD n.name d.al) = false then 9
  else 0
theorem visitP_out {ns : List Nk} {f : Nat} {at_ : Int} {c : Bool} {S : List Int} (h : at_ < 0 ∨ (ns.length : Int) ≤ at_ ∨ at_ ∈ S) : visitP ns f at_ c S = (3, S) := by
  unfold visitP; rw [if_pos h]
theorem visitP_deep {ns : List Nk} {at_ : Int} {c : Bool} {S : List Int} (h : ¬ (at_ < 0 ∨ (ns.length : Int) ≤ at_ ∨ at_ ∈ S)) : visitP ns 0 at_ c S = (7, S) := by
  unfold visitP; rw [if_neg h]
theorem visitP_in {ns : List Nk} {f : Nat} {at_ : Int} {c : Bool} {S : List Int} {n : Nk} (h : ¬ (at_ < 0 ∨ (ns.length : Int) ≤ at_ ∨ at_ ∈ S)) (hn : ns[at_.toNat]? = some n) :
    visitP ns (f + 1) at_ c S = if formP n c ≠ 0 then (formP n c, S ++ [at_]) else loopP (fun k S => visitP ns f k (decide (n.kind ≤ 5)) S) n.kids (S ++ [at_]) := by
  rw [visitP, if_neg h, hn]
/-- what was met stays met, once each, and in range -/
structure Met (ns : List Nk) (S : List Int) : Prop where
  nd : S.Nodup
  rg : ∀ x ∈ S, 0 ≤ x ∧ x < (ns.length : Int)
theorem loopP_met {ns : List Nk} {v : Int → List Int → Int × List Int} (hv : ∀ k S, Met ns S → Met ns (v k S).2) : ∀ (l S : List Int), Met ns S → Met ns (loopP v l S).2
  | [], S, h => h
  | k :: r, S, h => by
    rw [loopP]
    split
    · exact hv k S h
    · exact loopP_met hv r _ (hv k S h)
theorem Met.snoc {ns : List Nk} {S : List Int} {a : Int} (h : Met ns S) (h2 : ¬ (a < 0 ∨ (ns.length : Int) ≤ a ∨ a ∈ S)) : Met ns (S ++ [a]) := by
  refine ⟨?_, fun x hx => ?_⟩
  · rw [List.nodup_append]
    refine ⟨h.nd, by simp, fun x hx y hy e => ?_⟩
    rw [List.mem_singleton.1 hy] at e
    exact h2 (.inr (.inr (e ▸ hx)))
  · rcases List.mem_append.1 hx with hx | hx
    · exact h.rg x hx
    · rw [List.mem_singleton.1 hx]; omega
theorem visitP_met (ns : List Nk) : ∀ (f : Nat) (a : Int) (c : Bool) (S : List Int), Met ns S → Met ns (visitP ns f a c S).2
  | 0, a, c, S, h => by
    by_cases hb : a < 0 ∨ (ns.length : Int) ≤ a ∨ a ∈ S
    · rw [visitP_out hb]; exact h
    · rw [visitP_deep hb]; exact h
  | f + 1, a, c, S, h => by
    by_cases hb : a < 0 ∨ (ns.length : Int) ≤ a ∨ a ∈ S
    · rw [visitP_out hb]; exact h
    · obtain ⟨n, hn⟩ : ∃ n, ns[a.toNat]? = some n := ⟨_, List.getElem?_eq_getElem (by omega)⟩
      rw [visitP_in hb hn]
      split
      · exact h.snoc hb
      · exact loopP_met (fun k S hS => visitP_met ns f k _ S hS) _ _ (h.snoc hb)
theorem Met.len {ns : List Nk} {S : List Int} (h : Met ns S) : S.length ≤ ns.length := by
  have h1 : (S.map Int.toNat).Nodup := by
    rw [List.nodup_iff_pairwise_ne, List.pairwise_map]
    refine (List.Pairwise.imp_of_mem ?_ (List.nodup_iff_pairwise_ne.1 h.nd))
    intro a b ha hb hab e
    have h2 := h.rg a ha
    have h3 := h.rg b hb
    omega
  have h2 := List.Nodup.length_le_of_subset (l₁ := S.map Int.toNat) (l₂ := List.range ns.length) h1 (fun x hx => by
    obtain ⟨y, hy, rfl⟩ := List.mem_map.1 hx
    have := h.rg y hy
    rw [List.mem_range]; omega)
  rw [List.length_map, List.length_range] at h2
  exact h2
theorem allN_take {p : Nat → Bool} {s : ByteArray} {k : Nat} (h : k < s.size) : allN p ((tl s).take (k + 1)) = (allN p ((tl s).take k) && p s[k].toNat) := by
  unfold allN
  rw [take_snoc s k h, List.all_append]; simp
theorem allN_bad {p : Nat → Bool} {s : ByteArray} {k : Nat} (h : k < s.size) (hp : p s[k].toNat = false) : allN p (tl s) = false := by
  unfold allN
  rw [Bool.eq_false_iff]
  intro h9
  have := List.all_eq_true.1 h9 s[k] (by rw [← tl_getElem s k h]; exact List.getElem_mem _)
  rw [hp] at this; cases this
theorem allN_full {p : Nat → Bool} {s : ByteArray} {k : Nat} (h : ¬ k < s.size) : allN p ((tl s).take k) = allN p (tl s) := by
  rw [List.take_of_length_le (by rw [length_tl]; omega)]
end Go.Proofs.YtogmhaihmkcjgaaGreatDoor
