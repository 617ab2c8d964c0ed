/-
  The parser's reader: policy. Under way.
-/
import Derived.Test.YtminghdnclpocaaGreatDoorPbK
import Derived.Test.YtminghdnclpocaaGreatDoorPaD
namespace Go.Proofs.YtminghdnclpocaaGreatDoor
open Go.RowKit Go.Shelf
set_option linter.unusedVariables false
attribute [local go_sem] tf0 tf1 tf2

def pcells (l : List (Pa.Tx × Pa.Tx)) : List Value := l.flatMap fun x => [Sv x.1, Sv x.2]
theorem pcells_snoc (l : List (Pa.Tx × Pa.Tx)) (x : Pa.Tx × Pa.Tx) : pcells (l ++ [x]) = pcells l ++ [Sv x.1, Sv x.2] := by simp [pcells]
abbrev iuses (v : Value) (l : List (Pa.Tx × Pa.Tx)) : It := irow 50 2 v l.length (pcells l)
abbrev irefs (v : Value) (l : List (Pa.Tx × Pa.Tx)) : It := irow 52 2 v l.length (pcells l)
theorem use_info : (Tryz.prog.info? 50).map (fun i => (i.zero, i.size, i.bytes)) = some (some (.agg #[.string ⟨#[]⟩, .string ⟨#[]⟩]), 2, 32) := by kernel_rfl
theorem ref_info : (Tryz.prog.info? 52).map (fun i => (i.zero, i.size, i.bytes)) = some (some (.agg #[.string ⟨#[]⟩, .string ⟨#[]⟩]), 2, 32) := by kernel_rfl
/-- the cells of a policy: Name, Uses, Reveal, Nodes, Root, Scope, Limit, Escrow -/
abbrev plc (nm : Pa.Tx) (vu vr vn : Value) (sc : Pa.Tx) (lim : Int) (esc : Pa.Tx) : List Value := [Sv nm, vu, vr, vn, .int .i64 0, Sv sc, .int .i64 lim, Sv esc]
/-- what a loop 'for more' still does -/
def moreR {α : Type} (rd : List Lx.Tok → Pa.Rd α) (more : Bool) (acc : List α) (k : Nat) (q : List Lx.Tok) : Pa.Rd (List α) :=
  if more then (Pa.listR rd k q).then fun l q => (some (acc ++ l), q) else (some acc, q)
theorem moreR_start {α : Type} (rd : List Lx.Tok → Pa.Rd α) (k : Nat) (q : List Lx.Tok) : moreR rd true [] k q = Pa.listR rd k q := by
  unfold moreR
  rw [if_pos rfl]
  generalize Pa.listR rd k q = x
  obtain ⟨o, r⟩ := x
  cases o <;> rfl
theorem moreR_bad {α : Type} (rd : List Lx.Tok → Pa.Rd α) (acc : List α) (k : Nat) (q q' : List Lx.Tok) (h : rd q = (none, q')) : moreR rd true acc (k + 1) q = (none, q') := by
  rw [moreR, if_pos rfl, Pa.listR, h]; rfl
theorem moreR_step {α : Type} (rd : List Lx.Tok → Pa.Rd α) (acc : List α) (k : Nat) (q q' : List Lx.Tok) (a : α) (h : rd q = (some a, q')) : moreR rd true acc (k + 1) q = moreR rd (Pa.isT Pa.sComma q') (acc ++ [a]) k (takeT Pa.sComma q') := by
  rw [moreR, if_pos rfl, Pa.listR, h, Pa.then_some, moreR, takeT]
  cases Pa.isT Pa.sComma q' with
  | true =>
    simp only [if_true]
    generalize Pa.listR rd k q'.tail = x
    obtain ⟨o, r⟩ := x
    cases o with
    | none => rfl
    | some l => simp
  | false => simp
theorem Blk.get8 {w : World} {g : Nat} {t : TypeId} {a b c d e f i j : Value} (h : Blk w g t [a, b, c, d, e, f, i, j]) : w.cell? ⟨g, 0, none⟩ = some a ∧ w.cell? ⟨g, 1, none⟩ = some b ∧ w.cell? ⟨g, 2, none⟩ = some c ∧ w.cell? ⟨g, 3, none⟩ = some d ∧ w.cell? ⟨g, 4, none⟩ = some e ∧ w.cell? ⟨g, 5, none⟩ = some f ∧ w.cell? ⟨g, 6, none⟩ = some i ∧ w.cell? ⟨g, 7, none⟩ = some j := ⟨h.cell 0, h.cell 1, h.cell 2, h.cell 3, h.cell 4, h.cell 5, h.cell 6, h.cell 7⟩
theorem takeT_len (s : Pa.Tx) (ts : List Lx.Tok) : (takeT s ts).length + (if Pa.isT s ts then 1 else 0) = ts.length := by
  unfold takeT
  cases h : Pa.isT s ts with
  | true => simp only [if_true]; exact Pa.isT_len h
  | false => simp
theorem takeT_suf (s : Pa.Tx) (ts : List Lx.Tok) : takeT s ts <:+ ts := by
  unfold takeT
  split
  · exact List.tail_suffix _
  · exact List.suffix_refl _
theorem takeT_good {s : Pa.Tx} {ts : List Lx.Tok} (h : Pa.Good ts) : Pa.Good (takeT s ts) := by
  unfold takeT
  split
  · rename_i h1; exact h.isT h1
  · exact h
end Go.Proofs.YtminghdnclpocaaGreatDoor
