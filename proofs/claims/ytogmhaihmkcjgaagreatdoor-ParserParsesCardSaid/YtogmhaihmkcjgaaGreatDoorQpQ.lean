import Derived.Test.YtogmhaihmkcjgaaGreatDoorPaV
import Derived.Test.YtogmhaihmkcjgaaGreatDoorPcA
import Derived.Test.YtogmhaihmkcjgaaGreatDoorPbZ
import Derived.Test.YtogmhaihmkcjgaaGreatDoorPdM
import Derived.Lib.ItoaNum
import Derived.Deep.RegionHeld3
import Derived.Test.YtogmhaihmkcjgaaGreatDoorPcH
import Derived.Deep.LoopGhost
import Derived.Deep.QuietTactic
import Derived.BigQuiet
import Derived.Deep.CutBlock
import Derived.Deep.DeepCutAuto
/-
 The grammar of the policy language: which tokens make which tree. What is read is derived, and what is derived is read. No program in sight.
-/
namespace Go.Proofs.YtogmhaihmkcjgaaGreatDoor.Pa
open Lx (Tok)
set_option linter.unusedVariables false

/-- a value -/
inductive Vl : List Tok → Nd → Prop
 | ref (a d b : Tok) : isN [a] = true → isT sDot [d] = true → isN [b] = true → Vl [a, d, b] ⟨9, 0, a.text, b.text, a.at_⟩
 | word (a : Tok) : isW [a] = true → Vl [a] ⟨11, 0, a.text.tail.dropLast, [], a.at_⟩
 | num (a : Tok) : isM [a] = true → Vl [a] ⟨10, numV a.text, [], [], a.at_⟩
/-! what is derived is read -/
theorem isN_kind {a : Tok} (h : isN [a] = Bool.true) : a.kind = 0 ∧ isW [a] = Bool.false := by
 simp only [isN, Bool.and_eq_true, beq_iff_eq, Bool.not_eq_true'] at h; exact h
theorem isW_kind {a : Tok} (h : isW [a] = Bool.true) : a.kind = 0 := by
 simp only [isW, Bool.and_eq_true, beq_iff_eq] at h; exact h.1
theorem isM_kind {a : Tok} (h : isM [a] = Bool.true) : a.kind = 1 := by
 simp only [isM, beq_iff_eq] at h; exact h
theorem Vl.first {us : List Tok} {n : Nd} (h : Vl us n) : ∃ a p, us = a :: p ∧ a.kind ≠ 2 ∧ a.kind ≠ 3 := by
 cases h with
 | ref a d b ha hd hb => exact ⟨a, _, rfl, by rw [(isN_kind ha).1]; decide, by rw [(isN_kind ha).1]; decide⟩
 | word a ha => exact ⟨a, _, rfl, by rw [isW_kind ha]; decide, by rw [isW_kind ha]; decide⟩
 | num a ha => exact ⟨a, _, rfl, by rw [isM_kind ha]; decide, by rw [isM_kind ha]; decide⟩
end Go.Proofs.YtogmhaihmkcjgaaGreatDoor.Pa

/-
 The grammar of whole policies; a source that goes on behind white space. No program in sight.
-/
namespace Go.Proofs.YtogmhaihmkcjgaaGreatDoor.Lx
set_option linter.unusedVariables false

end Go.Proofs.YtogmhaihmkcjgaaGreatDoor.Lx
namespace Go.Proofs.YtogmhaihmkcjgaaGreatDoor.Pa
open Lx (Tok)
set_option linter.unusedVariables false

end Go.Proofs.YtogmhaihmkcjgaaGreatDoor.Pa

/-
 Which nodes are reached, and the tidy policy, in plain words. No program in sight.
-/
namespace Go.Proofs.YtogmhaihmkcjgaaGreatDoor
set_option linter.unusedVariables false

/-- what was reached, if all went well, holds the kids of what is new -/
structure Clo (ns : List Nk) (S T : List Int) : Prop where
 sub : ∀ x ∈ S, x ∈ T
 kids : ∀ b ∈ T, b ∉ S → ∀ n, ns[b.toNat]? = some n → ∀ k ∈ n.kids, k ∈ T
theorem Clo.trans {ns : List Nk} {A B C : List Int} (h : Clo ns A B) (g : Clo ns B C) : Clo ns A C :=
 ⟨fun x hx => g.sub x (h.sub x hx), fun b hb ha n hn k hk => by
  by_cases hB : b ∈ B
  ·exact g.sub k (h.kids b hB ha n hn k hk)
  ·exact g.kids b hb hB n hn k hk⟩
end Go.Proofs.YtogmhaihmkcjgaaGreatDoor

/-
 Tokens with white space and comments between them are parsed in the same way. Plain; the law of Spaces.
-/
namespace Go.Proofs.YtogmhaihmkcjgaaGreatDoor.Lx
set_option linter.unusedVariables false

end Go.Proofs.YtogmhaihmkcjgaaGreatDoor.Lx
namespace Go.Proofs.YtogmhaihmkcjgaaGreatDoor
open Go.RowKit Go.Shelf
set_option linter.unusedVariables false

end Go.Proofs.YtogmhaihmkcjgaaGreatDoor

/-
 Parentheses around an expression. Plain; the law of Parens.
-/
namespace Go.Proofs.YtogmhaihmkcjgaaGreatDoor.Pa
open Lx (Tok)
set_option linter.unusedVariables false

end Go.Proofs.YtogmhaihmkcjgaaGreatDoor.Pa
namespace Go.Proofs.YtogmhaihmkcjgaaGreatDoor
open Go.RowKit Go.Shelf
set_option linter.unusedVariables false

/-! the sources -/
end Go.Proofs.YtogmhaihmkcjgaaGreatDoor

/-
 The examples of the chapter. Plain.
-/
namespace Go.Proofs.YtogmhaihmkcjgaaGreatDoor
open Go.RowKit Go.Shelf
set_option linter.unusedVariables false

end Go.Proofs.YtogmhaihmkcjgaaGreatDoor

/-
 dominolaw42.awake holds.
-/
namespace Go.Proofs.YtogmhaihmkcjgaaGreatDoor
open Go.RowKit Go.Shelf
set_option linter.unusedVariables false

/-- Parse at a source given by its bytes -/
theorem parse_at {l : List UInt8} {r : Po × Nat × Int} (h : parseP l = r) (hl : l.length ≤ 65536) (w : World) : Calls Tryz.prog 11 #[.string ⟨l.toArray⟩] w fun e w' => PaOut r e w' ∧ Below w.heap.size w w' := by
 have := Parse_any (bs l) (by rw [size_bs]; exact hl) w
 rw [tl_bs, h] at this
 exact this
theorem add_none (a : Addr) : a.add 0 = a := by
 obtain ⟨b, o, k⟩ := a
 unfold Addr.add
 split <;> simp_all
end Go.Proofs.YtogmhaihmkcjgaaGreatDoor

/-
 dominolaw42: decimal, body.
-/
namespace Go.Proofs.YtogmhaihmkcjgaaGreatDoor
open Go.RowKit Go.Shelf
set_option linter.unusedVariables false

end Go.Proofs.YtogmhaihmkcjgaaGreatDoor


/-
 A source that is cut behind a token has the same tokens up to there. Plain; the law of Stops.
-/
namespace Go.Proofs.YtogmhaihmkcjgaaGreatDoor.Lx
set_option linter.unusedVariables false

end Go.Proofs.YtogmhaihmkcjgaaGreatDoor.Lx
namespace Go.Proofs.YtogmhaihmkcjgaaGreatDoor
open Go.RowKit Go.Shelf
set_option linter.unusedVariables false

end Go.Proofs.YtogmhaihmkcjgaaGreatDoor

/-
 dominolaw42.ParserStops.
-/
namespace Go.Proofs.YtogmhaihmkcjgaaGreatDoor
open Go.RowKit Go.Shelf
set_option linter.unusedVariables false

end Go.Proofs.YtogmhaihmkcjgaaGreatDoor


/-
 What Parse returns is tidy, and its offsets ascend. Plain; the law of Forms.
-/
namespace Go.Proofs.YtogmhaihmkcjgaaGreatDoor.Pa
open Lx (Tok)
set_option linter.unusedVariables false

/-- the nodes in preorder -/
def F.pre : F → List Nd
 | .nil => []
 | .cons n k r => n :: (k.pre ++ r.pre)
/-- how the offsets of two nodes in a row lie -/
def Rl (x y : Nd) : Prop := if 6 ≤ x.kind ∧ x.kind ≤ 8 then y.at_ = x.at_ else x.at_ < y.at_
def Cn : List Nd → Prop
 | [] => True
 | [_] => True
 | x :: y :: l => Rl x y ∧ Cn (y :: l)
theorem Cn.at_ : ∀ {l : List Nd} {i : Nat} {x y : Nd}, Cn l → l[i]? = some x → l[i + 1]? = some y → Rl x y
 | [], i, x, y, _, h, _ => by simp at h
 | [a], i, x, y, _, _, h => by simp at h
 | a :: b :: l, 0, x, y, h, h1, h2 => by
  simp only [List.getElem?_cons_zero, Option.some.injEq, List.getElem?_cons_succ] at h1 h2
  subst h1 h2
  exact h.1
 | a :: b :: l, i + 1, x, y, h, h1, h2 => Cn.at_ (l := b :: l) (i := i) h.2 (by simpa using h1) (by simpa using h2)
/-- what is known of the nodes of trees that were derived from tokens -/
structure Oc (us : List Tok) (f : F) : Prop where
 ne : f.pre ≠ []
 cn : Cn f.pre
 mem : ∀ n ∈ f.pre, ∃ t ∈ us, t.at_ = n.at_
 last : ∀ n, f.pre.getLast? = some n → ¬ (6 ≤ n.kind ∧ n.kind ≤ 8)
theorem Oc.mono {us vs : List Tok} {f : F} (h : Oc us f) (hs : ∀ t ∈ us, t ∈ vs) : Oc vs f := ⟨h.ne, h.cn, fun n hn => by
 obtain ⟨t, ht, e⟩ := h.mem n hn
 exact ⟨t, hs t ht, e⟩, h.last⟩
end Go.Proofs.YtogmhaihmkcjgaaGreatDoor.Pa
namespace Go.Proofs.YtogmhaihmkcjgaaGreatDoor
open Go.RowKit Go.Shelf
set_option linter.unusedVariables false

end Go.Proofs.YtogmhaihmkcjgaaGreatDoor
-- halved

/-
 slices.Equal at uses and at references. Printed by mkpga.py.
-/
namespace Go.Proofs.YtogmhaihmkcjgaaGreatDoor
open Go.RowKit
set_option linter.unusedVariables false

end Go.Proofs.YtogmhaihmkcjgaaGreatDoor

/-
 policy.Same: its closure, slices.EqualFunc with it, itself. Printed by mkpgb.py.
-/
namespace Go.Proofs.YtogmhaihmkcjgaaGreatDoor
open Go.RowKit Go.Shelf
set_option linter.unusedVariables false

theorem below_row' {B : Nat} {W : World} (g : Nat) (hg : B ≤ g) (cs : Array Value) : Below B W (W.setRow g cs) :=
 ⟨rfl, rfl, rfl, by simp [World.setRow], fun k hk => by simp only [World.setRow, Array.getElem?_modify]; rw [if_neg (by omega)]⟩
theorem blk_far {W : World} {g b : Nat} {t : TypeId} {cs : List Value} (h : Blk W g t cs) (hne : b ≠ g) (ds : Array Value) : Blk (W.setRow b ds) g t cs := by
 unfold Blk at h ⊢
 simp only [World.setRow, Array.getElem?_modify]
 rw [if_neg hne]; exact h
theorem Blk.up {W W' : World} {g : Nat} {t : TypeId} {cs : List Value} (h : Blk W g t cs) (hb : Below W.heap.size W W') : Blk W' g t cs := h.below hb h.lt
abbrev smF (ga gb gs : Nat) : Value := .func (.func 59) #[] #[pptr ga, pptr gb, pptr gs]
/-- what the closure finds in memory -/
structure SmM (a b : Po) (La Lb : Lp) (ga gb gs : Nat) (W : World) : Prop where
 ba : Blk W ga 29 (polcs a La)
 bb : Blk W gb 29 (polcs b Lb)
 bs : Blk W gs 120 [smF ga gb gs]
 pa : PolM W a La
 pb : PolM W b Lb
theorem SmM.up {a b : Po} {La Lb : Lp} {ga gb gs : Nat} {W W' : World} (h : SmM a b La Lb ga gb gs W) (hb : Below W.heap.size W W') : SmM a b La Lb ga gb gs W' := ⟨h.ba.up hb, h.bb.up hb, h.bs.up hb, h.pa.up hb, h.pb.up hb⟩
theorem WfP.at_ {ns : List Nk} {f : Nat} {a : Int} (h : WfP ns (f + 1) a) : ∃ (i : Nat) (n : Nk), a = (i : Int) ∧ i < ns.length ∧ ns[i]? = some n ∧ ∀ k ∈ n.kids, WfP ns f k := by
 obtain ⟨h0, n, hn, hk⟩ := h
 have := (List.getElem?_eq_some_iff.1 hn).1
 exact ⟨a.toNat, n, by omega, this, hn, hk⟩
end Go.Proofs.YtogmhaihmkcjgaaGreatDoor

/-
 dominolaw42.ParserSpaces.
-/
namespace Go.Proofs.YtogmhaihmkcjgaaGreatDoor
open Go.RowKit Go.Shelf
set_option linter.unusedVariables false

theorem zpo_bd : PBd zPo := ⟨by decide, by decide, by decide, by decide, by decide, by decide, fun x h => (List.not_mem_nil h).elim, fun x h => (List.not_mem_nil h).elim, fun x h => (List.not_mem_nil h).elim⟩
theorem parse_pbd (l : List UInt8) (hl : l.length ≤ 65536) : PBd (parseP l).1 := by
 unfold parseP
 cases hs : Lx.sc l with
 | err a e => exact zpo_bd
 | ok ts =>
  dsimp only
  have hS := Lx.sc_iff.1 hs
  have hn := toks_len hS
  unfold parseT
  cases hr : Pa.policyR ts with
  | mk o q =>
   cases o with
   | none => exact zpo_bd
   | some p =>
    dsimp only
    split
    ·exact zpo_bd
    ·exact pbd_of (Pa.policy_gd (Pa.sc_good hS) hr).1 (by omega)
end Go.Proofs.YtogmhaihmkcjgaaGreatDoor
-- halved
