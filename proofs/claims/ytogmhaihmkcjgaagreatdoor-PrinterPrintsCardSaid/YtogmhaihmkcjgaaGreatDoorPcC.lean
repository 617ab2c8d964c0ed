/-
  Policies in memory.
-/
import Derived.Test.YtogmhaihmkcjgaaGreatDoorPcA
import Derived.Test.YtogmhaihmkcjgaaGreatDoorHp
namespace Go.Proofs.YtogmhaihmkcjgaaGreatDoor
open Go.RowKit
set_option linter.unusedVariables false

theorem scell_lt {W : World} {a : Addr} {v : Value} (h : W.cell? a = some v) : a.block < W.heap.size := World.block_lt_of_cell? _ _ h
theorem sadd_block (a : Addr) (n : Nat) : (a.add n).block = a.block := by unfold Addr.add; split <;> rfl
theorem scell_up {W W' : World} {a : Addr} {v : Value} (h : W.cell? a = some v) (hb : Below W.heap.size W W') : W'.cell? a = some v := (hb.cell (scell_lt h)).trans h
theorem paddr0 (g i : Nat) : (⟨g, 0, none⟩ : Addr).add i = ⟨g, i, none⟩ := by
  unfold Addr.add
  split
  · rename_i h; subst h; rfl
  · simp
/-- numbers lie in memory, one behind the other -/
structure Ints (W : World) (A : Option Addr) (l : List Int) : Prop where
  at_ : ∀ i x, l[i]? = some x → ∃ ad, A = some ad ∧ W.cell? (ad.add i) = some (.int .i64 x)
theorem Ints.up {W W' : World} {A : Option Addr} {l : List Int} (h : Ints W A l) (hb : Below W.heap.size W W') : Ints W' A l := ⟨fun i s hs => by
  obtain ⟨ad, h1, h2⟩ := h.at_ i s hs
  exact ⟨ad, h1, scell_up h2 hb⟩⟩
/-- strings lie in memory, one behind the other -/
structure Strs (W : World) (A : Option Addr) (l : List ByteArray) : Prop where
  at_ : ∀ i s, l[i]? = some s → ∃ ad, A = some ad ∧ W.cell? (ad.add i) = some (.string s)
theorem Strs.up {W W' : World} {A : Option Addr} {l : List ByteArray} (h : Strs W A l) (hb : Below W.heap.size W W') : Strs W' A l := ⟨fun i s hs => by
  obtain ⟨ad, h1, h2⟩ := h.at_ i s hs
  exact ⟨ad, h1, scell_up h2 hb⟩⟩
/-- pairs of strings lie in memory, one behind the other -/
structure Prs (W : World) (A : Option Addr) (l : List Bp) : Prop where
  at_ : ∀ i x, l[i]? = some x → ∃ ad, A = some ad ∧ W.cell? (ad.add (i * 2)) = some (.string x.1) ∧ W.cell? ⟨(ad.add (i * 2)).block, (ad.add (i * 2)).off + 1, none⟩ = some (.string x.2)
theorem Prs.up {W W' : World} {A : Option Addr} {l : List Bp} (h : Prs W A l) (hb : Below W.heap.size W W') : Prs W' A l := ⟨fun i s hs => by
  obtain ⟨ad, h1, h2, h3⟩ := h.at_ i s hs
  exact ⟨ad, h1, scell_up h2 hb, scell_up h3 hb⟩⟩
/-- a node lies at an address -/
structure NodeAt (W : World) (ad : Addr) (n : Nk) (KA : Option Addr) (kc : Nat) : Prop where
  kind : W.cell? ad = some (.int .i64 n.kind)
  num : W.cell? ⟨ad.block, ad.off + 1, none⟩ = some (.int .i64 n.num)
  name : W.cell? ⟨ad.block, ad.off + 2, none⟩ = some (.string n.name)
  attr : W.cell? ⟨ad.block, ad.off + 3, none⟩ = some (.string n.attr)
  kids : W.cell? ⟨ad.block, ad.off + 4, none⟩ = some (.slice KA n.kids.length kc)
  at_ : W.cell? ⟨ad.block, ad.off + 5, none⟩ = some (.int .i64 n.at_)
  ints : Ints W KA n.kids
  cap : n.kids.length ≤ kc
theorem NodeAt.up {W W' : World} {ad : Addr} {n : Nk} {KA : Option Addr} {kc : Nat} (h : NodeAt W ad n KA kc) (hb : Below W.heap.size W W') : NodeAt W' ad n KA kc :=
  ⟨scell_up h.kind hb, scell_up h.num hb, scell_up h.name hb, scell_up h.attr hb, scell_up h.kids hb, scell_up h.at_ hb, h.ints.up hb, h.cap⟩
theorem row_cap {W : World} {base : Nat} {e : TypeId} {size n c : Nat} {A : Option Addr} {xs : List Value} (h : W.ownsRow base e size (.slice A n c) n xs) : n ≤ c := by
  rcases h.2 with ⟨h1, h2⟩ | ⟨g, cap, cur, h1, _, _, hc, _⟩
  · omega
  · injection h1 with _ _ h3
    omega
/-- nodes lie in memory, one behind the other -/
structure Nks (W : World) (A : Option Addr) (L : List Nk) : Prop where
  at_ : ∀ i n, L[i]? = some n → ∃ ad KA kc, A = some ad ∧ NodeAt W (ad.add (i * 6)) n KA kc
theorem Nks.up {W W' : World} {A : Option Addr} {L : List Nk} (h : Nks W A L) (hb : Below W.heap.size W W') : Nks W' A L := ⟨fun i n hn => by
  obtain ⟨ad, KA, c, h1, h2⟩ := h.at_ i n hn
  exact ⟨ad, KA, c, h1, h2.up hb⟩⟩
/-- where a policy's lists lie -/
structure Lp where
  ua : Option Addr
  uc : Nat
  ra : Option Addr
  rc : Nat
  na : Option Addr
  nc : Nat
abbrev polcs (d : Po) (L : Lp) : List Value := [.string d.name, .slice L.ua d.uses.length L.uc, .slice L.ra d.reveal.length L.rc, .slice L.na d.nodes.length L.nc, .int .i64 d.root, .string d.scope, .int .i64 d.limit, .string d.escrow]
abbrev polV (d : Po) (L : Lp) : Value := .agg #[.string d.name, .slice L.ua d.uses.length L.uc, .slice L.ra d.reveal.length L.rc, .slice L.na d.nodes.length L.nc, .int .i64 d.root, .string d.scope, .int .i64 d.limit, .string d.escrow]
structure PolM (W : World) (d : Po) (L : Lp) : Prop where
  us : Prs W L.ua d.uses
  rv : Prs W L.ra d.reveal
  ns : Nks W L.na d.nodes
theorem PolM.up {W W' : World} {d : Po} {L : Lp} (h : PolM W d L) (hb : Below W.heap.size W W') : PolM W' d L := ⟨h.us.up hb, h.rv.up hb, h.ns.up hb⟩
/-- bounds that any policy of a claim keeps -/
structure NBd (n : Nk) : Prop where
  name : n.name.size ≤ 1000000
  attr : n.attr.size ≤ 1000000
  kids : n.kids.length ≤ 1000000
structure PBd (d : Po) : Prop where
  name : d.name.size ≤ 1000000
  scope : d.scope.size ≤ 1000000
  escrow : d.escrow.size ≤ 1000000
  ul : d.uses.length ≤ 1000000
  rl : d.reveal.length ≤ 1000000
  nl : d.nodes.length ≤ 1000000
  us : ∀ x ∈ d.uses, x.1.size ≤ 1000000 ∧ x.2.size ≤ 1000000
  rv : ∀ x ∈ d.reveal, x.1.size ≤ 1000000 ∧ x.2.size ≤ 1000000
  ns : ∀ n ∈ d.nodes, NBd n
/-- a node's cells -/
abbrev nkcs (n : Nk) (KA : Option Addr) (kc : Nat) : List Value := [.int .i64 n.kind, .int .i64 n.num, .string n.name, .string n.attr, .slice KA n.kids.length kc, .int .i64 n.at_]
abbrev nkV (n : Nk) (KA : Option Addr) (kc : Nat) : Value := .agg #[.int .i64 n.kind, .int .i64 n.num, .string n.name, .string n.attr, .slice KA n.kids.length kc, .int .i64 n.at_]
theorem drop_at {α : Type} {l : List α} {i : Nat} {x : α} (h : l[i]? = some x) : l.drop i = x :: l.drop (i + 1) := by
  obtain ⟨hi, rfl⟩ := List.getElem?_eq_some_iff.1 h
  exact List.drop_eq_getElem_cons hi
theorem take_at {α : Type} {l : List α} {i : Nat} {x : α} (h : l[i]? = some x) : l.take (i + 1) = l.take i ++ [x] := by
  rw [List.take_add_one, h]; rfl
theorem below_drewN' {B : Nat} {A C : World} (h : Below B A C) (n : Nat) : Below B A (C.drewN n) := h.trans ⟨rfl, rfl, rfl, Nat.le_refl _, fun _ _ => rfl⟩
theorem Blk.get5 {W : World} {g : Nat} {t : TypeId} {a b c d e : Value} (h : Blk W g t [a, b, c, d, e]) : W.cell? ⟨g, 0, none⟩ = some a ∧ W.cell? ⟨g, 1, none⟩ = some b ∧ W.cell? ⟨g, 2, none⟩ = some c ∧ W.cell? ⟨g, 3, none⟩ = some d ∧ W.cell? ⟨g, 4, none⟩ = some e :=
  ⟨h.cell 0, h.cell 1, h.cell 2, h.cell 3, h.cell 4⟩
theorem strs_eq {s t : ByteArray} : (s.toList == t.toList) = decide (s = t) := by
  rw [Bool.eq_iff_iff, beq_iff_eq, decide_eq_true_iff, toList_tl, toList_tl]
  exact ⟨eq_of_tl, fun h => by rw [h]⟩
end Go.Proofs.YtogmhaihmkcjgaaGreatDoor
