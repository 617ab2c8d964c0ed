import Derived.Test.YtogmhaihmkcjgaaGreatDoorArr
import Derived.Laws.MakeOwn
import Derived.Laws.AppendOwn
import Derived.Laws.OwnMore
/-
 make at one-cell elements; stores into a kept block. Over any program.
-/
namespace Go.Proofs.YtogmhaihmkcjgaaGreatDoor
open Go.RowKit
set_option linter.unusedVariables false

theorem madeCells_1 (v : Value) (n : Nat) : madeCells #[v] n = (List.replicate n v).toArray := by
 unfold madeCells
 apply Array.ext
 ·simp
 ·intro i h1 h2
  simp [Nat.mod_one]
/-- make([]T, n), an element of one cell -/
theorem run_make_cells {P : Program} (t e : TypeId) (ht : P.underlying t = some (.slice e)) (v : Value) (hv : v.cells = #[v]) (b : Nat) (hi : (P.info? e).map (fun i => (i.zero, i.size, i.bytes)) = some (some v, 1, b)) (n : Nat) (hn : b * n ≤ 281474976710656) (hn2 : n ≤ 1073741824) (w : World) :
  (Instr.makeSlice t (.int .i64 (n : Int)) (.int .i64 (n : Int))).run P w = .ok (.slice (some ⟨w.heap.size, 0, none⟩) n n) (w.alloc (.cells (List.replicate n v).toArray e)) := by
 obtain ⟨i, hi', h1, h2, h3⟩ : ∃ i, P.info? e = some i ∧ i.zero = some v ∧ i.size = 1 ∧ i.bytes = b := by
  cases h : P.info? e with
  | none => rw [h] at hi; simp at hi
  | some i => rw [h] at hi; simp at hi; exact ⟨i, rfl, hi.1, hi.2.1, hi.2.2⟩
 have hby : (i.bytes : Int) * (n : Int) ≤ 281474976710656 := by
  rw [h3, ← Int.natCast_mul]; omega
 have hr := run_make (P := P) w t e i v ht hi' h1 .i64 .i64 n n (by omega) (by omega) hby (by omega)
 simp only [Int.toNat_natCast, hv, h2, Nat.mul_one, madeCells_1] at hr
 exact hr
theorem Kp.setHead {w W : World} {g : Nat} {t : TypeId} {cs : List Value} {bl : List (Nat × TypeId × List Value)} (h : Kp w ((g, t, cs) :: bl) W) (hg : w.heap.size ≤ g) (hd : ∀ x ∈ bl, x.1 ≠ g) (i : Nat) (u : Value) : Kp w ((g, t, cs.set i u) :: bl) (W.setCell ⟨g, i, none⟩ u) := by
 refine ⟨fun x hx => ?_, h.below.setCell (by simpa using hg) _⟩
 rcases List.mem_cons.1 hx with rfl | hx'
 ·exact (h.blk _ (List.mem_cons_self ..)).set_ i u
 ·exact (h.blk x (List.mem_cons_of_mem _ hx')).far (by simp; exact hd x hx') _
theorem Kp.sub {w W : World} {bl bl' : List (Nat × TypeId × List Value)} (h : Kp w bl W) (hs : ∀ x ∈ bl', x ∈ bl) : Kp w bl' W := ⟨fun x hx => h.blk x (hs x hx), h.below⟩
theorem Kp.at_ {w W : World} {g : Nat} {t : TypeId} {cs : List Value} {bl : List (Nat × TypeId × List Value)} (i : Nat) (h : Kp w bl W) (hm : bl[i]? = some (g, t, cs)) : Blk W g t cs := h.blk _ (List.mem_of_getElem? hm)
end Go.Proofs.YtogmhaihmkcjgaaGreatDoor

/-
 Owned memory: pieces that lie apart, what a step may turn, and the frame around a call. Over any program.
-/
namespace Go.Proofs.YtogmhaihmkcjgaaGreatDoor
open Go.RowKit
set_option linter.unusedVariables false

/-- a piece of owned memory: its blocks, and what is known of them -/
structure It where
 own : List Nat
 P : World → Prop
 st : ∀ W W', (∀ b ∈ own, W'.heap[b]? = W.heap[b]?) → P W → P W'
 lv : ∀ W, P W → ∀ b ∈ own, b < W.heap.size
def iblk (g : Nat) (t : TypeId) (cs : List Value) : It := ⟨[g], fun W => Blk W g t cs, fun W W' h hp => (h g (List.mem_singleton.2 rfl)).trans hp, fun W hp b hb => by rw [List.mem_singleton.1 hb]; exact Blk.lt hp⟩
def irow (e : TypeId) (size : Nat) (v : Value) (n : Nat) (xs : List Value) : It := ⟨v.ownBlock.toList, fun W => W.ownsRow 0 e size v n xs, fun W W' h hp => by
  refine ⟨hp.1, ?_⟩
  rcases hp.2 with hn | ⟨g, cap, cur, rfl, hb, hg, rest⟩
  ·exact .inl hn
  ·exact .inr ⟨g, cap, cur, rfl, hb, (h g (by simp [Value.ownBlock])).trans hg, rest⟩,
 fun W hp b hb => by
  have h9 : v.ownBlock = some b := by simpa [Option.mem_toList] using hb
  exact (hp.lt b h9).2⟩
abbrev ow (it : List It) : List Nat := it.flatMap It.own
theorem pull_perm {α : Type} : ∀ (l : List α) (i : Nat) (h : i < l.length), (l[i] :: l.eraseIdx i).Perm l
 | a :: l, 0, _ => .refl _
 | a :: l, i + 1, h => (List.Perm.swap a _ _).trans ((pull_perm l i (by simpa using h)).cons a)
/-- the pieces hold, and lie apart -/
structure Sep (W : World) (it : List It) : Prop where
 ok : ∀ x ∈ it, x.P W
 ap : (ow it).Nodup
/-- what may have turned: the blocks o; o' are those, or new ones -/
structure Stp (o o' : List Nat) (W W' : World) : Prop where
 low : Below 0 W W'
 oth : ∀ k, k < W.heap.size → k ∉ o → W'.heap[k]? = W.heap[k]?
 new : ∀ b ∈ o', b ∈ o ∨ W.heap.size ≤ b
theorem Stp.refl (o : List Nat) (W : World) : Stp o o W W := ⟨Below.refl _ _, fun _ _ _ => rfl, fun _ h => .inl h⟩
theorem Stp.trans {o p q : List Nat} {A B C : World} (h : Stp o p A B) (k : Stp p q B C) : Stp o q A C := by
 have hs := h.low.size
 refine ⟨h.low.trans k.low, fun j hj ho => ?_, fun b hb => ?_⟩
 ·rw [k.oth j (by omega) (fun hp => by rcases h.new j hp with h1 | h1; exact ho h1; omega)]
  exact h.oth j hj ho
 ·rcases k.new b hb with h1 | h1
  ·exact h.new b h1
  ·exact .inr (by omega)
theorem Stp.sub {o p q : List Nat} {A B : World} (h : Stp o p A B) (hs : ∀ b ∈ q, b ∈ p) : Stp o q A B := ⟨h.low, h.oth, fun b hb => h.new b (hs b hb)⟩
theorem Stp.below {o p : List Nat} {A B : World} {n : Nat} (h : Stp o p A B) (hn : n ≤ A.heap.size) (ho : ∀ b ∈ o, n ≤ b) : Below n A B :=
 ⟨h.low.os, h.low.tape, h.low.output, h.low.size, fun k hk => h.oth k (by omega) (fun h9 => by have := ho k h9; omega)⟩
theorem Stp.of_below {A B : World} (h : Below A.heap.size A B) (o : List Nat) : Stp o o A B := ⟨h.mono (Nat.zero_le _), fun k hk _ => h.block k hk, fun _ hb => .inl hb⟩
theorem ow_append (a b : List It) : ow (a ++ b) = ow a ++ ow b := List.flatMap_append
theorem Sep.perm {W : World} {a b : List It} (h : Sep W a) (hp : a.Perm b) : Sep W b := ⟨fun x hx => h.ok x (hp.mem_iff.2 hx), (hp.flatMap_right It.own).nodup_iff.1 h.ap⟩
theorem Sep.lt {W : World} {it : List It} (h : Sep W it) : ∀ b ∈ ow it, b < W.heap.size := by
 intro b hb
 obtain ⟨x, hx, hbx⟩ := List.mem_flatMap.1 hb
 exact x.lv W (h.ok x hx) b hbx
/-- the frame around a step -/
theorem Sep.frame {W W' : World} {a a' r : List It} (h : Sep W (a ++ r)) (hs : Stp (ow a) (ow a') W W') (h' : Sep W' a') : Sep W' (a' ++ r) := by
 have hn := h.ap
 rw [ow_append, List.nodup_append] at hn
 obtain ⟨n1, n2, n3⟩ := hn
 have hr : ∀ b ∈ ow r, b < W.heap.size := fun b hb => h.lt b (by rw [ow_append]; exact List.mem_append_right _ hb)
 refine ⟨fun x hx => ?_, ?_⟩
 ·rcases List.mem_append.1 hx with hx | hx
  ·exact h'.ok x hx
  ·refine x.st W W' (fun b hb => ?_) (h.ok x (List.mem_append_right _ hx))
   have hbr : b ∈ ow r := List.mem_flatMap.2 ⟨x, hx, hb⟩
   exact hs.oth b (hr b hbr) (fun ha => n3 b ha b hbr rfl)
 ·rw [ow_append, List.nodup_append]
  refine ⟨h'.ap, n2, fun x hx y hy hxy => ?_⟩
  subst hxy
  rcases hs.new x hx with h1 | h1
  ·exact n3 x h1 x hy rfl
  ·have := hr x hy; omega
theorem Stp.frame {o p : List Nat} {A B : World} (h : Stp o p A B) (r : List Nat) : Stp (o ++ r) (p ++ r) A B :=
 ⟨h.low, fun k hk ho => h.oth k hk (fun h9 => ho (List.mem_append_left _ h9)), fun b hb => by
  rcases List.mem_append.1 hb with h1 | h1
  ·rcases h.new b h1 with h2 | h2
   ·exact .inl (List.mem_append_left _ h2)
   ·exact .inr h2
  ·exact .inl (List.mem_append_right _ h1)⟩
/-- since world w, in which the call owned the blocks o, it has come to own the pieces it -/
structure Hp (o : List Nat) (w : World) (it : List It) (W : World) : Prop where
 sep : Sep W it
 stp : Stp o (ow it) w W
section
variable {o : List Nat} {w W W' : World} {it : List It}
theorem Hp.start (w : World) : Hp [] w [] w := ⟨⟨fun _ h => (List.not_mem_nil h).elim, List.nodup_nil⟩, Stp.refl _ _⟩
theorem Hp.self (h : Sep W it) : Hp (ow it) W it W := ⟨h, Stp.refl _ _⟩
theorem Hp.perm {it' : List It} (h : Hp o w it W) (hp : it.Perm it') : Hp o w it' W :=
 ⟨h.sep.perm hp, h.stp.sub (fun b hb => ((hp.flatMap_right It.own).mem_iff).2 hb)⟩
theorem Hp.call {a a' r : List It} (h : Hp o w (a ++ r) W) (h' : Hp (ow a) W a' W') : Hp o w (a' ++ r) W' :=
 ⟨h.sep.frame h'.stp h'.sep, by
  have := h.stp
  rw [ow_append] at this ⊢
  exact this.trans (h'.stp.frame _)⟩
theorem Hp.next (h : Hp o w it W) (hb : Below W.heap.size W W') : Hp o w it W' :=
 ⟨⟨fun x hx => x.st W W' (fun b hb' => hb.block b (x.lv W (h.sep.ok x hx) b hb')) (h.sep.ok x hx), h.sep.ap⟩, h.stp.trans (Stp.of_below hb _)⟩
theorem Hp.drew (h : Hp o w it W) : Hp o w it W.drew := h.next (Below.refl _ _).drew
theorem Hp.drewN (h : Hp o w it W) (n : Nat) : Hp o w it (W.drewN n) := h.next ⟨rfl, rfl, rfl, Nat.le_refl _, fun _ _ => rfl⟩
theorem Hp.alloc (h : Hp o w it W) (ob : Obj) : Hp o w it (W.alloc ob) := h.next ((Below.refl _ _).alloc (Nat.le_refl _) _)
theorem Hp.sub {r : List It} (h : Hp o w (it ++ r) W) : Hp o w it W := by
 have hn := h.sep.ap
 rw [ow_append, List.nodup_append] at hn
 refine ⟨⟨fun x hx => h.sep.ok x (List.mem_append_left _ hx), hn.1⟩, h.stp.sub fun b hb => ?_⟩
 rw [ow_append]; exact List.mem_append_left _ hb
theorem Hp.tail {x : It} (h : Hp o w (x :: it) W) : Hp o w it W := Hp.sub (r := [x]) (h.perm (List.perm_append_singleton x it).symm)
theorem Hp.new (h : Hp o w it W) (t : TypeId) (cs : List Value) : Hp o w (iblk W.heap.size t cs :: it) (W.alloc (.cells cs.toArray t)) := by
 have h1 : Hp (ow []) W [iblk W.heap.size t cs] (W.alloc (.cells cs.toArray t)) := by
  refine ⟨⟨fun x hx => ?_, by simp [iblk]⟩, ⟨(Below.refl _ _).alloc (Nat.zero_le _) _, fun k hk _ => Below.heap_alloc _ _ _ hk, fun b hb => .inr ?_⟩⟩
  ·rw [List.mem_singleton.1 hx]; exact Blk.new _ _ _
  ·simp [iblk] at hb; omega
 exact Hp.call (a := []) h h1
theorem Hp.pull (h : Hp o w it W) (i : Nat) {x : It} (hx : it[i]? = some x) : Hp o w (x :: it.eraseIdx i) W := by
 obtain ⟨hl, rfl⟩ := List.getElem?_eq_some_iff.1 hx
 exact h.perm (pull_perm _ _ hl).symm
/-- one piece turns -/
theorem Hp.upd (h : Hp o w it W) (i : Nat) {x x' : It} (hx : it[i]? = some x) (hp : x'.P W') (hs : Stp x.own x'.own W W') (hn : x'.own.Nodup) : Hp o w (it.set i x') W' := by
 obtain ⟨hl, rfl⟩ := List.getElem?_eq_some_iff.1 hx
 have h1 := h.perm (pull_perm _ _ hl).symm
 have h2 : Hp (ow [it[i]]) W [x'] W' := ⟨⟨fun y hy => by rw [List.mem_singleton.1 hy]; exact hp, by simpa using hn⟩, by simpa using hs⟩
 have h3 := Hp.call (a := [it[i]]) (r := it.eraseIdx i) h1 h2
 refine h3.perm ?_
 have hl2 : i < (it.set i x').length := by simpa using hl
 have h4 := pull_perm (it.set i x') i hl2
 rw [List.getElem_set_self, List.eraseIdx_set_eq] at h4
 exact h4
theorem Hp.blk (h : Hp o w it W) (i : Nat) {g : Nat} {t : TypeId} {cs : List Value} (hx : it[i]? = some (iblk g t cs)) : Blk W g t cs := h.sep.ok _ (List.mem_of_getElem? hx)
theorem Hp.row (h : Hp o w it W) (i : Nat) {e : TypeId} {size n : Nat} {v : Value} {xs : List Value} (hx : it[i]? = some (irow e size v n xs)) : W.ownsRow 0 e size v n xs := h.sep.ok _ (List.mem_of_getElem? hx)
/-- a store into a block -/
theorem Hp.set (h : Hp o w it W) (i : Nat) {g : Nat} {t : TypeId} {cs : List Value} (hx : it[i]? = some (iblk g t cs)) (j : Nat) (u : Value) : Hp o w (it.set i (iblk g t (cs.set j u))) (W.setCell ⟨g, j, none⟩ u) :=
 h.upd i hx ((h.blk i hx).set_ j u) ⟨(Below.refl _ _).setCell (Nat.zero_le _) _, fun k hk ho => Below.heap_setCell _ _ _ _ (by simp [iblk] at ho; exact ho), fun b hb => .inl hb⟩ (by simp [iblk])
theorem Hp.size (h : Hp o w it W) : w.heap.size ≤ W.heap.size := h.stp.low.size
theorem Hp.below {n : Nat} (h : Hp o w it W) (hn : n ≤ w.heap.size) (ho : ∀ b ∈ o, n ≤ b) : Below n w W := h.stp.below hn ho
theorem Hp.below0 (h : Hp [] w it W) : Below w.heap.size w W := h.stp.below (Nat.le_refl _) (fun _ hb => (List.not_mem_nil hb).elim)
theorem Hp.lt (h : Hp o w it W) {b : Nat} (hb : b ∈ ow it) : b < W.heap.size := h.sep.lt b hb
theorem Hp.ge (h : Hp [] w it W) {b : Nat} (hb : b ∈ ow it) : w.heap.size ≤ b := (h.stp.new b hb).resolve_left (List.not_mem_nil)
theorem Hp.ne (h : Hp o w it W) : (ow it).Nodup := h.sep.ap
/-- a row that append has made longer -/
theorem Hp.grown (h : Hp o w it W) (i : Nat) {e : TypeId} {size n n' : Nat} {v v' : Value} {xs xs' : List Value} (hx : it[i]? = some (irow e size v n xs)) (hr : W'.ownsRow 0 e size v' n' xs') (hg : W.grownBy W' v.ownBlock)
  (hv : v'.ownBlock = v.ownBlock ∨ ∀ g, v'.ownBlock = some g → W.heap.size ≤ g) : Hp o w (it.set i (irow e size v' n' xs')) W' := by
 refine h.upd i hx hr ⟨⟨hg.os, hg.tape, hg.output, hg.size, fun k hk => absurd hk (Nat.not_lt_zero _)⟩, fun k hk ho => hg.block k hk (fun h9 => ho ?_), fun b hb => ?_⟩ ?_
 ·show k ∈ v.ownBlock.toList
  rw [← h9]; simp
 ·have hb' : v'.ownBlock = some b := by simpa [Option.mem_toList] using (show b ∈ v'.ownBlock.toList from hb)
  rcases hv with h1 | h1
  ·left
   show b ∈ v.ownBlock.toList
   rw [← h1, hb']; simp
  ·exact .inr (h1 b hb')
 ·show v'.ownBlock.toList.Nodup
  cases v'.ownBlock <;> simp
/-- a row comes into being -/
theorem Hp.nilrow (h : Hp o w it W) (e : TypeId) (size : Nat) : Hp o w (irow e size (.slice none 0 0) 0 [] :: it) W := by
 have h1 : Hp (ow []) W [irow e size (.slice none 0 0) 0 []] W := ⟨⟨fun x hx => by rw [List.mem_singleton.1 hx]; exact World.ownsRow_nil _ _ _ _, by simp [irow, Value.ownBlock]⟩, Below.refl _ _, fun _ _ _ => rfl, fun b hb => by simp [irow, Value.ownBlock] at hb⟩
 exact Hp.call (a := []) h h1
end
/-- the walk's spelling of 'at or behind the new block' -/
theorem new_at {w : World} {ob : Obj} {v v' : Value} (h : v'.ownBlock = v.ownBlock ∨ ∀ g, v'.ownBlock = some g → w.heap.size + 1 ≤ g) : v'.ownBlock = v.ownBlock ∨ ∀ g, v'.ownBlock = some g → (w.alloc ob).heap.size ≤ g :=
 h.imp id fun h g hg => by have := h g hg; simpa using this
/-- a store into a row's cells -/
theorem row_setCell {W : World} {base : Nat} {e : TypeId} {size n g cap : Nat} {xs : List Value} (h : W.ownsRow base e size (.slice (some ⟨g, 0, none⟩) n cap) n xs) (j : Nat) (hj : j < n * size) (u : Value) :
  (W.setCell ⟨g, j, none⟩ u).ownsRow base e size (.slice (some ⟨g, 0, none⟩) n cap) n (xs.set j u) := by
 refine ⟨by rw [List.length_set]; exact h.1, ?_⟩
 rcases h.2 with ⟨h1, _⟩ | ⟨g', cap', cur, h1, hb, hg, hn, hc, hs, ht⟩
 ·cases h1
 ·cases h1
  refine .inr ⟨g, cap, cur.setIfInBounds j u, rfl, hb, ?_, hn, hc, by simpa using hs, ?_⟩
  ·simp [World.setCell, Array.getElem?_modify, hg]
  ·rw [← ht, Array.toList_setIfInBounds, List.take_set]
theorem Hp.rowset {o : List Nat} {w W : World} {it : List It} (h : Hp o w it W) (i : Nat) {e : TypeId} {size n g cap : Nat} {xs : List Value} (hx : it[i]? = some (irow e size (.slice (some ⟨g, 0, none⟩) n cap) n xs)) (j : Nat) (hj : j < n * size) (u : Value) :
  Hp o w (it.set i (irow e size (.slice (some ⟨g, 0, none⟩) n cap) n (xs.set j u))) (W.setCell ⟨g, j, none⟩ u) :=
 h.upd i hx (row_setCell (h.row i hx) j hj u) ⟨(Below.refl _ _).setCell (Nat.zero_le _) _, fun k hk ho => Below.heap_setCell _ _ _ _ (by simp [irow, Value.ownBlock] at ho; exact ho), fun b hb => .inl hb⟩ (by simp [irow, Value.ownBlock])
theorem row_frozen {W : World} {base : Nat} {e : TypeId} {size n g cap : Nat} {xs : List Value} (h : W.ownsRow base e size (.slice (some ⟨g, 0, none⟩) n cap) n xs) (j : Nat) : W.frozen? ⟨g, j, none⟩ = false := by
 rcases h.2 with ⟨h1, _⟩ | ⟨g', cap', cur, h1, hb, hg, _⟩
 ·cases h1
 ·cases h1; simp [World.frozen?, hg]
theorem row_cell {W : World} {base : Nat} {e : TypeId} {size n g cap : Nat} {xs : List Value} (h : W.ownsRow base e size (.slice (some ⟨g, 0, none⟩) n cap) n xs) {j : Nat} {u : Value} (hu : xs[j]? = some u) : W.cell? ⟨g, j, none⟩ = some u := by
 have h1 := h.cells (g := g) rfl j u hu
 have e : (⟨g, 0, none⟩ : Addr).add j = ⟨g, j, none⟩ := by unfold Addr.add; split <;> simp_all
 rwa [e] at h1
/-- a row that is not empty begins at a block's head -/
theorem row_form {W : World} {base : Nat} {e : TypeId} {size n : Nat} {v : Value} {xs : List Value} (h : W.ownsRow base e size v n xs) (hn : 0 < n) : ∃ g cap, v = .slice (some ⟨g, 0, none⟩) n cap ∧ n ≤ cap := by
 rcases h.2 with ⟨_, h1⟩ | ⟨g, cap, cur, h1, _, _, hc, _⟩
 ·omega
 ·exact ⟨g, cap, h1, hc⟩
theorem row_forms {W : World} {base : Nat} {e : TypeId} {size n : Nat} {v : Value} {xs : List Value} (h : W.ownsRow base e size v n xs) : ∃ A cap, v = .slice A n cap := by
 rcases h.2 with ⟨h1, rfl⟩ | ⟨g, cap, cur, h1, _⟩
 ·exact ⟨none, 0, h1⟩
 ·exact ⟨_, cap, h1⟩
section
variable {P : Program} {w : World}
/-- append to an owned row: the row stays where it lies, or is new -/
theorem run_append_own2 (base : Nat) (t ty e : TypeId) (i : TypeInfo) (z : Value) (size bytes : Nat) (ht : P.underlying t = some (.slice e)) (hi : P.info? e = some i) (hz : i.zero = some z)
  (hsize : i.size = size) (hby : i.bytes = bytes) (hzs : z.cells.size = size) (hsz : 0 < size)
  (v : Value) (n : Nat) (xs : List Value) (hown : w.ownsRow base e size v n xs)
  (a : Addr) (m c : Nat) (news : List Value) (hl : news.length = m * size) (hnews : ∀ j u, news[j]? = some u → w.cell? (a.add j) = some u) (h1 : ∀ u ∈ news, u.oneCell' = true) (hm : 0 < m)
  (h63 : n + m ≤ maxLen) (hbytes : (n + m) * bytes ≤ 140737488355328) (hbase : base ≤ w.heap.size) :
  ∃ v' w', (Builtin.append_ #[t, t] ty #[v, .slice (some a) m c]).run P w = .ok v' w' ∧ w'.ownsRow base e size v' (n + m) (xs ++ news) ∧ w.grownBy w' v.ownBlock ∧
   (v'.ownBlock = v.ownBlock ∨ ∀ g, v'.ownBlock = some g → w.heap.size ≤ g) := by
 obtain ⟨v', w', hr, h2, h3, _⟩ := run_append_own (P := P) w base t ty e i z size bytes ht hi hz hsize hby hzs hsz v n xs hown a m c news hl hnews h1 h63 hbytes hbase
 refine ⟨v', w', hr, h2, h3, ?_⟩
 subst hsize
 subst hby
 have hsmall : n + m ≤ 9223372036854775807 := by simp only [maxLen] at h63; omega
 rcases hown.2 with ⟨rfl, rfl⟩ | ⟨g, cap, cur, rfl, hbg, hg, hnc, hcm, hcs, htake⟩
 ·have hx : xs = [] := List.eq_nil_of_length_eq_zero (by simpa using hown.1)
  subst hx
  have hr2 := run_append_nil (P := P) w t ty e i z ht hi hz a m c news hl hnews (by omega) (by omega) (by have hb := hbytes; simp only [Nat.zero_add] at hb; omega)
  rw [hr] at hr2
  injection hr2 with e1 e2
  subst e1
  exact .inr fun g hg => by simp [Value.ownBlock] at hg; omega
 ·by_cases hroom : n + m ≤ cap
  ·have hfit : n * i.size + news.length ≤ cur.size := by rw [hl, hcs, ← Nat.add_mul]; exact Nat.mul_le_mul_right _ hroom
   have hr2 := run_append_room (P := P) w t ty e i ht hi g n cap cur hg a m c news hl hnews h1 hroom hfit
   rw [hr] at hr2
   injection hr2 with e1 e2
   subst e1
   exact .inl rfl
  ·have holds : ∀ j u, xs[j]? = some u → w.cell? ((⟨g, 0, none⟩ : Addr).add j) = some u := hown.cells (g := g) rfl
   have hr2 := run_append_grow (P := P) w t ty e i z ht hi hz ⟨g, 0, none⟩ n cap xs hown.1 holds a m c news hl hnews (by omega) (by omega) (growslice_fits (by omega) hbytes)
   rw [hr] at hr2
   injection hr2 with e1 e2
   subst e1
   exact .inr fun g hg => by simp [Value.ownBlock] at hg; omega
theorem wp_append_own2 {o : Oper} {a : Act} {K : Act → World → Prop} {Q : Exit → Act → World → Prop} (s x : Operand) (t : TypeId)
  (ho : o.op = .call { callee := .builtin .append, args := #[s, x], argTypes := #[t, t] })
  (base : Nat) (e : TypeId) (i : TypeInfo) (z : Value) (size bytes : Nat) (ht : P.underlying t = some (.slice e)) (hi : P.info? e = some i) (hz : i.zero = some z)
  (hsize : i.size = size) (hby : i.bytes = bytes) (hzs : z.cells.size = size) (hsz : 0 < size)
  (v : Value) (n : Nat) (xs : List Value) (hs : a.eval s = v) (hown : w.ownsRow base e size v n xs)
  (ad : Addr) (m c : Nat) (news : List Value) (hx : a.eval x = .slice (some ad) m c) (hl : news.length = m * size) (hnews : ∀ j u, news[j]? = some u → w.cell? (ad.add j) = some u) (h1 : ∀ u ∈ news, u.oneCell' = true) (hm : 0 < m)
  (h63 : n + m ≤ maxLen) (hbytes : (n + m) * bytes ≤ 140737488355328) (hbase : base ≤ w.heap.size)
  (h : ∀ v' w', w'.ownsRow base e size v' (n + m) (xs ++ news) → w.grownBy w' v.ownBlock → (v'.ownBlock = v.ownBlock ∨ ∀ g, v'.ownBlock = some g → w.heap.size ≤ g) → K (a.put o.dst v') w') : o.wp P a w K Q := by
 obtain ⟨v', w', hr, h2, h3, h4⟩ := run_append_own2 (P := P) (w := w) base t o.type e i z size bytes ht hi hz hsize hby hzs hsz v n xs hown ad m c news hl hnews h1 hm h63 hbytes hbase
 unfold Oper.wp execOp
 simp only [ho, resolve, invoke, builtin, Sem.run_bind, Sem.run_pure, Result.andThen_ok, List.map_toArray, List.map_cons, List.map_nil, hs, hx, hr]
 exact h v' w' h2 h3 h4
theorem wpList_append_own2 {ops : Array Oper} {rest : List Oper} {o : Oper} {a : Act} {Q : Exit → Act → World → Prop} (hgd : o.guard = none) (s x : Operand) (t : TypeId)
  (ho : o.op = .call { callee := .builtin .append, args := #[s, x], argTypes := #[t, t] })
  (base : Nat) (e : TypeId) (i : TypeInfo) (z : Value) (size bytes : Nat) (ht : P.underlying t = some (.slice e)) (hi : P.info? e = some i) (hz : i.zero = some z)
  (hsize : i.size = size) (hby : i.bytes = bytes) (hzs : z.cells.size = size) (hsz : 0 < size)
  (v : Value) (n : Nat) (xs : List Value) (hs : a.eval s = v) (hown : w.ownsRow base e size v n xs)
  (ad : Addr) (m c : Nat) (news : List Value) (hx : a.eval x = .slice (some ad) m c) (hl : news.length = m * size) (hnews : ∀ j u, news[j]? = some u → w.cell? (ad.add j) = some u) (h1 : ∀ u ∈ news, u.oneCell' = true) (hm : 0 < m)
  (h63 : n + m ≤ maxLen) (hbytes : (n + m) * bytes ≤ 140737488355328) (hbase : base ≤ w.heap.size)
  (h : ∀ v' w', w'.ownsRow base e size v' (n + m) (xs ++ news) → w.grownBy w' v.ownBlock → (v'.ownBlock = v.ownBlock ∨ ∀ g, v'.ownBlock = some g → w.heap.size ≤ g) → wpList P ops Q rest (a.put o.dst v') w') : wpList P ops Q (o :: rest) a w :=
 wpList_plain hgd fun _ hK => wp_append_own2 s x t ho base e i z size bytes ht hi hz hsize hby hzs hsz v n xs hs hown ad m c news hx hl hnews h1 hm h63 hbytes hbase fun v' w' h2 h3 h4 => hK _ _ (h v' w' h2 h3 h4)
end
end Go.Proofs.YtogmhaihmkcjgaaGreatDoor
-- halved
