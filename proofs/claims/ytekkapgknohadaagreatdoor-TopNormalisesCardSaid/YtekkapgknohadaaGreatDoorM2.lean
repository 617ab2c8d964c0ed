/- Contracts of library functions. -/
import Derived.Test.YtekkapgknohadaaGreatDoorM1
import Derived.Laws.MakeOwn
import Derived.Laws.AppendOwn
import Derived.Laws.OwnMore
import Derived.Lib.AtoiAllCases
import Derived.Lib.TrimByte
set_option linter.unusedVariables false
namespace Go.Proofs.YtekkapgknohadaaGreatDoor
open Go.RowKit
theorem Kp.at_ {w W : World} {g : Nat} {t : TypeId} {cs : List Value} {bl : List (Nat × TypeId × List Value)} (i : Nat) (h : Kp w bl W) (hm : bl[i]? = some (g, t, cs)) : Blk W g t cs := h.blk _ (List.mem_of_getElem? hm)
open Go.RowKit
structure It where
 own : List Nat
 P : World → Prop
 st : ∀ W W', (∀ b ∈ own, W'.heap[b]? = W.heap[b]?) → P W → P W'
 lv : ∀ W, P W → ∀ b ∈ own, b < W.heap.size
def iblk (g : Nat) (t : TypeId) (cs : List Value) : It := ⟨[g], fun W => Blk W g t cs, fun W W' h hp => (h g (List.mem_singleton.2 rfl)).trans hp, fun W hp b hb => by rw [List.mem_singleton.1 hb]; exact Blk.lt hp⟩
def irow (e : TypeId) (size : Nat) (v : Value) (n : Nat) (xs : List Value) : It := ⟨v.ownBlock.toList, fun W => W.ownsRow 0 e size v n xs, fun W W' h hp => by
 refine ⟨hp.1, ?_⟩
 rcases hp.2 with hn | ⟨g, cap, cur, rfl, hb, hg, rest⟩
 ·exact .inl hn
 ·exact .inr ⟨g, cap, cur, rfl, hb, (h g (by simp [Value.ownBlock])).trans hg, rest⟩,
 fun W hp b hb => by
  have h9 : v.ownBlock = some b := by simpa [Option.mem_toList] using hb
  exact (hp.lt b h9).2⟩
abbrev ow (it : List It) : List Nat := it.flatMap It.own
theorem pull_perm {α : Type} : ∀ (l : List α) (i : Nat) (h : i < l.length), (l[i] :: l.eraseIdx i).Perm l
 | a :: l, 0, _ => .refl _
 | a :: l, i + 1, h => (List.Perm.swap a _ _).trans ((pull_perm l i (by simpa using h)).cons a)
structure Sep (W : World) (it : List It) : Prop where
 ok : ∀ x ∈ it, x.P W
 ap : (ow it).Nodup
structure Stp (o o' : List Nat) (W W' : World) : Prop where
 low : Below 0 W W'
 oth : ∀ k, k < W.heap.size → k ∉ o → W'.heap[k]? = W.heap[k]?
 new : ∀ b ∈ o', b ∈ o ∨ W.heap.size ≤ b
theorem Stp.refl (o : List Nat) (W : World) : Stp o o W W := ⟨Below.refl _ _, fun _ _ _ => rfl, fun _ h => .inl h⟩
theorem Stp.trans {o p q : List Nat} {A B C : World} (h : Stp o p A B) (k : Stp p q B C) : Stp o q A C := by
 have hs := h.low.size
 refine ⟨h.low.trans k.low, fun j hj ho => ?_, fun b hb => ?_⟩
 ·rw [k.oth j (by omega) (fun hp => by rcases h.new j hp with h1 | h1; exact ho h1; omega)]
  exact h.oth j hj ho
 ·rcases k.new b hb with h1 | h1
  ·exact h.new b h1
  ·exact .inr (by omega)
theorem Stp.sub {o p q : List Nat} {A B : World} (h : Stp o p A B) (hs : ∀ b ∈ q, b ∈ p) : Stp o q A B := ⟨h.low, h.oth, fun b hb => h.new b (hs b hb)⟩
theorem Stp.below {o p : List Nat} {A B : World} {n : Nat} (h : Stp o p A B) (hn : n ≤ A.heap.size) (ho : ∀ b ∈ o, n ≤ b) : Below n A B :=
 ⟨h.low.os, h.low.tape, h.low.output, h.low.size, fun k hk => h.oth k (by omega) (fun h9 => by have := ho k h9; omega)⟩
theorem Stp.of_below {A B : World} (h : Below A.heap.size A B) (o : List Nat) : Stp o o A B := ⟨h.mono (Nat.zero_le _), fun k hk _ => h.block k hk, fun _ hb => .inl hb⟩
theorem zbv (a b : List It) : ow (a ++ b) = ow a ++ ow b := List.flatMap_append
theorem Sep.perm {W : World} {a b : List It} (h : Sep W a) (hp : a.Perm b) : Sep W b := ⟨fun x hx => h.ok x (hp.mem_iff.2 hx), (hp.flatMap_right It.own).nodup_iff.1 h.ap⟩
theorem Sep.lt {W : World} {it : List It} (h : Sep W it) : ∀ b ∈ ow it, b < W.heap.size := by
 intro b hb
 obtain ⟨x, hx, hbx⟩ := List.mem_flatMap.1 hb
 exact x.lv W (h.ok x hx) b hbx
theorem Sep.frame {W W' : World} {a a' r : List It} (h : Sep W (a ++ r)) (hs : Stp (ow a) (ow a') W W') (h' : Sep W' a') : Sep W' (a' ++ r) := by
 have hn := h.ap
 rw [zbv, List.nodup_append] at hn
 obtain ⟨n1, n2, n3⟩ := hn
 have hr : ∀ b ∈ ow r, b < W.heap.size := fun b hb => h.lt b (by rw [zbv]; exact List.mem_append_right _ hb)
 refine ⟨fun x hx => ?_, ?_⟩
 ·rcases List.mem_append.1 hx with hx | hx
  ·exact h'.ok x hx
  ·refine x.st W W' (fun b hb => ?_) (h.ok x (List.mem_append_right _ hx))
   have hbr : b ∈ ow r := List.mem_flatMap.2 ⟨x, hx, hb⟩
   exact hs.oth b (hr b hbr) (fun ha => n3 b ha b hbr rfl)
 ·rw [zbv, List.nodup_append]
  refine ⟨h'.ap, n2, fun x hx y hy hxy => ?_⟩
  subst hxy
  rcases hs.new x hx with h1 | h1
  ·exact n3 x h1 x hy rfl
  ·have := hr x hy; omega
theorem Stp.frame {o p : List Nat} {A B : World} (h : Stp o p A B) (r : List Nat) : Stp (o ++ r) (p ++ r) A B :=
 ⟨h.low, fun k hk ho => h.oth k hk (fun h9 => ho (List.mem_append_left _ h9)), fun b hb => by
  rcases List.mem_append.1 hb with h1 | h1
  ·rcases h.new b h1 with h2 | h2
   ·exact .inl (List.mem_append_left _ h2)
   ·exact .inr h2
  ·exact .inl (List.mem_append_right _ h1)⟩
structure Hp (o : List Nat) (w : World) (it : List It) (W : World) : Prop where
 sep : Sep W it
 stp : Stp o (ow it) w W
section
variable {o : List Nat} {w W W' : World} {it : List It}
theorem Hp.start (w : World) : Hp [] w [] w := ⟨⟨fun _ h => (List.not_mem_nil h).elim, List.nodup_nil⟩, Stp.refl _ _⟩
theorem Hp.self (h : Sep W it) : Hp (ow it) W it W := ⟨h, Stp.refl _ _⟩
theorem Hp.perm {it' : List It} (h : Hp o w it W) (hp : it.Perm it') : Hp o w it' W :=
 ⟨h.sep.perm hp, h.stp.sub (fun b hb => ((hp.flatMap_right It.own).mem_iff).2 hb)⟩
theorem Hp.call {a a' r : List It} (h : Hp o w (a ++ r) W) (h' : Hp (ow a) W a' W') : Hp o w (a' ++ r) W' :=
 ⟨h.sep.frame h'.stp h'.sep, by
  have := h.stp
  rw [zbv] at this ⊢
  exact this.trans (h'.stp.frame _)⟩
theorem Hp.next (h : Hp o w it W) (hb : Below W.heap.size W W') : Hp o w it W' :=
 ⟨⟨fun x hx => x.st W W' (fun b hb' => hb.block b (x.lv W (h.sep.ok x hx) b hb')) (h.sep.ok x hx), h.sep.ap⟩, h.stp.trans (Stp.of_below hb _)⟩
theorem Hp.drew (h : Hp o w it W) : Hp o w it W.drew := h.next (Below.refl _ _).drew
theorem Hp.drewN (h : Hp o w it W) (n : Nat) : Hp o w it (W.drewN n) := h.next ⟨rfl, rfl, rfl, Nat.le_refl _, fun _ _ => rfl⟩
theorem Hp.alloc (h : Hp o w it W) (ob : Obj) : Hp o w it (W.alloc ob) := h.next ((Below.refl _ _).alloc (Nat.le_refl _) _)
theorem Hp.sub {r : List It} (h : Hp o w (it ++ r) W) : Hp o w it W := by
 have hn := h.sep.ap
 rw [zbv, List.nodup_append] at hn
 refine ⟨⟨fun x hx => h.sep.ok x (List.mem_append_left _ hx), hn.1⟩, h.stp.sub fun b hb => ?_⟩
 rw [zbv]; exact List.mem_append_left _ hb
theorem Hp.tail {x : It} (h : Hp o w (x :: it) W) : Hp o w it W := Hp.sub (r := [x]) (h.perm (List.perm_append_singleton x it).symm)
theorem Hp.new (h : Hp o w it W) (t : TypeId) (cs : List Value) : Hp o w (iblk W.heap.size t cs :: it) (W.alloc (.cells cs.toArray t)) := by
 have h1 : Hp (ow []) W [iblk W.heap.size t cs] (W.alloc (.cells cs.toArray t)) := by
  refine ⟨⟨fun x hx => ?_, by simp [iblk]⟩, ⟨(Below.refl _ _).alloc (Nat.zero_le _) _, fun k hk _ => Below.heap_alloc _ _ _ hk, fun b hb => .inr ?_⟩⟩
  ·rw [List.mem_singleton.1 hx]; exact Blk.new _ _ _
  ·simp [iblk] at hb; omega
 exact Hp.call (a := []) h h1
theorem Hp.upd (h : Hp o w it W) (i : Nat) {x x' : It} (hx : it[i]? = some x) (hp : x'.P W') (hs : Stp x.own x'.own W W') (hn : x'.own.Nodup) : Hp o w (it.set i x') W' := by
 obtain ⟨hl, rfl⟩ := List.getElem?_eq_some_iff.1 hx
 have h1 := h.perm (pull_perm _ _ hl).symm
 have h2 : Hp (ow [it[i]]) W [x'] W' := ⟨⟨fun y hy => by rw [List.mem_singleton.1 hy]; exact hp, by simpa using hn⟩, by simpa using hs⟩
 have h3 := Hp.call (a := [it[i]]) (r := it.eraseIdx i) h1 h2
 refine h3.perm ?_
 have hl2 : i < (it.set i x').length := by simpa using hl
 have h4 := pull_perm (it.set i x') i hl2
 rw [List.getElem_set_self, List.eraseIdx_set_eq] at h4
 exact h4
theorem Hp.blk (h : Hp o w it W) (i : Nat) {g : Nat} {t : TypeId} {cs : List Value} (hx : it[i]? = some (iblk g t cs)) : Blk W g t cs := h.sep.ok _ (List.mem_of_getElem? hx)
theorem Hp.row (h : Hp o w it W) (i : Nat) {e : TypeId} {size n : Nat} {v : Value} {xs : List Value} (hx : it[i]? = some (irow e size v n xs)) : W.ownsRow 0 e size v n xs := h.sep.ok _ (List.mem_of_getElem? hx)
theorem Hp.set (h : Hp o w it W) (i : Nat) {g : Nat} {t : TypeId} {cs : List Value} (hx : it[i]? = some (iblk g t cs)) (j : Nat) (u : Value) : Hp o w (it.set i (iblk g t (cs.set j u))) (W.setCell ⟨g, j, none⟩ u) :=
 h.upd i hx ((h.blk i hx).set_ j u) ⟨(Below.refl _ _).setCell (Nat.zero_le _) _, fun k hk ho => Below.heap_setCell _ _ _ _ (by simp [iblk] at ho; exact ho), fun b hb => .inl hb⟩ (by simp [iblk])
theorem Hp.size (h : Hp o w it W) : w.heap.size ≤ W.heap.size := h.stp.low.size
theorem Hp.below {n : Nat} (h : Hp o w it W) (hn : n ≤ w.heap.size) (ho : ∀ b ∈ o, n ≤ b) : Below n w W := h.stp.below hn ho
theorem Hp.below0 (h : Hp [] w it W) : Below w.heap.size w W := h.stp.below (Nat.le_refl _) (fun _ hb => (List.not_mem_nil hb).elim)
theorem Hp.ge (h : Hp [] w it W) {b : Nat} (hb : b ∈ ow it) : w.heap.size ≤ b := (h.stp.new b hb).resolve_left (List.not_mem_nil)
theorem Hp.ne (h : Hp o w it W) : (ow it).Nodup := h.sep.ap
theorem Hp.grown (h : Hp o w it W) (i : Nat) {e : TypeId} {size n n' : Nat} {v v' : Value} {xs xs' : List Value} (hx : it[i]? = some (irow e size v n xs)) (hr : W'.ownsRow 0 e size v' n' xs') (hg : W.grownBy W' v.ownBlock)
 (hv : v'.ownBlock = v.ownBlock ∨ ∀ g, v'.ownBlock = some g → W.heap.size ≤ g) : Hp o w (it.set i (irow e size v' n' xs')) W' := by
 refine h.upd i hx hr ⟨⟨hg.os, hg.tape, hg.output, hg.size, fun k hk => absurd hk (Nat.not_lt_zero _)⟩, fun k hk ho => hg.block k hk (fun h9 => ho ?_), fun b hb => ?_⟩ ?_
 ·show k ∈ v.ownBlock.toList
  rw [← h9]; simp
 ·have hb' : v'.ownBlock = some b := by simpa [Option.mem_toList] using (show b ∈ v'.ownBlock.toList from hb)
  rcases hv with h1 | h1
  ·left
   show b ∈ v.ownBlock.toList
   rw [← h1, hb']; simp
  ·exact .inr (h1 b hb')
 ·show v'.ownBlock.toList.Nodup
  cases v'.ownBlock <;> simp
theorem Hp.nilrow (h : Hp o w it W) (e : TypeId) (size : Nat) : Hp o w (irow e size (.slice none 0 0) 0 [] :: it) W := by
 have h1 : Hp (ow []) W [irow e size (.slice none 0 0) 0 []] W := ⟨⟨fun x hx => by rw [List.mem_singleton.1 hx]; exact World.ownsRow_nil _ _ _ _, by simp [irow, Value.ownBlock]⟩, Below.refl _ _, fun _ _ _ => rfl, fun b hb => by simp [irow, Value.ownBlock] at hb⟩
 exact Hp.call (a := []) h h1
end
theorem row_setCell {W : World} {base : Nat} {e : TypeId} {size n g cap : Nat} {xs : List Value} (h : W.ownsRow base e size (.slice (some ⟨g, 0, none⟩) n cap) n xs) (j : Nat) (hj : j < n * size) (u : Value) :
 (W.setCell ⟨g, j, none⟩ u).ownsRow base e size (.slice (some ⟨g, 0, none⟩) n cap) n (xs.set j u) := by
 refine ⟨by rw [List.length_set]; exact h.1, ?_⟩
 rcases h.2 with ⟨h1, _⟩ | ⟨g', cap', cur, h1, hb, hg, hn, hc, hs, ht⟩
 ·cases h1
 ·cases h1
  refine .inr ⟨g, cap, cur.setIfInBounds j u, rfl, hb, ?_, hn, hc, by simpa using hs, ?_⟩
  ·simp [World.setCell, Array.getElem?_modify, hg]
  ·rw [← ht, Array.toList_setIfInBounds, List.take_set]
theorem Hp.rowset {o : List Nat} {w W : World} {it : List It} (h : Hp o w it W) (i : Nat) {e : TypeId} {size n g cap : Nat} {xs : List Value} (hx : it[i]? = some (irow e size (.slice (some ⟨g, 0, none⟩) n cap) n xs)) (j : Nat) (hj : j < n * size) (u : Value) :
 Hp o w (it.set i (irow e size (.slice (some ⟨g, 0, none⟩) n cap) n (xs.set j u))) (W.setCell ⟨g, j, none⟩ u) :=
 h.upd i hx (row_setCell (h.row i hx) j hj u) ⟨(Below.refl _ _).setCell (Nat.zero_le _) _, fun k hk ho => Below.heap_setCell _ _ _ _ (by simp [irow, Value.ownBlock] at ho; exact ho), fun b hb => .inl hb⟩ (by simp [irow, Value.ownBlock])
theorem row_frozen {W : World} {base : Nat} {e : TypeId} {size n g cap : Nat} {xs : List Value} (h : W.ownsRow base e size (.slice (some ⟨g, 0, none⟩) n cap) n xs) (j : Nat) : W.frozen? ⟨g, j, none⟩ = false := by
 rcases h.2 with ⟨h1, _⟩ | ⟨g', cap', cur, h1, hb, hg, _⟩
 ·cases h1
 ·cases h1; simp [World.frozen?, hg]
theorem zaz {W : World} {base : Nat} {e : TypeId} {size n g cap : Nat} {xs : List Value} (h : W.ownsRow base e size (.slice (some ⟨g, 0, none⟩) n cap) n xs) {j : Nat} {u : Value} (hu : xs[j]? = some u) : W.cell? ⟨g, j, none⟩ = some u := by
 have h1 := h.cells (g := g) rfl j u hu
 have e : (⟨g, 0, none⟩ : Addr).add j = ⟨g, j, none⟩ := by unfold Addr.add; split <;> simp_all
 rwa [e] at h1
theorem za5 {W : World} {base : Nat} {e : TypeId} {size n : Nat} {v : Value} {xs : List Value} (h : W.ownsRow base e size v n xs) (hn : 0 < n) : ∃ g cap, v = .slice (some ⟨g, 0, none⟩) n cap ∧ n ≤ cap := by
 rcases h.2 with ⟨_, h1⟩ | ⟨g, cap, cur, h1, _, _, hc, _⟩
 ·omega
 ·exact ⟨g, cap, h1, hc⟩
theorem zag {W : World} {base : Nat} {e : TypeId} {size n : Nat} {v : Value} {xs : List Value} (h : W.ownsRow base e size v n xs) : ∃ A cap, v = .slice A n cap := by
 rcases h.2 with ⟨h1, rfl⟩ | ⟨g, cap, cur, h1, _⟩
 ·exact ⟨none, 0, h1⟩
 ·exact ⟨_, cap, h1⟩
section
variable {P : Program} {w : World}
theorem run_append_own2 (base : Nat) (t ty e : TypeId) (i : TypeInfo) (z : Value) (size bytes : Nat) (ht : P.underlying t = some (.slice e)) (hi : P.info? e = some i) (hz : i.zero = some z)
 (hsize : i.size = size) (hby : i.bytes = bytes) (hzs : z.cells.size = size) (hsz : 0 < size)
 (v : Value) (n : Nat) (xs : List Value) (hown : w.ownsRow base e size v n xs)
 (a : Addr) (m c : Nat) (news : List Value) (hl : news.length = m * size) (hnews : ∀ j u, news[j]? = some u → w.cell? (a.add j) = some u) (h1 : ∀ u ∈ news, u.oneCell' = true) (hm : 0 < m)
 (h63 : n + m ≤ maxLen) (hbytes : (n + m) * bytes ≤ 140737488355328) (hbase : base ≤ w.heap.size) :
 ∃ v' w', (Builtin.append_ #[t, t] ty #[v, .slice (some a) m c]).run P w = .ok v' w' ∧ w'.ownsRow base e size v' (n + m) (xs ++ news) ∧ w.grownBy w' v.ownBlock ∧
  (v'.ownBlock = v.ownBlock ∨ ∀ g, v'.ownBlock = some g → w.heap.size ≤ g) := by
 obtain ⟨v', w', hr, h2, h3, _⟩ := run_append_own (P := P) w base t ty e i z size bytes ht hi hz hsize hby hzs hsz v n xs hown a m c news hl hnews h1 h63 hbytes hbase
 refine ⟨v', w', hr, h2, h3, ?_⟩
 subst hsize
 subst hby
 have hsmall : n + m ≤ 9223372036854775807 := by simp only [maxLen] at h63; omega
 rcases hown.2 with ⟨rfl, rfl⟩ | ⟨g, cap, cur, rfl, hbg, hg, hnc, hcm, hcs, htake⟩
 ·have hx : xs = [] := List.eq_nil_of_length_eq_zero (by simpa using hown.1)
  subst hx
  have hr2 := run_append_nil (P := P) w t ty e i z ht hi hz a m c news hl hnews (by omega) (by omega) (by have hb := hbytes; simp only [Nat.zero_add] at hb; omega)
  rw [hr] at hr2
  injection hr2 with e1 e2
  subst e1
  exact .inr fun g hg => by simp [Value.ownBlock] at hg; omega
 ·by_cases hroom : n + m ≤ cap
  ·have hfit : n * i.size + news.length ≤ cur.size := by rw [hl, hcs, ← Nat.add_mul]; exact Nat.mul_le_mul_right _ hroom
   have hr2 := run_append_room (P := P) w t ty e i ht hi g n cap cur hg a m c news hl hnews h1 hroom hfit
   rw [hr] at hr2
   injection hr2 with e1 e2
   subst e1
   exact .inl rfl
  ·have holds : ∀ j u, xs[j]? = some u → w.cell? ((⟨g, 0, none⟩ : Addr).add j) = some u := hown.cells (g := g) rfl
   have hr2 := run_append_grow (P := P) w t ty e i z ht hi hz ⟨g, 0, none⟩ n cap xs hown.1 holds a m c news hl hnews (by omega) (by omega) (growslice_fits (by omega) hbytes)
   rw [hr] at hr2
   injection hr2 with e1 e2
   subst e1
   exact .inr fun g hg => by simp [Value.ownBlock] at hg; omega
theorem wp_append_own2 {o : Oper} {a : Act} {K : Act → World → Prop} {Q : Exit → Act → World → Prop} (s x : Operand) (t : TypeId)
 (ho : o.op = .call { callee := .builtin .append, args := #[s, x], argTypes := #[t, t] })
 (base : Nat) (e : TypeId) (i : TypeInfo) (z : Value) (size bytes : Nat) (ht : P.underlying t = some (.slice e)) (hi : P.info? e = some i) (hz : i.zero = some z)
 (hsize : i.size = size) (hby : i.bytes = bytes) (hzs : z.cells.size = size) (hsz : 0 < size)
 (v : Value) (n : Nat) (xs : List Value) (hs : a.eval s = v) (hown : w.ownsRow base e size v n xs)
 (ad : Addr) (m c : Nat) (news : List Value) (hx : a.eval x = .slice (some ad) m c) (hl : news.length = m * size) (hnews : ∀ j u, news[j]? = some u → w.cell? (ad.add j) = some u) (h1 : ∀ u ∈ news, u.oneCell' = true) (hm : 0 < m)
 (h63 : n + m ≤ maxLen) (hbytes : (n + m) * bytes ≤ 140737488355328) (hbase : base ≤ w.heap.size)
 (h : ∀ v' w', w'.ownsRow base e size v' (n + m) (xs ++ news) → w.grownBy w' v.ownBlock → (v'.ownBlock = v.ownBlock ∨ ∀ g, v'.ownBlock = some g → w.heap.size ≤ g) → K (a.put o.dst v') w') : o.wp P a w K Q := by
 obtain ⟨v', w', hr, h2, h3, h4⟩ := run_append_own2 (P := P) (w := w) base t o.type e i z size bytes ht hi hz hsize hby hzs hsz v n xs hown ad m c news hl hnews h1 hm h63 hbytes hbase
 unfold Oper.wp execOp
 simp only [ho, resolve, invoke, builtin, Sem.run_bind, Sem.run_pure, Result.andThen_ok, List.map_toArray, List.map_cons, List.map_nil, hs, hx, hr]
 exact h v' w' h2 h3 h4
theorem zac {ops : Array Oper} {rest : List Oper} {o : Oper} {a : Act} {Q : Exit → Act → World → Prop} (hgd : o.guard = none) (s x : Operand) (t : TypeId)
 (ho : o.op = .call { callee := .builtin .append, args := #[s, x], argTypes := #[t, t] })
 (base : Nat) (e : TypeId) (i : TypeInfo) (z : Value) (size bytes : Nat) (ht : P.underlying t = some (.slice e)) (hi : P.info? e = some i) (hz : i.zero = some z)
 (hsize : i.size = size) (hby : i.bytes = bytes) (hzs : z.cells.size = size) (hsz : 0 < size)
 (v : Value) (n : Nat) (xs : List Value) (hs : a.eval s = v) (hown : w.ownsRow base e size v n xs)
 (ad : Addr) (m c : Nat) (news : List Value) (hx : a.eval x = .slice (some ad) m c) (hl : news.length = m * size) (hnews : ∀ j u, news[j]? = some u → w.cell? (ad.add j) = some u) (h1 : ∀ u ∈ news, u.oneCell' = true) (hm : 0 < m)
 (h63 : n + m ≤ maxLen) (hbytes : (n + m) * bytes ≤ 140737488355328) (hbase : base ≤ w.heap.size)
 (h : ∀ v' w', w'.ownsRow base e size v' (n + m) (xs ++ news) → w.grownBy w' v.ownBlock → (v'.ownBlock = v.ownBlock ∨ ∀ g, v'.ownBlock = some g → w.heap.size ≤ g) → wpList P ops Q rest (a.put o.dst v') w') : wpList P ops Q (o :: rest) a w :=
 wpList_plain hgd fun _ hK => wp_append_own2 s x t ho base e i z size bytes ht hi hz hsize hby hzs hsz v n xs hs hown ad m c news hx hl hnews h1 hm h63 hbytes hbase fun v' w' h2 h3 h4 => hK _ _ (h v' w' h2 h3 h4)
end
open Go.RowKit
theorem blk_row {W : World} {g : Nat} {t : TypeId} {cs : List Value} (h : Blk W g t cs) (ds : List Value) : Blk (W.setRow g ds.toArray) g t ds := setRow_heap W g _ _ _ _ h
theorem Hp.rowAt {o : List Nat} {w W : World} {it : List It} (h : Hp o w it W) (i : Nat) {g : Nat} {t : TypeId} {cs : List Value} (hx : it[i]? = some (iblk g t cs)) (ds : List Value) : Hp o w (it.set i (iblk g t ds)) (W.setRow g ds.toArray) :=
 h.upd i hx (blk_row (h.blk i hx) ds) ⟨⟨rfl, rfl, rfl, by simp [World.setRow], fun k hk => absurd hk (Nat.not_lt_zero _)⟩, fun k hk ho => by
  simp only [World.setRow, Array.getElem?_modify]
  rw [if_neg (by simp [iblk] at ho; omega)], fun b hb => .inl hb⟩ (by simp [iblk])
theorem Blk.get6 {w : World} {g : Nat} {t : TypeId} {a b c d e f : Value} (h : Blk w g t [a, b, c, d, e, f]) : w.cell? ⟨g, 0, none⟩ = some a ∧ w.cell? ⟨g, 1, none⟩ = some b ∧ w.cell? ⟨g, 2, none⟩ = some c ∧ w.cell? ⟨g, 3, none⟩ = some d ∧ w.cell? ⟨g, 4, none⟩ = some e ∧ w.cell? ⟨g, 5, none⟩ = some f := ⟨h.cell 0, h.cell 1, h.cell 2, h.cell 3, h.cell 4, h.cell 5⟩
theorem Blk.get7 {w : World} {g : Nat} {t : TypeId} {a b c d e f i : Value} (h : Blk w g t [a, b, c, d, e, f, i]) : w.cell? ⟨g, 0, none⟩ = some a ∧ w.cell? ⟨g, 1, none⟩ = some b ∧ w.cell? ⟨g, 2, none⟩ = some c ∧ w.cell? ⟨g, 3, none⟩ = some d ∧ w.cell? ⟨g, 4, none⟩ = some e ∧ w.cell? ⟨g, 5, none⟩ = some f ∧ w.cell? ⟨g, 6, none⟩ = some i := ⟨h.cell 0, h.cell 1, h.cell 2, h.cell 3, h.cell 4, h.cell 5, h.cell 6⟩
open Go.RowKit
theorem scell_lt {W : World} {a : Addr} {v : Value} (h : W.cell? a = some v) : a.block < W.heap.size := World.block_lt_of_cell? _ _ h
theorem sadd_block (a : Addr) (n : Nat) : (a.add n).block = a.block := by unfold Addr.add; split <;> rfl
theorem zaa {W W' : World} {a : Addr} {v : Value} (h : W.cell? a = some v) (hb : Below W.heap.size W W') : W'.cell? a = some v := (hb.cell (scell_lt h)).trans h
theorem zcn (g i : Nat) : (⟨g, 0, none⟩ : Addr).add i = ⟨g, i, none⟩ := by
 unfold Addr.add
 split
 ·rename_i h; subst h; rfl
 ·simp
structure Ints (W : World) (A : Option Addr) (l : List Int) : Prop where
 at_ : ∀ i x, l[i]? = some x → ∃ ad, A = some ad ∧ W.cell? (ad.add i) = some (.int .i64 x)
theorem Ints.up {W W' : World} {A : Option Addr} {l : List Int} (h : Ints W A l) (hb : Below W.heap.size W W') : Ints W' A l := ⟨fun i s hs => by
 obtain ⟨ad, h1, h2⟩ := h.at_ i s hs
 exact ⟨ad, h1, zaa h2 hb⟩⟩
structure Strs (W : World) (A : Option Addr) (l : List ByteArray) : Prop where
 at_ : ∀ i s, l[i]? = some s → ∃ ad, A = some ad ∧ W.cell? (ad.add i) = some (.string s)
theorem Strs.up {W W' : World} {A : Option Addr} {l : List ByteArray} (h : Strs W A l) (hb : Below W.heap.size W W') : Strs W' A l := ⟨fun i s hs => by
 obtain ⟨ad, h1, h2⟩ := h.at_ i s hs
 exact ⟨ad, h1, zaa h2 hb⟩⟩
structure Prs (W : World) (A : Option Addr) (l : List Bp) : Prop where
 at_ : ∀ i x, l[i]? = some x → ∃ ad, A = some ad ∧ W.cell? (ad.add (i * 2)) = some (.string x.1) ∧ W.cell? ⟨(ad.add (i * 2)).block, (ad.add (i * 2)).off + 1, none⟩ = some (.string x.2)
theorem Prs.up {W W' : World} {A : Option Addr} {l : List Bp} (h : Prs W A l) (hb : Below W.heap.size W W') : Prs W' A l := ⟨fun i s hs => by
 obtain ⟨ad, h1, h2, h3⟩ := h.at_ i s hs
 exact ⟨ad, h1, zaa h2 hb, zaa h3 hb⟩⟩
structure NodeAt (W : World) (ad : Addr) (n : Nk) (KA : Option Addr) (kc : Nat) : Prop where
 kind : W.cell? ad = some (.int .i64 n.kind)
 num : W.cell? ⟨ad.block, ad.off + 1, none⟩ = some (.int .i64 n.num)
 name : W.cell? ⟨ad.block, ad.off + 2, none⟩ = some (.string n.name)
 attr : W.cell? ⟨ad.block, ad.off + 3, none⟩ = some (.string n.attr)
 kids : W.cell? ⟨ad.block, ad.off + 4, none⟩ = some (.slice KA n.kids.length kc)
 at_ : W.cell? ⟨ad.block, ad.off + 5, none⟩ = some (.int .i64 n.at_)
 ints : Ints W KA n.kids
 cap : n.kids.length ≤ kc
theorem NodeAt.up {W W' : World} {ad : Addr} {n : Nk} {KA : Option Addr} {kc : Nat} (h : NodeAt W ad n KA kc) (hb : Below W.heap.size W W') : NodeAt W' ad n KA kc :=
 ⟨zaa h.kind hb, zaa h.num hb, zaa h.name hb, zaa h.attr hb, zaa h.kids hb, zaa h.at_ hb, h.ints.up hb, h.cap⟩
theorem row_cap {W : World} {base : Nat} {e : TypeId} {size n c : Nat} {A : Option Addr} {xs : List Value} (h : W.ownsRow base e size (.slice A n c) n xs) : n ≤ c := by
 rcases h.2 with ⟨h1, h2⟩ | ⟨g, cap, cur, h1, _, _, hc, _⟩
 ·omega
 ·injection h1 with _ _ h3
  omega
structure Nks (W : World) (A : Option Addr) (L : List Nk) : Prop where
 at_ : ∀ i n, L[i]? = some n → ∃ ad KA kc, A = some ad ∧ NodeAt W (ad.add (i * 6)) n KA kc
theorem Nks.up {W W' : World} {A : Option Addr} {L : List Nk} (h : Nks W A L) (hb : Below W.heap.size W W') : Nks W' A L := ⟨fun i n hn => by
 obtain ⟨ad, KA, c, h1, h2⟩ := h.at_ i n hn
 exact ⟨ad, KA, c, h1, h2.up hb⟩⟩
structure Lp where
 ua : Option Addr
 uc : Nat
 ra : Option Addr
 rc : Nat
 na : Option Addr
 nc : Nat
abbrev polcs (d : Po) (L : Lp) : List Value := [.string d.name, .slice L.ua d.uses.length L.uc, .slice L.ra d.reveal.length L.rc, .slice L.na d.nodes.length L.nc, .int .i64 d.root, .string d.scope, .int .i64 d.limit, .string d.escrow]
abbrev polV (d : Po) (L : Lp) : Value := .agg #[.string d.name, .slice L.ua d.uses.length L.uc, .slice L.ra d.reveal.length L.rc, .slice L.na d.nodes.length L.nc, .int .i64 d.root, .string d.scope, .int .i64 d.limit, .string d.escrow]
structure PolM (W : World) (d : Po) (L : Lp) : Prop where
 us : Prs W L.ua d.uses
 rv : Prs W L.ra d.reveal
 ns : Nks W L.na d.nodes
theorem PolM.up {W W' : World} {d : Po} {L : Lp} (h : PolM W d L) (hb : Below W.heap.size W W') : PolM W' d L := ⟨h.us.up hb, h.rv.up hb, h.ns.up hb⟩
structure NBd (n : Nk) : Prop where
 name : n.name.size ≤ 1000000
 attr : n.attr.size ≤ 1000000
 kids : n.kids.length ≤ 1000000
structure PBd (d : Po) : Prop where
 name : d.name.size ≤ 1000000
 scope : d.scope.size ≤ 1000000
 escrow : d.escrow.size ≤ 1000000
 ul : d.uses.length ≤ 1000000
 rl : d.reveal.length ≤ 1000000
 nl : d.nodes.length ≤ 1000000
 us : ∀ x ∈ d.uses, x.1.size ≤ 1000000 ∧ x.2.size ≤ 1000000
 rv : ∀ x ∈ d.reveal, x.1.size ≤ 1000000 ∧ x.2.size ≤ 1000000
 ns : ∀ n ∈ d.nodes, NBd n
abbrev nkcs (n : Nk) (KA : Option Addr) (kc : Nat) : List Value := [.int .i64 n.kind, .int .i64 n.num, .string n.name, .string n.attr, .slice KA n.kids.length kc, .int .i64 n.at_]
abbrev nkV (n : Nk) (KA : Option Addr) (kc : Nat) : Value := .agg #[.int .i64 n.kind, .int .i64 n.num, .string n.name, .string n.attr, .slice KA n.kids.length kc, .int .i64 n.at_]
theorem zc7 {α : Type} {l : List α} {i : Nat} {x : α} (h : l[i]? = some x) : l.drop i = x :: l.drop (i + 1) := by
 obtain ⟨hi, rfl⟩ := List.getElem?_eq_some_iff.1 h
 exact List.drop_eq_getElem_cons hi
theorem zbb {α : Type} {l : List α} {i : Nat} {x : α} (h : l[i]? = some x) : l.take (i + 1) = l.take i ++ [x] := by
 rw [List.take_add_one, h]; rfl
theorem zad {B : Nat} {A C : World} (h : Below B A C) (n : Nat) : Below B A (C.drewN n) := h.trans ⟨rfl, rfl, rfl, Nat.le_refl _, fun _ _ => rfl⟩
theorem Blk.get5 {W : World} {g : Nat} {t : TypeId} {a b c d e : Value} (h : Blk W g t [a, b, c, d, e]) : W.cell? ⟨g, 0, none⟩ = some a ∧ W.cell? ⟨g, 1, none⟩ = some b ∧ W.cell? ⟨g, 2, none⟩ = some c ∧ W.cell? ⟨g, 3, none⟩ = some d ∧ W.cell? ⟨g, 4, none⟩ = some e :=
 ⟨h.cell 0, h.cell 1, h.cell 2, h.cell 3, h.cell 4⟩
theorem strs_eq {s t : ByteArray} : (s.toList == t.toList) = decide (s = t) := by
 rw [Bool.eq_iff_iff, beq_iff_eq, decide_eq_true_iff, zbg, zbg]
 exact ⟨eq_of_tl, fun h => by rw [h]⟩
end Go.Proofs.YtekkapgknohadaaGreatDoor
namespace Go.Proofs.YtekkapgknohadaaGreatDoor.Pa
open Lx (Tok)
abbrev Tx := List UInt8
def kPolicy : Tx := [112, 111, 108, 105, 99, 121]
def kUses : Tx := [117, 115, 101, 115]
def kReveal : Tx := [114, 101, 118, 101, 97, 108]
def kProve : Tx := [112, 114, 111, 118, 101]
def kScope : Tx := [115, 99, 111, 112, 101]
def kLimit : Tx := [108, 105, 109, 105, 116]
def kEscrow : Tx := [101, 115, 99, 114, 111, 119]
def kEnd : Tx := [101, 110, 100]
def kAll : Tx := [97, 108, 108]
def kAny : Tx := [97, 110, 121]
def kAtleast : Tx := [97, 116, 108, 101, 97, 115, 116]
def kNot : Tx := [110, 111, 116]
def kTrue : Tx := [116, 114, 117, 101]
def kFalse : Tx := [102, 97, 108, 115, 101]
def kBetween : Tx := [98, 101, 116, 119, 101, 101, 110]
def kAnd : Tx := [97, 110, 100]
def kIn : Tx := [105, 110]
def sEq : Tx := [61]
def sNe : Tx := [33, 61]
def sLt : Tx := [60]
def sLe : Tx := [60, 61]
def sGt : Tx := [62]
def sGe : Tx := [62, 61]
def sDot : Tx := [46]
def sColon : Tx := [58]
def sComma : Tx := [44]
def sOpen : Tx := [40]
def sClose : Tx := [41]
def sBra : Tx := [123]
def sKet : Tx := [125]
def cmps : List Tx := [sEq, sNe, sLt, sLe, sGt, sGe]
structure Nd where
 kind : Nat
 num : Int
 name : Tx
 attr : Tx
 at_ : Nat
inductive F where
 | nil
 | cons (n : Nd) (kids rest : F)
def F.app : F → F → F
 | .nil, g => g
 | .cons n k r, g => .cons n k (r.app g)
def F.cat : List F → F
 | [] => .nil
 | f :: l => f.app (F.cat l)
def F.len : F → Nat
 | .nil => 0
 | .cons _ _ r => r.len + 1
def F.size : F → Nat
 | .nil => 0
 | .cons _ k r => k.size + r.size + 1
theorem F.app_nil (f : F) : f.app .nil = f := by
 induction f with
 | nil => rfl
 | cons n k r _ ih => rw [F.app, ih]
theorem F.app_assoc (f g h : F) : (f.app g).app h = f.app (g.app h) := by
 induction f with
 | nil => rfl
 | cons n k r _ ih => rw [F.app, F.app, F.app, ih]
theorem F.len_app (f g : F) : (f.app g).len = f.len + g.len := by
 induction f with
 | nil => simp [F.app, F.len]
 | cons n k r _ ih => rw [F.app, F.len, F.len, ih]; omega
theorem F.size_app (f g : F) : (f.app g).size = f.size + g.size := by
 induction f with
 | nil => simp [F.app, F.size]
 | cons n k r _ ih => rw [F.app, F.size, F.size, ih]; omega
theorem F.cat_snoc (l : List F) (f : F) : F.cat (l ++ [f]) = (F.cat l).app f := by
 induction l with
 | nil => exact F.app_nil f
 | cons a l ih => rw [List.cons_append, F.cat, F.cat, ih, F.app_assoc]
def F.idx : Nat → F → List Nat
 | _, .nil => []
 | a, .cons _ k r => a :: r.idx (a + 1 + k.size)
def F.num : Nat → F → List (Nd × List Nat)
 | _, .nil => []
 | a, .cons n k r => (n, k.idx (a + 1)) :: (k.num (a + 1) ++ r.num (a + 1 + k.size))
theorem F.num_len (f : F) : ∀ a, (f.num a).length = f.size := by
 induction f with
 | nil => intro a; rfl
 | cons n k r ih1 ih2 => intro a; rw [F.num, F.size, List.length_cons, List.length_append, ih1, ih2]
theorem F.idx_len (f : F) : ∀ a, (f.idx a).length = f.len := by
 induction f with
 | nil => intro a; rfl
 | cons n k r _ ih2 => intro a; rw [F.idx, F.len, List.length_cons, ih2]
theorem F.idx_app (f g : F) : ∀ a, (f.app g).idx a = f.idx a ++ g.idx (a + f.size) := by
 induction f with
 | nil => intro a; simp [F.app, F.idx, F.size]
 | cons n k r _ ih => intro a; rw [F.app, F.idx, F.idx, F.size, ih, List.cons_append]; congr 3; omega
theorem F.num_app (f g : F) : ∀ a, (f.app g).num a = f.num a ++ g.num (a + f.size) := by
 induction f with
 | nil => intro a; simp [F.app, F.num, F.size]
 | cons n k r _ ih => intro a; rw [F.app, F.num, F.num, F.size, ih, List.cons_append, List.append_assoc]; congr 4; omega
def leaf (n : Nd) : F := .cons n .nil .nil
def atT : List Tok → Nat
 | [] => 0
 | t :: _ => t.at_
def isT (s : Tx) : List Tok → Bool
 | [] => false
 | t :: _ => t.kind == 2 && t.text == s
def isW : List Tok → Bool
 | [] => false
 | t :: _ => t.kind == 0 && t.text.head? == some 39
def isN : List Tok → Bool
 | [] => false
 | t :: r => t.kind == 0 && !isW (t :: r)
def isM : List Tok → Bool
 | [] => false
 | t :: _ => t.kind == 1
def numV : Tx → Int
 | [] => 0
 | c :: m => if c = 45 then -(Lx.dv m : Int) else (Lx.dv (c :: m) : Int)
def headX : List Tok → Tx
 | [] => []
 | t :: _ => t.text
abbrev Rd (α : Type) := Option α × List Tok
def nameR (ts : List Tok) : Rd Tx := if isN ts then (some (headX ts), ts.tail) else (none, ts)
def wordR (ts : List Tok) : Rd Tx := if isW ts then (some (headX ts).tail.dropLast, ts.tail) else (none, ts)
def numR (ts : List Tok) : Rd Int := if isM ts then (some (numV (headX ts)), ts.tail) else (none, ts)
def needR (s : Tx) (ts : List Tok) : Rd Unit := if isT s ts then (some (), ts.tail) else (none, ts)
def Rd.then {α β : Type} (r : Rd α) (f : α → List Tok → Rd β) : Rd β :=
 match r with
 | (none, q) => (none, q)
 | (some a, q) => f a q
@[simp] theorem then_none {α β : Type} (q : List Tok) (f : α → List Tok → Rd β) : Rd.then (none, q) f = (none, q) := rfl
@[simp] theorem then_some {α β : Type} (a : α) (q : List Tok) (f : α → List Tok → Rd β) : Rd.then (some a, q) f = f a q := rfl
def pairR (s : Tx) (ts : List Tok) : Rd (Tx × Tx) := (nameR ts).then fun a q => (needR s q).then fun _ q => (nameR q).then fun b q => (some (a, b), q)
def refR (ts : List Tok) : Rd (Tx × Tx) := pairR sDot ts
def listR {α : Type} (rd : List Tok → Rd α) : Nat → List Tok → Rd (List α)
 | 0, ts => (none, ts)
 | k + 1, ts => (rd ts).then fun a q => if isT sComma q then (listR rd k q.tail).then fun l q => (some (a :: l), q) else (some [a], q)
def valueR (ts : List Tok) : Rd Nd :=
 if isN ts then (refR ts).then fun x q => (some ⟨9, 0, x.1, x.2, atT ts⟩, q)
 else if isW ts then (wordR ts).then fun x q => (some ⟨11, 0, x, [], atT ts⟩, q)
 else if isM ts then (numR ts).then fun x q => (some ⟨10, x, [], [], atT ts⟩, q)
 else (none, ts)
def cmpOf : List Tok → Option Nat
 | [] => none
 | t :: _ => if t.kind == 2 then cmps.findIdx? (fun s => s == t.text) else none
def leafR (ts : List Tok) : Rd F := (valueR ts).then fun n q => (some (leaf n), q)
def condR (ts : List Tok) : Rd F :=
 (valueR ts).then fun a q =>
  match cmpOf q with
  | some k => (valueR q.tail).then fun b q => (some (.cons ⟨6, k, [], [], atT ts⟩ ((leaf a).app (leaf b)) .nil), q)
  | none =>
   if isT kBetween q then (valueR q.tail).then fun b q => (needR kAnd q).then fun _ q => (valueR q).then fun c q => (some (.cons ⟨7, 0, [], [], atT ts⟩ ((leaf a).app ((leaf b).app (leaf c))) .nil), q)
   else if isT kIn q then (needR sBra q.tail).then fun _ q => (listR leafR q.length q).then fun l q => (needR sKet q).then fun _ q => (some (.cons ⟨8, 0, [], [], atT ts⟩ ((leaf a).app (F.cat l)) .nil), q)
   else (none, q)
def kidsR (rd : List Tok → Rd F) (n : Nd) (ts : List Tok) : Rd F :=
 (needR sOpen ts).then fun _ q => (listR rd q.length q).then fun l q => (needR sClose q).then fun _ q => (some (.cons n (F.cat l) .nil), q)
def exprR : Nat → List Tok → Rd F
 | 0, ts => (none, ts)
 | k + 1, ts =>
  if isT kAll ts then kidsR (exprR k) ⟨3, 0, [], [], atT ts⟩ ts.tail
  else if isT kAny ts then kidsR (exprR k) ⟨4, 0, [], [], atT ts⟩ ts.tail
  else if isT kAtleast ts then (numR ts.tail).then fun m q => kidsR (exprR k) ⟨5, m, [], [], atT ts⟩ q
  else if isT kNot ts then (exprR k ts.tail).then fun f q => (some (.cons ⟨2, 0, [], [], atT ts⟩ f .nil), q)
  else if isT kTrue ts then (some (leaf ⟨0, 0, [], [], atT ts⟩), ts.tail)
  else if isT kFalse ts then (some (leaf ⟨1, 0, [], [], atT ts⟩), ts.tail)
  else if isT sOpen ts then (exprR k ts.tail).then fun f q => (needR sClose q).then fun _ q => (some f, q)
  else condR ts
structure Pl where
 name : Tx
 uses : List (Tx × Tx)
 reveal : List (Tx × Tx)
 scope : Tx
 limit : Int
 escrow : Tx
 root : F
def revealR (ts : List Tok) : Rd (List (Tx × Tx)) := if isT kReveal ts then listR refR ts.length ts.tail else (some [], ts)
def proveR (ts : List Tok) : Rd F := if isT kProve ts then exprR ts.length ts.tail else (some (leaf ⟨0, 0, [], [], atT ts⟩), ts)
def scopeR (ts : List Tok) : Rd (Tx × Int) := if isT kScope ts then (wordR ts.tail).then fun s q => (if isT kLimit q then (numR q.tail).then fun n q => (some (s, n), q) else (some (s, 0), q)) else (some ([], 0), ts)
def escrowR (ts : List Tok) : Rd Tx := if isT kEscrow ts then nameR ts.tail else (some [], ts)
def isE : List Tok → Bool
 | [] => false
 | t :: _ => t.kind == 3
def policyR (ts : List Tok) : Rd Pl :=
 (needR kPolicy ts).then fun _ q => (nameR q).then fun nm q => (needR kUses q).then fun _ q => (listR (pairR sColon) q.length q).then fun us q =>
 (revealR q).then fun rv q => (proveR q).then fun f q => (scopeR q).then fun s q => (escrowR q).then fun x q => (needR kEnd q).then fun _ q =>
 if isE q then (some ⟨nm, us, rv, s.1, s.2, x, f⟩, q) else (none, q)
open Lx (Tok)
structure WordT (t w : Tx) : Prop where
 eq : t = 39 :: (w ++ [39])
 all : ∀ c ∈ w, Lx.isWd c = true
 pos : 0 < w.length
 le : w.length ≤ 32
structure NameT (t : Tx) : Prop where
 all : ∀ c ∈ t, Lx.isNm c = true
 fst : ∃ c m, t = c :: m ∧ Lx.isLet c = true
 le : t.length ≤ 32
 kw : Lx.kw t = false
structure NumT (t : Tx) (neg : Bool) (d : Tx) : Prop where
 eq : t = if neg then 45 :: d else d
 pos : 0 < d.length
 all : ∀ c ∈ d, Lx.isDig c = true
 le : Lx.dv d ≤ if neg then 2147483648 else 2147483647
inductive Fine (t : Tok) : Prop
 | word (w : Tx) (hk : t.kind = 0) (h : WordT t.text w)
 | name (hk : t.kind = 0) (h : NameT t.text)
 | num (neg : Bool) (d : Tx) (hk : t.kind = 1) (h : NumT t.text neg d)
 | sign (hk : t.kind = 2) (h0 : t.text ≠ [])
 | end_ (hk : t.kind = 3) (h : t.text = [])
theorem sp_mem {p : UInt8 → Bool} {l : List UInt8} {n : Nat} (h : n ≤ Lx.sp p l) : ∀ c ∈ l.take n, p c = true := by
 intro c hc
 obtain ⟨i, hi, rfl⟩ := List.getElem_of_mem hc
 rw [List.length_take] at hi
 rw [List.getElem_take]
 exact Lx.sp_all i (by omega) (by omega)
theorem isLet_ne {c : UInt8} (h : Lx.isLet c = true) : c ≠ 39 := by rintro rfl; exact absurd h (by decide)
theorem isDig_ne {c : UInt8} (h : Lx.isDig c = true) : c ≠ 45 := by rintro rfl; exact absurd h (by decide)
theorem fine_way {m : List UInt8} {k n : Nat} (h : Lx.Way m k n) (a : Nat) : Fine ⟨k, m.take n, a⟩ := by
 cases h with
 | name c m hc h =>
  have h1 : Lx.isNm c = true := by simp [Lx.isNm, hc]
  have hs := Lx.sp_le Lx.isNm (c :: m)
  cases hk : Lx.kw ((c :: m).take (Lx.sp Lx.isNm (c :: m))) with
  | true =>
   refine .sign rfl ?_
   rw [Lx.sp_succ h1]
   simp
  | false =>
   refine .name rfl ⟨sp_mem (Nat.le_refl _), ?_, ?_, hk⟩
   ·rw [Lx.sp_succ h1]
    exact ⟨c, m.take (Lx.sp Lx.isNm m), by simp, hc⟩
   ·rw [List.length_take]; omega
 | word m h0 h hq =>
  refine .word (m.take (Lx.sp Lx.isWd m)) rfl ⟨?_, sp_mem (Nat.le_refl _), ?_, ?_⟩
  ·show (39 :: m).take (Lx.sp Lx.isWd m + 2) = _
   obtain ⟨h1, h2⟩ := List.getElem?_eq_some_iff.1 hq
   rw [List.take_succ_cons, List.take_succ_eq_append_getElem h1, h2]
  ·have := Lx.sp_le Lx.isWd m
   rw [List.length_take]; omega
  ·rw [List.length_take]; omega
 | minus m h0 h =>
  have := Lx.sp_le Lx.isDig m
  refine .num true (m.take (Lx.sp Lx.isDig m)) rfl ⟨rfl, ?_, sp_mem (Nat.le_refl _), h⟩
  rw [List.length_take]; omega
 | digits c m hl h1 h2 h0 h =>
  have := Lx.sp_le Lx.isDig (c :: m)
  refine .num false _ rfl ⟨rfl, ?_, sp_mem (Nat.le_refl _), h⟩
  rw [List.length_take]; omega
 | sign c m hl h1 h2 h3 h =>
  refine .sign rfl ?_
  obtain ⟨j, hj⟩ : ∃ j, Lx.sg (c :: m) = j + 1 := ⟨Lx.sg (c :: m) - 1, by omega⟩
  show (c :: m).take (Lx.sg (c :: m)) ≠ []
  rw [hj]
  simp
theorem sc_fine {a : Nat} {l : List UInt8} {ts : List Tok} (h : Lx.Sc a l ts) : ∀ t ∈ ts, Fine t := by
 induction h with
 | done a l h => intro t ht; rw [List.mem_singleton.1 ht]; exact .end_ rfl rfl
 | step a l k n ts ht hl h ih =>
  intro t h1
  rcases List.mem_cons.1 h1 with rfl | h1
  ·exact fine_way (Lx.way_of ht) _
  ·exact ih t h1
structure Good (ts : List Tok) : Prop where
 fine : ∀ t ∈ ts, Fine t
 ends : ∃ us e, ts = us ++ [e] ∧ e.kind = 3 ∧ ∀ t ∈ us, t.kind ≤ 2
theorem sc_good {a : Nat} {l : List UInt8} {ts : List Tok} (h : Lx.Sc a l ts) : Good ts := by
 obtain ⟨us, e, h1, h2, _, _, h3, _⟩ := h.join
 exact ⟨sc_fine h, us, e, h1, h2, fun t ht => (h3 t ht).1⟩
theorem Good.ne {ts : List Tok} (h : Good ts) : ts ≠ [] := by
 obtain ⟨us, e, rfl, _⟩ := h.ends
 simp
theorem Good.tail {t : Tok} {ts : List Tok} (h : Good (t :: ts)) (hk : t.kind ≠ 3) : Good ts := by
 refine ⟨fun u hu => h.fine u (List.mem_cons_of_mem _ hu), ?_⟩
 obtain ⟨us, e, h1, h2, h3⟩ := h.ends
 cases us with
 | nil =>
  rw [List.nil_append, List.cons.injEq] at h1
  rw [h1.1] at hk
  exact absurd h2 hk
 | cons u us =>
  rw [List.cons_append, List.cons.injEq] at h1
  exact ⟨us, e, h1.2, h2, fun t ht => h3 t (List.mem_cons_of_mem _ ht)⟩
theorem Good.isT {s : Tx} {ts : List Tok} (h : Good ts) (hs : isT s ts = true) : Good ts.tail := by
 cases ts with
 | nil => cases hs
 | cons t r =>
  refine h.tail ?_
  have : t.kind = 2 := by have := hs; simp [Pa.isT] at this; exact this.1
  omega
theorem Good.isN {ts : List Tok} (h : Good ts) (hs : isN ts = true) : Good ts.tail := by
 cases ts with
 | nil => cases hs
 | cons t r =>
  refine h.tail ?_
  have : t.kind = 0 := by have := hs; simp [Pa.isN] at this; exact this.1
  omega
theorem Good.isW {ts : List Tok} (h : Good ts) (hs : isW ts = true) : Good ts.tail := by
 cases ts with
 | nil => cases hs
 | cons t r =>
  refine h.tail ?_
  have : t.kind = 0 := by have := hs; simp [Pa.isW] at this; exact this.1
  omega
theorem Good.isM {ts : List Tok} (h : Good ts) (hs : isM ts = true) : Good ts.tail := by
 cases ts with
 | nil => cases hs
 | cons t r =>
  refine h.tail ?_
  have : t.kind = 1 := by simpa [Pa.isM] using hs
  omega
theorem cmpOf_kind {t : Tok} {r : List Tok} {k : Nat} (h : cmpOf (t :: r) = some k) : t.kind = 2 ∧ k < 6 ∧ cmps[k]? = some t.text := by
 rw [cmpOf] at h
 by_cases h1 : (t.kind == 2) = true
 ·rw [if_pos h1] at h
  obtain ⟨h2, h3, _⟩ := List.findIdx?_eq_some_iff_getElem.1 h
  refine ⟨by simpa using h1, h2, ?_⟩
  rw [List.getElem?_eq_getElem h2]
  exact congrArg some (by simpa using h3)
 ·rw [if_neg h1] at h
  cases h
theorem Good.cmp {ts : List Tok} {k : Nat} (h : Good ts) (hs : cmpOf ts = some k) : Good ts.tail := by
 cases ts with
 | nil => cases hs
 | cons t r =>
  refine h.tail ?_
  have := (cmpOf_kind hs).1
  omega
def Keeps {α : Type} (rd : List Tok → Rd α) : Prop := ∀ ts, Good ts → (rd ts).2 <:+ ts ∧ Good (rd ts).2
theorem tail_lt {ts : List Tok} (h : Good ts) : ts.tail.length < ts.length := by
 cases ts with
 | nil => exact absurd rfl h.ne
 | cons t r => simp
theorem need_keeps (s : Tx) : Keeps (needR s) := by
 intro ts h
 unfold needR
 split
 ·rename_i h1; exact ⟨List.tail_suffix _, h.isT h1⟩
 ·exact ⟨List.suffix_refl _, h⟩
theorem name_keeps : Keeps nameR := by
 intro ts h
 unfold nameR
 split
 ·rename_i h1; exact ⟨List.tail_suffix _, h.isN h1⟩
 ·exact ⟨List.suffix_refl _, h⟩
theorem word_keeps : Keeps wordR := by
 intro ts h
 unfold wordR
 split
 ·rename_i h1; exact ⟨List.tail_suffix _, h.isW h1⟩
 ·exact ⟨List.suffix_refl _, h⟩
theorem num_keeps : Keeps numR := by
 intro ts h
 unfold numR
 split
 ·rename_i h1; exact ⟨List.tail_suffix _, h.isM h1⟩
 ·exact ⟨List.suffix_refl _, h⟩
theorem zaw {α β : Type} {r : Rd α} {f : α → List Tok → Rd β} {ts : List Tok} (h : r.2 <:+ ts ∧ Good r.2) (hf : ∀ a, Keeps (f a)) : (r.then f).2 <:+ ts ∧ Good (r.then f).2 := by
 obtain ⟨o, q⟩ := r
 cases o with
 | none => exact h
 | some a =>
  have h2 := hf a q h.2
  exact ⟨h2.1.trans h.1, h2.2⟩
theorem pair_keeps (s : Tx) : Keeps (pairR s) := fun ts h => zaw (name_keeps ts h) fun a q hq => zaw (need_keeps s q hq) fun _ q hq => zaw (name_keeps q hq) fun b q hq => ⟨List.suffix_refl _, hq⟩
theorem list_keeps {α : Type} {rd : List Tok → Rd α} (h : Keeps rd) : ∀ k, Keeps (listR rd k)
 | 0 => fun ts hg => ⟨List.suffix_refl _, hg⟩
 | k + 1 => fun ts hg => zaw (h ts hg) fun a q hq => by
  split
  ·rename_i h1
   have h2 := zaw (list_keeps h k q.tail (hq.isT h1)) (f := fun l q => (some (a :: l), q)) fun l q hq => ⟨List.suffix_refl _, hq⟩
   exact ⟨h2.1.trans (List.tail_suffix _), h2.2⟩
  ·exact ⟨List.suffix_refl _, hq⟩
theorem value_keeps : Keeps valueR := by
 intro ts h
 unfold valueR
 split
 ·exact zaw (pair_keeps _ ts h) fun a q hq => ⟨List.suffix_refl _, hq⟩
 ·split
  ·exact zaw (word_keeps ts h) fun a q hq => ⟨List.suffix_refl _, hq⟩
  ·split
   ·exact zaw (num_keeps ts h) fun a q hq => ⟨List.suffix_refl _, hq⟩
   ·exact ⟨List.suffix_refl _, h⟩
theorem leaf_keeps : Keeps leafR := fun ts h => zaw (value_keeps ts h) fun a q hq => ⟨List.suffix_refl _, hq⟩
theorem cond_keeps : Keeps condR := by
 intro ts h
 refine zaw (value_keeps ts h) fun a q hq => ?_
 split
 ·rename_i k hk
  have h1 := zaw (value_keeps q.tail (hq.cmp hk)) (f := fun b q => (some (F.cons ⟨6, k, [], [], atT ts⟩ ((leaf a).app (leaf b)) .nil), q)) fun b q hq => ⟨List.suffix_refl _, hq⟩
  exact ⟨h1.1.trans (List.tail_suffix _), h1.2⟩
 ·split
  ·rename_i hk
   have h1 := zaw (value_keeps q.tail (hq.isT hk)) (f := fun b q => (needR kAnd q).then fun _ q => (valueR q).then fun c q => (some (F.cons ⟨7, 0, [], [], atT ts⟩ ((leaf a).app ((leaf b).app (leaf c))) .nil), q)) fun b q hq => zaw (need_keeps _ q hq) fun _ q hq => zaw (value_keeps q hq) fun c q hq => ⟨List.suffix_refl _, hq⟩
   exact ⟨h1.1.trans (List.tail_suffix _), h1.2⟩
  ·split
   ·rename_i hk
    have h1 := zaw (need_keeps sBra q.tail (hq.isT hk)) (f := fun _ q => (listR leafR q.length q).then fun l q => (needR sKet q).then fun _ q => (some (F.cons ⟨8, 0, [], [], atT ts⟩ ((leaf a).app (F.cat l)) .nil), q)) fun _ q hq => zaw (list_keeps leaf_keeps _ q hq) fun l q hq => zaw (need_keeps _ q hq) fun _ q hq => ⟨List.suffix_refl _, hq⟩
    exact ⟨h1.1.trans (List.tail_suffix _), h1.2⟩
   ·exact ⟨List.suffix_refl _, hq⟩
theorem kids_keeps {rd : List Tok → Rd F} (h : Keeps rd) (n : Nd) : Keeps (kidsR rd n) := fun ts hg =>
 zaw (need_keeps _ ts hg) fun _ q hq => zaw (list_keeps h _ q hq) fun l q hq => zaw (need_keeps _ q hq) fun _ q hq => ⟨List.suffix_refl _, hq⟩
theorem lift {α : Type} {r : Rd α} {ts : List Tok} (h : r.2 <:+ ts.tail ∧ Good r.2) : r.2 <:+ ts ∧ Good r.2 := ⟨h.1.trans (List.tail_suffix _), h.2⟩
theorem expr_keeps : ∀ k, Keeps (exprR k)
 | 0 => fun ts h => ⟨List.suffix_refl _, h⟩
 | k + 1 => by
  have ih := expr_keeps k
  intro ts h
  rw [exprR]
  split
  ·rename_i h1; exact lift (kids_keeps ih _ ts.tail (h.isT h1))
  ·split
   ·rename_i h1; exact lift (kids_keeps ih _ ts.tail (h.isT h1))
   ·split
    ·rename_i h1; exact lift (zaw (num_keeps ts.tail (h.isT h1)) fun m q hq => kids_keeps ih _ q hq)
    ·split
     ·rename_i h1; exact lift (zaw (ih ts.tail (h.isT h1)) fun f q hq => ⟨List.suffix_refl _, hq⟩)
     ·split
      ·rename_i h1; exact ⟨List.tail_suffix _, h.isT h1⟩
      ·split
       ·rename_i h1; exact ⟨List.tail_suffix _, h.isT h1⟩
       ·split
        ·rename_i h1; exact lift (zaw (ih ts.tail (h.isT h1)) fun f q hq => zaw (need_keeps _ q hq) fun _ q hq => ⟨List.suffix_refl _, hq⟩)
        ·exact cond_keeps ts h
open Lx (Tok)
theorem zca {s : Tx} {ts q : List Tok} {u : Unit} (h : needR s ts = (some u, q)) : q.length + 1 ≤ ts.length := by
 unfold needR at h
 split at h
 ·rename_i h1
  cases h
  cases ts with
  | nil => cases h1
  | cons t r => simp
 ·cases h
theorem name_eats {ts q : List Tok} {a : Tx} (h : nameR ts = (some a, q)) : q.length + 1 ≤ ts.length := by
 unfold nameR at h
 split at h
 ·rename_i h1
  cases h
  cases ts with
  | nil => cases h1
  | cons t r => simp
 ·cases h
theorem word_eats {ts q : List Tok} {a : Tx} (h : wordR ts = (some a, q)) : q.length + 1 ≤ ts.length := by
 unfold wordR at h
 split at h
 ·rename_i h1
  cases h
  cases ts with
  | nil => cases h1
  | cons t r => simp
 ·cases h
theorem num_eats {ts q : List Tok} {a : Int} (h : numR ts = (some a, q)) : q.length + 1 ≤ ts.length := by
 unfold numR at h
 split at h
 ·rename_i h1
  cases h
  cases ts with
  | nil => cases h1
  | cons t r => simp
 ·cases h
theorem zae {α β : Type} {r : Rd α} {f : α → List Tok → Rd β} {b : β} {q : List Tok} (h : r.then f = (some b, q)) : ∃ a p, r = (some a, p) ∧ f a p = (some b, q) := by
 obtain ⟨o, p⟩ := r
 cases o with
 | none => cases h
 | some a => exact ⟨a, p, rfl, h⟩
theorem pair_eats {s : Tx} {ts q : List Tok} {x : Tx × Tx} (h : pairR s ts = (some x, q)) : q.length + 1 ≤ ts.length := by
 obtain ⟨a, p, h1, h⟩ := zae h
 obtain ⟨u, p2, h2, h⟩ := zae h
 obtain ⟨b, p3, h3, h⟩ := zae h
 cases h
 have := name_eats h1
 have := zca h2
 have := name_eats h3
 omega
theorem zcu {ts q : List Tok} {n : Nd} (h : valueR ts = (some n, q)) : q.length + 1 ≤ ts.length := by
 unfold valueR at h
 split at h
 ·obtain ⟨x, p, h1, h⟩ := zae h
  cases h
  exact pair_eats h1
 ·split at h
  ·obtain ⟨x, p, h1, h⟩ := zae h
   cases h
   exact word_eats h1
  ·split at h
   ·obtain ⟨x, p, h1, h⟩ := zae h
    cases h
    exact num_eats h1
   ·cases h
theorem isT_len {s : Tx} {ts : List Tok} (h : isT s ts = true) : ts.tail.length + 1 = ts.length := by
 cases ts with
 | nil => cases h
 | cons t r => simp
theorem cmp_len {ts : List Tok} {k : Nat} (h : cmpOf ts = some k) : ts.tail.length + 1 = ts.length := by
 cases ts with
 | nil => cases h
 | cons t r => simp
theorem list_size {rd : List Tok → Rd F} (hr : ∀ ts q f, rd ts = (some f, q) → f.size + q.length ≤ ts.length) : ∀ k ts q l, listR rd k ts = (some l, q) → (F.cat l).size + q.length ≤ ts.length
 | 0, ts, q, l, h => by cases h
 | k + 1, ts, q, l, h => by
  rw [listR] at h
  obtain ⟨a, p, h1, h⟩ := zae h
  have h2 := hr _ _ _ h1
  split at h
  ·rename_i hc
   obtain ⟨l2, p2, h3, h⟩ := zae h
   have h4 := list_size hr k _ _ _ h3
   have h5 := isT_len hc
   cases h
   rw [F.cat, F.size_app]
   omega
  ·cases h
   rw [F.cat, F.cat, F.app_nil]
   exact h2
theorem leaf_size {ts q : List Tok} {f : F} (h : leafR ts = (some f, q)) : f.size + q.length ≤ ts.length := by
 obtain ⟨n, p, h1, h⟩ := zae h
 cases h
 have := zcu h1
 show 0 + 0 + 1 + _ ≤ _
 omega
theorem leaf1 (n : Nd) : (leaf n).size = 1 := rfl
theorem cond_size {ts q : List Tok} {f : F} (h : condR ts = (some f, q)) : f.size + q.length ≤ ts.length := by
 obtain ⟨a, p, h1, h⟩ := zae h
 have e1 := zcu h1
 split at h
 ·rename_i k hk
  obtain ⟨b, p2, h2, h⟩ := zae h
  cases h
  have e2 := zcu h2
  have e3 := cmp_len hk
  rw [F.size, F.size_app, leaf1, leaf1, F.size]
  omega
 ·split at h
  ·rename_i hb
   obtain ⟨b, p2, h2, h⟩ := zae h
   obtain ⟨u, p3, h3, h⟩ := zae h
   obtain ⟨c, p4, h4, h⟩ := zae h
   cases h
   have e2 := zcu h2
   have e3 := zca h3
   have e4 := zcu h4
   have e5 := isT_len hb
   rw [F.size, F.size_app, F.size_app, leaf1, leaf1, leaf1, F.size]
   omega
  ·split at h
   ·rename_i hb
    obtain ⟨u, p2, h2, h⟩ := zae h
    obtain ⟨l, p3, h3, h⟩ := zae h
    obtain ⟨u2, p4, h4, h⟩ := zae h
    cases h
    have e2 := zca h2
    have e3 := list_size (fun _ _ _ => leaf_size) _ _ _ _ h3
    have e4 := zca h4
    have e5 := isT_len hb
    rw [F.size, F.size_app, leaf1, F.size]
    omega
   ·cases h
theorem kids_size {rd : List Tok → Rd F} (hr : ∀ ts q f, rd ts = (some f, q) → f.size + q.length ≤ ts.length) {n : Nd} {ts q : List Tok} {f : F} (h : kidsR rd n ts = (some f, q)) : f.size + q.length ≤ ts.length := by
 obtain ⟨u, p2, h2, h⟩ := zae h
 obtain ⟨l, p3, h3, h⟩ := zae h
 obtain ⟨u2, p4, h4, h⟩ := zae h
 cases h
 have e2 := zca h2
 have e3 := list_size hr _ _ _ _ h3
 have e4 := zca h4
 rw [F.size, F.size]
 omega
theorem expr_size : ∀ k ts q f, exprR k ts = (some f, q) → f.size + q.length ≤ ts.length
 | 0, ts, q, f, h => by cases h
 | k + 1, ts, q, f, h => by
  have ih := expr_size k
  rw [exprR] at h
  split at h
  ·rename_i h1; have := kids_size ih h; have := isT_len h1; omega
  ·split at h
   ·rename_i h1; have := kids_size ih h; have := isT_len h1; omega
   ·split at h
    ·rename_i h1
     obtain ⟨m, p, h2, h⟩ := zae h
     have := kids_size ih h; have := isT_len h1; have := num_eats h2; omega
    ·split at h
     ·rename_i h1
      obtain ⟨g, p, h2, h⟩ := zae h
      have := ih _ _ _ h2
      have := isT_len h1
      cases h
      rw [F.size, F.size]
      omega
     ·split at h
      ·rename_i h1
       have := isT_len h1
       cases h
       rw [leaf1]
       omega
      ·split at h
       ·rename_i h1
        have := isT_len h1
        cases h
        rw [leaf1]
        omega
       ·split at h
        ·rename_i h1
         obtain ⟨g, p, h2, h⟩ := zae h
         obtain ⟨u, p2, h3, h⟩ := zae h
         have := ih _ _ _ h2
         have := isT_len h1
         have := zca h3
         cases h
         omega
        ·exact cond_size h
theorem dig_nat {c : UInt8} (h : Lx.isDig c = true) : 48 ≤ c.toNat ∧ c.toNat ≤ 57 := by
 unfold Lx.isDig at h
 simp only [Bool.and_eq_true, decide_eq_true_eq, UInt8.le_iff_toNat_le] at h
 exact h
def dvA (a : Nat) (l : Tx) : Nat := l.foldl (fun n c => 10 * n + (c.toNat - 48)) a
theorem dvA_le (l : Tx) : ∀ a, a ≤ dvA a l := by
 induction l with
 | nil => intro a; exact Nat.le_refl _
 | cons c m ih =>
  intro a
  have := ih (10 * a + (c.toNat - 48))
  show a ≤ dvA (10 * a + (c.toNat - 48)) m
  omega
theorem parse_dig : ∀ (l : Tx) (a : Nat), (∀ c ∈ l, Lx.isDig c = true) → dvA a l ≤ 2147483648 → Lib.parseUint10 a l = .ok (dvA a l)
 | [], a, _, _ => rfl
 | c :: m, a, h, hle => by
  have hc := dig_nat (h c (List.mem_cons_self ..))
  have h1 : dvA (10 * a + (c.toNat - 48)) m ≤ 2147483648 := hle
  have h2 := dvA_le m (10 * a + (c.toNat - 48))
  have ih := parse_dig m (10 * a + (c.toNat - 48)) (fun x hx => h x (List.mem_cons_of_mem _ hx)) h1
  rw [Lib.parseUint10, if_pos hc, if_neg (by omega), if_neg (by omega), Nat.mul_comm a 10, ih]
  rfl
theorem num_atoi {t : Tx} {neg : Bool} {d : Tx} (h : NumT t neg d) : Lib.atoiAll t = .ok (numV t) ∧ numV t = (if neg then -(Lx.dv d : Int) else (Lx.dv d : Int)) := by
 obtain ⟨he, hp, ha, hl⟩ := h
 have h3 : Lx.dv d ≤ 2147483648 := by cases neg <;> simp at hl <;> omega
 have hpd : Lib.parseMag d = .ok (Lx.dv d) := by
  unfold Lib.parseMag
  rw [if_neg (by intro h; rw [h] at hp; simp at hp), parse_dig d 0 ha h3]
  rfl
 cases neg with
 | true =>
  simp only [if_true] at he
  subst he
  refine ⟨?_, rfl⟩
  unfold Lib.atoiAll
  simp only [show (45 : UInt8).toNat = 45 from rfl, or_true, if_true, hpd]
  rw [if_neg (by omega), if_neg (by omega)]
  rfl
 | false =>
  simp only [Bool.false_eq_true, if_false] at he
  subst he
  cases t with
  | nil => simp at hp
  | cons c m =>
   have hc := dig_nat (ha c (List.mem_cons_self ..))
   have hne : c ≠ 45 := isDig_ne (ha c (List.mem_cons_self ..))
   have hv : numV (c :: m) = (Lx.dv (c :: m) : Int) := by rw [numV, if_neg hne]
   refine ⟨?_, by rw [hv]; rfl⟩
   rw [hv]
   rw [Lib.atoiAll_plain c m (by omega) (by omega), hpd, Lib.signless]
   rw [if_neg (by omega)]
theorem isWd_ne {c : UInt8} (h : Lx.isWd c = true) : c ≠ 39 := by rintro rfl; exact absurd h (by decide)
theorem word_mid {t w : Tx} (h : WordT t w) : t.tail.dropLast = w := by rw [h.eq]; simp
theorem word_trim {t w : Tx} (h : WordT t w) : Lib.trimB t 39 = w := by
 obtain ⟨he, ha, hp, hl⟩ := h
 subst he
 unfold Lib.trimB Lib.trimLeftB Lib.trimRightB
 have h1 : ∀ l : Tx, (∀ c ∈ l, Lx.isWd c = true) → 0 < l.length → ∀ r : Tx, (l ++ r).dropWhile (· == (39 : UInt8)) = l ++ r := by
  intro l hl h0 r
  cases l with
  | nil => simp at h0
  | cons c m =>
   rw [List.cons_append, List.dropWhile_cons, if_neg]
   have := isWd_ne (hl c (List.mem_cons_self ..))
   simpa using this
 have h2 : (39 :: (w ++ [39])).reverse = 39 :: (w.reverse ++ [39]) := by simp
 rw [h2, List.dropWhile_cons, if_pos (by decide), h1 w.reverse (fun c hc => ha c (List.mem_reverse.1 hc)) (by simpa using hp)]
 have h3 : (w.reverse ++ [39]).reverse = 39 :: w := by simp
 rw [h3, List.dropWhile_cons, if_pos (by decide)]
 have := h1 w ha hp []
 rwa [List.append_nil] at this
theorem num_bound {t : Tx} {neg : Bool} {d : Tx} (h : NumT t neg d) : -2147483648 ≤ numV t ∧ numV t ≤ 2147483647 := by
 have h1 := (num_atoi h).2
 have h2 := h.le
 cases neg <;> simp at h1 h2 <;> omega
open Lx (Tok)
def F.Ev (p : Nd → Prop) : F → Prop
 | .nil => True
 | .cons n k r => p n ∧ k.Ev p ∧ r.Ev p
theorem F.ev_app {p : Nd → Prop} {f g : F} (hf : f.Ev p) (hg : g.Ev p) : (f.app g).Ev p := by
 induction f with
 | nil => exact hg
 | cons n k r _ ih => exact ⟨hf.1, hf.2.1, ih hf.2.2⟩
theorem F.ev_cat {p : Nd → Prop} : ∀ {l : List F}, (∀ f ∈ l, f.Ev p) → (F.cat l).Ev p
 | [], _ => trivial
 | f :: l, h => F.ev_app (h f (List.mem_cons_self ..)) (F.ev_cat fun g hg => h g (List.mem_cons_of_mem _ hg))
theorem F.ev_num {p : Nd → Prop} (f : F) : ∀ a, f.Ev p → ∀ x ∈ f.num a, p x.1 := by
 induction f with
 | nil => intro a _ x hx; cases hx
 | cons n k r ih1 ih2 =>
  intro a h x hx
  rw [F.num] at hx
  rcases List.mem_cons.1 hx with rfl | hx
  ·exact h.1
  ·rcases List.mem_append.1 hx with hx | hx
   ·exact ih1 _ h.2.1 x hx
   ·exact ih2 _ h.2.2 x hx
theorem F.len_size (f : F) : f.len ≤ f.size := by
 induction f with
 | nil => exact Nat.le_refl 0
 | cons n k r _ ih => rw [F.len, F.size]; omega
theorem F.num_kids (f : F) : ∀ a, ∀ x ∈ f.num a, x.2.length ≤ f.size := by
 induction f with
 | nil => intro a x hx; cases hx
 | cons n k r ih1 ih2 =>
  intro a x hx
  rw [F.num] at hx
  rw [F.size]
  rcases List.mem_cons.1 hx with rfl | hx
  ·show (k.idx (a + 1)).length ≤ _
   rw [F.idx_len]
   have := k.len_size
   omega
  ·rcases List.mem_append.1 hx with hx | hx
   ·have := ih1 _ x hx; omega
   ·have := ih2 _ x hx; omega
def NdB (n : Nd) : Prop := n.name.length ≤ 32 ∧ n.attr.length ≤ 32
def Gd {α : Type} (rd : List Tok → Rd α) (Q : α → Prop) : Prop := ∀ ts q a, Good ts → rd ts = (some a, q) → Q a ∧ Good q
theorem name_gd : Gd nameR fun a => a.length ≤ 32 := by
 intro ts q a hg h
 have hk := (name_keeps ts hg).2
 rw [h] at hk
 refine ⟨?_, hk⟩
 unfold nameR at h
 split at h
 ·rename_i h1
  cases h
  cases ts with
  | nil => cases h1
  | cons t r =>
   have h2 : t.kind = 0 ∧ isW (t :: r) = false := by simpa [isN] using h1
   cases hg.fine t (List.mem_cons_self ..) with
   | word w hk h =>
    exfalso
    have := h2.2
    rw [isW, hk, h.eq] at this
    simp at this
   | name hk h => exact h.le
   | num neg d hk h => omega
   | sign hk h => omega
   | end_ hk h => omega
 ·cases h
theorem word_gd : Gd wordR fun a => a.length ≤ 32 := by
 intro ts q a hg h
 have hk := (word_keeps ts hg).2
 rw [h] at hk
 refine ⟨?_, hk⟩
 unfold wordR at h
 split at h
 ·rename_i h1
  cases h
  cases ts with
  | nil => cases h1
  | cons t r =>
   have h2 : t.kind = 0 ∧ t.text.head? = some 39 := by simpa [isW] using h1
   cases hg.fine t (List.mem_cons_self ..) with
   | word w hk h =>
    show t.text.tail.dropLast.length ≤ 32
    rw [h.eq]
    have := h.le
    simp; omega
   | name hk h =>
    exfalso
    obtain ⟨c, m, h3, h4⟩ := h.fst
    have h5 := h2.2
    rw [h3] at h5
    simp at h5
    subst h5
    exact absurd h4 (by decide)
   | num neg d hk h => omega
   | sign hk h => omega
   | end_ hk h => omega
 ·cases h
theorem num_gd : Gd numR fun a => -2147483648 ≤ a ∧ a ≤ 2147483647 := by
 intro ts q a hg h
 have hk := (num_keeps ts hg).2
 rw [h] at hk
 refine ⟨?_, hk⟩
 unfold numR at h
 split at h
 ·rename_i h1
  cases h
  cases ts with
  | nil => cases h1
  | cons t r =>
   have h2 : t.kind = 1 := by simpa [isM] using h1
   cases hg.fine t (List.mem_cons_self ..) with
   | num neg d hk h => exact num_bound h
   | word w hk h => omega
   | name hk h => omega
   | sign hk h => omega
   | end_ hk h => omega
 ·cases h
theorem zcq (s : Tx) : Gd (needR s) fun _ => True := by
 intro ts q a hg h
 have hk := (need_keeps s ts hg).2
 rw [h] at hk
 exact ⟨trivial, hk⟩
theorem pair_gd (s : Tx) : Gd (pairR s) fun x => x.1.length ≤ 32 ∧ x.2.length ≤ 32 := by
 intro ts q x hg h
 obtain ⟨a, p, h1, h⟩ := zae h
 obtain ⟨u, p2, h2, h⟩ := zae h
 obtain ⟨b, p3, h3, h⟩ := zae h
 cases h
 have g1 := name_gd _ _ _ hg h1
 have g2 := zcq s _ _ _ g1.2 h2
 have g3 := name_gd _ _ _ g2.2 h3
 exact ⟨⟨g1.1, g3.1⟩, g3.2⟩
theorem list_gd {α : Type} {rd : List Tok → Rd α} {Q : α → Prop} (h : Gd rd Q) : ∀ k, Gd (listR rd k) fun l => l.length ≤ k ∧ ∀ a ∈ l, Q a
 | 0 => fun ts q l hg h => by cases h
 | k + 1 => fun ts q l hg hl => by
  obtain ⟨a, p, h1, hl⟩ := zae hl
  have g1 := h _ _ _ hg h1
  split at hl
  ·rename_i hc
   obtain ⟨m, p2, h2, hl⟩ := zae hl
   cases hl
   have g2 := list_gd h k _ _ _ (g1.2.isT hc) h2
   refine ⟨⟨by simpa using g2.1.1, fun x hx => ?_⟩, g2.2⟩
   rcases List.mem_cons.1 hx with rfl | hx
   ·exact g1.1
   ·exact g2.1.2 x hx
  ·cases hl
   refine ⟨⟨by simp, fun x hx => ?_⟩, g1.2⟩
   rw [List.mem_singleton.1 hx]; exact g1.1
theorem value_gd : Gd valueR NdB := by
 intro ts q n hg h
 unfold valueR at h
 split at h
 ·obtain ⟨x, p, h1, h⟩ := zae h
  have g1 := pair_gd _ _ _ _ hg h1
  cases h
  exact ⟨g1.1, g1.2⟩
 ·split at h
  ·obtain ⟨x, p, h1, h⟩ := zae h
   have g1 := word_gd _ _ _ hg h1
   cases h
   exact ⟨⟨g1.1, Nat.zero_le _⟩, g1.2⟩
  ·split at h
   ·obtain ⟨x, p, h1, h⟩ := zae h
    have g1 := num_gd _ _ _ hg h1
    cases h
    exact ⟨⟨Nat.zero_le _, Nat.zero_le _⟩, g1.2⟩
   ·cases h
theorem zcr {p : Nd → Prop} {n : Nd} (h : p n) : (leaf n).Ev p := ⟨h, trivial, trivial⟩
theorem leaf_gd : Gd leafR (F.Ev NdB) := by
 intro ts q f hg h
 obtain ⟨x, p, h1, h⟩ := zae h
 have g1 := value_gd _ _ _ hg h1
 cases h
 exact ⟨zcr g1.1, g1.2⟩
theorem ndb0 (k : Nat) (m : Int) (a : Nat) : NdB ⟨k, m, [], [], a⟩ := ⟨Nat.zero_le _, Nat.zero_le _⟩
theorem cond_gd : Gd condR (F.Ev NdB) := by
 intro ts q f hg h
 obtain ⟨x, p, h1, h⟩ := zae h
 have g1 := value_gd _ _ _ hg h1
 split at h
 ·rename_i k hk
  obtain ⟨b, p2, h2, h⟩ := zae h
  have g2 := value_gd _ _ _ (g1.2.cmp hk) h2
  cases h
  exact ⟨⟨ndb0 _ _ _, F.ev_app (zcr g1.1) (zcr g2.1), trivial⟩, g2.2⟩
 ·split at h
  ·rename_i hk
   obtain ⟨b, p2, h2, h⟩ := zae h
   have g2 := value_gd _ _ _ (g1.2.isT hk) h2
   obtain ⟨u, p3, h3, h⟩ := zae h
   have g3 := zcq _ _ _ _ g2.2 h3
   obtain ⟨c, p4, h4, h⟩ := zae h
   have g4 := value_gd _ _ _ g3.2 h4
   cases h
   exact ⟨⟨ndb0 _ _ _, F.ev_app (zcr g1.1) (F.ev_app (zcr g2.1) (zcr g4.1)), trivial⟩, g4.2⟩
  ·split at h
   ·rename_i hk
    obtain ⟨u, p2, h2, h⟩ := zae h
    have g2 := zcq _ _ _ _ (g1.2.isT hk) h2
    obtain ⟨l, p3, h3, h⟩ := zae h
    have g3 := list_gd leaf_gd _ _ _ _ g2.2 h3
    obtain ⟨v, p4, h4, h⟩ := zae h
    have g4 := zcq _ _ _ _ g3.2 h4
    cases h
    exact ⟨⟨ndb0 _ _ _, F.ev_app (zcr g1.1) (F.ev_cat g3.1.2), trivial⟩, g4.2⟩
   ·cases h
theorem kids_gd {rd : List Tok → Rd F} (h : Gd rd (F.Ev NdB)) (k : Nat) (m : Int) (a : Nat) : Gd (kidsR rd ⟨k, m, [], [], a⟩) (F.Ev NdB) := by
 intro ts q f hg hf
 obtain ⟨u, p2, h2, hf⟩ := zae hf
 have g2 := zcq _ _ _ _ hg h2
 obtain ⟨l, p3, h3, hf⟩ := zae hf
 have g3 := list_gd h _ _ _ _ g2.2 h3
 obtain ⟨v, p4, h4, hf⟩ := zae hf
 have g4 := zcq _ _ _ _ g3.2 h4
 cases hf
 exact ⟨⟨ndb0 _ _ _, F.ev_cat g3.1.2, trivial⟩, g4.2⟩
theorem expr_gd : ∀ k, Gd (exprR k) (F.Ev NdB)
 | 0 => fun ts q f hg h => by cases h
 | k + 1 => by
  have ih := expr_gd k
  intro ts q f hg h
  rw [exprR] at h
  split at h
  ·rename_i h1; exact kids_gd ih _ _ _ _ _ _ (hg.isT h1) h
  ·split at h
   ·rename_i h1; exact kids_gd ih _ _ _ _ _ _ (hg.isT h1) h
   ·split at h
    ·rename_i h1
     obtain ⟨m, p, h2, h⟩ := zae h
     exact kids_gd ih _ _ _ _ _ _ (num_gd _ _ _ (hg.isT h1) h2).2 h
    ·split at h
     ·rename_i h1
      obtain ⟨g, p, h2, h⟩ := zae h
      have g2 := ih _ _ _ (hg.isT h1) h2
      cases h
      exact ⟨⟨ndb0 _ _ _, g2.1, trivial⟩, g2.2⟩
     ·split at h
      ·rename_i h1; cases h; exact ⟨zcr (ndb0 _ _ _), hg.isT h1⟩
      ·split at h
       ·rename_i h1; cases h; exact ⟨zcr (ndb0 _ _ _), hg.isT h1⟩
       ·split at h
        ·rename_i h1
         obtain ⟨g, p, h2, h⟩ := zae h
         have g2 := ih _ _ _ (hg.isT h1) h2
         obtain ⟨u, p3, h3, h⟩ := zae h
         have g3 := zcq _ _ _ _ g2.2 h3
         cases h
         exact ⟨g2.1, g3.2⟩
        ·exact cond_gd _ _ _ hg h
structure PlB (n : Nat) (p : Pl) : Prop where
 name : p.name.length ≤ 32
 scope : p.scope.length ≤ 32
 escrow : p.escrow.length ≤ 32
 ul : p.uses.length ≤ n
 rl : p.reveal.length ≤ n
 us : ∀ x ∈ p.uses, x.1.length ≤ 32 ∧ x.2.length ≤ 32
 rv : ∀ x ∈ p.reveal, x.1.length ≤ 32 ∧ x.2.length ≤ 32
 sz : p.root.size ≤ n
 ev : p.root.Ev NdB
theorem reveal_gd (n : Nat) : ∀ ts q l, Good ts → ts.length ≤ n → revealR ts = (some l, q) → (l.length ≤ n ∧ ∀ x ∈ l, x.1.length ≤ 32 ∧ x.2.length ≤ 32) ∧ Good q := by
 intro ts q l hg hn h
 unfold revealR at h
 split at h
 ·rename_i h1
  have g := list_gd (pair_gd sDot) _ _ _ _ (hg.isT h1) h
  exact ⟨⟨Nat.le_trans g.1.1 hn, g.1.2⟩, g.2⟩
 ·cases h
  exact ⟨⟨Nat.zero_le _, fun x hx => by cases hx⟩, hg⟩
theorem prove_gd : ∀ ts q f, Good ts → proveR ts = (some f, q) → f.size ≤ ts.length ∧ f.Ev NdB ∧ Good q := by
 intro ts q f hg h
 unfold proveR at h
 split at h
 ·rename_i h1
  have g := expr_gd _ _ _ _ (hg.isT h1) h
  have h2 := expr_size _ _ _ _ h
  have h3 := isT_len h1
  exact ⟨by omega, g⟩
 ·cases h
  have := List.length_pos_iff.2 hg.ne
  exact ⟨by rw [leaf1]; omega, zcr (ndb0 _ _ _), hg⟩
theorem scope_gd : Gd scopeR fun s => s.1.length ≤ 32 := by
 intro ts q s hg h
 unfold scopeR at h
 split at h
 ·rename_i h1
  obtain ⟨w, p, h2, h⟩ := zae h
  have g2 := word_gd _ _ _ (hg.isT h1) h2
  split at h
  ·rename_i h3
   obtain ⟨m, p3, h4, h⟩ := zae h
   have g4 := num_gd _ _ _ (g2.2.isT h3) h4
   cases h
   exact ⟨g2.1, g4.2⟩
  ·cases h
   exact g2
 ·cases h
  exact ⟨Nat.zero_le _, hg⟩
theorem escrow_gd : Gd escrowR fun s => s.length ≤ 32 := by
 intro ts q s hg h
 unfold escrowR at h
 split at h
 ·rename_i h1; exact name_gd _ _ _ (hg.isT h1) h
 ·cases h
  exact ⟨Nat.zero_le _, hg⟩
theorem suf_len {α : Type} {rd : List Tok → Rd α} (hk : Keeps rd) {ts q : List Tok} {o : Option α} (hg : Good ts) (h : rd ts = (o, q)) : q.length ≤ ts.length := by
 have := (hk ts hg).1.length_le
 rw [h] at this
 exact this
theorem reveal_keeps : Keeps revealR := by
 intro ts h
 unfold revealR
 split
 ·rename_i h1; exact lift (list_keeps (pair_keeps sDot) _ ts.tail (h.isT h1))
 ·exact ⟨List.suffix_refl _, h⟩
theorem policy_gd {ts q : List Tok} {p : Pl} (hg : Good ts) (h : policyR ts = (some p, q)) : PlB ts.length p ∧ Good q := by
 obtain ⟨u1, q1, h1, h⟩ := zae h
 have g1 := zcq _ _ _ _ hg h1
 have l1 := suf_len (need_keeps _) hg h1
 obtain ⟨nm, q2, h2, h⟩ := zae h
 have g2 := name_gd _ _ _ g1.2 h2
 have l2 := suf_len name_keeps g1.2 h2
 obtain ⟨u3, q3, h3, h⟩ := zae h
 have g3 := zcq _ _ _ _ g2.2 h3
 have l3 := suf_len (need_keeps _) g2.2 h3
 obtain ⟨us, q4, h4, h⟩ := zae h
 have g4 := list_gd (pair_gd sColon) _ _ _ _ g3.2 h4
 have l4 := suf_len (list_keeps (pair_keeps sColon) _) g3.2 h4
 obtain ⟨rv, q5, h5, h⟩ := zae h
 have g5 := reveal_gd q4.length _ _ _ g4.2 (Nat.le_refl _) h5
 have l5 := suf_len reveal_keeps g4.2 h5
 obtain ⟨f, q6, h6, h⟩ := zae h
 have g6 := prove_gd _ _ _ g5.2 h6
 obtain ⟨s, q7, h7, h⟩ := zae h
 have g7 := scope_gd _ _ _ g6.2.2 h7
 obtain ⟨x, q8, h8, h⟩ := zae h
 have g8 := escrow_gd _ _ _ g7.2 h8
 obtain ⟨u9, q9, h9, h⟩ := zae h
 have g9 := zcq _ _ _ _ g8.2 h9
 split at h
 ·cases h
  exact ⟨⟨g2.1, g7.1, g8.1, Nat.le_trans g4.1.1 (by omega), Nat.le_trans g5.1.1 (by omega), g4.1.2, g5.1.2, Nat.le_trans g6.1 (by omega), g6.2.1⟩, g9.2⟩
 ·cases h
open Lx (Tok)
def er (t : Tok) : Tok := ⟨t.kind, t.text, 0⟩
def Nd.er (n : Nd) : Nd := ⟨n.kind, n.num, n.name, n.attr, 0⟩
def F.er : F → F
 | .nil => .nil
 | .cons n k r => .cons n.er k.er r.er
theorem F.er_app (f g : F) : (f.app g).er = f.er.app g.er := by
 induction f with
 | nil => rfl
 | cons n k r _ ih => show F.cons _ _ (r.app g).er = F.cons _ _ (r.er.app g.er); rw [ih]
theorem F.er_size (f : F) : f.er.size = f.size := by
 induction f with
 | nil => rfl
 | cons n k r ih1 ih2 => show k.er.size + r.er.size + 1 = k.size + r.size + 1; rw [ih1, ih2]
def Rd.er {α : Type} (E : α → α) (r : Rd α) : Rd α := (r.1.map E, r.2.map Pa.er)
def Pl.er (p : Pl) : Pl := ⟨p.name, p.uses, p.reveal, p.scope, p.limit, p.escrow, p.root.er⟩
open Lx (Tok)
def Lc (t : Tok) (r r' : List Tok) {α : Type} (x x' : Rd α) : Prop := ∀ o vs, x = (o, vs ++ t :: r) → x' = (o, vs ++ t :: r')
section
variable {t : Tok} {r r' : List Tok} {α β : Type}
theorem Lc.tail {rd rd' : List Tok → Rd α} (us : List Tok) (hk : Keeps rd) (hg : Good (us ++ t :: r).tail) (h : ∀ u w, us = u :: w → Lc t r r' (rd (w ++ t :: r)) (rd' (w ++ t :: r'))) : Lc t r r' (rd (us ++ t :: r).tail) (rd' (us ++ t :: r').tail) := by
 cases us with
 | nil =>
  intro o vs h1
  have h2 := (hk _ hg).1
  rw [h1] at h2
  have := h2.length_le
  simp at this
  omega
 | cons u us => exact h u us rfl
def endR (p : Pl) (q : List Tok) : Rd Pl := if isE q then (some p, q) else (none, q)
def p6 (nm : Tx) (us : List (Tx × Tx)) (rv : List (Tx × Tx)) (f : F) (s : Tx × Int) (x : Tx) (q : List Tok) : Rd Pl := (needR kEnd q).then fun _ q => endR ⟨nm, us, rv, s.1, s.2, x, f⟩ q
def p5 (nm : Tx) (us : List (Tx × Tx)) (rv : List (Tx × Tx)) (f : F) (s : Tx × Int) (q : List Tok) : Rd Pl := (escrowR q).then fun x q => p6 nm us rv f s x q
def p4 (nm : Tx) (us : List (Tx × Tx)) (rv : List (Tx × Tx)) (f : F) (q : List Tok) : Rd Pl := (scopeR q).then fun s q => p5 nm us rv f s q
def p3 (nm : Tx) (us : List (Tx × Tx)) (rv : List (Tx × Tx)) (q : List Tok) : Rd Pl := (proveR q).then fun f q => p4 nm us rv f q
def p2 (nm : Tx) (us : List (Tx × Tx)) (q : List Tok) : Rd Pl := (revealR q).then fun rv q => p3 nm us rv q
def p1 (nm : Tx) (q : List Tok) : Rd Pl := (listR (pairR sColon) q.length q).then fun us q => p2 nm us q
def p0 (nm : Tx) (q : List Tok) : Rd Pl := (needR kUses q).then fun _ q => p1 nm q
theorem policy_p (ts : List Tok) : policyR ts = (needR kPolicy ts).then fun _ q => (nameR q).then fun nm q => p0 nm q := rfl
end
end Go.Proofs.YtekkapgknohadaaGreatDoor.Pa
