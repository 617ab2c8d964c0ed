/-
  Small lemmas for the ends of walks, over any program.
-/
import Derived.Test.YtogmhaihmkcjgaaGreatDoorRows
import Derived.WalkKit
import Derived.WalkSpells
import Derived.WalkLawsBesides
import Derived.Lib.Hide
import Derived.IntWalk
import Derived.Test.YtogmhaihmkcjgaaGreatDoorNum
namespace Go.Proofs.YtogmhaihmkcjgaaGreatDoor
open Go.RowKit

theorem ret_int {k : IntKind} {a b : Int} (h : a = b) : Ending.returned (.int k a) = .returned (.int k b) := by rw [h]
theorem ret_bool {a b : Bool} (h : a = b) : Ending.returned (.bool a) = .returned (.bool b) := by rw [h]
theorem ret_val {a b : Value} (h : a = b) : Ending.returned a = .returned b := by rw [h]
theorem ret_two {a b a' b' : Value} (h : a = a') (h' : b = b') : Ending.returned (.tuple #[a, b]) = .returned (.tuple #[a', b']) := by rw [h, h']
theorem ret_three {a b c a' b' c' : Value} (h : a = a') (h' : b = b') (h'' : c = c') : Ending.returned (.tuple #[a, b, c]) = .returned (.tuple #[a', b', c']) := by rw [h, h', h'']
theorem val_int {k : IntKind} {a b : Int} (h : a = b) : Value.int k a = .int k b := by rw [h]
theorem val_bool {a b : Bool} (h : a = b) : Value.bool a = .bool b := by rw [h]

/-- a string of bytes -/
def bs (l : List UInt8) : ByteArray := ⟨l.toArray⟩
abbrev Sv (l : List UInt8) : Value := .string (bs l)
abbrev tl (s : ByteArray) : List UInt8 := s.data.toList
theorem tl_bs (l : List UInt8) : tl (bs l) = l := by simp [tl, bs]
theorem bs_tl (s : ByteArray) : bs (tl s) = s := by cases s; simp [tl, bs]
theorem size_bs (l : List UInt8) : (bs l).size = l.length := by show l.toArray.size = l.length; simp
theorem length_tl (s : ByteArray) : (tl s).length = s.size := by show s.data.toList.length = s.data.size; simp
theorem sv_of (s : ByteArray) : Value.string s = Sv (tl s) := by rw [Sv, bs_tl]
theorem val_sv {l m : List UInt8} (h : l = m) : Sv l = Sv m := by rw [h]
theorem bs_inj {l m : List UInt8} : bs l = bs m ↔ l = m := ⟨fun h => by rw [← tl_bs l, h, tl_bs], fun h => by rw [h]⟩
theorem tl_getElem (s : ByteArray) (i : Nat) (h : i < s.size) : (tl s)[i]'(by rw [length_tl]; exact h) = s[i] := by
  cases s; simp [tl]; rfl
theorem tl_cons (s : ByteArray) (h : 0 < s.size) : tl s = s[0] :: (tl s).tail := by
  obtain ⟨c, m, e⟩ := List.exists_cons_of_length_pos (show 0 < (tl s).length by rw [length_tl]; exact h)
  have h2 := tl_getElem s 0 h
  simp only [e, List.getElem_cons_zero] at h2
  rw [e, h2]; rfl
theorem take_snoc (s : ByteArray) (k : Nat) (h : k < s.size) : (tl s).take (k + 1) = (tl s).take k ++ [s[k]] := by
  rw [List.take_succ_eq_append_getElem (by rw [length_tl]; exact h), tl_getElem s k h]

theorem toList_tl (s : ByteArray) : s.toList = tl s := ByteArray.toList_eq s
theorem tl_empty {s : ByteArray} (h : s.size = 0) : tl s = [] := List.eq_nil_of_length_eq_zero (by rw [length_tl]; exact h)
theorem str_empty {s : ByteArray} (h : s.size = 0) : s.toList.isEmpty = true ∧ s.toList = [] := by
  rw [toList_tl, tl_empty h]; exact ⟨rfl, rfl⟩
theorem str_full {s : ByteArray} (h : 0 < s.size) : s.toList.isEmpty = false ∧ ¬ s.toList = [] := by
  rw [toList_tl, tl_cons s h]; simp
theorem eq_of_tl {s t : ByteArray} (h : tl s = tl t) : s = t := by rw [← bs_tl s, h, bs_tl]

/-- block g is just the cells cs, of element type t, none of them frozen -/
def Blk (w : World) (g : Nat) (t : TypeId) (cs : List Value) : Prop := w.heap[g]? = some (.cells cs.toArray t (0, 0))
theorem Blk.lt {w : World} {g : Nat} {t : TypeId} {cs : List Value} (h : Blk w g t cs) : g < w.heap.size := by
  rcases Nat.lt_or_ge g w.heap.size with hlt | hge
  · exact hlt
  · unfold Blk at h; rw [Array.getElem?_eq_none hge] at h; cases h
theorem Blk.cell {w : World} {g : Nat} {t : TypeId} {cs : List Value} (h : Blk w g t cs) (i : Nat) : w.cell? ⟨g, i, none⟩ = cs[i]? := by
  unfold Blk at h
  simp [World.cell?, h]
theorem Blk.frozen {w : World} {g : Nat} {t : TypeId} {cs : List Value} (h : Blk w g t cs) (i : Nat) : w.frozen? ⟨g, i, none⟩ = false := by
  unfold Blk at h
  simp [World.frozen?, h]
theorem Blk.new (w : World) (t : TypeId) (cs : List Value) : Blk (w.alloc (.cells cs.toArray t)) w.heap.size t cs := by
  unfold Blk; exact heap_alloc_new w _
theorem Blk.drew {w : World} {g : Nat} {t : TypeId} {cs : List Value} (h : Blk w g t cs) : Blk w.drew g t cs := h
theorem Blk.alloc {w : World} {g : Nat} {t : TypeId} {cs : List Value} (h : Blk w g t cs) (o : Obj) : Blk (w.alloc o) g t cs := (Below.heap_alloc w o g h.lt).trans h
theorem Blk.set_ {w : World} {g : Nat} {t : TypeId} {cs : List Value} (h : Blk w g t cs) (i : Nat) (u : Value) : Blk (w.setCell ⟨g, i, none⟩ u) g t (cs.set i u) := by
  unfold Blk at h ⊢
  simp [World.setCell, Array.getElem?_modify, h]
theorem Blk.far {w : World} {g : Nat} {t : TypeId} {cs : List Value} (h : Blk w g t cs) {p : Addr} (hp : g ≠ p.block) (u : Value) : Blk (w.setCell p u) g t cs := (Below.heap_setCell w p u g hp).trans h
theorem Blk.below {w w' : World} {g : Nat} {t : TypeId} {cs : List Value} {B : Nat} (h : Blk w g t cs) (hb : Below B w w') (hg : g < B) : Blk w' g t cs := (hb.block g hg).trans h
/-- bytes as cells -/
def bvs (l : List UInt8) : List Value := l.map fun b => .int .u8 (b.toNat : Int)
theorem bvs_at {l : List UInt8} {i : Nat} (h : i < l.length) : (bvs l)[i]? = some (.int .u8 (l[i].toNat : Int)) := by simp [bvs, h]
theorem bvs_set (l : List UInt8) (i : Nat) (b : UInt8) : (bvs l).set i (.int .u8 (b.toNat : Int)) = bvs (l.set i b) := by simp [bvs, List.map_set]

/-- two blocks of the call's own: g (c1) is read, b (c2) is written last -/
structure Stg (w : World) (g : Nat) (t1 : TypeId) (c1 : List Value) (b : Nat) (t2 : TypeId) (c2 : List Value) (W : World) : Prop where
  b1 : Blk W g t1 c1
  b2 : Blk W b t2 c2
  ne : g ≠ b
  hb : w.heap.size ≤ b
  below : Below w.heap.size w W
theorem Stg.next {w : World} {g : Nat} {t1 : TypeId} {c1 : List Value} {b : Nat} {t2 : TypeId} {c2 : List Value} {W W' : World} (h : Stg w g t1 c1 b t2 c2 W) (hb : Below W.heap.size W W') : Stg w g t1 c1 b t2 c2 W' :=
  ⟨h.b1.below hb h.b1.lt, h.b2.below hb h.b2.lt, h.ne, h.hb, h.below.trans (hb.mono h.below.size)⟩
theorem Stg.drew {w : World} {g : Nat} {t1 : TypeId} {c1 : List Value} {b : Nat} {t2 : TypeId} {c2 : List Value} {W : World} (h : Stg w g t1 c1 b t2 c2 W) : Stg w g t1 c1 b t2 c2 W.drew :=
  ⟨h.b1, h.b2, h.ne, h.hb, h.below.drew⟩
theorem Stg.make {w w1 : World} {b : Nat} {t2 : TypeId} {c2 : List Value} (h : Blk w1 b t2 c2) (hb : w.heap.size ≤ b) (hbe : Below w.heap.size w w1) (t1 : TypeId) (c1 : List Value) :
    Stg w w1.heap.size t1 c1 b t2 c2 (w1.alloc (.cells c1.toArray t1)) :=
  ⟨Blk.new _ _ _, h.alloc _, by have := h.lt; omega, hb, hbe.alloc hbe.size _⟩
theorem Stg.mk2 {w w1 : World} {g : Nat} {t1 : TypeId} {c1 : List Value} {b : Nat} {t2 : TypeId} {c2 : List Value} (h1 : Blk w1 g t1 c1) (h : Blk w1 b t2 c2) (hne : g ≠ b) (hb : w.heap.size ≤ b) (hbe : Below w.heap.size w w1) : Stg w g t1 c1 b t2 c2 w1 :=
  ⟨h1, h, hne, hb, hbe⟩
theorem Blk.get2 {W : World} {g : Nat} {t : TypeId} {x y : Value} (h : Blk W g t [x, y]) : W.cell? ⟨g, 0, none⟩ = some x ∧ W.cell? ⟨g, 1, none⟩ = some y := ⟨h.cell 0, h.cell 1⟩
theorem Blk.get3 {W : World} {g : Nat} {t : TypeId} {x y z : Value} (h : Blk W g t [x, y, z]) : W.cell? ⟨g, 0, none⟩ = some x ∧ W.cell? ⟨g, 1, none⟩ = some y ∧ W.cell? ⟨g, 2, none⟩ = some z := ⟨h.cell 0, h.cell 1, h.cell 2⟩
theorem bcell {B : Nat} {W w1 : World} (hb : Below B W w1) : (∀ b o, b < B → w1.cell? ⟨b, o, none⟩ = W.cell? ⟨b, o, none⟩) ∧ (∀ b o, b < B → w1.frozen? ⟨b, o, none⟩ = W.frozen? ⟨b, o, none⟩) :=
  ⟨fun b o h => hb.cell (p := ⟨b, o, none⟩) h, fun b o h => hb.frozen (p := ⟨b, o, none⟩) h⟩
theorem wrap64_u8 (c : UInt8) : wrap64 (c.toNat : Int) = (c.toNat : Int) := by
  have := c.toNat_lt
  exact IntWalk.wrap64_in _ ⟨by omega, by omega⟩
theorem still_of {P : Program} {f : FuncId} {args : Array Value} {w : World} {v : Value} (h : Calls P f args w fun e w' => e = .returned v ∧ w = w') : Calls P f args w fun e w'' => e = .returned v ∧ w'' = w := h.mono fun _ _ ⟨a, b⟩ => ⟨a, b.symm⟩
end Go.Proofs.YtogmhaihmkcjgaaGreatDoor
