/-
  Formulas and lists of Booleans that come in, as data.
-/
import Derived.Test.YteaaeaimjbaomaaDoorFmC
import Derived.Test.YteaaeaimjbaomaaDoorPostB
import Derived.Lib.SmallJoins
import Derived.Deep.Slices
import Derived.Deep.Fields
import Derived.ChangeSame
namespace Go.Proofs.YteaaeaimjbaomaaDoor
open Go.RowKit Go.ChangeShapes Go.WideShapes Go.Deep Go.Joins
set_option linter.unusedVariables false

theorem choose_list {α : Type} {R : Nat → α → Prop} : ∀ (n : Nat), (∀ i, i < n → ∃ x, R i x) → ∃ l : List α, l.length = n ∧ ∀ i x, l[i]? = some x → R i x
  | 0, _ => ⟨[], rfl, fun i x h => by simp at h⟩
  | n + 1, h => by
    obtain ⟨l, h1, h2⟩ := choose_list n (fun i hi => h i (by omega))
    obtain ⟨x, hx⟩ := h n (by omega)
    refine ⟨l ++ [x], by simp [h1], fun i y hy => ?_⟩
    rcases Nat.lt_or_ge i l.length with hl | hl
    · rw [List.getElem?_append_left hl] at hy; exact h2 i y hy
    · rw [List.getElem?_append_right hl] at hy
      rcases Nat.eq_zero_or_pos (i - l.length) with h0 | h0
      · rw [h0] at hy
        cases hy
        rw [show i = n by omega]; exact hx
      · rw [List.getElem?_eq_none (by simp; omega)] at hy; cases hy
theorem cell_lt {W : World} {a : Addr} {v : Value} (h : W.cell? a = some v) : a.block < W.heap.size := by
  rcases Nat.lt_or_ge a.block W.heap.size with h1 | h1
  · exact h1
  · unfold World.cell? at h
    rw [Array.getElem?_eq_none h1] at h
    cases h
section
variable {H : Type} {enc : TypeId × Value → H} {W : World} {base : Nat} {spare : Nat → Bool} {held : Bool}
theorem open_ints {fuel : Nat} {cs : List Value} {x : DataW H × List MemPlace} (h : DataW.trod enc Tryd.prog W base spare held fuel 38 cs = some x) : ∃ A c l, cs = [.slice A l.length c] ∧ Ints W W.heap.size A l := by
  rcases open_slice Tryd.underlying38 h with ⟨rfl, _⟩ | ⟨a, len, cap, m, n, D, Pl, rfl, hb, hl, hm, hmm, hx, hi⟩
  · exact ⟨none, 0, [], rfl, ⟨fun h => absurd rfl h⟩⟩
  · obtain ⟨l, h1, h2⟩ := choose_list (R := fun i (z : Int) => W.cell? (a.add i) = some (.int .i64 z)) len (fun i hi' => by
      obtain ⟨cs', hc, ht⟩ := hi i (by rw [hmm]; split <;> omega)
      obtain ⟨z, rfl, -, -⟩ := DataW.trod_int Tryd.underlying3 ht
      have hcl : Tryd.prog.cellsOf 3 = 1 := by kernel_rfl
      rw [hcl] at hc
      obtain ⟨_, _, hat⟩ := World.cells?_some hc
      refine ⟨z, ?_⟩
      have h9 := hat 0 (by omega)
      rw [Nat.mul_one] at h9
      have e : (a.add i).add 0 = a.add i := by simp [Addr.add]
      rw [e] at h9
      exact h9)
    refine ⟨some a, cap, l, by rw [h1], ⟨fun hne => ⟨a, rfl, ?_, fun i v hv => ?_⟩⟩⟩
    · obtain ⟨z, hz⟩ : ∃ z, l[0]? = some z := ⟨_, List.getElem?_eq_getElem (List.length_pos_iff.2 hne)⟩
      have := cell_lt (h2 0 z hz)
      rwa [add_block] at this
    · rw [List.getElem?_map] at hv
      obtain ⟨z, hz, rfl⟩ := Option.map_eq_some_iff.1 hv
      exact h2 i z hz
theorem open_bools {fuel : Nat} {cs : List Value} {x : DataW H × List MemPlace} (h : DataW.trod enc Tryd.prog W base spare held fuel 31 cs = some x) : ∃ A c l, cs = [.slice A l.length c] ∧ Bools W W.heap.size A l := by
  rcases open_slice Tryd.underlying31 h with ⟨rfl, _⟩ | ⟨a, len, cap, m, n, D, Pl, rfl, hb, hl, hm, hmm, hx, hi⟩
  · exact ⟨none, 0, [], rfl, ⟨fun h => absurd rfl h⟩⟩
  · obtain ⟨l, h1, h2⟩ := choose_list (R := fun i (z : Bool) => W.cell? (a.add i) = some (.bool z)) len (fun i hi' => by
      obtain ⟨cs', hc, ht⟩ := hi i (by rw [hmm]; split <;> omega)
      obtain ⟨z, rfl, -⟩ := DataW.trod_bool Tryd.underlying4 ht
      have hcl : Tryd.prog.cellsOf 4 = 1 := by kernel_rfl
      rw [hcl] at hc
      obtain ⟨_, _, hat⟩ := World.cells?_some hc
      refine ⟨z, ?_⟩
      have h9 := hat 0 (by omega)
      rw [Nat.mul_one] at h9
      have e : (a.add i).add 0 = a.add i := by simp [Addr.add]
      rw [e] at h9
      exact h9)
    refine ⟨some a, cap, l, by rw [h1], ⟨fun hne => ⟨a, rfl, ?_, fun i v hv => ?_⟩⟩⟩
    · obtain ⟨z, hz⟩ : ∃ z, l[0]? = some z := ⟨_, List.getElem?_eq_getElem (List.length_pos_iff.2 hne)⟩
      have := cell_lt (h2 0 z hz)
      rwa [add_block] at this
    · rw [blv, List.getElem?_map] at hv
      obtain ⟨z, hz, rfl⟩ := Option.map_eq_some_iff.1 hv
      exact h2 i z hz
theorem three_of {α : Type} : ∀ {l : List α}, l.length = 3 → ∃ a b c, l = [a, b, c]
  | [a, b, c], _ => ⟨a, b, c, rfl⟩
  | [], h => by cases h
  | [_], h => by cases h
  | [_, _], h => by cases h
  | _ :: _ :: _ :: _ :: _, h => by simp at h
theorem one_of {α : Type} : ∀ {l : List α}, l.length = 1 → ∃ a, l = [a]
  | [a], _ => ⟨a, rfl⟩
  | [], h => by cases h
  | _ :: _ :: _, h => by simp at h
theorem add_at (a : Addr) (k : Nat) (hk : 0 < k) : a.add k = ⟨a.block, a.off + k, none⟩ := by
  unfold Addr.add
  rw [if_neg (by omega)]
theorem open_gates {fuel : Nat} {cs : List Value} {x : DataW H × List MemPlace} (h : DataW.trod enc Tryd.prog W base spare held fuel 22 cs = some x) : ∃ A c F, cs = [.slice A F.length c] ∧ Gates W W.heap.size A F := by
  rcases open_slice Tryd.underlying22 h with ⟨rfl, _⟩ | ⟨a, len, cap, m, n, D, Pl, rfl, hb, hl, hm, hmm, hx, hi⟩
  · exact ⟨none, 0, [], rfl, ⟨fun h => absurd rfl h⟩⟩
  · obtain ⟨l, h1, h2⟩ := choose_list (R := fun i (g : Gt) => GateAt W W.heap.size (a.add (i * 3)) g) len (fun i hi' => by
      obtain ⟨cs', hc, ht⟩ := hi i (by rw [hmm]; split <;> omega)
      have hcl : Tryd.prog.cellsOf 40 = 3 := by kernel_rfl
      rw [hcl] at hc
      obtain ⟨_, hlen, hat⟩ := World.cells?_some hc
      obtain ⟨y0, y1, y2, k, -, -, q0, q1, q2⟩ := trod_struct3 Tryd.underlying40 ht
      obtain ⟨u0, u1, u2, rfl⟩ := three_of hlen
      have e0 : Tryd.prog.cellsOf 3 = 1 := by kernel_rfl
      have e1 : Tryd.prog.cellsOf 38 = 1 := by kernel_rfl
      simp only [e0, e1, List.drop_zero, List.take_succ_cons, List.take_zero, List.drop_succ_cons] at q0 q1 q2
      obtain ⟨z0, r0, -, -⟩ := DataW.trod_int Tryd.underlying3 q0
      obtain ⟨KA, kc, kl, r1, hk⟩ := open_ints q1
      obtain ⟨z2, r2, -, -⟩ := DataW.trod_int Tryd.underlying3 q2
      cases r0
      cases r1
      cases r2
      refine ⟨⟨z0, kl, z2⟩, ?_, ⟨KA, kc, ?_, hk⟩, ?_⟩
      · have h9 := hat 0 (by omega)
        have e : (a.add (i * 3)).add 0 = a.add (i * 3) := by simp [Addr.add]
        rw [e] at h9
        exact h9
      · have h9 := hat 1 (by omega)
        rw [add_at _ 1 (by omega)] at h9
        exact h9
      · have h9 := hat 2 (by omega)
        rw [add_at _ 2 (by omega)] at h9
        exact h9)
    refine ⟨some a, cap, l, by rw [h1], ⟨fun hne => ⟨a, rfl, ?_, h2⟩⟩⟩
    obtain ⟨z, hz⟩ : ∃ z, l[0]? = some z := ⟨_, List.getElem?_eq_getElem (List.length_pos_iff.2 hne)⟩
    have := cell_lt (h2 0 z hz).need
    rwa [add_block] at this
set_option maxRecDepth 20000 in
theorem open_formula {v : Value} {d : DataW H} {p : List MemPlace} {r : Reach} {b0 : Nat} (hv : Value.okWide Tryd.prog W r b0 24 v) (h : DataW.Trod enc Tryd.prog W base spare held 24 v d p) : ∃ A c F, v = .agg #[.slice A F.length c] ∧ Gates W W.heap.size A F := by
  obtain ⟨cs, rfl, hsz⟩ := okWide_struct Tryd.underlying24 hv
  have hc : Tryd.prog.cellsOf 24 = 1 := by kernel_rfl
  rw [hc] at hsz
  obtain ⟨fuel, hf⟩ := h
  obtain ⟨y0, n, -, -, q0⟩ := trod_struct1 Tryd.underlying24 hf
  obtain ⟨cs⟩ := cs
  obtain ⟨u0, rfl⟩ := one_of (show cs.length = 1 from hsz)
  have e1 : Tryd.prog.cellsOf 22 = 1 := by kernel_rfl
  simp only [Value.cells, e1, List.drop_zero, List.take_succ_cons, List.take_zero] at q0
  obtain ⟨A, c, F, h1, h2⟩ := open_gates q0
  cases h1
  exact ⟨A, c, F, rfl, h2⟩
set_option maxRecDepth 20000 in
theorem open_bools' {v : Value} {d : DataW H} {p : List MemPlace} {r : Reach} {b0 : Nat} (hv : Value.okWide Tryd.prog W r b0 31 v) (h : DataW.Trod enc Tryd.prog W base spare held 31 v d p) : ∃ A c l, v = .slice A l.length c ∧ Bools W W.heap.size A l := by
  obtain ⟨fuel, hf⟩ := h
  obtain ⟨A, c, l, h1, h2⟩ := open_bools hf
  obtain ⟨b, n, k, rfl⟩ := okWide_slice Tryd.underlying31 hv
  simp only [Value.cells] at h1
  cases h1
  exact ⟨A, c, l, rfl, h2⟩
end
end Go.Proofs.YteaaeaimjbaomaaDoor
