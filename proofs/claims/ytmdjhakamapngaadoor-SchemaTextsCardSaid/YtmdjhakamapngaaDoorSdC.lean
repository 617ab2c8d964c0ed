/-
  Schemas and lists of strings that come in, as data; the library's variables as a card lays them.
-/
import Derived.Test.YtmdjhakamapngaaDoorScG
import Derived.Test.YtmdjhakamapngaaDoorPostB
import Derived.Lib.SmallJoins
import Derived.Lib.LaidTab
import Derived.Deep.Slices
import Derived.Deep.Fields
import Derived.ChangeSame
import Derived.Stop.LaidErr
import Derived.MakeChecks
namespace Go.Proofs.YtmdjhakamapngaaDoor
open Go.RowKit Go.ChangeShapes Go.WideShapes Go.Deep Go.Joins
set_option linter.unusedVariables false

theorem glob_of_laid {W : World} {d1 d2 : DataW Unit} {s1 s2 : List UInt8}
    (h : laidMet Tryd.prog [("math/bits.deBruijn32tab", d1), ("math/bits.deBruijn64tab", d2), ("internal/strconv.uint64pow10", Lib.tabData .u64 Lib.pow10Tab), ("strconv.ErrRange", .iface "*errors.errorString" (.ptr (.agg [.lit (.string s1)]))), ("strconv.ErrSyntax", .iface "*errors.errorString" (.ptr (.agg [.lit (.string s2)])))] W) : Glob W := by
  have h3 := h.tail.tail
  have h4 := h3.tail
  have h5 := h4.tail
  have key : ∀ {n : String} {s : List UInt8} {r : List (String × DataW Unit)}, (Tryd.prog.globalNamed n).bind (fun g => (Tryd.prog.globals[g]?).map (·.type)) = some 97 → laidMet Tryd.prog ((n, .iface "*errors.errorString" (.ptr (.agg [.lit (.string s)]))) :: r) W → ∃ tp p, W.var? Tryd.prog n = some #[.iface tp p] := by
    intro n s r hn h
    obtain ⟨ps, ⟨g', t', cs, fuel, p, q, hg', ht', hvar, hd, _, _⟩, _⟩ := h
    rw [hg'] at hn
    simp only [Option.bind_some] at hn
    obtain rfl := Option.some.inj (hn.symm.trans ht')
    obtain ⟨f', u, v, hcs, -, -⟩ := iface_of_trod (ms := #[("Error", 108)]) Tryd.underlying97 hd
    refine ⟨u, v, ?_⟩
    rw [hvar]
    obtain ⟨cs⟩ := cs
    simp only at hcs
    rw [hcs]
  obtain ⟨t1, p1, e1⟩ := key (by kernel_rfl) h5
  obtain ⟨t2, p2, e2⟩ := key (by kernel_rfl) h4
  have hT : (Tryd.prog.globalNamed "internal/strconv.uint64pow10").bind (fun g => (Tryd.prog.globals[g]?).map (·.type)) = some 141 := by kernel_rfl
  cases hg : Tryd.prog.globalNamed "internal/strconv.uint64pow10" with
  | none => rw [hg] at hT; cases hT
  | some g =>
    rw [hg] at hT
    exact ⟨Lib.tabIs_of_head (t := 141) (e := 56) (n := 20) hg hT (by kernel_rfl) (by kernel_rfl) (by kernel_rfl) (by kernel_rfl) h3, ⟨t1, p1, e1⟩, ⟨t2, p2, e2⟩⟩
theorem choose_list {α : Type} {R : Nat → α → Prop} : ∀ (n : Nat), (∀ i, i < n → ∃ x, R i x) → ∃ l : List α, l.length = n ∧ ∀ i x, l[i]? = some x → R i x
  | 0, _ => ⟨[], rfl, fun i x h => by simp at h⟩
  | n + 1, h => by
    obtain ⟨l, h1, h2⟩ := choose_list n (fun i hi => h i (by omega))
    obtain ⟨x, hx⟩ := h n (by omega)
    refine ⟨l ++ [x], by simp [h1], fun i y hy => ?_⟩
    rcases Nat.lt_or_ge i l.length with hl | hl
    · rw [List.getElem?_append_left hl] at hy; exact h2 i y hy
    · rw [List.getElem?_append_right hl] at hy
      rcases Nat.eq_zero_or_pos (i - l.length) with h0 | h0
      · rw [h0] at hy
        cases hy
        rw [show i = n by omega]; exact hx
      · rw [List.getElem?_eq_none (by simp; omega)] at hy; cases hy
theorem five_of {α : Type} : ∀ {l : List α}, l.length = 5 → ∃ a b c d e, l = [a, b, c, d, e]
  | [a, b, c, d, e], _ => ⟨a, b, c, d, e, rfl⟩
  | [], h => by cases h
  | [_], h => by cases h
  | [_, _], h => by cases h
  | [_, _, _], h => by cases h
  | [_, _, _, _], h => by cases h
  | _ :: _ :: _ :: _ :: _ :: _ :: _, h => by simp at h
theorem two_of {α : Type} : ∀ {l : List α}, l.length = 2 → ∃ a b, l = [a, b]
  | [a, b], _ => ⟨a, b, rfl⟩
  | [], h => by cases h
  | [_], h => by cases h
  | _ :: _ :: _ :: _, h => by simp at h
theorem add_at (a : Addr) (k : Nat) (hk : 0 < k) : a.add k = ⟨a.block, a.off + k, none⟩ := by
  unfold Addr.add
  rw [if_neg (by omega)]
section
variable {H : Type} {enc : TypeId × Value → H} {P : Program} {W : World} {base : Nat} {spare : Nat → Bool} {held : Bool}
theorem trod_struct5 {t : TypeId} {f0 f1 f2 f3 f4 : Field} {fuel : Nat} {cs : List Value} {x : DataW H × List MemPlace} (ht : P.underlying t = some (.struct #[f0, f1, f2, f3, f4])) (h : DataW.trod enc P W base spare held fuel t cs = some x) :
    ∃ y0 y1 y2 y3 y4 n, DataW.trod enc P W base spare held n f0.type ((cs.drop f0.offset).take (P.cellsOf f0.type)) = some y0 ∧
      DataW.trod enc P W base spare held n f1.type ((cs.drop f1.offset).take (P.cellsOf f1.type)) = some y1 ∧ DataW.trod enc P W base spare held n f2.type ((cs.drop f2.offset).take (P.cellsOf f2.type)) = some y2 ∧
      DataW.trod enc P W base spare held n f3.type ((cs.drop f3.offset).take (P.cellsOf f3.type)) = some y3 ∧ DataW.trod enc P W base spare held n f4.type ((cs.drop f4.offset).take (P.cellsOf f4.type)) = some y4 := by
  obtain ⟨xs, n, _, rfl, hl, hlen, hf⟩ := DataW.trod_struct ht h
  match xs, hlen with
  | [y0, y1, y2, y3, y4], _ => exact ⟨y0, y1, y2, y3, y4, n, by simpa using hf 0 f0 rfl, by simpa using hf 1 f1 rfl, by simpa using hf 2 f2 rfl, by simpa using hf 3 f3 rfl, by simpa using hf 4 f4 rfl⟩
end
section
variable {H : Type} {enc : TypeId × Value → H} {W : World} {base : Nat} {spare : Nat → Bool} {held : Bool}
theorem open_strs {fuel : Nat} {cs : List Value} {x : DataW H × List MemPlace} (h : DataW.trod enc Tryd.prog W base spare held fuel 47 cs = some x) : ∃ A c l, cs = [.slice A l.length c] ∧ Strs W A l := by
  rcases open_slice Tryd.underlying47 h with ⟨rfl, _⟩ | ⟨a, len, cap, m, n, D, Pl, rfl, hb, hl, hm, hmm, hx, hi⟩
  · exact ⟨none, 0, [], rfl, ⟨fun i s hs => by simp at hs⟩⟩
  · obtain ⟨l, h1, h2⟩ := choose_list (R := fun i (z : ByteArray) => W.cell? (a.add i) = some (.string z)) len (fun i hi' => by
      obtain ⟨cs', hc, ht⟩ := hi i (by rw [hmm]; split <;> omega)
      obtain ⟨z, rfl, -, -⟩ := DataW.trod_string Tryd.underlying9 ht
      have hcl : Tryd.prog.cellsOf 9 = 1 := by kernel_rfl
      rw [hcl] at hc
      obtain ⟨_, _, hat⟩ := World.cells?_some hc
      refine ⟨z, ?_⟩
      have h9 := hat 0 (by omega)
      rw [Nat.mul_one] at h9
      have e : (a.add i).add 0 = a.add i := by simp [Addr.add]
      rw [e] at h9
      exact h9)
    exact ⟨some a, cap, l, by rw [h1], ⟨fun i s hs => ⟨a, rfl, h2 i s hs⟩⟩⟩
theorem open_flds {fuel : Nat} {cs : List Value} {x : DataW H × List MemPlace} (h : DataW.trod enc Tryd.prog W base spare held fuel 22 cs = some x) : ∃ A c L, cs = [.slice A L.length c] ∧ Flds W A L := by
  rcases open_slice Tryd.underlying22 h with ⟨rfl, _⟩ | ⟨a, len, cap, m, n, D, Pl, rfl, hb, hl, hm, hmm, hx, hi⟩
  · exact ⟨none, 0, [], rfl, ⟨fun i s hs => by simp at hs⟩⟩
  · obtain ⟨l, h1, h2⟩ := choose_list (R := fun i (f : Fd) => ∃ WA c, FieldAt W (a.add (i * 5)) f WA c) len (fun i hi' => by
      obtain ⟨cs', hc, ht⟩ := hi i (by rw [hmm]; split <;> omega)
      have hcl : Tryd.prog.cellsOf 49 = 5 := by kernel_rfl
      rw [hcl] at hc
      obtain ⟨_, hlen, hat⟩ := World.cells?_some hc
      obtain ⟨y0, y1, y2, y3, y4, k, q0, q1, q2, q3, q4⟩ := trod_struct5 Tryd.underlying49 ht
      obtain ⟨u0, u1, u2, u3, u4, rfl⟩ := five_of hlen
      have e0 : Tryd.prog.cellsOf 3 = 1 := by kernel_rfl
      have e1 : Tryd.prog.cellsOf 9 = 1 := by kernel_rfl
      have e2 : Tryd.prog.cellsOf 47 = 1 := by kernel_rfl
      simp only [e0, e1, e2, List.drop_zero, List.take_succ_cons, List.take_zero, List.drop_succ_cons] at q0 q1 q2 q3 q4
      obtain ⟨z0, r0, -, -⟩ := DataW.trod_string Tryd.underlying9 q0
      obtain ⟨z1, r1, -, -⟩ := DataW.trod_int Tryd.underlying3 q1
      obtain ⟨z2, r2, -, -⟩ := DataW.trod_int Tryd.underlying3 q2
      obtain ⟨z3, r3, -, -⟩ := DataW.trod_int Tryd.underlying3 q3
      obtain ⟨KA, kc, kl, r4, hk⟩ := open_strs q4
      cases r0
      cases r1
      cases r2
      cases r3
      cases r4
      have hat' : ∀ j, 0 < j → j < 5 → W.cell? ⟨(a.add (i * 5)).block, (a.add (i * 5)).off + j, none⟩ = ([.string z0, .int .i64 z1, .int .i64 z2, .int .i64 z3, .slice KA kl.length kc] : List Value)[j]? := fun j h0 h5 => by
        have h9 := hat j (by omega)
        rw [add_at _ j h0] at h9
        exact h9
      refine ⟨⟨z0, z1, z2, z3, kl⟩, KA, kc, ?_, hat' 1 (by omega) (by omega), hat' 2 (by omega) (by omega), hat' 3 (by omega) (by omega), hat' 4 (by omega) (by omega), hk⟩
      have h9 := hat 0 (by omega)
      have e : (a.add (i * 5)).add 0 = a.add (i * 5) := by simp [Addr.add]
      rw [e] at h9
      exact h9)
    refine ⟨some a, cap, l, by rw [h1], ⟨fun i f hf => ?_⟩⟩
    obtain ⟨WA, c, hh⟩ := h2 i f hf
    exact ⟨a, WA, c, rfl, hh⟩
set_option maxRecDepth 20000 in
theorem open_schema {v : Value} {d : DataW H} {p : List MemPlace} {r : Reach} {b0 : Nat} (hv : Value.okWide Tryd.prog W r b0 24 v) (h : DataW.Trod enc Tryd.prog W base spare held 24 v d p) : ∃ nm A c L, v = .agg #[.string nm, .slice A L.length c] ∧ Flds W A L := by
  obtain ⟨cs, rfl, hsz⟩ := okWide_struct Tryd.underlying24 hv
  have hc : Tryd.prog.cellsOf 24 = 2 := by kernel_rfl
  rw [hc] at hsz
  obtain ⟨fuel, hf⟩ := h
  obtain ⟨y0, y1, n, -, -, q0, q1⟩ := trod_struct2 Tryd.underlying24 hf
  obtain ⟨cs⟩ := cs
  obtain ⟨u0, u1, rfl⟩ := two_of (show cs.length = 2 from hsz)
  have e0 : Tryd.prog.cellsOf 9 = 1 := by kernel_rfl
  have e1 : Tryd.prog.cellsOf 22 = 1 := by kernel_rfl
  simp only [Value.cells, e0, e1, List.drop_zero, List.take_succ_cons, List.take_zero, List.drop_succ_cons] at q0 q1
  obtain ⟨z0, r0, -, -⟩ := DataW.trod_string Tryd.underlying9 q0
  obtain ⟨A, c, F, h1, h2⟩ := open_flds q1
  cases r0
  cases h1
  exact ⟨z0, A, c, F, rfl, h2⟩
set_option maxRecDepth 20000 in
theorem open_strs' {v : Value} {d : DataW H} {p : List MemPlace} {r : Reach} {b0 : Nat} (hv : Value.okWide Tryd.prog W r b0 47 v) (h : DataW.Trod enc Tryd.prog W base spare held 47 v d p) : ∃ A c l, v = .slice A l.length c ∧ Strs W A l := by
  obtain ⟨fuel, hf⟩ := h
  obtain ⟨A, c, l, h1, h2⟩ := open_strs hf
  obtain ⟨b, n, k, rfl⟩ := okWide_slice Tryd.underlying47 hv
  simp only [Value.cells] at h1
  cases h1
  exact ⟨A, c, l, rfl, h2⟩
end
end Go.Proofs.YtmdjhakamapngaaDoor
