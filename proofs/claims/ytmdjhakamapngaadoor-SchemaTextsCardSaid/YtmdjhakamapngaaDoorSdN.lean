/-
  The texts of fields and schemas, plain.
-/
import Derived.Test.YtmdjhakamapngaaDoorSdA
import Derived.Test.YtmdjhakamapngaaDoorShelf2
namespace Go.Proofs.YtmdjhakamapngaaDoor
open Go.RowKit Go.Shelf
set_option linter.unusedVariables false

theorem join_cons (sep : List UInt8) : ∀ (l : List (List UInt8)) (a : List UInt8), Lib.join (a :: l) sep = a ++ l.flatMap fun x => sep ++ x
  | [], a => by simp [Lib.join, List.intercalate]
  | b :: l, a => by
    have ih := join_cons sep l b
    rw [List.flatMap_cons, List.append_assoc, ← ih]
    simp [Lib.join, List.intercalate]
def quoteB (s : ByteArray) : ByteArray := bs (39 :: (tl s ++ [39]))
/-- the parts of a field's text -/
def partsF (f : Fd) : List ByteArray := (f.name :: if f.kind = 0 then [bs numberB, bs (Lib.itoa f.min), bs (Lib.itoa f.max)] else []) ++ f.words.map quoteB
theorem quotes_flat (l : List ByteArray) : ((l.map quoteB).map tl).flatMap (fun x => [32] ++ x) = l.flatMap fun w => 32 :: 39 :: (tl w ++ [39]) := by
  induction l with
  | nil => rfl
  | cons w l ih =>
    rw [List.map_cons, List.map_cons, List.flatMap_cons, List.flatMap_cons, ih]
    unfold quoteB
    rw [tl_bs]
    rfl
theorem parts_text (f : Fd) : Lib.join ((partsF f).map tl) [32] = fieldT f := by
  unfold partsF fieldT
  rw [List.map_append, List.map_cons, List.cons_append, join_cons, List.flatMap_append, quotes_flat, List.append_assoc]
  congr 1
  congr 1
  split
  · simp only [List.map_cons, List.map_nil, tl_bs, List.flatMap_cons, List.flatMap_nil]
    simp
  · rfl
theorem schema_text (nm : ByteArray) (L : List Fd) : tl nm ++ [40] ++ Lib.join (L.map fieldT) [44, 32] ++ [41] = schemaT nm L := by
  cases L with
  | nil => simp [schemaT, Lib.join, List.intercalate]
  | cons f L =>
    rw [List.map_cons, join_cons, schemaT, List.flatMap_map]
    simp
theorem flat_len2 {l : List ByteArray} (h : ∀ w ∈ l, w.size ≤ 32) : (l.flatMap fun w => 32 :: 39 :: (tl w ++ [39])).length ≤ 35 * l.length := by
  induction l with
  | nil => simp
  | cons w l ih =>
    rw [List.flatMap_cons, List.length_append, List.length_cons]
    have h1 := h w (List.mem_cons_self ..)
    have h2 := ih (fun x hx => h x (List.mem_cons_of_mem _ hx))
    simp only [List.length_cons, List.length_append, length_tl, List.length_nil]
    omega
theorem itoa_len {v : Int} (h1 : -2147483648 ≤ v) (h2 : v ≤ 2147483647) : (Lib.itoa v).length ≤ 11 := by
  rcases itoa_form v with ⟨u, rfl, hu, e⟩ | ⟨u, rfl, e⟩
  · rw [e, List.length_cons]
    have := dec_lenk 9 u (by omega)
    omega
  · rw [e]
    have := dec_lenk 9 u (by omega)
    omega
theorem name_size {s : ByteArray} (h : nameP s = true) : s.size ≤ 32 := by
  unfold nameP at h
  split at h
  · simp only [Bool.and_eq_true, decide_eq_true_eq] at h
    exact h.1.1.1
  · cases h
theorem word_size {s : ByteArray} (h : wordP s = true) : s.size ≤ 32 := by
  unfold wordP at h
  simp only [Bool.and_eq_true, decide_eq_true_eq] at h
  exact h.1.2
theorem fieldT_len {f : Fd} (h : FOk f) : (fieldT f).length ≤ 4000 ∧ f.name.size ≤ 32 ∧ f.words.length ≤ 64 ∧ (∀ w ∈ f.words, w.size ≤ 32) ∧ -2147483648 ≤ f.min ∧ f.min ≤ 2147483647 ∧ -2147483648 ≤ f.max ∧ f.max ≤ 2147483647 := by
  have hn := name_size h.nm
  unfold fieldT
  rcases fld_kind h.fe with ⟨k1, k2, k3, k4, k5⟩ | ⟨k1, k2, k3, k4, k5, k6⟩
  · rw [if_pos k1, k2]
    have h1 := itoa_len (v := f.min) k3 (by omega)
    have h2 := itoa_len (v := f.max) (by omega) k4
    have h3 : numberB.length = 6 := rfl
    refine ⟨?_, hn, by simp, (fun w hw => absurd hw (List.not_mem_nil)), by omega, by omega, by omega, by omega⟩
    simp only [List.length_append, length_tl, List.length_cons, List.flatMap_nil, List.length_nil, h3]
    omega
  · rw [if_neg (by omega)]
    have h1 := flat_len2 (l := f.words) (fun w hw => word_size (k6 w hw))
    refine ⟨?_, hn, k5, fun w hw => word_size (k6 w hw), by omega, by omega, by omega, by omega⟩
    simp only [List.length_append, length_tl, List.length_nil, Nat.add_zero]
    omega
theorem flatT_len : ∀ {L : List Fd}, (∀ f ∈ L, FOk f) → (L.flatMap fun g => 44 :: 32 :: fieldT g).length ≤ 4002 * L.length
  | [], _ => by simp
  | f :: L, h => by
    rw [List.flatMap_cons, List.length_append, List.length_cons]
    have h1 := (fieldT_len (h f (List.mem_cons_self ..))).1
    have h2 := flatT_len (L := L) (fun x hx => h x (List.mem_cons_of_mem _ hx))
    simp only [List.length_cons]
    omega
theorem schemaT_len {nm : ByteArray} {L : List Fd} (h : schemaE nm L = 0) : (schemaT nm L).length ≤ 65536 := by
  obtain ⟨h1, h2, h3, h4⟩ := schemaE_ok h
  have hn := name_size h1
  cases L with
  | nil => simp at h2
  | cons f L =>
    rw [schemaT]
    have h5 := (fieldT_len (h4 f (List.mem_cons_self ..))).1
    have h6 := flatT_len (L := L) (fun x hx => h4 x (List.mem_cons_of_mem _ hx))
    rw [List.length_cons] at h3
    simp only [List.length_append, List.length_cons, length_tl, List.length_nil]
    omega
def textP (nm : ByteArray) (L : List Fd) : List UInt8 × Int := if schemaE nm L ≠ 0 then ([], schemaE nm L) else (schemaT nm L, 0)
end Go.Proofs.YtmdjhakamapngaaDoor
