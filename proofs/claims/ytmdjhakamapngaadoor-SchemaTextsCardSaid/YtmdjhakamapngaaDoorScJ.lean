/-
  schema.Value.
-/
import Derived.Test.YtmdjhakamapngaaDoorScI
namespace Go.Proofs.YtmdjhakamapngaaDoor
open Go.RowKit Go.Shelf
set_option linter.unusedVariables false

def fvalV (f : Fd) (t : ByteArray) : Int × Int :=
  if f.kind = 1 then (if Lib.idxOfS f.words t < 0 then (0, 9) else (Lib.idxOfS f.words t, 0)) else if decOk (tl t) = false then (0, 4) else if decN t < f.min ∨ f.max < decN t then (0, 2) else (decN t, 0)
def valV (nm : ByteArray) (L : List Fd) (i : Int) (t : ByteArray) : Int × Int :=
  if schemaE nm L ≠ 0 then (0, schemaE nm L) else if 0 ≤ i ∧ i < (L.length : Int) then (match L[i.toNat]? with | none => (0, 2) | some f => fvalV f t) else (0, 2)
set_option maxRecDepth 20000 in
set_option maxHeartbeats 4000000 in
theorem value_err (nm : ByteArray) (A : Option Addr) (c : Nat) (L : List Fd) (E : Int) (hE : (E == 0) = false) (i : Int) (t : ByteArray)
    (HC : ∀ W : World, Flds W A L → Calls Tryd.prog 35 #[schV nm A L.length c, .int .i64 i] W fun e w' => e = .returned (.tuple #[zFd, .int .i64 E]) ∧ Below W.heap.size W w') (w : World) (hS : Flds w A L) :
    Calls Tryd.prog 14 #[schV nm A L.length c, .int .i64 i, .string t] w fun e w' => e = .returned (.tuple #[.int .i64 0, .int .i64 E]) ∧ Below w.heap.size w w' := by
  have hk := (Hp.start w).new 24 [.string nm, .slice A L.length c]
  have HC := Lib.hid (HC _ (hS.up hk.below0))
  obtain ⟨g1, hg1⟩ : ∃ g, w.heap.size = g := ⟨_, rfl⟩
  rw [hg1] at hk
  go_enter Tryd.func14, Tryd.ntmps14
  go_upto_region 2 with fail
  refine HC.out.mono ?_
  rintro e w1 ⟨rfl, hb1⟩
  have hk1 := hk.next hb1
  clear hk hb1 HC
  go_wp2_with fail
  go_ret2
  exact ⟨rfl, (hk1.alloc _).below0⟩
theorem idx_hit {L : List ByteArray} {i : Nat} {s : ByteArray} (hs : L[i]? = some s) (h : ∀ (j : Nat) (f : ByteArray), j < i → L[j]? = some f → f ≠ s) : Lib.idxOfS L s = (i : Int) := by
  obtain ⟨hi, e⟩ := List.getElem?_eq_some_iff.1 hs
  have := Lib.idxOfS_hit L L.length i s hi (Nat.le_refl _) (by rw [List.getD_eq_getElem?_getD, hs]; rfl) (fun j hj => by
    have hj2 : j < L.length := by omega
    rw [List.getD_eq_getElem?_getD, List.getElem?_eq_getElem hj2]
    exact h j _ hj (List.getElem?_eq_getElem hj2))
  rwa [List.take_length] at this
theorem idx_miss {L : List ByteArray} {s : ByteArray} (h : ∀ (j : Nat) (f : ByteArray), L[j]? = some f → f ≠ s) : Lib.idxOfS L s = -1 := by
  have := Lib.idxOfS_miss L L.length s (fun j hj => by
    rw [List.getD_eq_getElem?_getD, List.getElem?_eq_getElem hj]
    exact h j _ (List.getElem?_eq_getElem hj))
  rwa [List.take_length] at this
set_option maxRecDepth 20000 in
set_option maxHeartbeats 4000000 in
theorem indexS_any (A : Option Addr) (c : Nat) (L : List ByteArray) (s : ByteArray) (hL : L.length ≤ 1000000) (w : World) (hS : Strs w A L) :
    Calls Tryd.prog 36 #[.slice A L.length c, .string s] w fun e w' => e = .returned (.int .i64 (Lib.idxOfS L s)) ∧ Below w.heap.size w w' := by
  go_enter Tryd.func36, Tryd.ntmps36
  go_upto_region 2 with fail
  go_loopg [8] L.length (fun m s8 wx => ∃ i : Nat, i ≤ L.length ∧ m = L.length - i ∧ s8 = .int .i64 (i : Int) ∧ Below w.heap.size w wx ∧ Hid (∀ (j : Nat) (f : ByteArray), j < i → L[j]? = some f → f ≠ s))
  case atStart => exact ⟨0, Nat.zero_le _, rfl, rfl, Below.refl _ _, Lib.hid (fun j f hj => absurd hj (Nat.not_lt_zero _))⟩
  case round =>
    obtain ⟨i, hi, rfl, rfl, hb, HI⟩ := hrel
    by_cases hil : i < L.length
    · have hii : (i : Int) < (L.length : Int) := by omega
      have hi0 : (0 : Int) ≤ (i : Int) := by omega
      obtain ⟨f, hf⟩ : ∃ f, L[i]? = some f := ⟨_, List.getElem?_eq_getElem hil⟩
      obtain ⟨ad, rfl, c0⟩ := (hS.up hb).at_ i f hf
      by_cases hfs : f = s
      · have HV : Hid (Lib.idxOfS L s = (i : Int)) := Lib.hid (idx_hit (hfs ▸ hf) HI.out)
        have hee : (s.toList == f.toList) = true := by rw [strs_eq, decide_eq_true hfs.symm]
        have hee2 : (f.toList == s.toList) = true := by rw [strs_eq, decide_eq_true hfs]
        clear hfs hf HI
        go_wp2_with fail
        go_ret
        rw [HV.out]
        exact ⟨rfl, hb⟩
      · have HI2 : Hid (∀ (j : Nat) (f : ByteArray), j < i + 1 → L[j]? = some f → f ≠ s) := Lib.hid (fun j f' hj hf' => by
          by_cases hji : j = i
          · subst hji
            rw [hf] at hf'
            injection hf' with hf'
            rw [← hf']; exact hfs
          · exact HI.out j f' (by omega) hf')
        have hee : (s.toList == f.toList) = false := by rw [strs_eq, decide_eq_false (fun h => hfs h.symm)]
        have hee2 : (f.toList == s.toList) = false := by rw [strs_eq, decide_eq_false hfs]
        clear hfs hf HI
        go_wp2_with fail
        go_roundg (L.length - (i + 1))
        case measure => omega
        case rel => exact ⟨i + 1, hil, rfl, by first | rfl | simp, hb, HI2⟩
    · have hii : ¬ (i : Int) < (L.length : Int) := by omega
      have HV : Hid (Lib.idxOfS L s = -1) := Lib.hid (idx_miss (fun j g hj => HI.out j g (by have := (List.getElem?_eq_some_iff.1 hj).1; omega) hj))
      clear HI
      go_wp2_with fail
      go_ret
      rw [HV.out]
      exact ⟨rfl, hb⟩
end Go.Proofs.YtmdjhakamapngaaDoor
