/-
  dominolaw39.Few, dominolaw39.texts.
-/
import Derived.Test.YtmdjhakamapngaaDoorScE
namespace Go.Proofs.YtmdjhakamapngaaDoor
open Go.RowKit Go.Shelf
set_option linter.unusedVariables false

def shortS (l : List ByteArray) : Bool := l.all fun s => decide (s.size ≤ 60)
def fewF (f : Fd) : Bool := decide (f.name.size ≤ 60) && decide (f.words.length ≤ 70) && shortS f.words
def fewP (nm : ByteArray) (L : List Fd) : Bool := decide (nm.size ≤ 60) && decide (L.length ≤ 20) && L.all fewF
theorem all_take {α : Type} {p : α → Bool} {l : List α} {i : Nat} {x : α} (h : l[i]? = some x) : (l.take (i + 1)).all p = ((l.take i).all p && p x) := by
  rw [take_at h, List.all_append]; simp
theorem all_bad {α : Type} {p : α → Bool} {l : List α} {i : Nat} {x : α} (h : l[i]? = some x) (hp : p x = false) : l.all p = false := by
  rw [Bool.eq_false_iff]
  intro h9
  have := List.all_eq_true.1 h9 x (List.mem_of_getElem? h)
  rw [hp] at this; cases this
theorem few_bd {nm : ByteArray} {L : List Fd} (h : fewP nm L = true) : SBd nm L ∧ L.length ≤ 20 ∧ nm.size ≤ 60 ∧ ∀ f ∈ L, f.name.size ≤ 60 ∧ f.words.length ≤ 70 ∧ ∀ s ∈ f.words, s.size ≤ 60 := by
  unfold fewP at h
  simp only [Bool.and_eq_true, decide_eq_true_eq] at h
  have key : ∀ f ∈ L, f.name.size ≤ 60 ∧ f.words.length ≤ 70 ∧ ∀ s ∈ f.words, s.size ≤ 60 := fun f hf => by
    have h1 := List.all_eq_true.1 h.2 f hf
    unfold fewF shortS at h1
    simp only [Bool.and_eq_true, decide_eq_true_eq, List.all_eq_true] at h1
    exact ⟨h1.1.1, h1.1.2, h1.2⟩
  refine ⟨⟨by omega, by omega, fun f hf => ?_⟩, h.1.2, h.1.1, key⟩
  obtain ⟨a, b, c⟩ := key f hf
  exact ⟨by omega, by omega, fun s hs => by have := c s hs; omega⟩
set_option maxRecDepth 20000 in
set_option maxHeartbeats 8000000 in
theorem few_any (nm : ByteArray) (A : Option Addr) (c : Nat) (L : List Fd) (w : World) (hS : Flds w A L) :
    Calls Tryd.prog 8 #[schV nm A L.length c] w fun e w' => e = .returned (.bool (fewP nm L)) ∧ Below w.heap.size w w' := by
  have hk := (Hp.start w).new 24 [.string nm, .slice A L.length c]
  have HV : Hid (fewP nm L = (decide (nm.size ≤ 60) && decide (L.length ≤ 20) && L.all fewF)) := Lib.hid rfl
  obtain ⟨g1, hg1⟩ : ∃ g, w.heap.size = g := ⟨_, rfl⟩
  rw [hg1] at hk
  go_enter Tryd.func8, Tryd.ntmps8
  go_upto_region 1 with fail
  try simp only [hg1]
  generalize w.alloc (.cells #[.string nm, .slice A L.length c] 24) = W at *
  obtain ⟨c0, c1⟩ := (hk.blk 0 rfl).get2
  by_cases h1 : nm.size ≤ 60
  · have hi : ¬ (60 : Int) < (nm.size : Int) := by omega
    by_cases h2 : L.length ≤ 20
    · have hi2 : ¬ (20 : Int) < (L.length : Int) := by omega
      have HR : Hid (fewP nm L = L.all fewF) := Lib.hid (by rw [HV.out, decide_eq_true h1, decide_eq_true h2]; rfl)
      clear HV
      go_upto_region 4 with fail
      clear c0 c1
      go_loopg [3] L.length (fun m s3 wx => ∃ i : Nat, i ≤ L.length ∧ m = L.length - i ∧ s3 = .int .i64 (i : Int) ∧ Hp [] w [iblk g1 24 [.string nm, .slice A L.length c]] wx ∧ Hid ((L.take i).all fewF = true))
      case atStart => exact ⟨0, Nat.zero_le _, rfl, rfl, hk, Lib.hid rfl⟩
      case round =>
        obtain ⟨i, hi, rfl, rfl, hM, HE⟩ := hrel
        clear hk
        obtain ⟨c0, c1⟩ := (hM.blk 0 rfl).get2
        by_cases hil : i < L.length
        · have hii : (i : Int) < (L.length : Int) := by omega
          have hi0 : (0 : Int) ≤ (i : Int) := by omega
          obtain ⟨f, hf⟩ : ∃ f, L[i]? = some f := ⟨_, List.getElem?_eq_getElem hil⟩
          obtain ⟨ad, WA, wc, rfl, hF0⟩ := hS.at_ i f hf
          have hF := hF0.up hM.below0
          have HS0 := Lib.hid hF0.strs
          have d0 := hF.name
          have d1 := hF.kind
          have d2 := hF.min
          have d3 := hF.max
          have d4 := hF.words
          have HT := Lib.hid (all_take (p := fewF) hf)
          have HBad : Hid (fewF f = false → fewP nm L = false) := Lib.hid fun h => by rw [HR.out, all_bad hf h]
          have HFV : Hid (fewF f = (decide (f.name.size ≤ 60) && decide (f.words.length ≤ 70) && shortS f.words)) := Lib.hid rfl
          clear hf hF hF0
          go_upto_region 7 with fail
          have hM1 := hM.new 49 (fcs f WA wc)
          clear hM d0 d1 d2 d3 d4 c0 c1
          generalize wr.alloc (.cells #[.string f.name, .int .i64 f.kind, .int .i64 f.min, .int .i64 f.max, .slice WA f.words.length wc] 49) = w3 at *
          generalize wr.heap.size = g5 at *
          obtain ⟨d0, d1, d2, d3, d4⟩ := (hM1.blk 0 rfl).get5
          by_cases h3 : f.name.size ≤ 60
          · have hi3 : ¬ (60 : Int) < (f.name.size : Int) := by omega
            by_cases h4 : f.words.length ≤ 70
            · have hi4 : ¬ (70 : Int) < (f.words.length : Int) := by omega
              have HFV2 : Hid (fewF f = shortS f.words) := Lib.hid (by rw [HFV.out, decide_eq_true h3, decide_eq_true h4]; rfl)
              go_upto_region 10 with fail
              clear d0 d1 d2 d3 d4
              go_loopg [5] f.words.length (fun m s5 wx => ∃ k : Nat, k ≤ f.words.length ∧ m = f.words.length - k ∧ s5 = .int .i64 (k : Int) ∧ Hp [] w [iblk g5 49 (fcs f WA wc), iblk g1 24 [.string nm, .slice (some ad) L.length c]] wx ∧ Hid (shortS (f.words.take k) = true))
              case atStart => exact ⟨0, Nat.zero_le _, rfl, rfl, hM1, Lib.hid rfl⟩
              case round =>
                obtain ⟨k, hk, rfl, rfl, hM2, HK⟩ := hrel
                clear hM1
                obtain ⟨d0, d1, d2, d3, d4⟩ := (hM2.blk 0 rfl).get5
                by_cases hkl : k < f.words.length
                · have hkk : (k : Int) < (f.words.length : Int) := by omega
                  have hk0 : (0 : Int) ≤ (k : Int) := by omega
                  obtain ⟨s, hs⟩ : ∃ s, f.words[k]? = some s := ⟨_, List.getElem?_eq_getElem hkl⟩
                  obtain ⟨bd, rfl, cb⟩ := (HS0.out.up hM2.below0).at_ k s hs
                  by_cases h5 : s.size ≤ 60
                  · have hi5 : ¬ (60 : Int) < (s.size : Int) := by omega
                    have HK2 : Hid (shortS (f.words.take (k + 1)) = true) := Lib.hid (by
                      have := HK.out
                      unfold shortS at this ⊢
                      rw [all_take hs, this, decide_eq_true h5]; rfl)
                    clear hs
                    go_wp2_with fail
                    go_roundg (f.words.length - (k + 1))
                    case measure => omega
                    case rel => exact ⟨k + 1, hkl, rfl, by first | rfl | simp, hM2, HK2⟩
                  · have hi5 : (60 : Int) < (s.size : Int) := by omega
                    have HR2 := Lib.hid (HBad.out (by rw [HFV2.out]; unfold shortS; exact all_bad hs (decide_eq_false h5)))
                    clear hs
                    go_wp2_with fail
                    go_ret
                    rw [HR2.out]
                    exact ⟨rfl, by first | exact hM2.below0 | (subst hg1; exact hM2.below0)⟩
                · have hkk : ¬ (k : Int) < (f.words.length : Int) := by omega
                  have HE2 : Hid ((L.take (i + 1)).all fewF = true) := Lib.hid (by
                    rw [HT.out, HE.out, HFV2.out]
                    have := HK.out
                    rw [List.take_of_length_le (by omega)] at this
                    rw [this]; rfl)
                  go_wp2_with fail
                  go_roundg (L.length - (i + 1))
                  case measure => omega
                  case rel => exact ⟨i + 1, hil, rfl, by first | rfl | simp, hM2.tail, HE2⟩
            · have hi4 : (70 : Int) < (f.words.length : Int) := by omega
              have HR2 := Lib.hid (HBad.out (by rw [HFV.out, decide_eq_false h4]; simp))
              go_wp2_with fail
              go_ret
              rw [HR2.out]
              exact ⟨rfl, by first | exact hM1.below0 | (subst hg1; exact hM1.below0)⟩
          · have hi3 : (60 : Int) < (f.name.size : Int) := by omega
            have HR2 := Lib.hid (HBad.out (by rw [HFV.out, decide_eq_false h3]; simp))
            go_wp2_with fail
            go_ret
            rw [HR2.out]
            exact ⟨rfl, by first | exact hM1.below0 | (subst hg1; exact hM1.below0)⟩
        · have hii : ¬ (i : Int) < (L.length : Int) := by omega
          have HR2 : Hid (fewP nm L = true) := Lib.hid (by
            rw [HR.out]
            have := HE.out
            rwa [List.take_of_length_le (by omega)] at this)
          go_wp2_with fail
          go_ret
          rw [HR2.out]
          exact ⟨rfl, by first | exact hM.below0 | (subst hg1; exact hM.below0)⟩
    · have hi2 : (20 : Int) < (L.length : Int) := by omega
      have HR : Hid (fewP nm L = false) := Lib.hid (by rw [HV.out, decide_eq_false h2]; simp)
      go_wp2_with fail
      go_ret
      rw [HR.out]
      exact ⟨rfl, by first | exact hk.below0 | (subst hg1; exact hk.below0)⟩
  · have hi : (60 : Int) < (nm.size : Int) := by omega
    have HR : Hid (fewP nm L = false) := Lib.hid (by rw [HV.out, decide_eq_false h1]; simp)
    go_wp2_with fail
    go_ret
    rw [HR.out]
    exact ⟨rfl, by first | exact hk.below0 | (subst hg1; exact hk.below0)⟩
end Go.Proofs.YtmdjhakamapngaaDoor
