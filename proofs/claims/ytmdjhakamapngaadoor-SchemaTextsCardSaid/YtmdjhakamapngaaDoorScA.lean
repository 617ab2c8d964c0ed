/-
  Classes of bytes; all; words (schema and its reference).
-/
import Derived.Test.YtmdjhakamapngaaDoorScM
import Derived.Deep.DeepCutAuto
import Derived.Deep.QuietTactic
import Derived.BigQuiet
import Derived.Shelf.Abstract
import Derived.Deep.LoopGhost
import Derived.Deep.RegionHeld3
namespace Go.Proofs.YtmdjhakamapngaaDoor
open Go.RowKit Go.Shelf
set_option linter.unusedVariables false

def ltN (n : Nat) : Bool := decide ((97 ≤ n ∧ n ≤ 122) ∨ (65 ≤ n ∧ n ≤ 90))
def dgN (n : Nat) : Bool := decide (48 ≤ n ∧ n ≤ 57)
def nmN (n : Nat) : Bool := ltN n || dgN n || decide (n = 95)
def wdN (n : Nat) : Bool := nmN n || decide (n = 45)
def allN (p : Nat → Bool) (l : List UInt8) : Bool := l.all fun b => p b.toNat
theorem allN_take {p : Nat → Bool} {s : ByteArray} {k : Nat} (h : k < s.size) : allN p ((tl s).take (k + 1)) = (allN p ((tl s).take k) && p s[k].toNat) := by
  unfold allN
  rw [take_snoc s k h, List.all_append]; simp
theorem allN_bad {p : Nat → Bool} {s : ByteArray} {k : Nat} (h : k < s.size) (hp : p s[k].toNat = false) : allN p (tl s) = false := by
  unfold allN
  rw [Bool.eq_false_iff]
  intro h9
  have := List.all_eq_true.1 h9 s[k] (by rw [← tl_getElem s k h]; exact List.getElem_mem _)
  rw [hp] at this; cases this
theorem allN_full {p : Nat → Bool} {s : ByteArray} {k : Nat} (h : ¬ k < s.size) : allN p ((tl s).take k) = allN p (tl s) := by
  rw [List.take_of_length_le (by rw [length_tl]; omega)]

set_option maxHeartbeats 2000000 in
theorem letter_any (n : Nat) (w : World) : Calls Tryd.prog 50 #[.int .u8 (n : Int)] w fun e w' => e = .returned (.bool (ltN n)) ∧ w' = w := by
  by_cases a : (97 : Int) ≤ (n : Int) <;> by_cases b : (n : Int) ≤ 122 <;> by_cases c : (65 : Int) ≤ (n : Int) <;> by_cases d : (n : Int) ≤ 90 <;>
  first
  | (exfalso; omega)
  | (go_enter Tryd.func50, Tryd.ntmps50
     go_wp2_with fail
     go_ret
     exact ⟨ret_bool (by rw [Bool.eq_iff_iff]; simp [ltN]; omega), rfl⟩)

set_option maxHeartbeats 2000000 in
theorem rletter_any (n : Nat) (w : World) : Calls Tryd.prog 55 #[.int .u8 (n : Int)] w fun e w' => e = .returned (.bool (ltN n)) ∧ w' = w := by
  by_cases a : (97 : Int) ≤ (n : Int) <;> by_cases b : (n : Int) ≤ 122 <;> by_cases c : (65 : Int) ≤ (n : Int) <;> by_cases d : (n : Int) ≤ 90 <;>
  first
  | (exfalso; omega)
  | (go_enter Tryd.func55, Tryd.ntmps55
     go_wp2_with fail
     go_ret
     exact ⟨ret_bool (by rw [Bool.eq_iff_iff]; simp [ltN]; omega), rfl⟩)

set_option maxHeartbeats 2000000 in
theorem digit_any (n : Nat) (w : World) : Calls Tryd.prog 74 #[.int .u8 (n : Int)] w fun e w' => e = .returned (.bool (dgN n)) ∧ w' = w := by
  by_cases a : (48 : Int) ≤ (n : Int) <;> by_cases b : (n : Int) ≤ 57 <;>
  first
  | (exfalso; omega)
  | (go_enter Tryd.func74, Tryd.ntmps74
     go_wp2_with fail
     go_ret
     exact ⟨ret_bool (by rw [Bool.eq_iff_iff]; simp [dgN]; omega), rfl⟩)

set_option maxHeartbeats 2000000 in
theorem rdigit_any (n : Nat) (w : World) : Calls Tryd.prog 56 #[.int .u8 (n : Int)] w fun e w' => e = .returned (.bool (dgN n)) ∧ w' = w := by
  by_cases a : (48 : Int) ≤ (n : Int) <;> by_cases b : (n : Int) ≤ 57 <;>
  first
  | (exfalso; omega)
  | (go_enter Tryd.func56, Tryd.ntmps56
     go_wp2_with fail
     go_ret
     exact ⟨ret_bool (by rw [Bool.eq_iff_iff]; simp [dgN]; omega), rfl⟩)

set_option maxRecDepth 20000 in
set_option maxHeartbeats 4000000 in
theorem inName_any (n : Nat) (w : World) : Calls Tryd.prog 52 #[.int .u8 (n : Int)] w fun e w' => e = .returned (.bool (nmN n)) ∧ w' = w := by
  have HL := Lib.hid (letter_any n)
  have HD := Lib.hid (digit_any n)
  have HV : Hid (nmN n = (ltN n || dgN n || decide (n = 95))) := Lib.hid rfl
  generalize ltN n = l at *
  generalize dgN n = d at *
  generalize nmN n = r at *
  have HE : Hid (decide (n = 95) = ((n : Int) == 95)) := Lib.hid (by rw [Bool.eq_iff_iff]; simp; omega)
  cases h : ((n : Int) == 95)
  all_goals
    cases l <;> cases d
    all_goals
      go_enter Tryd.func52, Tryd.ntmps52
      go_wp2_with fail
      refine (HL.out w).mono ?_
      rintro e w1 ⟨rfl, rfl⟩
      go_wp2_with fail
      first
        | (go_ret; exact ⟨ret_bool (by rw [HV.out, HE.out, h]; rfl), rfl⟩)
        | (refine (HD.out w1).mono ?_
           rintro e w2 ⟨rfl, rfl⟩
           go_wp2_with fail
           go_ret
           exact ⟨ret_bool (by rw [HV.out, HE.out, h]; rfl), rfl⟩)
set_option maxRecDepth 20000 in
set_option maxHeartbeats 4000000 in
theorem inWord_any (n : Nat) (w : World) : Calls Tryd.prog 88 #[.int .u8 (n : Int)] w fun e w' => e = .returned (.bool (wdN n)) ∧ w' = w := by
  have HL := Lib.hid (inName_any n)
  have HV : Hid (wdN n = (nmN n || decide (n = 45))) := Lib.hid rfl
  generalize nmN n = l at *
  generalize wdN n = r at *
  have HE : Hid (decide (n = 45) = ((n : Int) == 45)) := Lib.hid (by rw [Bool.eq_iff_iff]; simp; omega)
  cases h : ((n : Int) == 45)
  all_goals
    cases l
    all_goals
      go_enter Tryd.func88, Tryd.ntmps88
      go_wp2_with fail
      refine (HL.out w).mono ?_
      rintro e w1 ⟨rfl, rfl⟩
      go_wp2_with fail
      go_ret
      exact ⟨ret_bool (by rw [HV.out, HE.out, h]; rfl), rfl⟩
set_option maxRecDepth 20000 in
set_option maxHeartbeats 4000000 in
theorem rinWord_any (n : Nat) (w : World) : Calls Tryd.prog 77 #[.int .u8 (n : Int)] w fun e w' => e = .returned (.bool (wdN n)) ∧ w' = w := by
  have HL := Lib.hid (rletter_any n)
  have HD := Lib.hid (rdigit_any n)
  have HV : Hid (wdN n = (ltN n || dgN n || decide (n = 95) || decide (n = 45))) := Lib.hid rfl
  generalize ltN n = l at *
  generalize dgN n = d at *
  generalize wdN n = r at *
  have HE : Hid (decide (n = 95) = ((n : Int) == 95)) := Lib.hid (by rw [Bool.eq_iff_iff]; simp; omega)
  have HE2 : Hid (decide (n = 45) = ((n : Int) == 45)) := Lib.hid (by rw [Bool.eq_iff_iff]; simp; omega)
  cases h : ((n : Int) == 95) <;> cases h2 : ((n : Int) == 45)
  all_goals
    cases l <;> cases d
    all_goals
      go_enter Tryd.func77, Tryd.ntmps77
      go_wp2_with fail
      refine (HL.out w).mono ?_
      rintro e w1 ⟨rfl, rfl⟩
      go_wp2_with fail
      first
        | (go_ret; exact ⟨ret_bool (by rw [HV.out, HE.out, HE2.out, h, h2]; rfl), rfl⟩)
        | (refine (HD.out w1).mono ?_
           rintro e w2 ⟨rfl, rfl⟩
           go_wp2_with fail
           go_ret
           exact ⟨ret_bool (by rw [HV.out, HE.out, HE2.out, h, h2]; rfl), rfl⟩)
/-- a closure that decides a class of bytes -/
structure Decides (f : FuncId) (p : Nat → Bool) : Prop where
  enters : ∀ args w, (callFunc f args).run Tryd.prog w = .ok (.enter f args) w
  dec : ∀ (n : Nat) (w : World), Calls Tryd.prog f #[.int .u8 (n : Int)] w fun e w' => e = .returned (.bool (p n)) ∧ w' = w
theorem decLetter : Decides 50 ltN := ⟨enters_of Tryd.func50 (by kernel_rfl) rfl, letter_any⟩
theorem decDigit : Decides 74 dgN := ⟨enters_of Tryd.func74 (by kernel_rfl) rfl, digit_any⟩
theorem decName : Decides 52 nmN := ⟨enters_of Tryd.func52 (by kernel_rfl) rfl, inName_any⟩
theorem decWord : Decides 88 wdN := ⟨enters_of Tryd.func88 (by kernel_rfl) rfl, inWord_any⟩
set_option maxRecDepth 20000 in
set_option maxHeartbeats 4000000 in
theorem all_any (s : ByteArray) (hs : s.size ≤ 1000000) (f : FuncId) (p : Nat → Bool) (hf : Decides f p) (w : World) : Calls Tryd.prog 51 #[.string s, .func (.func f) #[] #[]] w fun e w' => e = .returned (.bool (allN p (tl s))) ∧ w' = w := by
  have hen := hf.enters
  have HV : Hid (allN p (tl s) = allN p (tl s)) := Lib.hid rfl
  go_enter Tryd.func51, Tryd.ntmps51
  go_upto_region 2 with fail
  go_loopg [8] s.size (fun m s8 wx => ∃ i : Nat, i ≤ s.size ∧ m = s.size - i ∧ s8 = .int .i64 (i : Int) ∧ wx = w ∧ Hid (allN p ((tl s).take i) = true))
  case atStart => exact ⟨0, Nat.zero_le _, rfl, rfl, rfl, Lib.hid rfl⟩
  case round =>
    obtain ⟨i, hi, rfl, rfl, rfl, HA⟩ := hrel
    by_cases hil : i < s.size
    · have hii : (i : Int) < (s.size : Int) := by omega
      have HT := Lib.hid (allN_take (p := p) hil)
      have HB := Lib.hid (fun h => allN_bad (p := p) hil h)
      have HC := Lib.hid (hf.dec s[i].toNat wr)
      go_wp2_with fail
      refine HC.out.mono ?_
      rintro e w1 ⟨rfl, hw⟩
      subst hw
      clear HC
      cases hp : p s[i].toNat with
      | false =>
        have HR := Lib.hid (HB.out hp)
        clear hp
        go_wp2_with fail
        go_ret
        rw [HR.out]
        exact ⟨rfl, rfl⟩
      | true =>
        have HA2 : Hid (allN p ((tl s).take (i + 1)) = true) := Lib.hid (by rw [HT.out, HA.out, hp]; rfl)
        clear hp
        go_wp2_with fail
        go_roundg (s.size - (i + 1))
        case measure => omega
        case rel => exact ⟨i + 1, hil, rfl, by first | rfl | simp, rfl, HA2⟩
    · have hii : ¬ (i : Int) < (s.size : Int) := by omega
      have HR := Lib.hid ((allN_full (p := p) hil).symm.trans HA.out)
      go_wp2_with fail
      go_ret
      rw [HR.out]
      exact ⟨rfl, rfl⟩
/-- a word -/
def wordP (s : ByteArray) : Bool := decide (0 < s.size) && decide (s.size ≤ 32) && allN wdN (tl s)
set_option maxRecDepth 20000 in
set_option maxHeartbeats 4000000 in
theorem word_any (s : ByteArray) (hs : s.size ≤ 1000000) (w : World) : Calls Tryd.prog 76 #[.string s] w fun e w' => e = .returned (.bool (wordP s)) ∧ w' = w := by
  by_cases h0 : s.size = 0
  · obtain ⟨e1, e2⟩ := str_empty h0
    have HV : Hid (wordP s = false) := Lib.hid (by unfold wordP; rw [h0]; rfl)
    clear h0
    go_enter Tryd.func76, Tryd.ntmps76
    go_wp2_with fail
    go_ret
    rw [HV.out]
    exact ⟨rfl, rfl⟩
  · obtain ⟨e1, e2⟩ := str_full (s := s) (by omega)
    by_cases h1 : s.size ≤ 32
    · have hi : (s.size : Int) ≤ 32 := by omega
      have HV : Hid (wordP s = allN wdN (tl s)) := Lib.hid (by unfold wordP; rw [decide_eq_true (by omega : 0 < s.size), decide_eq_true h1]; rfl)
      have HC := Lib.hid (all_any s hs _ _ decWord w)
      clear h0
      generalize allN wdN (tl s) = r at *
      go_enter Tryd.func76, Tryd.ntmps76
      go_wp2_with fail
      refine HC.out.mono ?_
      rintro e w1 ⟨rfl, rfl⟩
      go_wp2_with fail
      go_ret
      rw [HV.out]
      exact ⟨rfl, rfl⟩
    · have hi : ¬ (s.size : Int) ≤ 32 := by omega
      have HV : Hid (wordP s = false) := Lib.hid (by unfold wordP; rw [decide_eq_false h1]; simp)
      clear h0
      go_enter Tryd.func76, Tryd.ntmps76
      go_wp2_with fail
      go_ret
      rw [HV.out]
      exact ⟨rfl, rfl⟩
set_option maxRecDepth 20000 in
set_option maxHeartbeats 4000000 in
theorem rword_any (s : ByteArray) (hs : s.size ≤ 1000000) (w : World) : Calls Tryd.prog 58 #[.string s] w fun e w' => e = .returned (.bool (wordP s)) ∧ w' = w := by
  go_enter Tryd.func58, Tryd.ntmps58
  go_upto_region 2 with fail
  go_loopg [3] s.size (fun m s3 wx => ∃ i : Nat, i ≤ s.size ∧ m = s.size - i ∧ s3 = .int .i64 (i : Int) ∧ wx = w ∧ Hid (allN wdN ((tl s).take i) = true))
  case atStart => exact ⟨0, Nat.zero_le _, rfl, rfl, rfl, Lib.hid rfl⟩
  case round =>
    obtain ⟨i, hi, rfl, rfl, rfl, HA⟩ := hrel
    by_cases hil : i < s.size
    · have hii : (i : Int) < (s.size : Int) := by omega
      have HT := Lib.hid (allN_take (p := wdN) hil)
      have HB := Lib.hid (fun h => allN_bad (p := wdN) hil h)
      have HC := Lib.hid (rinWord_any s[i].toNat wr)
      go_wp2_with fail
      refine HC.out.mono ?_
      rintro e w1 ⟨rfl, hw⟩
      subst hw
      clear HC
      cases hp : wdN s[i].toNat with
      | false =>
        have HR : Hid (wordP s = false) := Lib.hid (by unfold wordP; rw [HB.out hp]; simp)
        clear hp
        go_wp2_with fail
        go_ret
        rw [HR.out]
        exact ⟨rfl, rfl⟩
      | true =>
        have HA2 : Hid (allN wdN ((tl s).take (i + 1)) = true) := Lib.hid (by rw [HT.out, HA.out, hp]; rfl)
        clear hp
        go_wp2_with fail
        go_roundg (s.size - (i + 1))
        case measure => omega
        case rel => exact ⟨i + 1, hil, rfl, by first | rfl | simp, rfl, HA2⟩
    · have hii : ¬ (i : Int) < (s.size : Int) := by omega
      have hall := (allN_full (p := wdN) hil).symm.trans HA.out
      by_cases h0 : s.size = 0
      · obtain ⟨e1, e2⟩ := str_empty h0
        have HV : Hid (wordP s = false) := Lib.hid (by unfold wordP; rw [h0]; rfl)
        clear h0 hall
        go_wp2_with fail
        go_ret
        rw [HV.out]
        exact ⟨rfl, rfl⟩
      · obtain ⟨e1, e2⟩ := str_full (s := s) (by omega)
        by_cases h1 : s.size ≤ 32
        · have hi2 : (s.size : Int) ≤ 32 := by omega
          have HV : Hid (wordP s = true) := Lib.hid (by unfold wordP; rw [decide_eq_true (by omega : 0 < s.size), decide_eq_true h1, hall]; rfl)
          clear h0 hall
          go_wp2_with fail
          go_ret
          rw [HV.out]
          exact ⟨rfl, rfl⟩
        · have hi2 : ¬ (s.size : Int) ≤ 32 := by omega
          have HV : Hid (wordP s = false) := Lib.hid (by unfold wordP; rw [decide_eq_false h1]; simp)
          clear h0 hall
          go_wp2_with fail
          go_ret
          rw [HV.out]
          exact ⟨rfl, rfl⟩
end Go.Proofs.YtmdjhakamapngaaDoor
