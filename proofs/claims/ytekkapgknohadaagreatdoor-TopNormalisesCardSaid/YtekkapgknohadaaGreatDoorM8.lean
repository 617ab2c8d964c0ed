/- Classes of bytes, names, words (policy and its reference). Printed by mkpcb.py. -/
import Derived.Test.YtekkapgknohadaaGreatDoorM1
import Derived.Test.YtekkapgknohadaaGreatDoorM7
import Derived.Deep.DeepCutAuto
import Derived.Deep.QuietTactic
import Derived.BigQuiet
import Derived.Shelf.Abstract
import Derived.Deep.LoopGhost
import Derived.Deep.RegionHeld3
set_option linter.unusedVariables false
set_option maxRecDepth 20000
set_option maxHeartbeats 4000000
namespace Go.Proofs.YtekkapgknohadaaGreatDoor
open Go.RowKit Go.Shelf
open Lib (hid)
theorem pletter_any (n : Nat) (w : World) : Calls Tryz.prog 197 #[.int .u8 (n : Int)] w fun e w' => e = .returned (.bool (ltN n)) ∧ w' = w := by
 by_cases a : (97 : Int) ≤ (n : Int) <;> by_cases b : (n : Int) ≤ 122 <;> by_cases c : (65 : Int) ≤ (n : Int) <;> by_cases d : (n : Int) ≤ 90 <;>
 first
 | (exfalso; omega)
 | (go_enter Tryz.func197, Tryz.ntmps197
    go_wp2_with fail
    go_ret
    exact ⟨zap (by rw [Bool.eq_iff_iff]; simp [ltN]; omega), rfl⟩)
theorem pdigit_any (n : Nat) (w : World) : Calls Tryz.prog 198 #[.int .u8 (n : Int)] w fun e w' => e = .returned (.bool (dgN n)) ∧ w' = w := by
 by_cases a : (48 : Int) ≤ (n : Int) <;> by_cases b : (n : Int) ≤ 57 <;>
 first
 | (exfalso; omega)
 | (go_enter Tryz.func198, Tryz.ntmps198
    go_wp2_with fail
    go_ret
    exact ⟨zap (by rw [Bool.eq_iff_iff]; simp [dgN]; omega), rfl⟩)
theorem zbu (s : ByteArray) (hs : s.size ≤ 1000000) (w : World) : Calls Tryz.prog 148 #[.string s] w fun e w' => e = .returned (.bool (nameP s)) ∧ Below w.heap.size w w' := by
 go_enter Tryz.func148, Tryz.ntmps148
 go_upto_region 2 with fail
 go_loopg [6] s.size (fun m s3 wx => ∃ i : Nat, i ≤ s.size ∧ m = s.size - i ∧ s3 = .int .i64 (i : Int) ∧ wx = w ∧ Hid (allN nmN ((tl s).take i) = true ∧ ∀ (h : 0 < s.size), 0 < i → ltN s[0].toNat = true))
 case atStart => exact ⟨0, Nat.zero_le _, rfl, rfl, rfl, hid ⟨rfl, fun _ h => absurd h (Nat.lt_irrefl _)⟩⟩
 case round =>
  obtain ⟨i, hi, rfl, rfl, rfl, HA⟩ := hrel
  by_cases hil : i < s.size
  ·have hii : (i : Int) < (s.size : Int) := by omega
   have hpos : 0 < s.size := by omega
   have HT := hid (allN_take (p := nmN) hil)
   have HB := hid (fun h => allN_bad (p := nmN) hil h)
   have HL := hid (pletter_any s[i].toNat wr)
   have HD := hid (pdigit_any s[i].toNat wr)
   have HN : Hid (nmN s[i].toNat = (ltN s[i].toNat || dgN s[i].toNat || !((s[i].toNat : Int) != 95))) := hid (by
    unfold nmN
    congr 1
    rw [Bool.eq_iff_iff]; simp; omega)
   have HZ : Hid (i = 0 → ltN s[i].toNat = false → nameP s = false) := hid (fun h1 h2 => by
    subst h1
    unfold nameP
    rw [dif_pos hpos, h2]; simp)
   have HF : Hid (nmN s[i].toNat = false → nameP s = false) := hid (fun h => by
    unfold nameP
    rw [dif_pos hpos, HB.out h]; simp)
   have HO : Hid (nmN s[i].toNat = true → (i = 0 → ltN s[i].toNat = true) → allN nmN ((tl s).take (i + 1)) = true ∧ ∀ (h : 0 < s.size), 0 < i + 1 → ltN s[0].toNat = true) := hid (fun h1 h2 => ⟨by rw [HT.out, HA.out.1, h1]; rfl, fun h _ => by
    by_cases hz : i = 0
    ·subst hz; exact h2 rfl
    ·exact HA.out.2 h (by omega)⟩)
   clear HT HB HA
   generalize ltN s[i].toNat = l at *
   generalize dgN s[i].toNat = d at *
   generalize nmN s[i].toNat = nn at *
   go_wp2_with fail
   refine HL.out.mono ?_
   rintro e w1 ⟨rfl, hw⟩
   subst hw
   clear HL
   cases l with
   | true =>
     have HO2 := hid (HO.out (by rw [HN.out]; rfl) (fun _ => rfl))
     go_wp2_with fail
     go_roundg (s.size - (i + 1))
     case measure => omega
     case rel => exact ⟨i + 1, hil, rfl, by first | rfl | simp, rfl, HO2⟩
   | false =>
     by_cases hz : i = 0
     ·have HR := hid (HZ.out hz rfl)
      have hz1 : ((i : Int) == 0) = true := by rw [hz]; rfl
      clear hz
      go_wp2_with fail
      go_ret
      rw [HR.out]
      exact ⟨rfl, Below.refl _ _⟩
     ·have hz1 : ((i : Int) == 0) = false := by rw [beq_eq_false_iff_ne]; omega
      cases hu : ((s[i].toNat : Int) != 95) with
      | false =>
        have HO2 := hid (HO.out (by rw [HN.out, hu]; cases d <;> rfl) (fun h => absurd h hz))
        clear hz
        go_wp2_with fail
        first
         | (refine HD.out.mono ?_
            rintro e w2 ⟨rfl, hw⟩
            subst hw
            go_wp2_with fail
            go_roundg (s.size - (i + 1))
            case measure => omega
            case rel => exact ⟨i + 1, hil, rfl, by first | rfl | simp, rfl, HO2⟩)
         | (go_roundg (s.size - (i + 1))
            case measure => omega
            case rel => exact ⟨i + 1, hil, rfl, by first | rfl | simp, rfl, HO2⟩)
      | true =>
        cases d with
        | true =>
          have HO2 := hid (HO.out (by rw [HN.out]; rfl) (fun h => absurd h hz))
          clear hz
          go_wp2_with fail
          refine HD.out.mono ?_
          rintro e w2 ⟨rfl, hw⟩
          subst hw
          go_wp2_with fail
          go_roundg (s.size - (i + 1))
          case measure => omega
          case rel => exact ⟨i + 1, hil, rfl, by first | rfl | simp, rfl, HO2⟩
        | false =>
          have HR := hid (HF.out (by rw [HN.out, hu]; rfl))
          clear hz
          go_wp2_with fail
          refine HD.out.mono ?_
          rintro e w2 ⟨rfl, hw⟩
          subst hw
          go_wp2_with fail
          go_ret
          rw [HR.out]
          exact ⟨rfl, Below.refl _ _⟩
  ·have hii : ¬ (i : Int) < (s.size : Int) := by omega
   have hall := (allN_full (p := nmN) hil).symm.trans HA.out.1
   by_cases h0 : s.size = 0
   ·obtain ⟨e1, e2⟩ := str_empty h0
    have HV : Hid (nameP s = false) := hid (by unfold nameP; rw [dif_neg (by omega)])
    clear h0 hall
    go_wp2_with fail
    go_ret
    rw [HV.out]
    exact ⟨rfl, Below.refl _ _⟩
   ·obtain ⟨e1, e2⟩ := str_full (s := s) (by omega)
    have hpos : 0 < s.size := by omega
    have hl := HA.out.2 hpos (by omega)
    by_cases h1 : s.size ≤ 32
    ·have hi2 : (s.size : Int) ≤ 32 := by omega
     have HV : Hid (nameP s = !Lx.kw (tl s)) := hid (by unfold nameP; rw [dif_pos hpos, decide_eq_true h1, hall, hl]; rfl)
     have HK := hid (zc5 s wr)
     clear h0 hall hl
     go_wp2_with fail
     refine HK.out.mono ?_
     rintro e w3 ⟨rfl, hw3⟩
     subst hw3
     have hb3 := Below.refl w3.heap.size w3
     go_wp2_with fail
     go_ret
     rw [HV.out]
     exact ⟨rfl, hb3⟩
    ·have hi2 : ¬ (s.size : Int) ≤ 32 := by omega
     have HV : Hid (nameP s = false) := hid (by unfold nameP; rw [dif_pos hpos, decide_eq_false h1]; simp)
     clear h0 hall hl
     go_wp2_with fail
     go_ret
     rw [HV.out]
     exact ⟨rfl, Below.refl _ _⟩
theorem pword_any (s : ByteArray) (hs : s.size ≤ 1000000) (w : World) : Calls Tryz.prog 149 #[.string s] w fun e w' => e = .returned (.bool (wordP s)) ∧ Below w.heap.size w w' := by
 go_enter Tryz.func149, Tryz.ntmps149
 go_upto_region 2 with fail
 go_loopg [6] s.size (fun m s3 wx => ∃ i : Nat, i ≤ s.size ∧ m = s.size - i ∧ s3 = .int .i64 (i : Int) ∧ wx = w ∧ Hid (allN wdN ((tl s).take i) = true))
 case atStart => exact ⟨0, Nat.zero_le _, rfl, rfl, rfl, hid rfl⟩
 case round =>
  obtain ⟨i, hi, rfl, rfl, rfl, HA⟩ := hrel
  by_cases hil : i < s.size
  ·have hii : (i : Int) < (s.size : Int) := by omega
   have HT := hid (allN_take (p := wdN) hil)
   have HB := hid (fun h => allN_bad (p := wdN) hil h)
   have HL := hid (pletter_any s[i].toNat wr)
   have HD := hid (pdigit_any s[i].toNat wr)
   have HN : Hid (wdN s[i].toNat = (ltN s[i].toNat || dgN s[i].toNat || !((s[i].toNat : Int) != 95) || !((s[i].toNat : Int) != 45))) := hid (by
    unfold wdN nmN
    congr 1
    ·congr 1
     rw [Bool.eq_iff_iff]; simp; omega
    ·rw [Bool.eq_iff_iff]; simp; omega)
   have HF : Hid (wdN s[i].toNat = false → wordP s = false) := hid (fun h => by unfold wordP; rw [HB.out h]; simp)
   have HO : Hid (wdN s[i].toNat = true → allN wdN ((tl s).take (i + 1)) = true) := hid (fun h => by rw [HT.out, HA.out, h]; rfl)
   clear HT HB HA
   generalize ltN s[i].toNat = l at *
   generalize dgN s[i].toNat = d at *
   generalize wdN s[i].toNat = nn at *
   cases hu : ((s[i].toNat : Int) != 95) <;> cases hv : ((s[i].toNat : Int) != 45) <;> cases l <;> cases d
   all_goals
    go_wp2_with fail
    refine HL.out.mono ?_
    rintro e w1 ⟨rfl, hw⟩
    subst hw
    clear HL
    go_wp2_with fail
    first
     | (go_roundg (s.size - (i + 1))
        case measure => omega
        case rel => exact ⟨i + 1, hil, rfl, by first | rfl | simp, rfl, hid (HO.out (by rw [HN.out, hu, hv]; rfl))⟩)
     | (refine HD.out.mono ?_
        rintro e w2 ⟨rfl, hw⟩
        subst hw
        go_wp2_with fail
        first
         | (go_roundg (s.size - (i + 1))
            case measure => omega
            case rel => exact ⟨i + 1, hil, rfl, by first | rfl | simp, rfl, hid (HO.out (by rw [HN.out, hu, hv]; rfl))⟩)
         | (go_ret
            rw [HF.out (by rw [HN.out, hu, hv]; rfl)]
            exact ⟨rfl, Below.refl _ _⟩))
  ·have hii : ¬ (i : Int) < (s.size : Int) := by omega
   have hall := (allN_full (p := wdN) hil).symm.trans HA.out
   by_cases h0 : s.size = 0
   ·obtain ⟨e1, e2⟩ := str_empty h0
    have HV : Hid (wordP s = false) := hid (by unfold wordP; rw [h0]; rfl)
    clear h0 hall
    go_wp2_with fail
    go_ret
    rw [HV.out]
    exact ⟨rfl, Below.refl _ _⟩
   ·obtain ⟨e1, e2⟩ := str_full (s := s) (by omega)
    by_cases h1 : s.size ≤ 32
    ·have hi2 : (s.size : Int) ≤ 32 := by omega
     have HV : Hid (wordP s = true) := hid (by unfold wordP; rw [decide_eq_true (by omega : 0 < s.size), decide_eq_true h1, hall]; rfl)
     clear h0 hall
     go_wp2_with fail
     go_ret
     rw [HV.out]
     exact ⟨rfl, Below.refl _ _⟩
    ·have hi2 : ¬ (s.size : Int) ≤ 32 := by omega
     have HV : Hid (wordP s = false) := hid (by unfold wordP; rw [decide_eq_false h1]; simp)
     clear h0 hall
     go_wp2_with fail
     go_ret
     rw [HV.out]
     exact ⟨rfl, Below.refl _ _⟩
end Go.Proofs.YtekkapgknohadaaGreatDoor
