/-
  Classes of bytes, names, words (policy and its reference). Printed by mkpcb.py.
-/
import Derived.Test.YtogmhaihmkcjgaaGreatDoorPcA
import Derived.Test.YtogmhaihmkcjgaaGreatDoorLxK2
import Derived.Deep.DeepCutAuto
import Derived.Deep.QuietTactic
import Derived.BigQuiet
import Derived.Shelf.Abstract
import Derived.Deep.LoopGhost
import Derived.Deep.RegionHeld3
namespace Go.Proofs.YtogmhaihmkcjgaaGreatDoor
open Go.RowKit Go.Shelf
set_option linter.unusedVariables false

set_option maxHeartbeats 2000000 in
theorem pletter_any (n : Nat) (w : World) : Calls Tryz.prog 247 #[.int .u8 (n : Int)] w fun e w' => e = .returned (.bool (ltN n)) ∧ w' = w := by
  by_cases a : (97 : Int) ≤ (n : Int) <;> by_cases b : (n : Int) ≤ 122 <;> by_cases c : (65 : Int) ≤ (n : Int) <;> by_cases d : (n : Int) ≤ 90 <;>
  first
  | (exfalso; omega)
  | (go_enter Tryz.func247, Tryz.ntmps247
     go_wp2_with fail
     go_ret
     exact ⟨ret_bool (by rw [Bool.eq_iff_iff]; simp [ltN]; omega), rfl⟩)

set_option maxHeartbeats 2000000 in
theorem qletter_any (n : Nat) (w : World) : Calls Tryz.prog 230 #[.int .u8 (n : Int)] w fun e w' => e = .returned (.bool (ltN n)) ∧ w' = w := by
  by_cases a : (97 : Int) ≤ (n : Int) <;> by_cases b : (n : Int) ≤ 122 <;> by_cases c : (65 : Int) ≤ (n : Int) <;> by_cases d : (n : Int) ≤ 90 <;>
  first
  | (exfalso; omega)
  | (go_enter Tryz.func230, Tryz.ntmps230
     go_wp2_with fail
     go_ret
     exact ⟨ret_bool (by rw [Bool.eq_iff_iff]; simp [ltN]; omega), rfl⟩)

set_option maxHeartbeats 2000000 in
theorem pdigit_any (n : Nat) (w : World) : Calls Tryz.prog 248 #[.int .u8 (n : Int)] w fun e w' => e = .returned (.bool (dgN n)) ∧ w' = w := by
  by_cases a : (48 : Int) ≤ (n : Int) <;> by_cases b : (n : Int) ≤ 57 <;>
  first
  | (exfalso; omega)
  | (go_enter Tryz.func248, Tryz.ntmps248
     go_wp2_with fail
     go_ret
     exact ⟨ret_bool (by rw [Bool.eq_iff_iff]; simp [dgN]; omega), rfl⟩)

set_option maxHeartbeats 2000000 in
theorem qdigit_any (n : Nat) (w : World) : Calls Tryz.prog 231 #[.int .u8 (n : Int)] w fun e w' => e = .returned (.bool (dgN n)) ∧ w' = w := by
  by_cases a : (48 : Int) ≤ (n : Int) <;> by_cases b : (n : Int) ≤ 57 <;>
  first
  | (exfalso; omega)
  | (go_enter Tryz.func231, Tryz.ntmps231
     go_wp2_with fail
     go_ret
     exact ⟨ret_bool (by rw [Bool.eq_iff_iff]; simp [dgN]; omega), rfl⟩)

set_option maxRecDepth 20000 in
set_option maxHeartbeats 4000000 in
theorem pname_any (s : ByteArray) (hs : s.size ≤ 1000000) (w : World) : Calls Tryz.prog 188 #[.string s] w fun e w' => e = .returned (.bool (nameP s)) ∧ Below w.heap.size w w' := by
  go_enter Tryz.func188, Tryz.ntmps188
  go_upto_region 2 with fail
  go_loopg [6] s.size (fun m s3 wx => ∃ i : Nat, i ≤ s.size ∧ m = s.size - i ∧ s3 = .int .i64 (i : Int) ∧ wx = w ∧ Hid (allN nmN ((tl s).take i) = true ∧ ∀ (h : 0 < s.size), 0 < i → ltN s[0].toNat = true))
  case atStart => exact ⟨0, Nat.zero_le _, rfl, rfl, rfl, Lib.hid ⟨rfl, fun _ h => absurd h (Nat.lt_irrefl _)⟩⟩
  case round =>
    obtain ⟨i, hi, rfl, rfl, rfl, HA⟩ := hrel
    by_cases hil : i < s.size
    · have hii : (i : Int) < (s.size : Int) := by omega
      have hpos : 0 < s.size := by omega
      have HT := Lib.hid (allN_take (p := nmN) hil)
      have HB := Lib.hid (fun h => allN_bad (p := nmN) hil h)
      have HL := Lib.hid (pletter_any s[i].toNat wr)
      have HD := Lib.hid (pdigit_any s[i].toNat wr)
      have HN : Hid (nmN s[i].toNat = (ltN s[i].toNat || dgN s[i].toNat || !((s[i].toNat : Int) != 95))) := Lib.hid (by
        unfold nmN
        congr 1
        rw [Bool.eq_iff_iff]; simp; omega)
      have HZ : Hid (i = 0 → ltN s[i].toNat = false → nameP s = false) := Lib.hid (fun h1 h2 => by
        subst h1
        unfold nameP
        rw [dif_pos hpos, h2]; simp)
      have HF : Hid (nmN s[i].toNat = false → nameP s = false) := Lib.hid (fun h => by
        unfold nameP
        rw [dif_pos hpos, HB.out h]; simp)
      have HO : Hid (nmN s[i].toNat = true → (i = 0 → ltN s[i].toNat = true) → allN nmN ((tl s).take (i + 1)) = true ∧ ∀ (h : 0 < s.size), 0 < i + 1 → ltN s[0].toNat = true) := Lib.hid (fun h1 h2 => ⟨by rw [HT.out, HA.out.1, h1]; rfl, fun h _ => by
        by_cases hz : i = 0
        · subst hz; exact h2 rfl
        · exact HA.out.2 h (by omega)⟩)
      clear HT HB HA
      generalize ltN s[i].toNat = l at *
      generalize dgN s[i].toNat = d at *
      generalize nmN s[i].toNat = nn at *
      go_wp2_with fail
      refine HL.out.mono ?_
      rintro e w1 ⟨rfl, hw⟩
      subst hw
      clear HL
      cases l with
      | true =>
        have HO2 := Lib.hid (HO.out (by rw [HN.out]; rfl) (fun _ => rfl))
        go_wp2_with fail
        go_roundg (s.size - (i + 1))
        case measure => omega
        case rel => exact ⟨i + 1, hil, rfl, by first | rfl | simp, rfl, HO2⟩
      | false =>
        by_cases hz : i = 0
        · have HR := Lib.hid (HZ.out hz rfl)
          have hz1 : ((i : Int) == 0) = true := by rw [hz]; rfl
          clear hz
          go_wp2_with fail
          go_ret
          rw [HR.out]
          exact ⟨rfl, Below.refl _ _⟩
        · have hz1 : ((i : Int) == 0) = false := by rw [beq_eq_false_iff_ne]; omega
          cases hu : ((s[i].toNat : Int) != 95) with
          | false =>
            have HO2 := Lib.hid (HO.out (by rw [HN.out, hu]; cases d <;> rfl) (fun h => absurd h hz))
            clear hz
            go_wp2_with fail
            first
              | (refine HD.out.mono ?_
                 rintro e w2 ⟨rfl, hw⟩
                 subst hw
                 go_wp2_with fail
                 go_roundg (s.size - (i + 1))
                 case measure => omega
                 case rel => exact ⟨i + 1, hil, rfl, by first | rfl | simp, rfl, HO2⟩)
              | (go_roundg (s.size - (i + 1))
                 case measure => omega
                 case rel => exact ⟨i + 1, hil, rfl, by first | rfl | simp, rfl, HO2⟩)
          | true =>
            cases d with
            | true =>
              have HO2 := Lib.hid (HO.out (by rw [HN.out]; rfl) (fun h => absurd h hz))
              clear hz
              go_wp2_with fail
              refine HD.out.mono ?_
              rintro e w2 ⟨rfl, hw⟩
              subst hw
              go_wp2_with fail
              go_roundg (s.size - (i + 1))
              case measure => omega
              case rel => exact ⟨i + 1, hil, rfl, by first | rfl | simp, rfl, HO2⟩
            | false =>
              have HR := Lib.hid (HF.out (by rw [HN.out, hu]; rfl))
              clear hz
              go_wp2_with fail
              refine HD.out.mono ?_
              rintro e w2 ⟨rfl, hw⟩
              subst hw
              go_wp2_with fail
              go_ret
              rw [HR.out]
              exact ⟨rfl, Below.refl _ _⟩
    · have hii : ¬ (i : Int) < (s.size : Int) := by omega
      have hall := (allN_full (p := nmN) hil).symm.trans HA.out.1
      by_cases h0 : s.size = 0
      · obtain ⟨e1, e2⟩ := str_empty h0
        have HV : Hid (nameP s = false) := Lib.hid (by unfold nameP; rw [dif_neg (by omega)])
        clear h0 hall
        go_wp2_with fail
        go_ret
        rw [HV.out]
        exact ⟨rfl, Below.refl _ _⟩
      · obtain ⟨e1, e2⟩ := str_full (s := s) (by omega)
        have hpos : 0 < s.size := by omega
        have hl := HA.out.2 hpos (by omega)
        by_cases h1 : s.size ≤ 32
        · have hi2 : (s.size : Int) ≤ 32 := by omega
          have HV : Hid (nameP s = !Lx.kw (tl s)) := Lib.hid (by unfold nameP; rw [dif_pos hpos, decide_eq_true h1, hall, hl]; rfl)
          have HK := Lib.hid (keyword_any s wr)
          clear h0 hall hl
          go_wp2_with fail
          refine HK.out.mono ?_
          rintro e w3 ⟨rfl, hw3⟩
          subst hw3
          have hb3 := Below.refl w3.heap.size w3
          go_wp2_with fail
          go_ret
          rw [HV.out]
          exact ⟨rfl, hb3⟩
        · have hi2 : ¬ (s.size : Int) ≤ 32 := by omega
          have HV : Hid (nameP s = false) := Lib.hid (by unfold nameP; rw [dif_pos hpos, decide_eq_false h1]; simp)
          clear h0 hall hl
          go_wp2_with fail
          go_ret
          rw [HV.out]
          exact ⟨rfl, Below.refl _ _⟩

set_option maxRecDepth 20000 in
set_option maxHeartbeats 4000000 in
theorem qname_any (s : ByteArray) (hs : s.size ≤ 1000000) (w : World) : Calls Tryz.prog 164 #[.string s] w fun e w' => e = .returned (.bool (nameP s)) ∧ Below w.heap.size w w' := by
  go_enter Tryz.func164, Tryz.ntmps164
  go_upto_region 2 with fail
  go_loopg [3] s.size (fun m s3 wx => ∃ i : Nat, i ≤ s.size ∧ m = s.size - i ∧ s3 = .int .i64 (i : Int) ∧ wx = w ∧ Hid (allN nmN ((tl s).take i) = true ∧ ∀ (h : 0 < s.size), 0 < i → ltN s[0].toNat = true))
  case atStart => exact ⟨0, Nat.zero_le _, rfl, rfl, rfl, Lib.hid ⟨rfl, fun _ h => absurd h (Nat.lt_irrefl _)⟩⟩
  case round =>
    obtain ⟨i, hi, rfl, rfl, rfl, HA⟩ := hrel
    by_cases hil : i < s.size
    · have hii : (i : Int) < (s.size : Int) := by omega
      have hpos : 0 < s.size := by omega
      have HT := Lib.hid (allN_take (p := nmN) hil)
      have HB := Lib.hid (fun h => allN_bad (p := nmN) hil h)
      have HL := Lib.hid (qletter_any s[i].toNat wr)
      have HD := Lib.hid (qdigit_any s[i].toNat wr)
      have HN : Hid (nmN s[i].toNat = (ltN s[i].toNat || dgN s[i].toNat || !((s[i].toNat : Int) != 95))) := Lib.hid (by
        unfold nmN
        congr 1
        rw [Bool.eq_iff_iff]; simp; omega)
      have HZ : Hid (i = 0 → ltN s[i].toNat = false → nameP s = false) := Lib.hid (fun h1 h2 => by
        subst h1
        unfold nameP
        rw [dif_pos hpos, h2]; simp)
      have HF : Hid (nmN s[i].toNat = false → nameP s = false) := Lib.hid (fun h => by
        unfold nameP
        rw [dif_pos hpos, HB.out h]; simp)
      have HO : Hid (nmN s[i].toNat = true → (i = 0 → ltN s[i].toNat = true) → allN nmN ((tl s).take (i + 1)) = true ∧ ∀ (h : 0 < s.size), 0 < i + 1 → ltN s[0].toNat = true) := Lib.hid (fun h1 h2 => ⟨by rw [HT.out, HA.out.1, h1]; rfl, fun h _ => by
        by_cases hz : i = 0
        · subst hz; exact h2 rfl
        · exact HA.out.2 h (by omega)⟩)
      clear HT HB HA
      generalize ltN s[i].toNat = l at *
      generalize dgN s[i].toNat = d at *
      generalize nmN s[i].toNat = nn at *
      go_wp2_with fail
      refine HL.out.mono ?_
      rintro e w1 ⟨rfl, hw⟩
      subst hw
      clear HL
      cases l with
      | true =>
        have HO2 := Lib.hid (HO.out (by rw [HN.out]; rfl) (fun _ => rfl))
        go_wp2_with fail
        go_roundg (s.size - (i + 1))
        case measure => omega
        case rel => exact ⟨i + 1, hil, rfl, by first | rfl | simp, rfl, HO2⟩
      | false =>
        by_cases hz : i = 0
        · have HR := Lib.hid (HZ.out hz rfl)
          have hz1 : ((i : Int) == 0) = true := by rw [hz]; rfl
          clear hz
          go_wp2_with fail
          go_ret
          rw [HR.out]
          exact ⟨rfl, Below.refl _ _⟩
        · have hz1 : ((i : Int) == 0) = false := by rw [beq_eq_false_iff_ne]; omega
          cases hu : ((s[i].toNat : Int) != 95) with
          | false =>
            have HO2 := Lib.hid (HO.out (by rw [HN.out, hu]; cases d <;> rfl) (fun h => absurd h hz))
            clear hz
            go_wp2_with fail
            first
              | (refine HD.out.mono ?_
                 rintro e w2 ⟨rfl, hw⟩
                 subst hw
                 go_wp2_with fail
                 go_roundg (s.size - (i + 1))
                 case measure => omega
                 case rel => exact ⟨i + 1, hil, rfl, by first | rfl | simp, rfl, HO2⟩)
              | (go_roundg (s.size - (i + 1))
                 case measure => omega
                 case rel => exact ⟨i + 1, hil, rfl, by first | rfl | simp, rfl, HO2⟩)
          | true =>
            cases d with
            | true =>
              have HO2 := Lib.hid (HO.out (by rw [HN.out]; rfl) (fun h => absurd h hz))
              clear hz
              go_wp2_with fail
              refine HD.out.mono ?_
              rintro e w2 ⟨rfl, hw⟩
              subst hw
              go_wp2_with fail
              go_roundg (s.size - (i + 1))
              case measure => omega
              case rel => exact ⟨i + 1, hil, rfl, by first | rfl | simp, rfl, HO2⟩
            | false =>
              have HR := Lib.hid (HF.out (by rw [HN.out, hu]; rfl))
              clear hz
              go_wp2_with fail
              refine HD.out.mono ?_
              rintro e w2 ⟨rfl, hw⟩
              subst hw
              go_wp2_with fail
              go_ret
              rw [HR.out]
              exact ⟨rfl, Below.refl _ _⟩
    · have hii : ¬ (i : Int) < (s.size : Int) := by omega
      have hall := (allN_full (p := nmN) hil).symm.trans HA.out.1
      by_cases h0 : s.size = 0
      · obtain ⟨e1, e2⟩ := str_empty h0
        have HV : Hid (nameP s = false) := Lib.hid (by unfold nameP; rw [dif_neg (by omega)])
        clear h0 hall
        go_wp2_with fail
        go_ret
        rw [HV.out]
        exact ⟨rfl, Below.refl _ _⟩
      · obtain ⟨e1, e2⟩ := str_full (s := s) (by omega)
        have hpos : 0 < s.size := by omega
        have hl := HA.out.2 hpos (by omega)
        by_cases h1 : s.size ≤ 32
        · have hi2 : (s.size : Int) ≤ 32 := by omega
          have HV : Hid (nameP s = !Lx.kw (tl s)) := Lib.hid (by unfold nameP; rw [dif_pos hpos, decide_eq_true h1, hall, hl]; rfl)
          have HK := Lib.hid (rkey_any s wr hs)
          clear h0 hall hl
          go_wp2_with fail
          refine HK.out.mono ?_
          rintro e w3 ⟨rfl, hb3⟩
          go_wp2_with fail
          go_ret
          rw [HV.out]
          exact ⟨rfl, hb3⟩
        · have hi2 : ¬ (s.size : Int) ≤ 32 := by omega
          have HV : Hid (nameP s = false) := Lib.hid (by unfold nameP; rw [dif_pos hpos, decide_eq_false h1]; simp)
          clear h0 hall hl
          go_wp2_with fail
          go_ret
          rw [HV.out]
          exact ⟨rfl, Below.refl _ _⟩

set_option maxRecDepth 20000 in
set_option maxHeartbeats 4000000 in
theorem pword_any (s : ByteArray) (hs : s.size ≤ 1000000) (w : World) : Calls Tryz.prog 189 #[.string s] w fun e w' => e = .returned (.bool (wordP s)) ∧ Below w.heap.size w w' := by
  go_enter Tryz.func189, Tryz.ntmps189
  go_upto_region 2 with fail
  go_loopg [6] s.size (fun m s3 wx => ∃ i : Nat, i ≤ s.size ∧ m = s.size - i ∧ s3 = .int .i64 (i : Int) ∧ wx = w ∧ Hid (allN wdN ((tl s).take i) = true))
  case atStart => exact ⟨0, Nat.zero_le _, rfl, rfl, rfl, Lib.hid rfl⟩
  case round =>
    obtain ⟨i, hi, rfl, rfl, rfl, HA⟩ := hrel
    by_cases hil : i < s.size
    · have hii : (i : Int) < (s.size : Int) := by omega
      have HT := Lib.hid (allN_take (p := wdN) hil)
      have HB := Lib.hid (fun h => allN_bad (p := wdN) hil h)
      have HL := Lib.hid (pletter_any s[i].toNat wr)
      have HD := Lib.hid (pdigit_any s[i].toNat wr)
      have HN : Hid (wdN s[i].toNat = (ltN s[i].toNat || dgN s[i].toNat || !((s[i].toNat : Int) != 95) || !((s[i].toNat : Int) != 45))) := Lib.hid (by
        unfold wdN nmN
        congr 1
        · congr 1
          rw [Bool.eq_iff_iff]; simp; omega
        · rw [Bool.eq_iff_iff]; simp; omega)
      have HF : Hid (wdN s[i].toNat = false → wordP s = false) := Lib.hid (fun h => by unfold wordP; rw [HB.out h]; simp)
      have HO : Hid (wdN s[i].toNat = true → allN wdN ((tl s).take (i + 1)) = true) := Lib.hid (fun h => by rw [HT.out, HA.out, h]; rfl)
      clear HT HB HA
      generalize ltN s[i].toNat = l at *
      generalize dgN s[i].toNat = d at *
      generalize wdN s[i].toNat = nn at *
      cases hu : ((s[i].toNat : Int) != 95) <;> cases hv : ((s[i].toNat : Int) != 45) <;> cases l <;> cases d
      all_goals
        go_wp2_with fail
        refine HL.out.mono ?_
        rintro e w1 ⟨rfl, hw⟩
        subst hw
        clear HL
        go_wp2_with fail
        first
          | (go_roundg (s.size - (i + 1))
             case measure => omega
             case rel => exact ⟨i + 1, hil, rfl, by first | rfl | simp, rfl, Lib.hid (HO.out (by rw [HN.out, hu, hv]; rfl))⟩)
          | (refine HD.out.mono ?_
             rintro e w2 ⟨rfl, hw⟩
             subst hw
             go_wp2_with fail
             first
               | (go_roundg (s.size - (i + 1))
                  case measure => omega
                  case rel => exact ⟨i + 1, hil, rfl, by first | rfl | simp, rfl, Lib.hid (HO.out (by rw [HN.out, hu, hv]; rfl))⟩)
               | (go_ret
                  rw [HF.out (by rw [HN.out, hu, hv]; rfl)]
                  exact ⟨rfl, Below.refl _ _⟩))
    · have hii : ¬ (i : Int) < (s.size : Int) := by omega
      have hall := (allN_full (p := wdN) hil).symm.trans HA.out
      by_cases h0 : s.size = 0
      · obtain ⟨e1, e2⟩ := str_empty h0
        have HV : Hid (wordP s = false) := Lib.hid (by unfold wordP; rw [h0]; rfl)
        clear h0 hall
        go_wp2_with fail
        go_ret
        rw [HV.out]
        exact ⟨rfl, Below.refl _ _⟩
      · obtain ⟨e1, e2⟩ := str_full (s := s) (by omega)
        by_cases h1 : s.size ≤ 32
        · have hi2 : (s.size : Int) ≤ 32 := by omega
          have HV : Hid (wordP s = true) := Lib.hid (by unfold wordP; rw [decide_eq_true (by omega : 0 < s.size), decide_eq_true h1, hall]; rfl)
          clear h0 hall
          go_wp2_with fail
          go_ret
          rw [HV.out]
          exact ⟨rfl, Below.refl _ _⟩
        · have hi2 : ¬ (s.size : Int) ≤ 32 := by omega
          have HV : Hid (wordP s = false) := Lib.hid (by unfold wordP; rw [decide_eq_false h1]; simp)
          clear h0 hall
          go_wp2_with fail
          go_ret
          rw [HV.out]
          exact ⟨rfl, Below.refl _ _⟩

set_option maxRecDepth 20000 in
set_option maxHeartbeats 4000000 in
theorem qword_any (s : ByteArray) (hs : s.size ≤ 1000000) (w : World) : Calls Tryz.prog 165 #[.string s] w fun e w' => e = .returned (.bool (wordP s)) ∧ Below w.heap.size w w' := by
  go_enter Tryz.func165, Tryz.ntmps165
  go_upto_region 2 with fail
  go_loopg [3] s.size (fun m s3 wx => ∃ i : Nat, i ≤ s.size ∧ m = s.size - i ∧ s3 = .int .i64 (i : Int) ∧ wx = w ∧ Hid (allN wdN ((tl s).take i) = true))
  case atStart => exact ⟨0, Nat.zero_le _, rfl, rfl, rfl, Lib.hid rfl⟩
  case round =>
    obtain ⟨i, hi, rfl, rfl, rfl, HA⟩ := hrel
    by_cases hil : i < s.size
    · have hii : (i : Int) < (s.size : Int) := by omega
      have HT := Lib.hid (allN_take (p := wdN) hil)
      have HB := Lib.hid (fun h => allN_bad (p := wdN) hil h)
      have HL := Lib.hid (qletter_any s[i].toNat wr)
      have HD := Lib.hid (qdigit_any s[i].toNat wr)
      have HN : Hid (wdN s[i].toNat = (ltN s[i].toNat || dgN s[i].toNat || !((s[i].toNat : Int) != 95) || !((s[i].toNat : Int) != 45))) := Lib.hid (by
        unfold wdN nmN
        congr 1
        · congr 1
          rw [Bool.eq_iff_iff]; simp; omega
        · rw [Bool.eq_iff_iff]; simp; omega)
      have HF : Hid (wdN s[i].toNat = false → wordP s = false) := Lib.hid (fun h => by unfold wordP; rw [HB.out h]; simp)
      have HO : Hid (wdN s[i].toNat = true → allN wdN ((tl s).take (i + 1)) = true) := Lib.hid (fun h => by rw [HT.out, HA.out, h]; rfl)
      clear HT HB HA
      generalize ltN s[i].toNat = l at *
      generalize dgN s[i].toNat = d at *
      generalize wdN s[i].toNat = nn at *
      cases hu : ((s[i].toNat : Int) != 95) <;> cases hv : ((s[i].toNat : Int) != 45) <;> cases l <;> cases d
      all_goals
        go_wp2_with fail
        refine HL.out.mono ?_
        rintro e w1 ⟨rfl, hw⟩
        subst hw
        clear HL
        go_wp2_with fail
        first
          | (go_roundg (s.size - (i + 1))
             case measure => omega
             case rel => exact ⟨i + 1, hil, rfl, by first | rfl | simp, rfl, Lib.hid (HO.out (by rw [HN.out, hu, hv]; rfl))⟩)
          | (refine HD.out.mono ?_
             rintro e w2 ⟨rfl, hw⟩
             subst hw
             go_wp2_with fail
             first
               | (go_roundg (s.size - (i + 1))
                  case measure => omega
                  case rel => exact ⟨i + 1, hil, rfl, by first | rfl | simp, rfl, Lib.hid (HO.out (by rw [HN.out, hu, hv]; rfl))⟩)
               | (go_ret
                  rw [HF.out (by rw [HN.out, hu, hv]; rfl)]
                  exact ⟨rfl, Below.refl _ _⟩))
    · have hii : ¬ (i : Int) < (s.size : Int) := by omega
      have hall := (allN_full (p := wdN) hil).symm.trans HA.out
      by_cases h0 : s.size = 0
      · obtain ⟨e1, e2⟩ := str_empty h0
        have HV : Hid (wordP s = false) := Lib.hid (by unfold wordP; rw [h0]; rfl)
        clear h0 hall
        go_wp2_with fail
        go_ret
        rw [HV.out]
        exact ⟨rfl, Below.refl _ _⟩
      · obtain ⟨e1, e2⟩ := str_full (s := s) (by omega)
        by_cases h1 : s.size ≤ 32
        · have hi2 : (s.size : Int) ≤ 32 := by omega
          have HV : Hid (wordP s = true) := Lib.hid (by unfold wordP; rw [decide_eq_true (by omega : 0 < s.size), decide_eq_true h1, hall]; rfl)
          clear h0 hall
          go_wp2_with fail
          go_ret
          rw [HV.out]
          exact ⟨rfl, Below.refl _ _⟩
        · have hi2 : ¬ (s.size : Int) ≤ 32 := by omega
          have HV : Hid (wordP s = false) := Lib.hid (by unfold wordP; rw [decide_eq_false h1]; simp)
          clear h0 hall
          go_wp2_with fail
          go_ret
          rw [HV.out]
          exact ⟨rfl, Below.refl _ _⟩

end Go.Proofs.YtogmhaihmkcjgaaGreatDoor
