/- A node alone: kids, texts, form of policy; form of the reference. Printed by mkpcd.py. -/
import Derived.Test.YtekkapgknohadaaGreatDoorM8
import Derived.Test.YtekkapgknohadaaGreatDoorM2
set_option linter.unusedVariables false
set_option maxRecDepth 20000
set_option maxHeartbeats 16000000
namespace Go.Proofs.YtekkapgknohadaaGreatDoor
open Go.RowKit Go.Shelf
open Lib (hid)
theorem ieq {a b : Int} : (a == b) = decide (a = b) := by rw [Bool.eq_iff_iff, beq_iff_eq, decide_eq_true_iff]
theorem kids_cases (k : Int) : (k = 0 ∨ k = 1 ∨ k = 2 ∨ k = 3 ∨ k = 4 ∨ k = 5 ∨ k = 6 ∨ k = 7 ∨ k = 8 ∨ k = 9 ∨ k = 10 ∨ k = 11) ∨ ((k == 0) = false ∧ (k == 1) = false ∧ (k == 2) = false ∧ (k == 3) = false ∧ (k == 4) = false ∧ (k == 5) = false ∧ (k == 6) = false ∧ (k == 7) = false ∧ (k == 8) = false ∧ (k == 9) = false ∧ (k == 10) = false ∧ (k == 11) = false ∧ (k < 0 ∨ 12 ≤ k)) := by
 by_cases h : k < 0 ∨ 12 ≤ k
 ·right
  simp only [beq_eq_false_iff_ne]
  omega
 ·left; omega
theorem kids_any (k : Int) (n : Nat) (w : World) : Calls Tryz.prog 199 #[.int .i64 k, .int .i64 (n : Int)] w fun e w' => e = .returned (.bool (kidsP k n)) ∧ w' = w := by
 rcases kids_cases k with (rfl | rfl | rfl | rfl | rfl | rfl | rfl | rfl | rfl | rfl | rfl | rfl) | ⟨a0, a1, a2, a3, a4, a5, a6, a7, a8, a9, a10, a11, h⟩
 case inr =>
  have HR : Hid (kidsP k n = false) := hid (by
   unfold kidsP
   rw [if_neg (by omega), if_neg (by omega), if_neg (by omega), if_neg (by omega), if_neg (by omega), if_neg (by omega)])
  clear h
  go_enter Tryz.func199, Tryz.ntmps199
  go_wp2_with fail
  go_ret
  exact ⟨zap HR.out.symm, rfl⟩
 all_goals
  go_enter Tryz.func199, Tryz.ntmps199
  go_wp2_with fail
  go_ret
  exact ⟨zap (by rw [Bool.eq_iff_iff]; simp [kidsP] <;> omega), rfl⟩
theorem zc0 {s : ByteArray} (h : decide (s.size = 0) = true) : s.toList.isEmpty = true ∧ s.toList = [] := str_empty (of_decide_eq_true h)
theorem sz_full {s : ByteArray} (h : decide (s.size = 0) = false) : s.toList.isEmpty = false ∧ ¬ s.toList = [] := str_full (by have := of_decide_eq_false h; omega)
theorem texts_any (n : Nk) (KA : Option Addr) (kc : Nat) (hB : NBd n) (w : World) : Calls Tryz.prog 200 #[nkV n KA kc] w fun e w' => e = .returned (.bool (textsP n)) ∧ Below w.heap.size w w' := by
 have hk := (Hp.start w).new 68 (nkcs n KA kc)
 have HN1 := hid (zbu n.name hB.name)
 have HN2 := hid (zbu n.attr hB.attr)
 have HW1 := hid (pword_any n.name hB.name)
 have HV : Hid (textsP n = if n.kind = 9 then nameP n.name && nameP n.attr else if n.kind = 11 then wordP n.name && decide (n.attr.size = 0) else decide (n.name.size = 0) && decide (n.attr.size = 0)) := hid rfl
 generalize nameP n.name = q1 at *
 generalize nameP n.attr = q2 at *
 generalize wordP n.name = q3 at *
 obtain ⟨g, hg⟩ : ∃ x, w.heap.size = x := ⟨_, rfl⟩
 rw [hg] at hk
 clear hB
 go_enter Tryz.func200, Tryz.ntmps200
 go_upto_region 1 with fail
 try simp only [hg]
 have hk : Hp [] w [iblk g 68 (nkcs n KA kc)] (w.alloc (.cells #[.int .i64 n.kind, .int .i64 n.num, .string n.name, .string n.attr, .slice KA n.kids.length kc, .int .i64 n.at_] 68)) := hk
 generalize w.alloc (.cells #[.int .i64 n.kind, .int .i64 n.num, .string n.name, .string n.attr, .slice KA n.kids.length kc, .int .i64 n.at_] 68) = W at *
 obtain ⟨c0, c1, c2, c3, c4, c5⟩ := (hk.blk 0 rfl).get6
 by_cases h9 : n.kind = 9
 ·have k9 : (n.kind == 9) = true := by rw [ieq, decide_eq_true h9]
  have HR : Hid (textsP n = (q1 && q2)) := hid (by rw [HV.out, if_pos h9])
  clear h9
  go_wp2_with fail
  refine (HN1.out W).mono ?_
  rintro e w1 ⟨rfl, hb1⟩
  have hk1 := hk.next hb1
  clear hk hb1 c0 c1 c2 c3 c4 c5
  obtain ⟨c0, c1, c2, c3, c4, c5⟩ := (hk1.blk 0 rfl).get6
  cases q1 with
  | false =>
   go_wp2_with fail
   go_ret
   rw [HR.out]
   exact ⟨rfl, by first | exact hk1.below0 | (subst hg; exact hk1.below0)⟩
  | true =>
   go_wp2_with fail
   refine (HN2.out w1).mono ?_
   rintro e w2 ⟨rfl, hb2⟩
   have hk2 := hk1.next hb2
   go_wp2_with fail
   go_ret
   rw [HR.out]
   exact ⟨rfl, by first | exact hk2.below0 | (subst hg; exact hk2.below0)⟩
 ·have k9 : (n.kind == 9) = false := by rw [ieq, decide_eq_false h9]
  by_cases h11 : n.kind = 11
  ·have k11 : (n.kind == 11) = true := by rw [ieq, decide_eq_true h11]
   have HR : Hid (textsP n = (q3 && decide (n.attr.size = 0))) := hid (by rw [HV.out, if_neg h9, if_pos h11])
   clear h9 h11
   go_wp2_with fail
   refine (HW1.out W).mono ?_
   rintro e w1 ⟨rfl, hb1⟩
   have hk1 := hk.next hb1
   clear hk hb1 c0 c1 c2 c3 c4 c5
   obtain ⟨c0, c1, c2, c3, c4, c5⟩ := (hk1.blk 0 rfl).get6
   cases q3 with
   | false =>
    go_wp2_with fail
    go_ret
    rw [HR.out]
    exact ⟨rfl, by first | exact hk1.below0 | (subst hg; exact hk1.below0)⟩
   | true =>
    cases ha : decide (n.attr.size = 0)
    all_goals
     first | obtain ⟨e1, e2⟩ := sz_full ha | obtain ⟨e1, e2⟩ := zc0 ha
     go_wp2_with fail
     go_ret
     rw [HR.out, ha]
     exact ⟨rfl, by first | exact hk1.below0 | (subst hg; exact hk1.below0)⟩
  ·have k11 : (n.kind == 11) = false := by rw [ieq, decide_eq_false h11]
   have HR : Hid (textsP n = (decide (n.name.size = 0) && decide (n.attr.size = 0))) := hid (by rw [HV.out, if_neg h9, if_neg h11])
   clear h9 h11
   cases hn : decide (n.name.size = 0) with
   | false =>
    obtain ⟨d1, d2⟩ := sz_full hn
    go_wp2_with fail
    go_ret
    rw [HR.out, hn]
    exact ⟨rfl, by first | exact hk.below0 | (subst hg; exact hk.below0)⟩
   | true =>
    obtain ⟨d1, d2⟩ := zc0 hn
    cases ha : decide (n.attr.size = 0)
    all_goals
     first | obtain ⟨e1, e2⟩ := sz_full ha | obtain ⟨e1, e2⟩ := zc0 ha
     go_wp2_with fail
     go_ret
     rw [HR.out, hn, ha]
     exact ⟨rfl, by first | exact hk.below0 | (subst hg; exact hk.below0)⟩
theorem form_any (n : Nk) (KA : Option Addr) (kc : Nat) (hB : NBd n) (cond : Bool) (w : World) : Calls Tryz.prog 151 #[nkV n KA kc, .bool cond] w fun e w' => e = .returned (.int .i64 (formP n cond)) ∧ Below w.heap.size w w' := by
 have hk := (Hp.start w).new 68 (nkcs n KA kc)
 have HK := hid (kids_any n.kind n.kids.length)
 have HT := hid (texts_any n KA kc hB)
 have HS : Hid (shapeP n cond = (decide (0 ≤ n.kind) && decide (n.kind < 12) && (decide (n.kind ≤ 8) == cond) && kidsP n.kind n.kids.length && textsP n)) := hid rfl
 have HF : Hid (formP n cond = if shapeP n cond = false then 3 else if n.num < lowP n ∨ highP n < n.num then 2 else 0) := hid rfl
 have hkl := hB.kids
 generalize kidsP n.kind n.kids.length = qk at *
 generalize textsP n = qt at *
 obtain ⟨g, hg⟩ : ∃ x, w.heap.size = x := ⟨_, rfl⟩
 rw [hg] at hk
 clear hB
 go_enter Tryz.func151, Tryz.ntmps151
 go_upto_region 1 with fail
 try simp only [hg]
 have hk : Hp [] w [iblk g 68 (nkcs n KA kc)] (w.alloc (.cells #[.int .i64 n.kind, .int .i64 n.num, .string n.name, .string n.attr, .slice KA n.kids.length kc, .int .i64 n.at_] 68)) := hk
 generalize w.alloc (.cells #[.int .i64 n.kind, .int .i64 n.num, .string n.name, .string n.attr, .slice KA n.kids.length kc, .int .i64 n.at_] 68) = W at *
 obtain ⟨c0, c1, c2, c3, c4, c5⟩ := (hk.blk 0 rfl).get6
 by_cases h1 : n.kind < 0
 ·have HR : Hid (formP n cond = 3) := hid (by rw [HF.out, HS.out, decide_eq_false (by omega : ¬ 0 ≤ n.kind)]; rfl)
  go_wp2_with fail
  go_ret
  rw [HR.out]
  exact ⟨rfl, by first | exact hk.below0 | (subst hg; exact hk.below0)⟩
 ·by_cases h2 : 12 ≤ n.kind
  ·have HR : Hid (formP n cond = 3) := hid (by rw [HF.out, HS.out, decide_eq_false (by omega : ¬ n.kind < 12)]; simp)
   go_wp2_with fail
   go_ret
   rw [HR.out]
   exact ⟨rfl, by first | exact hk.below0 | (subst hg; exact hk.below0)⟩
  ·have hs1 : decide (0 ≤ n.kind) = true := decide_eq_true (by omega)
   have hs2 : decide (n.kind < 12) = true := decide_eq_true (by omega)
   rw [hs1, hs2] at HS
   clear hs1 hs2
   cases h8 : decide (n.kind ≤ 8) <;> cases cond
   case false.true =>
    have HR : Hid (formP n true = 3) := hid (by rw [HF.out, HS.out, h8]; rfl)
    go_wp2_with fail
    go_ret
    rw [HR.out]
    exact ⟨rfl, by first | exact hk.below0 | (subst hg; exact hk.below0)⟩
   case true.false =>
    have HR : Hid (formP n false = 3) := hid (by rw [HF.out, HS.out, h8]; rfl)
    go_wp2_with fail
    go_ret
    rw [HR.out]
    exact ⟨rfl, by first | exact hk.below0 | (subst hg; exact hk.below0)⟩
   all_goals
    cases qk with
    | false =>
     have HR := hid (HF.out.trans (by rw [HS.out]; simp) : _ = (3 : Int))
     go_wp2_with fail
     refine (HK.out W).mono ?_
     rintro e w1 ⟨rfl, hw⟩
     subst hw
     go_wp2_with fail
     go_ret
     rw [HR.out]
     exact ⟨rfl, by first | exact hk.below0 | (subst hg; exact hk.below0)⟩
    | true =>
     go_wp2_with fail
     refine (HK.out W).mono ?_
     rintro e w1 ⟨rfl, hw⟩
     subst hw
     go_wp2_with fail
     refine (HT.out _).mono ?_
     rintro e w2 ⟨rfl, hb2⟩
     have hk2 := hk.next hb2
     clear hk hb2 c0 c1 c2 c3 c4 c5
     obtain ⟨c0, c1, c2, c3, c4, c5⟩ := (hk2.blk 0 rfl).get6
     cases qt with
     | false =>
      have HR := hid (HF.out.trans (by rw [HS.out]; simp) : _ = (3 : Int))
      go_wp2_with fail
      go_ret
      rw [HR.out]
      exact ⟨rfl, by first | exact hk2.below0 | (subst hg; exact hk2.below0)⟩
     | true =>
      have HV2 := hid (HF.out.trans (by rw [if_neg (by rw [HS.out, h8]; simp)]) : _ = (if n.num < lowP n ∨ highP n < n.num then (2 : Int) else 0))
      clear HF HS h8 HT HK
      clear h1 h2
      by_cases h5 : n.kind = 5
      ·have k5 : (n.kind == 5) = true := by rw [ieq, decide_eq_true h5]
       have e1 : lowP n = 1 := by rw [lowP, if_pos h5]
       have e2 : highP n = (n.kids.length : Int) := by rw [highP, if_pos h5]
       clear h5
       go_upto_region 6 with fail
       go_quiet (fail)
       by_cases l1 : n.num < 1
       ·have HR := hid (HV2.out.trans (by rw [e1, e2, if_pos (.inl l1)]) : _ = (2 : Int))
        go_wp2_with fail
        go_ret
        rw [HR.out]
        exact ⟨rfl, by first | exact hk2.below0 | (subst hg; exact hk2.below0) | exact zad hk2.below0 nq | (subst hg; exact zad hk2.below0 nq)⟩
       ·by_cases l2 : (n.kids.length : Int) < n.num
        ·have HR := hid (HV2.out.trans (by rw [e1, e2, if_pos (.inr l2)]) : _ = (2 : Int))
         go_wp2_with fail
         go_ret
         rw [HR.out]
         exact ⟨rfl, by first | exact hk2.below0 | (subst hg; exact hk2.below0) | exact zad hk2.below0 nq | (subst hg; exact zad hk2.below0 nq)⟩
        ·have HR := hid (HV2.out.trans (by rw [e1, e2, if_neg (by omega)]) : _ = (0 : Int))
         go_wp2_with fail
         go_ret
         rw [HR.out]
         exact ⟨rfl, by first | exact hk2.below0 | (subst hg; exact hk2.below0) | exact zad hk2.below0 nq | (subst hg; exact zad hk2.below0 nq)⟩
      ·have k5 : (n.kind == 5) = false := by rw [ieq, decide_eq_false h5]
       by_cases h6 : n.kind = 6
       ·have k6 : (n.kind == 6) = true := by rw [ieq, decide_eq_true h6]
        have e1 : lowP n = 0 := by rw [lowP, if_neg h5, if_neg (by omega)]
        have e2 : highP n = 5 := by rw [highP, if_neg h5, if_pos h6]
        clear h5 h6
        by_cases l1 : n.num < 0
        ·have HR := hid (HV2.out.trans (by rw [e1, e2, if_pos (.inl l1)]) : _ = (2 : Int))
         go_wp2_with fail
         go_ret
         rw [HR.out]
         exact ⟨rfl, by first | exact hk2.below0 | (subst hg; exact hk2.below0) | exact zad hk2.below0 nq | (subst hg; exact zad hk2.below0 nq)⟩
        ·by_cases l2 : 5 < n.num
         ·have HR := hid (HV2.out.trans (by rw [e1, e2, if_pos (.inr l2)]) : _ = (2 : Int))
          go_wp2_with fail
          go_ret
          rw [HR.out]
          exact ⟨rfl, by first | exact hk2.below0 | (subst hg; exact hk2.below0) | exact zad hk2.below0 nq | (subst hg; exact zad hk2.below0 nq)⟩
         ·have HR := hid (HV2.out.trans (by rw [e1, e2, if_neg (by omega)]) : _ = (0 : Int))
          go_wp2_with fail
          go_ret
          rw [HR.out]
          exact ⟨rfl, by first | exact hk2.below0 | (subst hg; exact hk2.below0) | exact zad hk2.below0 nq | (subst hg; exact zad hk2.below0 nq)⟩
       ·have k6 : (n.kind == 6) = false := by rw [ieq, decide_eq_false h6]
        by_cases h10 : n.kind = 10
        ·have k10 : (n.kind == 10) = true := by rw [ieq, decide_eq_true h10]
         have e1 : lowP n = -2147483648 := by rw [lowP, if_neg h5, if_pos h10]
         have e2 : highP n = 2147483647 := by rw [highP, if_neg h5, if_neg h6, if_pos h10]
         clear h5 h6 h10
         by_cases l1 : n.num < -2147483648
         ·have HR := hid (HV2.out.trans (by rw [e1, e2, if_pos (.inl l1)]) : _ = (2 : Int))
          go_wp2_with fail
          go_ret
          rw [HR.out]
          exact ⟨rfl, by first | exact hk2.below0 | (subst hg; exact hk2.below0) | exact zad hk2.below0 nq | (subst hg; exact zad hk2.below0 nq)⟩
         ·by_cases l2 : 2147483647 < n.num
          ·have HR := hid (HV2.out.trans (by rw [e1, e2, if_pos (.inr l2)]) : _ = (2 : Int))
           go_wp2_with fail
           go_ret
           rw [HR.out]
           exact ⟨rfl, by first | exact hk2.below0 | (subst hg; exact hk2.below0) | exact zad hk2.below0 nq | (subst hg; exact zad hk2.below0 nq)⟩
          ·have HR := hid (HV2.out.trans (by rw [e1, e2, if_neg (by omega)]) : _ = (0 : Int))
           go_wp2_with fail
           go_ret
           rw [HR.out]
           exact ⟨rfl, by first | exact hk2.below0 | (subst hg; exact hk2.below0) | exact zad hk2.below0 nq | (subst hg; exact zad hk2.below0 nq)⟩
        ·have k10 : (n.kind == 10) = false := by rw [ieq, decide_eq_false h10]
         have e1 : lowP n = 0 := by rw [lowP, if_neg h5, if_neg h10]
         have e2 : highP n = 0 := by rw [highP, if_neg h5, if_neg h6, if_neg h10]
         clear h5 h6 h10
         by_cases l1 : n.num < 0
         ·have HR := hid (HV2.out.trans (by rw [e1, e2, if_pos (.inl l1)]) : _ = (2 : Int))
          go_wp2_with fail
          go_ret
          rw [HR.out]
          exact ⟨rfl, by first | exact hk2.below0 | (subst hg; exact hk2.below0) | exact zad hk2.below0 nq | (subst hg; exact zad hk2.below0 nq)⟩
         ·by_cases l2 : 0 < n.num
          ·have HR := hid (HV2.out.trans (by rw [e1, e2, if_pos (.inr l2)]) : _ = (2 : Int))
           go_wp2_with fail
           go_ret
           rw [HR.out]
           exact ⟨rfl, by first | exact hk2.below0 | (subst hg; exact hk2.below0) | exact zad hk2.below0 nq | (subst hg; exact zad hk2.below0 nq)⟩
          ·have HR := hid (HV2.out.trans (by rw [e1, e2, if_neg (by omega)]) : _ = (0 : Int))
           go_wp2_with fail
           go_ret
           rw [HR.out]
           exact ⟨rfl, by first | exact hk2.below0 | (subst hg; exact hk2.below0) | exact zad hk2.below0 nq | (subst hg; exact zad hk2.below0 nq)⟩
end Go.Proofs.YtekkapgknohadaaGreatDoor
