/-
 A node alone: kids, texts, form of policy; form of the reference. Printed by mkpcd.py.
-/
import Derived.Test.YtogmhaihmkcjgaaGreatDoorPcB
import Derived.Test.YtogmhaihmkcjgaaGreatDoorPcC
import Derived.Test.YtogmhaihmkcjgaaGreatDoorHpR
namespace Go.Proofs.YtogmhaihmkcjgaaGreatDoor
open Go.RowKit Go.Shelf
set_option linter.unusedVariables false

theorem ieq {a b : Int} : (a == b) = decide (a = b) := by rw [Bool.eq_iff_iff, beq_iff_eq, decide_eq_true_iff]
theorem kids_cases (k : Int) : (k = 0 ∨ k = 1 ∨ k = 2 ∨ k = 3 ∨ k = 4 ∨ k = 5 ∨ k = 6 ∨ k = 7 ∨ k = 8 ∨ k = 9 ∨ k = 10 ∨ k = 11) ∨ ((k == 0) = false ∧ (k == 1) = false ∧ (k == 2) = false ∧ (k == 3) = false ∧ (k == 4) = false ∧ (k == 5) = false ∧ (k == 6) = false ∧ (k == 7) = false ∧ (k == 8) = false ∧ (k == 9) = false ∧ (k == 10) = false ∧ (k == 11) = false ∧ (k < 0 ∨ 12 ≤ k)) := by
 by_cases h : k < 0 ∨ 12 ≤ k
 ·right
  simp only [beq_eq_false_iff_ne]
  omega
 ·left; omega
set_option maxRecDepth 20000 in
set_option maxHeartbeats 4000000 in
theorem kids_any (k : Int) (n : Nat) (w : World) : Calls Tryz.prog 249 #[.int .i64 k, .int .i64 (n : Int)] w fun e w' => e = .returned (.bool (kidsP k n)) ∧ w' = w := by
 rcases kids_cases k with (rfl | rfl | rfl | rfl | rfl | rfl | rfl | rfl | rfl | rfl | rfl | rfl) | ⟨a0, a1, a2, a3, a4, a5, a6, a7, a8, a9, a10, a11, h⟩
 case inr =>
  have HR : Hid (kidsP k n = false) := Lib.hid (by
   unfold kidsP
   rw [if_neg (by omega), if_neg (by omega), if_neg (by omega), if_neg (by omega), if_neg (by omega), if_neg (by omega)])
  clear h
  go_enter Tryz.func249, Tryz.ntmps249
  go_wp2_with fail
  go_ret
  exact ⟨ret_bool HR.out.symm, rfl⟩
 all_goals
  go_enter Tryz.func249, Tryz.ntmps249
  go_wp2_with fail
  go_ret
  exact ⟨ret_bool (by rw [Bool.eq_iff_iff]; simp [kidsP] <;> omega), rfl⟩
theorem sz_empty {s : ByteArray} (h : decide (s.size = 0) = true) : s.toList.isEmpty = true ∧ s.toList = [] := str_empty (of_decide_eq_true h)
theorem sz_full {s : ByteArray} (h : decide (s.size = 0) = false) : s.toList.isEmpty = false ∧ ¬ s.toList = [] := str_full (by have := of_decide_eq_false h; omega)
set_option maxRecDepth 20000 in
set_option maxHeartbeats 4000000 in
theorem texts_any (n : Nk) (KA : Option Addr) (kc : Nat) (hB : NBd n) (w : World) : Calls Tryz.prog 250 #[nkV n KA kc] w fun e w' => e = .returned (.bool (textsP n)) ∧ Below w.heap.size w w' := by
 have hk := (Hp.start w).new 76 (nkcs n KA kc)
 have HN1 := Lib.hid (pname_any n.name hB.name)
 have HN2 := Lib.hid (pname_any n.attr hB.attr)
 have HW1 := Lib.hid (pword_any n.name hB.name)
 have HV : Hid (textsP n = if n.kind = 9 then nameP n.name && nameP n.attr else if n.kind = 11 then wordP n.name && decide (n.attr.size = 0) else decide (n.name.size = 0) && decide (n.attr.size = 0)) := Lib.hid rfl
 generalize nameP n.name = q1 at *
 generalize nameP n.attr = q2 at *
 generalize wordP n.name = q3 at *
 obtain ⟨g, hg⟩ : ∃ x, w.heap.size = x := ⟨_, rfl⟩
 rw [hg] at hk
 clear hB
 go_enter Tryz.func250, Tryz.ntmps250
 go_upto_region 1 with fail
 try simp only [hg]
 have hk : Hp [] w [iblk g 76 (nkcs n KA kc)] (w.alloc (.cells #[.int .i64 n.kind, .int .i64 n.num, .string n.name, .string n.attr, .slice KA n.kids.length kc, .int .i64 n.at_] 76)) := hk
 generalize w.alloc (.cells #[.int .i64 n.kind, .int .i64 n.num, .string n.name, .string n.attr, .slice KA n.kids.length kc, .int .i64 n.at_] 76) = W at *
 obtain ⟨c0, c1, c2, c3, c4, c5⟩ := (hk.blk 0 rfl).get6
 by_cases h9 : n.kind = 9
 ·have k9 : (n.kind == 9) = true := by rw [ieq, decide_eq_true h9]
  have HR : Hid (textsP n = (q1 && q2)) := Lib.hid (by rw [HV.out, if_pos h9])
  clear h9
  go_wp2_with fail
  refine (HN1.out W).mono ?_
  rintro e w1 ⟨rfl, hb1⟩
  have hk1 := hk.next hb1
  clear hk hb1 c0 c1 c2 c3 c4 c5
  obtain ⟨c0, c1, c2, c3, c4, c5⟩ := (hk1.blk 0 rfl).get6
  cases q1 with
  | false =>
   go_wp2_with fail
   go_ret
   rw [HR.out]
   exact ⟨rfl, by first | exact hk1.below0 | (subst hg; exact hk1.below0)⟩
  | true =>
   go_wp2_with fail
   refine (HN2.out w1).mono ?_
   rintro e w2 ⟨rfl, hb2⟩
   have hk2 := hk1.next hb2
   go_wp2_with fail
   go_ret
   rw [HR.out]
   exact ⟨rfl, by first | exact hk2.below0 | (subst hg; exact hk2.below0)⟩
 ·have k9 : (n.kind == 9) = false := by rw [ieq, decide_eq_false h9]
  by_cases h11 : n.kind = 11
  ·have k11 : (n.kind == 11) = true := by rw [ieq, decide_eq_true h11]
   have HR : Hid (textsP n = (q3 && decide (n.attr.size = 0))) := Lib.hid (by rw [HV.out, if_neg h9, if_pos h11])
   clear h9 h11
   go_wp2_with fail
   refine (HW1.out W).mono ?_
   rintro e w1 ⟨rfl, hb1⟩
   have hk1 := hk.next hb1
   clear hk hb1 c0 c1 c2 c3 c4 c5
   obtain ⟨c0, c1, c2, c3, c4, c5⟩ := (hk1.blk 0 rfl).get6
   cases q3 with
   | false =>
    go_wp2_with fail
    go_ret
    rw [HR.out]
    exact ⟨rfl, by first | exact hk1.below0 | (subst hg; exact hk1.below0)⟩
   | true =>
    cases ha : decide (n.attr.size = 0)
    all_goals
     first | obtain ⟨e1, e2⟩ := sz_full ha | obtain ⟨e1, e2⟩ := sz_empty ha
     go_wp2_with fail
     go_ret
     rw [HR.out, ha]
     exact ⟨rfl, by first | exact hk1.below0 | (subst hg; exact hk1.below0)⟩
  ·have k11 : (n.kind == 11) = false := by rw [ieq, decide_eq_false h11]
   have HR : Hid (textsP n = (decide (n.name.size = 0) && decide (n.attr.size = 0))) := Lib.hid (by rw [HV.out, if_neg h9, if_neg h11])
   clear h9 h11
   cases hn : decide (n.name.size = 0) with
   | false =>
    obtain ⟨d1, d2⟩ := sz_full hn
    go_wp2_with fail
    go_ret
    rw [HR.out, hn]
    exact ⟨rfl, by first | exact hk.below0 | (subst hg; exact hk.below0)⟩
   | true =>
    obtain ⟨d1, d2⟩ := sz_empty hn
    cases ha : decide (n.attr.size = 0)
    all_goals
     first | obtain ⟨e1, e2⟩ := sz_full ha | obtain ⟨e1, e2⟩ := sz_empty ha
     go_wp2_with fail
     go_ret
     rw [HR.out, hn, ha]
     exact ⟨rfl, by first | exact hk.below0 | (subst hg; exact hk.below0)⟩

set_option maxRecDepth 20000 in
set_option maxHeartbeats 16000000 in
theorem form_any (n : Nk) (KA : Option Addr) (kc : Nat) (hB : NBd n) (cond : Bool) (w : World) : Calls Tryz.prog 191 #[nkV n KA kc, .bool cond] w fun e w' => e = .returned (.int .i64 (formP n cond)) ∧ Below w.heap.size w w' := by
 have hk := (Hp.start w).new 76 (nkcs n KA kc)
 have HK := Lib.hid (kids_any n.kind n.kids.length)
 have HT := Lib.hid (texts_any n KA kc hB)
 have HS : Hid (shapeP n cond = (decide (0 ≤ n.kind) && decide (n.kind < 12) && (decide (n.kind ≤ 8) == cond) && kidsP n.kind n.kids.length && textsP n)) := Lib.hid rfl
 have HF : Hid (formP n cond = if shapeP n cond = false then 3 else if n.num < lowP n ∨ highP n < n.num then 2 else 0) := Lib.hid rfl
 have hkl := hB.kids
 generalize kidsP n.kind n.kids.length = qk at *
 generalize textsP n = qt at *
 obtain ⟨g, hg⟩ : ∃ x, w.heap.size = x := ⟨_, rfl⟩
 rw [hg] at hk
 clear hB
 go_enter Tryz.func191, Tryz.ntmps191
 go_upto_region 1 with fail
 try simp only [hg]
 have hk : Hp [] w [iblk g 76 (nkcs n KA kc)] (w.alloc (.cells #[.int .i64 n.kind, .int .i64 n.num, .string n.name, .string n.attr, .slice KA n.kids.length kc, .int .i64 n.at_] 76)) := hk
 generalize w.alloc (.cells #[.int .i64 n.kind, .int .i64 n.num, .string n.name, .string n.attr, .slice KA n.kids.length kc, .int .i64 n.at_] 76) = W at *
 obtain ⟨c0, c1, c2, c3, c4, c5⟩ := (hk.blk 0 rfl).get6
 by_cases h1 : n.kind < 0
 ·have HR : Hid (formP n cond = 3) := Lib.hid (by rw [HF.out, HS.out, decide_eq_false (by omega : ¬ 0 ≤ n.kind)]; rfl)
  go_wp2_with fail
  go_ret
  rw [HR.out]
  exact ⟨rfl, by first | exact hk.below0 | (subst hg; exact hk.below0)⟩
 ·by_cases h2 : 12 ≤ n.kind
  ·have HR : Hid (formP n cond = 3) := Lib.hid (by rw [HF.out, HS.out, decide_eq_false (by omega : ¬ n.kind < 12)]; simp)
   go_wp2_with fail
   go_ret
   rw [HR.out]
   exact ⟨rfl, by first | exact hk.below0 | (subst hg; exact hk.below0)⟩
  ·have hs1 : decide (0 ≤ n.kind) = true := decide_eq_true (by omega)
   have hs2 : decide (n.kind < 12) = true := decide_eq_true (by omega)
   rw [hs1, hs2] at HS
   clear hs1 hs2
   cases h8 : decide (n.kind ≤ 8) <;> cases cond
   case false.true =>
    have HR : Hid (formP n true = 3) := Lib.hid (by rw [HF.out, HS.out, h8]; rfl)
    go_wp2_with fail
    go_ret
    rw [HR.out]
    exact ⟨rfl, by first | exact hk.below0 | (subst hg; exact hk.below0)⟩
   case true.false =>
    have HR : Hid (formP n false = 3) := Lib.hid (by rw [HF.out, HS.out, h8]; rfl)
    go_wp2_with fail
    go_ret
    rw [HR.out]
    exact ⟨rfl, by first | exact hk.below0 | (subst hg; exact hk.below0)⟩
   all_goals
    cases qk with
    | false =>
     have HR := Lib.hid (HF.out.trans (by rw [HS.out]; simp) : _ = (3 : Int))
     go_wp2_with fail
     refine (HK.out W).mono ?_
     rintro e w1 ⟨rfl, hw⟩
     subst hw
     go_wp2_with fail
     go_ret
     rw [HR.out]
     exact ⟨rfl, by first | exact hk.below0 | (subst hg; exact hk.below0)⟩
    | true =>
     go_wp2_with fail
     refine (HK.out W).mono ?_
     rintro e w1 ⟨rfl, hw⟩
     subst hw
     go_wp2_with fail
     refine (HT.out _).mono ?_
     rintro e w2 ⟨rfl, hb2⟩
     have hk2 := hk.next hb2
     clear hk hb2 c0 c1 c2 c3 c4 c5
     obtain ⟨c0, c1, c2, c3, c4, c5⟩ := (hk2.blk 0 rfl).get6
     cases qt with
     | false =>
      have HR := Lib.hid (HF.out.trans (by rw [HS.out]; simp) : _ = (3 : Int))
      go_wp2_with fail
      go_ret
      rw [HR.out]
      exact ⟨rfl, by first | exact hk2.below0 | (subst hg; exact hk2.below0)⟩
     | true =>
      have HV2 := Lib.hid (HF.out.trans (by rw [if_neg (by rw [HS.out, h8]; simp)]) : _ = (if n.num < lowP n ∨ highP n < n.num then (2 : Int) else 0))
      clear HF HS h8 HT HK
      clear h1 h2
      by_cases h5 : n.kind = 5
      ·have k5 : (n.kind == 5) = true := by rw [ieq, decide_eq_true h5]
       have e1 : lowP n = 1 := by rw [lowP, if_pos h5]
       have e2 : highP n = (n.kids.length : Int) := by rw [highP, if_pos h5]
       clear h5
       go_upto_region 6 with fail
       go_quiet (fail)
       by_cases l1 : n.num < 1
       ·have HR := Lib.hid (HV2.out.trans (by rw [e1, e2, if_pos (.inl l1)]) : _ = (2 : Int))
        go_wp2_with fail
        go_ret
        rw [HR.out]
        exact ⟨rfl, by first | exact hk2.below0 | (subst hg; exact hk2.below0) | exact below_drewN' hk2.below0 nq | (subst hg; exact below_drewN' hk2.below0 nq)⟩
       ·by_cases l2 : (n.kids.length : Int) < n.num
        ·have HR := Lib.hid (HV2.out.trans (by rw [e1, e2, if_pos (.inr l2)]) : _ = (2 : Int))
         go_wp2_with fail
         go_ret
         rw [HR.out]
         exact ⟨rfl, by first | exact hk2.below0 | (subst hg; exact hk2.below0) | exact below_drewN' hk2.below0 nq | (subst hg; exact below_drewN' hk2.below0 nq)⟩
        ·have HR := Lib.hid (HV2.out.trans (by rw [e1, e2, if_neg (by omega)]) : _ = (0 : Int))
         go_wp2_with fail
         go_ret
         rw [HR.out]
         exact ⟨rfl, by first | exact hk2.below0 | (subst hg; exact hk2.below0) | exact below_drewN' hk2.below0 nq | (subst hg; exact below_drewN' hk2.below0 nq)⟩
      ·have k5 : (n.kind == 5) = false := by rw [ieq, decide_eq_false h5]
       by_cases h6 : n.kind = 6
       ·have k6 : (n.kind == 6) = true := by rw [ieq, decide_eq_true h6]
        have e1 : lowP n = 0 := by rw [lowP, if_neg h5, if_neg (by omega)]
        have e2 : highP n = 5 := by rw [highP, if_neg h5, if_pos h6]
        clear h5 h6
        by_cases l1 : n.num < 0
        ·have HR := Lib.hid (HV2.out.trans (by rw [e1, e2, if_pos (.inl l1)]) : _ = (2 : Int))
         go_wp2_with fail
         go_ret
         rw [HR.out]
         exact ⟨rfl, by first | exact hk2.below0 | (subst hg; exact hk2.below0) | exact below_drewN' hk2.below0 nq | (subst hg; exact below_drewN' hk2.below0 nq)⟩
        ·by_cases l2 : 5 < n.num
         ·have HR := Lib.hid (HV2.out.trans (by rw [e1, e2, if_pos (.inr l2)]) : _ = (2 : Int))
          go_wp2_with fail
          go_ret
          rw [HR.out]
          exact ⟨rfl, by first | exact hk2.below0 | (subst hg; exact hk2.below0) | exact below_drewN' hk2.below0 nq | (subst hg; exact below_drewN' hk2.below0 nq)⟩
         ·have HR := Lib.hid (HV2.out.trans (by rw [e1, e2, if_neg (by omega)]) : _ = (0 : Int))
          go_wp2_with fail
          go_ret
          rw [HR.out]
          exact ⟨rfl, by first | exact hk2.below0 | (subst hg; exact hk2.below0) | exact below_drewN' hk2.below0 nq | (subst hg; exact below_drewN' hk2.below0 nq)⟩
       ·have k6 : (n.kind == 6) = false := by rw [ieq, decide_eq_false h6]
        by_cases h10 : n.kind = 10
        ·have k10 : (n.kind == 10) = true := by rw [ieq, decide_eq_true h10]
         have e1 : lowP n = -2147483648 := by rw [lowP, if_neg h5, if_pos h10]
         have e2 : highP n = 2147483647 := by rw [highP, if_neg h5, if_neg h6, if_pos h10]
         clear h5 h6 h10
         by_cases l1 : n.num < -2147483648
         ·have HR := Lib.hid (HV2.out.trans (by rw [e1, e2, if_pos (.inl l1)]) : _ = (2 : Int))
          go_wp2_with fail
          go_ret
          rw [HR.out]
          exact ⟨rfl, by first | exact hk2.below0 | (subst hg; exact hk2.below0) | exact below_drewN' hk2.below0 nq | (subst hg; exact below_drewN' hk2.below0 nq)⟩
         ·by_cases l2 : 2147483647 < n.num
          ·have HR := Lib.hid (HV2.out.trans (by rw [e1, e2, if_pos (.inr l2)]) : _ = (2 : Int))
           go_wp2_with fail
           go_ret
           rw [HR.out]
           exact ⟨rfl, by first | exact hk2.below0 | (subst hg; exact hk2.below0) | exact below_drewN' hk2.below0 nq | (subst hg; exact below_drewN' hk2.below0 nq)⟩
          ·have HR := Lib.hid (HV2.out.trans (by rw [e1, e2, if_neg (by omega)]) : _ = (0 : Int))
           go_wp2_with fail
           go_ret
           rw [HR.out]
           exact ⟨rfl, by first | exact hk2.below0 | (subst hg; exact hk2.below0) | exact below_drewN' hk2.below0 nq | (subst hg; exact below_drewN' hk2.below0 nq)⟩
        ·have k10 : (n.kind == 10) = false := by rw [ieq, decide_eq_false h10]
         have e1 : lowP n = 0 := by rw [lowP, if_neg h5, if_neg h10]
         have e2 : highP n = 0 := by rw [highP, if_neg h5, if_neg h6, if_neg h10]
         clear h5 h6 h10
         by_cases l1 : n.num < 0
         ·have HR := Lib.hid (HV2.out.trans (by rw [e1, e2, if_pos (.inl l1)]) : _ = (2 : Int))
          go_wp2_with fail
          go_ret
          rw [HR.out]
          exact ⟨rfl, by first | exact hk2.below0 | (subst hg; exact hk2.below0) | exact below_drewN' hk2.below0 nq | (subst hg; exact below_drewN' hk2.below0 nq)⟩
         ·by_cases l2 : 0 < n.num
          ·have HR := Lib.hid (HV2.out.trans (by rw [e1, e2, if_pos (.inr l2)]) : _ = (2 : Int))
           go_wp2_with fail
           go_ret
           rw [HR.out]
           exact ⟨rfl, by first | exact hk2.below0 | (subst hg; exact hk2.below0) | exact below_drewN' hk2.below0 nq | (subst hg; exact below_drewN' hk2.below0 nq)⟩
          ·have HR := Lib.hid (HV2.out.trans (by rw [e1, e2, if_neg (by omega)]) : _ = (0 : Int))
           go_wp2_with fail
           go_ret
           rw [HR.out]
           exact ⟨rfl, by first | exact hk2.below0 | (subst hg; exact hk2.below0) | exact below_drewN' hk2.below0 nq | (subst hg; exact below_drewN' hk2.below0 nq)⟩

set_option maxRecDepth 20000 in
set_option maxHeartbeats 16000000 in
theorem rform_0 (num at_ : Int) (name attr : ByteArray) (kids : List Int) (KA : Option Addr) (kc : Nat) (hn : name.size ≤ 1000000) (ha : attr.size ≤ 1000000) (w : World) : Calls Tryz.prog 233 #[nkV ⟨0, num, name, attr, kids, at_⟩ KA kc] w fun e w' => e = .returned (.int .i64 (formP ⟨0, num, name, attr, kids, at_⟩ true)) ∧ Below w.heap.size w w' := by
 have hk := (Hp.start w).new 76 (nkcs ⟨0, num, name, attr, kids, at_⟩ KA kc)
 have HS : Hid (shapeP ⟨0, num, name, attr, kids, at_⟩ true = (decide (kids.length = 0) && (decide (name.size = 0) && decide (attr.size = 0)))) := Lib.hid (by simp [shapeP, kidsP, textsP])
 have HF : Hid (formP ⟨0, num, name, attr, kids, at_⟩ true = if shapeP ⟨0, num, name, attr, kids, at_⟩ true = false then 3 else if num < 0 ∨ 0 < num then 2 else 0) := Lib.hid (by simp [formP, lowP, highP])
 obtain ⟨g, hg⟩ : ∃ x, w.heap.size = x := ⟨_, rfl⟩
 rw [hg] at hk
 clear hn ha
 go_enter Tryz.func233, Tryz.ntmps233
 go_upto_region 1 with fail
 try simp only [hg]
 have hk : Hp [] w [iblk g 76 (nkcs ⟨0, num, name, attr, kids, at_⟩ KA kc)] (w.alloc (.cells #[.int .i64 0, .int .i64 num, .string name, .string attr, .slice KA kids.length kc, .int .i64 at_] 76)) := hk
 generalize w.alloc (.cells #[.int .i64 0, .int .i64 num, .string name, .string attr, .slice KA kids.length kc, .int .i64 at_] 76) = W at *
 obtain ⟨c0, c1, c2, c3, c4, c5⟩ := (hk.blk 0 rfl).get6
 simp only at c0 c1 c2 c3 c4 c5
 cases hT : decide (kids.length = 0) with
 | false =>
  rw [hT] at HS
  have hT2 : ((kids.length : Int) == 0) = false := by rw [ieq, decide_eq_false]; have := of_decide_eq_false hT; omega
  clear hT
  have HR := Lib.hid (HF.out.trans (by rw [if_pos (by rw [HS.out]; simp)]) : _ = (3 : Int))
  go_wp2_with fail
  go_ret
  rw [HR.out]
  exact ⟨rfl, by first | exact hk.below0 | (subst hg; exact hk.below0)⟩
 | true =>
  rw [hT] at HS
  have hT2 : ((kids.length : Int) == 0) = true := by rw [ieq, decide_eq_true]; have := of_decide_eq_true hT; omega
  clear hT

  cases hn : decide (name.size = 0) with
  | false =>
   obtain ⟨d1, d2⟩ := sz_full hn
   rw [hn] at HS
   have HR := Lib.hid (HF.out.trans (by rw [if_pos (by rw [HS.out]; simp)]) : _ = (3 : Int))
   go_wp2_with fail
   go_ret
   rw [HR.out]
   exact ⟨rfl, by first | exact hk.below0 | (subst hg; exact hk.below0)⟩
  | true =>
   obtain ⟨d1, d2⟩ := sz_empty hn
   rw [hn] at HS
   cases ha : decide (attr.size = 0) with
   | false =>
    obtain ⟨e1, e2⟩ := sz_full ha
    rw [ha] at HS
    have HR := Lib.hid (HF.out.trans (by rw [if_pos (by rw [HS.out]; simp)]) : _ = (3 : Int))
    go_wp2_with fail
    go_ret
    rw [HR.out]
    exact ⟨rfl, by first | exact hk.below0 | (subst hg; exact hk.below0)⟩
   | true =>
    obtain ⟨e1, e2⟩ := sz_empty ha
    rw [ha] at HS
    have HV2 := Lib.hid (HF.out.trans (by rw [if_neg (by rw [HS.out]; simp)]) : _ = (if num < 0 ∨ 0 < num then (2 : Int) else 0))
    clear HF HS
    by_cases l1 : num < 0
    ·have HR := Lib.hid (HV2.out.trans (by rw [if_pos (.inl l1)]) : _ = (2 : Int))
     go_wp2_with fail
     go_ret
     rw [HR.out]
     exact ⟨rfl, by first | exact hk.below0 | (subst hg; exact hk.below0)⟩
    ·by_cases l2 : 0 < num
     ·have HR := Lib.hid (HV2.out.trans (by rw [if_pos (.inr l2)]) : _ = (2 : Int))
      go_wp2_with fail
      go_ret
      rw [HR.out]
      exact ⟨rfl, by first | exact hk.below0 | (subst hg; exact hk.below0)⟩
     ·have HR := Lib.hid (HV2.out.trans (by rw [if_neg (by omega)]) : _ = (0 : Int))
      go_wp2_with fail
      go_ret
      rw [HR.out]
      exact ⟨rfl, by first | exact hk.below0 | (subst hg; exact hk.below0)⟩

set_option maxRecDepth 20000 in
set_option maxHeartbeats 16000000 in
theorem rform_1 (num at_ : Int) (name attr : ByteArray) (kids : List Int) (KA : Option Addr) (kc : Nat) (hn : name.size ≤ 1000000) (ha : attr.size ≤ 1000000) (w : World) : Calls Tryz.prog 233 #[nkV ⟨1, num, name, attr, kids, at_⟩ KA kc] w fun e w' => e = .returned (.int .i64 (formP ⟨1, num, name, attr, kids, at_⟩ true)) ∧ Below w.heap.size w w' := by
 have hk := (Hp.start w).new 76 (nkcs ⟨1, num, name, attr, kids, at_⟩ KA kc)
 have HS : Hid (shapeP ⟨1, num, name, attr, kids, at_⟩ true = (decide (kids.length = 0) && (decide (name.size = 0) && decide (attr.size = 0)))) := Lib.hid (by simp [shapeP, kidsP, textsP])
 have HF : Hid (formP ⟨1, num, name, attr, kids, at_⟩ true = if shapeP ⟨1, num, name, attr, kids, at_⟩ true = false then 3 else if num < 0 ∨ 0 < num then 2 else 0) := Lib.hid (by simp [formP, lowP, highP])
 obtain ⟨g, hg⟩ : ∃ x, w.heap.size = x := ⟨_, rfl⟩
 rw [hg] at hk
 clear hn ha
 go_enter Tryz.func233, Tryz.ntmps233
 go_upto_region 1 with fail
 try simp only [hg]
 have hk : Hp [] w [iblk g 76 (nkcs ⟨1, num, name, attr, kids, at_⟩ KA kc)] (w.alloc (.cells #[.int .i64 1, .int .i64 num, .string name, .string attr, .slice KA kids.length kc, .int .i64 at_] 76)) := hk
 generalize w.alloc (.cells #[.int .i64 1, .int .i64 num, .string name, .string attr, .slice KA kids.length kc, .int .i64 at_] 76) = W at *
 obtain ⟨c0, c1, c2, c3, c4, c5⟩ := (hk.blk 0 rfl).get6
 simp only at c0 c1 c2 c3 c4 c5
 cases hT : decide (kids.length = 0) with
 | false =>
  rw [hT] at HS
  have hT2 : ((kids.length : Int) == 0) = false := by rw [ieq, decide_eq_false]; have := of_decide_eq_false hT; omega
  clear hT
  have HR := Lib.hid (HF.out.trans (by rw [if_pos (by rw [HS.out]; simp)]) : _ = (3 : Int))
  go_wp2_with fail
  go_ret
  rw [HR.out]
  exact ⟨rfl, by first | exact hk.below0 | (subst hg; exact hk.below0)⟩
 | true =>
  rw [hT] at HS
  have hT2 : ((kids.length : Int) == 0) = true := by rw [ieq, decide_eq_true]; have := of_decide_eq_true hT; omega
  clear hT

  cases hn : decide (name.size = 0) with
  | false =>
   obtain ⟨d1, d2⟩ := sz_full hn
   rw [hn] at HS
   have HR := Lib.hid (HF.out.trans (by rw [if_pos (by rw [HS.out]; simp)]) : _ = (3 : Int))
   go_wp2_with fail
   go_ret
   rw [HR.out]
   exact ⟨rfl, by first | exact hk.below0 | (subst hg; exact hk.below0)⟩
  | true =>
   obtain ⟨d1, d2⟩ := sz_empty hn
   rw [hn] at HS
   cases ha : decide (attr.size = 0) with
   | false =>
    obtain ⟨e1, e2⟩ := sz_full ha
    rw [ha] at HS
    have HR := Lib.hid (HF.out.trans (by rw [if_pos (by rw [HS.out]; simp)]) : _ = (3 : Int))
    go_wp2_with fail
    go_ret
    rw [HR.out]
    exact ⟨rfl, by first | exact hk.below0 | (subst hg; exact hk.below0)⟩
   | true =>
    obtain ⟨e1, e2⟩ := sz_empty ha
    rw [ha] at HS
    have HV2 := Lib.hid (HF.out.trans (by rw [if_neg (by rw [HS.out]; simp)]) : _ = (if num < 0 ∨ 0 < num then (2 : Int) else 0))
    clear HF HS
    by_cases l1 : num < 0
    ·have HR := Lib.hid (HV2.out.trans (by rw [if_pos (.inl l1)]) : _ = (2 : Int))
     go_wp2_with fail
     go_ret
     rw [HR.out]
     exact ⟨rfl, by first | exact hk.below0 | (subst hg; exact hk.below0)⟩
    ·by_cases l2 : 0 < num
     ·have HR := Lib.hid (HV2.out.trans (by rw [if_pos (.inr l2)]) : _ = (2 : Int))
      go_wp2_with fail
      go_ret
      rw [HR.out]
      exact ⟨rfl, by first | exact hk.below0 | (subst hg; exact hk.below0)⟩
     ·have HR := Lib.hid (HV2.out.trans (by rw [if_neg (by omega)]) : _ = (0 : Int))
      go_wp2_with fail
      go_ret
      rw [HR.out]
      exact ⟨rfl, by first | exact hk.below0 | (subst hg; exact hk.below0)⟩

set_option maxRecDepth 20000 in
set_option maxHeartbeats 16000000 in
theorem rform_2 (num at_ : Int) (name attr : ByteArray) (kids : List Int) (KA : Option Addr) (kc : Nat) (hn : name.size ≤ 1000000) (ha : attr.size ≤ 1000000) (w : World) : Calls Tryz.prog 233 #[nkV ⟨2, num, name, attr, kids, at_⟩ KA kc] w fun e w' => e = .returned (.int .i64 (formP ⟨2, num, name, attr, kids, at_⟩ true)) ∧ Below w.heap.size w w' := by
 have hk := (Hp.start w).new 76 (nkcs ⟨2, num, name, attr, kids, at_⟩ KA kc)
 have HS : Hid (shapeP ⟨2, num, name, attr, kids, at_⟩ true = (decide (kids.length = 1) && (decide (name.size = 0) && decide (attr.size = 0)))) := Lib.hid (by simp [shapeP, kidsP, textsP])
 have HF : Hid (formP ⟨2, num, name, attr, kids, at_⟩ true = if shapeP ⟨2, num, name, attr, kids, at_⟩ true = false then 3 else if num < 0 ∨ 0 < num then 2 else 0) := Lib.hid (by simp [formP, lowP, highP])
 obtain ⟨g, hg⟩ : ∃ x, w.heap.size = x := ⟨_, rfl⟩
 rw [hg] at hk
 clear hn ha
 go_enter Tryz.func233, Tryz.ntmps233
 go_upto_region 1 with fail
 try simp only [hg]
 have hk : Hp [] w [iblk g 76 (nkcs ⟨2, num, name, attr, kids, at_⟩ KA kc)] (w.alloc (.cells #[.int .i64 2, .int .i64 num, .string name, .string attr, .slice KA kids.length kc, .int .i64 at_] 76)) := hk
 generalize w.alloc (.cells #[.int .i64 2, .int .i64 num, .string name, .string attr, .slice KA kids.length kc, .int .i64 at_] 76) = W at *
 obtain ⟨c0, c1, c2, c3, c4, c5⟩ := (hk.blk 0 rfl).get6
 simp only at c0 c1 c2 c3 c4 c5
 cases hT : decide (kids.length = 1) with
 | false =>
  rw [hT] at HS
  have hT2 : ((kids.length : Int) == 1) = false := by rw [ieq, decide_eq_false]; have := of_decide_eq_false hT; omega
  clear hT
  have HR := Lib.hid (HF.out.trans (by rw [if_pos (by rw [HS.out]; simp)]) : _ = (3 : Int))
  go_wp2_with fail
  go_ret
  rw [HR.out]
  exact ⟨rfl, by first | exact hk.below0 | (subst hg; exact hk.below0)⟩
 | true =>
  rw [hT] at HS
  have hT2 : ((kids.length : Int) == 1) = true := by rw [ieq, decide_eq_true]; have := of_decide_eq_true hT; omega
  clear hT

  cases hn : decide (name.size = 0) with
  | false =>
   obtain ⟨d1, d2⟩ := sz_full hn
   rw [hn] at HS
   have HR := Lib.hid (HF.out.trans (by rw [if_pos (by rw [HS.out]; simp)]) : _ = (3 : Int))
   go_wp2_with fail
   go_ret
   rw [HR.out]
   exact ⟨rfl, by first | exact hk.below0 | (subst hg; exact hk.below0)⟩
  | true =>
   obtain ⟨d1, d2⟩ := sz_empty hn
   rw [hn] at HS
   cases ha : decide (attr.size = 0) with
   | false =>
    obtain ⟨e1, e2⟩ := sz_full ha
    rw [ha] at HS
    have HR := Lib.hid (HF.out.trans (by rw [if_pos (by rw [HS.out]; simp)]) : _ = (3 : Int))
    go_wp2_with fail
    go_ret
    rw [HR.out]
    exact ⟨rfl, by first | exact hk.below0 | (subst hg; exact hk.below0)⟩
   | true =>
    obtain ⟨e1, e2⟩ := sz_empty ha
    rw [ha] at HS
    have HV2 := Lib.hid (HF.out.trans (by rw [if_neg (by rw [HS.out]; simp)]) : _ = (if num < 0 ∨ 0 < num then (2 : Int) else 0))
    clear HF HS
    by_cases l1 : num < 0
    ·have HR := Lib.hid (HV2.out.trans (by rw [if_pos (.inl l1)]) : _ = (2 : Int))
     go_wp2_with fail
     go_ret
     rw [HR.out]
     exact ⟨rfl, by first | exact hk.below0 | (subst hg; exact hk.below0)⟩
    ·by_cases l2 : 0 < num
     ·have HR := Lib.hid (HV2.out.trans (by rw [if_pos (.inr l2)]) : _ = (2 : Int))
      go_wp2_with fail
      go_ret
      rw [HR.out]
      exact ⟨rfl, by first | exact hk.below0 | (subst hg; exact hk.below0)⟩
     ·have HR := Lib.hid (HV2.out.trans (by rw [if_neg (by omega)]) : _ = (0 : Int))
      go_wp2_with fail
      go_ret
      rw [HR.out]
      exact ⟨rfl, by first | exact hk.below0 | (subst hg; exact hk.below0)⟩

set_option maxRecDepth 20000 in
set_option maxHeartbeats 16000000 in
theorem rform_3 (num at_ : Int) (name attr : ByteArray) (kids : List Int) (KA : Option Addr) (kc : Nat) (hn : name.size ≤ 1000000) (ha : attr.size ≤ 1000000) (w : World) : Calls Tryz.prog 233 #[nkV ⟨3, num, name, attr, kids, at_⟩ KA kc] w fun e w' => e = .returned (.int .i64 (formP ⟨3, num, name, attr, kids, at_⟩ true)) ∧ Below w.heap.size w w' := by
 have hk := (Hp.start w).new 76 (nkcs ⟨3, num, name, attr, kids, at_⟩ KA kc)
 have HS : Hid (shapeP ⟨3, num, name, attr, kids, at_⟩ true = (decide (1 ≤ kids.length) && (decide (name.size = 0) && decide (attr.size = 0)))) := Lib.hid (by simp [shapeP, kidsP, textsP])
 have HF : Hid (formP ⟨3, num, name, attr, kids, at_⟩ true = if shapeP ⟨3, num, name, attr, kids, at_⟩ true = false then 3 else if num < 0 ∨ 0 < num then 2 else 0) := Lib.hid (by simp [formP, lowP, highP])
 obtain ⟨g, hg⟩ : ∃ x, w.heap.size = x := ⟨_, rfl⟩
 rw [hg] at hk
 clear hn ha
 go_enter Tryz.func233, Tryz.ntmps233
 go_upto_region 1 with fail
 try simp only [hg]
 have hk : Hp [] w [iblk g 76 (nkcs ⟨3, num, name, attr, kids, at_⟩ KA kc)] (w.alloc (.cells #[.int .i64 3, .int .i64 num, .string name, .string attr, .slice KA kids.length kc, .int .i64 at_] 76)) := hk
 generalize w.alloc (.cells #[.int .i64 3, .int .i64 num, .string name, .string attr, .slice KA kids.length kc, .int .i64 at_] 76) = W at *
 obtain ⟨c0, c1, c2, c3, c4, c5⟩ := (hk.blk 0 rfl).get6
 simp only at c0 c1 c2 c3 c4 c5
 cases hT : decide (1 ≤ kids.length) with
 | false =>
  rw [hT] at HS
  have hT2 : ¬ (1 : Int) ≤ (kids.length : Int) := by have := of_decide_eq_false hT; omega
  clear hT
  have HR := Lib.hid (HF.out.trans (by rw [if_pos (by rw [HS.out]; simp)]) : _ = (3 : Int))
  go_wp2_with fail
  go_ret
  rw [HR.out]
  exact ⟨rfl, by first | exact hk.below0 | (subst hg; exact hk.below0)⟩
 | true =>
  rw [hT] at HS
  have hT2 : (1 : Int) ≤ (kids.length : Int) := by have := of_decide_eq_true hT; omega
  clear hT

  cases hn : decide (name.size = 0) with
  | false =>
   obtain ⟨d1, d2⟩ := sz_full hn
   rw [hn] at HS
   have HR := Lib.hid (HF.out.trans (by rw [if_pos (by rw [HS.out]; simp)]) : _ = (3 : Int))
   go_wp2_with fail
   go_ret
   rw [HR.out]
   exact ⟨rfl, by first | exact hk.below0 | (subst hg; exact hk.below0)⟩
  | true =>
   obtain ⟨d1, d2⟩ := sz_empty hn
   rw [hn] at HS
   cases ha : decide (attr.size = 0) with
   | false =>
    obtain ⟨e1, e2⟩ := sz_full ha
    rw [ha] at HS
    have HR := Lib.hid (HF.out.trans (by rw [if_pos (by rw [HS.out]; simp)]) : _ = (3 : Int))
    go_wp2_with fail
    go_ret
    rw [HR.out]
    exact ⟨rfl, by first | exact hk.below0 | (subst hg; exact hk.below0)⟩
   | true =>
    obtain ⟨e1, e2⟩ := sz_empty ha
    rw [ha] at HS
    have HV2 := Lib.hid (HF.out.trans (by rw [if_neg (by rw [HS.out]; simp)]) : _ = (if num < 0 ∨ 0 < num then (2 : Int) else 0))
    clear HF HS
    by_cases l1 : num < 0
    ·have HR := Lib.hid (HV2.out.trans (by rw [if_pos (.inl l1)]) : _ = (2 : Int))
     go_wp2_with fail
     go_ret
     rw [HR.out]
     exact ⟨rfl, by first | exact hk.below0 | (subst hg; exact hk.below0)⟩
    ·by_cases l2 : 0 < num
     ·have HR := Lib.hid (HV2.out.trans (by rw [if_pos (.inr l2)]) : _ = (2 : Int))
      go_wp2_with fail
      go_ret
      rw [HR.out]
      exact ⟨rfl, by first | exact hk.below0 | (subst hg; exact hk.below0)⟩
     ·have HR := Lib.hid (HV2.out.trans (by rw [if_neg (by omega)]) : _ = (0 : Int))
      go_wp2_with fail
      go_ret
      rw [HR.out]
      exact ⟨rfl, by first | exact hk.below0 | (subst hg; exact hk.below0)⟩

set_option maxRecDepth 20000 in
set_option maxHeartbeats 16000000 in
theorem rform_4 (num at_ : Int) (name attr : ByteArray) (kids : List Int) (KA : Option Addr) (kc : Nat) (hn : name.size ≤ 1000000) (ha : attr.size ≤ 1000000) (w : World) : Calls Tryz.prog 233 #[nkV ⟨4, num, name, attr, kids, at_⟩ KA kc] w fun e w' => e = .returned (.int .i64 (formP ⟨4, num, name, attr, kids, at_⟩ true)) ∧ Below w.heap.size w w' := by
 have hk := (Hp.start w).new 76 (nkcs ⟨4, num, name, attr, kids, at_⟩ KA kc)
 have HS : Hid (shapeP ⟨4, num, name, attr, kids, at_⟩ true = (decide (1 ≤ kids.length) && (decide (name.size = 0) && decide (attr.size = 0)))) := Lib.hid (by simp [shapeP, kidsP, textsP])
 have HF : Hid (formP ⟨4, num, name, attr, kids, at_⟩ true = if shapeP ⟨4, num, name, attr, kids, at_⟩ true = false then 3 else if num < 0 ∨ 0 < num then 2 else 0) := Lib.hid (by simp [formP, lowP, highP])
 obtain ⟨g, hg⟩ : ∃ x, w.heap.size = x := ⟨_, rfl⟩
 rw [hg] at hk
 clear hn ha
 go_enter Tryz.func233, Tryz.ntmps233
 go_upto_region 1 with fail
 try simp only [hg]
 have hk : Hp [] w [iblk g 76 (nkcs ⟨4, num, name, attr, kids, at_⟩ KA kc)] (w.alloc (.cells #[.int .i64 4, .int .i64 num, .string name, .string attr, .slice KA kids.length kc, .int .i64 at_] 76)) := hk
 generalize w.alloc (.cells #[.int .i64 4, .int .i64 num, .string name, .string attr, .slice KA kids.length kc, .int .i64 at_] 76) = W at *
 obtain ⟨c0, c1, c2, c3, c4, c5⟩ := (hk.blk 0 rfl).get6
 simp only at c0 c1 c2 c3 c4 c5
 cases hT : decide (1 ≤ kids.length) with
 | false =>
  rw [hT] at HS
  have hT2 : ¬ (1 : Int) ≤ (kids.length : Int) := by have := of_decide_eq_false hT; omega
  clear hT
  have HR := Lib.hid (HF.out.trans (by rw [if_pos (by rw [HS.out]; simp)]) : _ = (3 : Int))
  go_wp2_with fail
  go_ret
  rw [HR.out]
  exact ⟨rfl, by first | exact hk.below0 | (subst hg; exact hk.below0)⟩
 | true =>
  rw [hT] at HS
  have hT2 : (1 : Int) ≤ (kids.length : Int) := by have := of_decide_eq_true hT; omega
  clear hT

  cases hn : decide (name.size = 0) with
  | false =>
   obtain ⟨d1, d2⟩ := sz_full hn
   rw [hn] at HS
   have HR := Lib.hid (HF.out.trans (by rw [if_pos (by rw [HS.out]; simp)]) : _ = (3 : Int))
   go_wp2_with fail
   go_ret
   rw [HR.out]
   exact ⟨rfl, by first | exact hk.below0 | (subst hg; exact hk.below0)⟩
  | true =>
   obtain ⟨d1, d2⟩ := sz_empty hn
   rw [hn] at HS
   cases ha : decide (attr.size = 0) with
   | false =>
    obtain ⟨e1, e2⟩ := sz_full ha
    rw [ha] at HS
    have HR := Lib.hid (HF.out.trans (by rw [if_pos (by rw [HS.out]; simp)]) : _ = (3 : Int))
    go_wp2_with fail
    go_ret
    rw [HR.out]
    exact ⟨rfl, by first | exact hk.below0 | (subst hg; exact hk.below0)⟩
   | true =>
    obtain ⟨e1, e2⟩ := sz_empty ha
    rw [ha] at HS
    have HV2 := Lib.hid (HF.out.trans (by rw [if_neg (by rw [HS.out]; simp)]) : _ = (if num < 0 ∨ 0 < num then (2 : Int) else 0))
    clear HF HS
    by_cases l1 : num < 0
    ·have HR := Lib.hid (HV2.out.trans (by rw [if_pos (.inl l1)]) : _ = (2 : Int))
     go_wp2_with fail
     go_ret
     rw [HR.out]
     exact ⟨rfl, by first | exact hk.below0 | (subst hg; exact hk.below0)⟩
    ·by_cases l2 : 0 < num
     ·have HR := Lib.hid (HV2.out.trans (by rw [if_pos (.inr l2)]) : _ = (2 : Int))
      go_wp2_with fail
      go_ret
      rw [HR.out]
      exact ⟨rfl, by first | exact hk.below0 | (subst hg; exact hk.below0)⟩
     ·have HR := Lib.hid (HV2.out.trans (by rw [if_neg (by omega)]) : _ = (0 : Int))
      go_wp2_with fail
      go_ret
      rw [HR.out]
      exact ⟨rfl, by first | exact hk.below0 | (subst hg; exact hk.below0)⟩

set_option maxRecDepth 20000 in
set_option maxHeartbeats 16000000 in
theorem rform_5 (num at_ : Int) (name attr : ByteArray) (kids : List Int) (KA : Option Addr) (kc : Nat) (hn : name.size ≤ 1000000) (ha : attr.size ≤ 1000000) (w : World) : Calls Tryz.prog 233 #[nkV ⟨5, num, name, attr, kids, at_⟩ KA kc] w fun e w' => e = .returned (.int .i64 (formP ⟨5, num, name, attr, kids, at_⟩ true)) ∧ Below w.heap.size w w' := by
 have hk := (Hp.start w).new 76 (nkcs ⟨5, num, name, attr, kids, at_⟩ KA kc)
 have HS : Hid (shapeP ⟨5, num, name, attr, kids, at_⟩ true = (decide (1 ≤ kids.length) && (decide (name.size = 0) && decide (attr.size = 0)))) := Lib.hid (by simp [shapeP, kidsP, textsP])
 have HF : Hid (formP ⟨5, num, name, attr, kids, at_⟩ true = if shapeP ⟨5, num, name, attr, kids, at_⟩ true = false then 3 else if num < 1 ∨ (kids.length : Int) < num then 2 else 0) := Lib.hid (by simp [formP, lowP, highP])
 obtain ⟨g, hg⟩ : ∃ x, w.heap.size = x := ⟨_, rfl⟩
 rw [hg] at hk
 clear hn ha
 go_enter Tryz.func233, Tryz.ntmps233
 go_upto_region 1 with fail
 try simp only [hg]
 have hk : Hp [] w [iblk g 76 (nkcs ⟨5, num, name, attr, kids, at_⟩ KA kc)] (w.alloc (.cells #[.int .i64 5, .int .i64 num, .string name, .string attr, .slice KA kids.length kc, .int .i64 at_] 76)) := hk
 generalize w.alloc (.cells #[.int .i64 5, .int .i64 num, .string name, .string attr, .slice KA kids.length kc, .int .i64 at_] 76) = W at *
 obtain ⟨c0, c1, c2, c3, c4, c5⟩ := (hk.blk 0 rfl).get6
 simp only at c0 c1 c2 c3 c4 c5
 cases hT : decide (1 ≤ kids.length) with
 | false =>
  rw [hT] at HS
  have hT2 : ¬ (1 : Int) ≤ (kids.length : Int) := by have := of_decide_eq_false hT; omega
  clear hT
  have HR := Lib.hid (HF.out.trans (by rw [if_pos (by rw [HS.out]; simp)]) : _ = (3 : Int))
  go_wp2_with fail
  go_ret
  rw [HR.out]
  exact ⟨rfl, by first | exact hk.below0 | (subst hg; exact hk.below0)⟩
 | true =>
  rw [hT] at HS
  have hT2 : (1 : Int) ≤ (kids.length : Int) := by have := of_decide_eq_true hT; omega
  clear hT

  cases hn : decide (name.size = 0) with
  | false =>
   obtain ⟨d1, d2⟩ := sz_full hn
   rw [hn] at HS
   have HR := Lib.hid (HF.out.trans (by rw [if_pos (by rw [HS.out]; simp)]) : _ = (3 : Int))
   go_wp2_with fail
   go_ret
   rw [HR.out]
   exact ⟨rfl, by first | exact hk.below0 | (subst hg; exact hk.below0)⟩
  | true =>
   obtain ⟨d1, d2⟩ := sz_empty hn
   rw [hn] at HS
   cases ha : decide (attr.size = 0) with
   | false =>
    obtain ⟨e1, e2⟩ := sz_full ha
    rw [ha] at HS
    have HR := Lib.hid (HF.out.trans (by rw [if_pos (by rw [HS.out]; simp)]) : _ = (3 : Int))
    go_wp2_with fail
    go_ret
    rw [HR.out]
    exact ⟨rfl, by first | exact hk.below0 | (subst hg; exact hk.below0)⟩
   | true =>
    obtain ⟨e1, e2⟩ := sz_empty ha
    rw [ha] at HS
    have HV2 := Lib.hid (HF.out.trans (by rw [if_neg (by rw [HS.out]; simp)]) : _ = (if num < 1 ∨ (kids.length : Int) < num then (2 : Int) else 0))
    clear HF HS
    by_cases l1 : num < 1
    ·have HR := Lib.hid (HV2.out.trans (by rw [if_pos (.inl l1)]) : _ = (2 : Int))
     go_wp2_with fail
     go_ret
     rw [HR.out]
     exact ⟨rfl, by first | exact hk.below0 | (subst hg; exact hk.below0)⟩
    ·by_cases l2 : (kids.length : Int) < num
     ·have HR := Lib.hid (HV2.out.trans (by rw [if_pos (.inr l2)]) : _ = (2 : Int))
      go_wp2_with fail
      go_ret
      rw [HR.out]
      exact ⟨rfl, by first | exact hk.below0 | (subst hg; exact hk.below0)⟩
     ·have HR := Lib.hid (HV2.out.trans (by rw [if_neg (by omega)]) : _ = (0 : Int))
      go_wp2_with fail
      go_ret
      rw [HR.out]
      exact ⟨rfl, by first | exact hk.below0 | (subst hg; exact hk.below0)⟩

set_option maxRecDepth 20000 in
set_option maxHeartbeats 16000000 in
theorem rform_6 (num at_ : Int) (name attr : ByteArray) (kids : List Int) (KA : Option Addr) (kc : Nat) (hn : name.size ≤ 1000000) (ha : attr.size ≤ 1000000) (w : World) : Calls Tryz.prog 233 #[nkV ⟨6, num, name, attr, kids, at_⟩ KA kc] w fun e w' => e = .returned (.int .i64 (formP ⟨6, num, name, attr, kids, at_⟩ true)) ∧ Below w.heap.size w w' := by
 have hk := (Hp.start w).new 76 (nkcs ⟨6, num, name, attr, kids, at_⟩ KA kc)
 have HS : Hid (shapeP ⟨6, num, name, attr, kids, at_⟩ true = (decide (kids.length = 2) && (decide (name.size = 0) && decide (attr.size = 0)))) := Lib.hid (by simp [shapeP, kidsP, textsP])
 have HF : Hid (formP ⟨6, num, name, attr, kids, at_⟩ true = if shapeP ⟨6, num, name, attr, kids, at_⟩ true = false then 3 else if num < 0 ∨ 5 < num then 2 else 0) := Lib.hid (by simp [formP, lowP, highP])
 obtain ⟨g, hg⟩ : ∃ x, w.heap.size = x := ⟨_, rfl⟩
 rw [hg] at hk
 clear hn ha
 go_enter Tryz.func233, Tryz.ntmps233
 go_upto_region 1 with fail
 try simp only [hg]
 have hk : Hp [] w [iblk g 76 (nkcs ⟨6, num, name, attr, kids, at_⟩ KA kc)] (w.alloc (.cells #[.int .i64 6, .int .i64 num, .string name, .string attr, .slice KA kids.length kc, .int .i64 at_] 76)) := hk
 generalize w.alloc (.cells #[.int .i64 6, .int .i64 num, .string name, .string attr, .slice KA kids.length kc, .int .i64 at_] 76) = W at *
 obtain ⟨c0, c1, c2, c3, c4, c5⟩ := (hk.blk 0 rfl).get6
 simp only at c0 c1 c2 c3 c4 c5
 cases hT : decide (kids.length = 2) with
 | false =>
  rw [hT] at HS
  have hT2 : ((kids.length : Int) == 2) = false := by rw [ieq, decide_eq_false]; have := of_decide_eq_false hT; omega
  clear hT
  have HR := Lib.hid (HF.out.trans (by rw [if_pos (by rw [HS.out]; simp)]) : _ = (3 : Int))
  go_wp2_with fail
  go_ret
  rw [HR.out]
  exact ⟨rfl, by first | exact hk.below0 | (subst hg; exact hk.below0)⟩
 | true =>
  rw [hT] at HS
  have hT2 : ((kids.length : Int) == 2) = true := by rw [ieq, decide_eq_true]; have := of_decide_eq_true hT; omega
  clear hT

  cases hn : decide (name.size = 0) with
  | false =>
   obtain ⟨d1, d2⟩ := sz_full hn
   rw [hn] at HS
   have HR := Lib.hid (HF.out.trans (by rw [if_pos (by rw [HS.out]; simp)]) : _ = (3 : Int))
   go_wp2_with fail
   go_ret
   rw [HR.out]
   exact ⟨rfl, by first | exact hk.below0 | (subst hg; exact hk.below0)⟩
  | true =>
   obtain ⟨d1, d2⟩ := sz_empty hn
   rw [hn] at HS
   cases ha : decide (attr.size = 0) with
   | false =>
    obtain ⟨e1, e2⟩ := sz_full ha
    rw [ha] at HS
    have HR := Lib.hid (HF.out.trans (by rw [if_pos (by rw [HS.out]; simp)]) : _ = (3 : Int))
    go_wp2_with fail
    go_ret
    rw [HR.out]
    exact ⟨rfl, by first | exact hk.below0 | (subst hg; exact hk.below0)⟩
   | true =>
    obtain ⟨e1, e2⟩ := sz_empty ha
    rw [ha] at HS
    have HV2 := Lib.hid (HF.out.trans (by rw [if_neg (by rw [HS.out]; simp)]) : _ = (if num < 0 ∨ 5 < num then (2 : Int) else 0))
    clear HF HS
    by_cases l1 : num < 0
    ·have HR := Lib.hid (HV2.out.trans (by rw [if_pos (.inl l1)]) : _ = (2 : Int))
     go_wp2_with fail
     go_ret
     rw [HR.out]
     exact ⟨rfl, by first | exact hk.below0 | (subst hg; exact hk.below0)⟩
    ·by_cases l2 : 5 < num
     ·have HR := Lib.hid (HV2.out.trans (by rw [if_pos (.inr l2)]) : _ = (2 : Int))
      go_wp2_with fail
      go_ret
      rw [HR.out]
      exact ⟨rfl, by first | exact hk.below0 | (subst hg; exact hk.below0)⟩
     ·have HR := Lib.hid (HV2.out.trans (by rw [if_neg (by omega)]) : _ = (0 : Int))
      go_wp2_with fail
      go_ret
      rw [HR.out]
      exact ⟨rfl, by first | exact hk.below0 | (subst hg; exact hk.below0)⟩

set_option maxRecDepth 20000 in
set_option maxHeartbeats 16000000 in
theorem rform_7 (num at_ : Int) (name attr : ByteArray) (kids : List Int) (KA : Option Addr) (kc : Nat) (hn : name.size ≤ 1000000) (ha : attr.size ≤ 1000000) (w : World) : Calls Tryz.prog 233 #[nkV ⟨7, num, name, attr, kids, at_⟩ KA kc] w fun e w' => e = .returned (.int .i64 (formP ⟨7, num, name, attr, kids, at_⟩ true)) ∧ Below w.heap.size w w' := by
 have hk := (Hp.start w).new 76 (nkcs ⟨7, num, name, attr, kids, at_⟩ KA kc)
 have HS : Hid (shapeP ⟨7, num, name, attr, kids, at_⟩ true = (decide (kids.length = 3) && (decide (name.size = 0) && decide (attr.size = 0)))) := Lib.hid (by simp [shapeP, kidsP, textsP])
 have HF : Hid (formP ⟨7, num, name, attr, kids, at_⟩ true = if shapeP ⟨7, num, name, attr, kids, at_⟩ true = false then 3 else if num < 0 ∨ 0 < num then 2 else 0) := Lib.hid (by simp [formP, lowP, highP])
 obtain ⟨g, hg⟩ : ∃ x, w.heap.size = x := ⟨_, rfl⟩
 rw [hg] at hk
 clear hn ha
 go_enter Tryz.func233, Tryz.ntmps233
 go_upto_region 1 with fail
 try simp only [hg]
 have hk : Hp [] w [iblk g 76 (nkcs ⟨7, num, name, attr, kids, at_⟩ KA kc)] (w.alloc (.cells #[.int .i64 7, .int .i64 num, .string name, .string attr, .slice KA kids.length kc, .int .i64 at_] 76)) := hk
 generalize w.alloc (.cells #[.int .i64 7, .int .i64 num, .string name, .string attr, .slice KA kids.length kc, .int .i64 at_] 76) = W at *
 obtain ⟨c0, c1, c2, c3, c4, c5⟩ := (hk.blk 0 rfl).get6
 simp only at c0 c1 c2 c3 c4 c5
 cases hT : decide (kids.length = 3) with
 | false =>
  rw [hT] at HS
  have hT2 : ((kids.length : Int) == 3) = false := by rw [ieq, decide_eq_false]; have := of_decide_eq_false hT; omega
  clear hT
  have HR := Lib.hid (HF.out.trans (by rw [if_pos (by rw [HS.out]; simp)]) : _ = (3 : Int))
  go_wp2_with fail
  go_ret
  rw [HR.out]
  exact ⟨rfl, by first | exact hk.below0 | (subst hg; exact hk.below0)⟩
 | true =>
  rw [hT] at HS
  have hT2 : ((kids.length : Int) == 3) = true := by rw [ieq, decide_eq_true]; have := of_decide_eq_true hT; omega
  clear hT

  cases hn : decide (name.size = 0) with
  | false =>
   obtain ⟨d1, d2⟩ := sz_full hn
   rw [hn] at HS
   have HR := Lib.hid (HF.out.trans (by rw [if_pos (by rw [HS.out]; simp)]) : _ = (3 : Int))
   go_wp2_with fail
   go_ret
   rw [HR.out]
   exact ⟨rfl, by first | exact hk.below0 | (subst hg; exact hk.below0)⟩
  | true =>
   obtain ⟨d1, d2⟩ := sz_empty hn
   rw [hn] at HS
   cases ha : decide (attr.size = 0) with
   | false =>
    obtain ⟨e1, e2⟩ := sz_full ha
    rw [ha] at HS
    have HR := Lib.hid (HF.out.trans (by rw [if_pos (by rw [HS.out]; simp)]) : _ = (3 : Int))
    go_wp2_with fail
    go_ret
    rw [HR.out]
    exact ⟨rfl, by first | exact hk.below0 | (subst hg; exact hk.below0)⟩
   | true =>
    obtain ⟨e1, e2⟩ := sz_empty ha
    rw [ha] at HS
    have HV2 := Lib.hid (HF.out.trans (by rw [if_neg (by rw [HS.out]; simp)]) : _ = (if num < 0 ∨ 0 < num then (2 : Int) else 0))
    clear HF HS
    by_cases l1 : num < 0
    ·have HR := Lib.hid (HV2.out.trans (by rw [if_pos (.inl l1)]) : _ = (2 : Int))
     go_wp2_with fail
     go_ret
     rw [HR.out]
     exact ⟨rfl, by first | exact hk.below0 | (subst hg; exact hk.below0)⟩
    ·by_cases l2 : 0 < num
     ·have HR := Lib.hid (HV2.out.trans (by rw [if_pos (.inr l2)]) : _ = (2 : Int))
      go_wp2_with fail
      go_ret
      rw [HR.out]
      exact ⟨rfl, by first | exact hk.below0 | (subst hg; exact hk.below0)⟩
     ·have HR := Lib.hid (HV2.out.trans (by rw [if_neg (by omega)]) : _ = (0 : Int))
      go_wp2_with fail
      go_ret
      rw [HR.out]
      exact ⟨rfl, by first | exact hk.below0 | (subst hg; exact hk.below0)⟩

set_option maxRecDepth 20000 in
set_option maxHeartbeats 16000000 in
theorem rform_8 (num at_ : Int) (name attr : ByteArray) (kids : List Int) (KA : Option Addr) (kc : Nat) (hn : name.size ≤ 1000000) (ha : attr.size ≤ 1000000) (w : World) : Calls Tryz.prog 233 #[nkV ⟨8, num, name, attr, kids, at_⟩ KA kc] w fun e w' => e = .returned (.int .i64 (formP ⟨8, num, name, attr, kids, at_⟩ true)) ∧ Below w.heap.size w w' := by
 have hk := (Hp.start w).new 76 (nkcs ⟨8, num, name, attr, kids, at_⟩ KA kc)
 have HS : Hid (shapeP ⟨8, num, name, attr, kids, at_⟩ true = (decide (2 ≤ kids.length) && (decide (name.size = 0) && decide (attr.size = 0)))) := Lib.hid (by simp [shapeP, kidsP, textsP])
 have HF : Hid (formP ⟨8, num, name, attr, kids, at_⟩ true = if shapeP ⟨8, num, name, attr, kids, at_⟩ true = false then 3 else if num < 0 ∨ 0 < num then 2 else 0) := Lib.hid (by simp [formP, lowP, highP])
 obtain ⟨g, hg⟩ : ∃ x, w.heap.size = x := ⟨_, rfl⟩
 rw [hg] at hk
 clear hn ha
 go_enter Tryz.func233, Tryz.ntmps233
 go_upto_region 1 with fail
 try simp only [hg]
 have hk : Hp [] w [iblk g 76 (nkcs ⟨8, num, name, attr, kids, at_⟩ KA kc)] (w.alloc (.cells #[.int .i64 8, .int .i64 num, .string name, .string attr, .slice KA kids.length kc, .int .i64 at_] 76)) := hk
 generalize w.alloc (.cells #[.int .i64 8, .int .i64 num, .string name, .string attr, .slice KA kids.length kc, .int .i64 at_] 76) = W at *
 obtain ⟨c0, c1, c2, c3, c4, c5⟩ := (hk.blk 0 rfl).get6
 simp only at c0 c1 c2 c3 c4 c5
 cases hT : decide (2 ≤ kids.length) with
 | false =>
  rw [hT] at HS
  have hT2 : ¬ (2 : Int) ≤ (kids.length : Int) := by have := of_decide_eq_false hT; omega
  clear hT
  have HR := Lib.hid (HF.out.trans (by rw [if_pos (by rw [HS.out]; simp)]) : _ = (3 : Int))
  go_wp2_with fail
  go_ret
  rw [HR.out]
  exact ⟨rfl, by first | exact hk.below0 | (subst hg; exact hk.below0)⟩
 | true =>
  rw [hT] at HS
  have hT2 : (2 : Int) ≤ (kids.length : Int) := by have := of_decide_eq_true hT; omega
  clear hT

  cases hn : decide (name.size = 0) with
  | false =>
   obtain ⟨d1, d2⟩ := sz_full hn
   rw [hn] at HS
   have HR := Lib.hid (HF.out.trans (by rw [if_pos (by rw [HS.out]; simp)]) : _ = (3 : Int))
   go_wp2_with fail
   go_ret
   rw [HR.out]
   exact ⟨rfl, by first | exact hk.below0 | (subst hg; exact hk.below0)⟩
  | true =>
   obtain ⟨d1, d2⟩ := sz_empty hn
   rw [hn] at HS
   cases ha : decide (attr.size = 0) with
   | false =>
    obtain ⟨e1, e2⟩ := sz_full ha
    rw [ha] at HS
    have HR := Lib.hid (HF.out.trans (by rw [if_pos (by rw [HS.out]; simp)]) : _ = (3 : Int))
    go_wp2_with fail
    go_ret
    rw [HR.out]
    exact ⟨rfl, by first | exact hk.below0 | (subst hg; exact hk.below0)⟩
   | true =>
    obtain ⟨e1, e2⟩ := sz_empty ha
    rw [ha] at HS
    have HV2 := Lib.hid (HF.out.trans (by rw [if_neg (by rw [HS.out]; simp)]) : _ = (if num < 0 ∨ 0 < num then (2 : Int) else 0))
    clear HF HS
    by_cases l1 : num < 0
    ·have HR := Lib.hid (HV2.out.trans (by rw [if_pos (.inl l1)]) : _ = (2 : Int))
     go_wp2_with fail
     go_ret
     rw [HR.out]
     exact ⟨rfl, by first | exact hk.below0 | (subst hg; exact hk.below0)⟩
    ·by_cases l2 : 0 < num
     ·have HR := Lib.hid (HV2.out.trans (by rw [if_pos (.inr l2)]) : _ = (2 : Int))
      go_wp2_with fail
      go_ret
      rw [HR.out]
      exact ⟨rfl, by first | exact hk.below0 | (subst hg; exact hk.below0)⟩
     ·have HR := Lib.hid (HV2.out.trans (by rw [if_neg (by omega)]) : _ = (0 : Int))
      go_wp2_with fail
      go_ret
      rw [HR.out]
      exact ⟨rfl, by first | exact hk.below0 | (subst hg; exact hk.below0)⟩

set_option maxRecDepth 20000 in
set_option maxHeartbeats 16000000 in
theorem rform_9 (num at_ : Int) (name attr : ByteArray) (kids : List Int) (KA : Option Addr) (kc : Nat) (hn : name.size ≤ 1000000) (ha : attr.size ≤ 1000000) (w : World) : Calls Tryz.prog 233 #[nkV ⟨9, num, name, attr, kids, at_⟩ KA kc] w fun e w' => e = .returned (.int .i64 (formP ⟨9, num, name, attr, kids, at_⟩ false)) ∧ Below w.heap.size w w' := by
 have hk := (Hp.start w).new 76 (nkcs ⟨9, num, name, attr, kids, at_⟩ KA kc)
 have HN1 := Lib.hid (qname_any name hn)
 have HN2 := Lib.hid (qname_any attr ha)
 have HS : Hid (shapeP ⟨9, num, name, attr, kids, at_⟩ false = (decide (kids.length = 0) && (nameP name && nameP attr))) := Lib.hid (by simp [shapeP, kidsP, textsP])
 have HF : Hid (formP ⟨9, num, name, attr, kids, at_⟩ false = if shapeP ⟨9, num, name, attr, kids, at_⟩ false = false then 3 else if num < 0 ∨ 0 < num then 2 else 0) := Lib.hid (by simp [formP, lowP, highP])
 obtain ⟨g, hg⟩ : ∃ x, w.heap.size = x := ⟨_, rfl⟩
 rw [hg] at hk
 clear hn ha
 generalize nameP name = q1 at *
 generalize nameP attr = q2 at *
 go_enter Tryz.func233, Tryz.ntmps233
 go_upto_region 1 with fail
 try simp only [hg]
 have hk : Hp [] w [iblk g 76 (nkcs ⟨9, num, name, attr, kids, at_⟩ KA kc)] (w.alloc (.cells #[.int .i64 9, .int .i64 num, .string name, .string attr, .slice KA kids.length kc, .int .i64 at_] 76)) := hk
 generalize w.alloc (.cells #[.int .i64 9, .int .i64 num, .string name, .string attr, .slice KA kids.length kc, .int .i64 at_] 76) = W at *
 obtain ⟨c0, c1, c2, c3, c4, c5⟩ := (hk.blk 0 rfl).get6
 simp only at c0 c1 c2 c3 c4 c5
 cases hT : decide (kids.length = 0) with
 | false =>
  rw [hT] at HS
  have hT2 : ((kids.length : Int) == 0) = false := by rw [ieq, decide_eq_false]; have := of_decide_eq_false hT; omega
  clear hT
  have HR := Lib.hid (HF.out.trans (by rw [if_pos (by rw [HS.out]; simp)]) : _ = (3 : Int))
  go_wp2_with fail
  go_ret
  rw [HR.out]
  exact ⟨rfl, by first | exact hk.below0 | (subst hg; exact hk.below0)⟩
 | true =>
  rw [hT] at HS
  have hT2 : ((kids.length : Int) == 0) = true := by rw [ieq, decide_eq_true]; have := of_decide_eq_true hT; omega
  clear hT

  go_wp2_with fail
  refine (HN1.out W).mono ?_
  rintro e w1 ⟨rfl, hb1⟩
  have hk1 := hk.next hb1
  clear hk hb1 c0 c1 c2 c3 c4 c5
  obtain ⟨c0, c1, c2, c3, c4, c5⟩ := (hk1.blk 0 rfl).get6
  simp only at c0 c1 c2 c3 c4 c5
  cases q1 with
  | false =>
   have HR := Lib.hid (HF.out.trans (by rw [if_pos (by rw [HS.out]; simp)]) : _ = (3 : Int))
   go_wp2_with fail
   go_ret
   rw [HR.out]
   exact ⟨rfl, by first | exact hk1.below0 | (subst hg; exact hk1.below0)⟩
  | true =>

   go_wp2_with fail
   refine (HN2.out w1).mono ?_
   rintro e w2 ⟨rfl, hb2⟩
   have hk2 := hk1.next hb2
   clear hk1 hb2 c0 c1 c2 c3 c4 c5
   obtain ⟨c0, c1, c2, c3, c4, c5⟩ := (hk2.blk 0 rfl).get6
   simp only at c0 c1 c2 c3 c4 c5
   cases q2 with
   | false =>
    have HR := Lib.hid (HF.out.trans (by rw [if_pos (by rw [HS.out]; simp)]) : _ = (3 : Int))
    go_wp2_with fail
    go_ret
    rw [HR.out]
    exact ⟨rfl, by first | exact hk2.below0 | (subst hg; exact hk2.below0)⟩
   | true =>
    have HV2 := Lib.hid (HF.out.trans (by rw [if_neg (by rw [HS.out]; simp)]) : _ = (if num < 0 ∨ 0 < num then (2 : Int) else 0))
    clear HF HS
    by_cases l1 : num < 0
    ·have HR := Lib.hid (HV2.out.trans (by rw [if_pos (.inl l1)]) : _ = (2 : Int))
     go_wp2_with fail
     go_ret
     rw [HR.out]
     exact ⟨rfl, by first | exact hk2.below0 | (subst hg; exact hk2.below0)⟩
    ·by_cases l2 : 0 < num
     ·have HR := Lib.hid (HV2.out.trans (by rw [if_pos (.inr l2)]) : _ = (2 : Int))
      go_wp2_with fail
      go_ret
      rw [HR.out]
      exact ⟨rfl, by first | exact hk2.below0 | (subst hg; exact hk2.below0)⟩
     ·have HR := Lib.hid (HV2.out.trans (by rw [if_neg (by omega)]) : _ = (0 : Int))
      go_wp2_with fail
      go_ret
      rw [HR.out]
      exact ⟨rfl, by first | exact hk2.below0 | (subst hg; exact hk2.below0)⟩

set_option maxRecDepth 20000 in
set_option maxHeartbeats 16000000 in
theorem rform_10 (num at_ : Int) (name attr : ByteArray) (kids : List Int) (KA : Option Addr) (kc : Nat) (hn : name.size ≤ 1000000) (ha : attr.size ≤ 1000000) (w : World) : Calls Tryz.prog 233 #[nkV ⟨10, num, name, attr, kids, at_⟩ KA kc] w fun e w' => e = .returned (.int .i64 (formP ⟨10, num, name, attr, kids, at_⟩ false)) ∧ Below w.heap.size w w' := by
 have hk := (Hp.start w).new 76 (nkcs ⟨10, num, name, attr, kids, at_⟩ KA kc)
 have HS : Hid (shapeP ⟨10, num, name, attr, kids, at_⟩ false = (decide (kids.length = 0) && (decide (name.size = 0) && decide (attr.size = 0)))) := Lib.hid (by simp [shapeP, kidsP, textsP])
 have HF : Hid (formP ⟨10, num, name, attr, kids, at_⟩ false = if shapeP ⟨10, num, name, attr, kids, at_⟩ false = false then 3 else if num < -2147483648 ∨ 2147483647 < num then 2 else 0) := Lib.hid (by simp [formP, lowP, highP])
 obtain ⟨g, hg⟩ : ∃ x, w.heap.size = x := ⟨_, rfl⟩
 rw [hg] at hk
 clear hn ha
 go_enter Tryz.func233, Tryz.ntmps233
 go_upto_region 1 with fail
 try simp only [hg]
 have hk : Hp [] w [iblk g 76 (nkcs ⟨10, num, name, attr, kids, at_⟩ KA kc)] (w.alloc (.cells #[.int .i64 10, .int .i64 num, .string name, .string attr, .slice KA kids.length kc, .int .i64 at_] 76)) := hk
 generalize w.alloc (.cells #[.int .i64 10, .int .i64 num, .string name, .string attr, .slice KA kids.length kc, .int .i64 at_] 76) = W at *
 obtain ⟨c0, c1, c2, c3, c4, c5⟩ := (hk.blk 0 rfl).get6
 simp only at c0 c1 c2 c3 c4 c5
 cases hT : decide (kids.length = 0) with
 | false =>
  rw [hT] at HS
  have hT2 : ((kids.length : Int) == 0) = false := by rw [ieq, decide_eq_false]; have := of_decide_eq_false hT; omega
  clear hT
  have HR := Lib.hid (HF.out.trans (by rw [if_pos (by rw [HS.out]; simp)]) : _ = (3 : Int))
  go_wp2_with fail
  go_ret
  rw [HR.out]
  exact ⟨rfl, by first | exact hk.below0 | (subst hg; exact hk.below0)⟩
 | true =>
  rw [hT] at HS
  have hT2 : ((kids.length : Int) == 0) = true := by rw [ieq, decide_eq_true]; have := of_decide_eq_true hT; omega
  clear hT

  cases hn : decide (name.size = 0) with
  | false =>
   obtain ⟨d1, d2⟩ := sz_full hn
   rw [hn] at HS
   have HR := Lib.hid (HF.out.trans (by rw [if_pos (by rw [HS.out]; simp)]) : _ = (3 : Int))
   go_wp2_with fail
   go_ret
   rw [HR.out]
   exact ⟨rfl, by first | exact hk.below0 | (subst hg; exact hk.below0)⟩
  | true =>
   obtain ⟨d1, d2⟩ := sz_empty hn
   rw [hn] at HS
   cases ha : decide (attr.size = 0) with
   | false =>
    obtain ⟨e1, e2⟩ := sz_full ha
    rw [ha] at HS
    have HR := Lib.hid (HF.out.trans (by rw [if_pos (by rw [HS.out]; simp)]) : _ = (3 : Int))
    go_wp2_with fail
    go_ret
    rw [HR.out]
    exact ⟨rfl, by first | exact hk.below0 | (subst hg; exact hk.below0)⟩
   | true =>
    obtain ⟨e1, e2⟩ := sz_empty ha
    rw [ha] at HS
    have HV2 := Lib.hid (HF.out.trans (by rw [if_neg (by rw [HS.out]; simp)]) : _ = (if num < -2147483648 ∨ 2147483647 < num then (2 : Int) else 0))
    clear HF HS
    by_cases l1 : num < -2147483648
    ·have HR := Lib.hid (HV2.out.trans (by rw [if_pos (.inl l1)]) : _ = (2 : Int))
     go_wp2_with fail
     go_ret
     rw [HR.out]
     exact ⟨rfl, by first | exact hk.below0 | (subst hg; exact hk.below0)⟩
    ·by_cases l2 : 2147483647 < num
     ·have HR := Lib.hid (HV2.out.trans (by rw [if_pos (.inr l2)]) : _ = (2 : Int))
      go_wp2_with fail
      go_ret
      rw [HR.out]
      exact ⟨rfl, by first | exact hk.below0 | (subst hg; exact hk.below0)⟩
     ·have HR := Lib.hid (HV2.out.trans (by rw [if_neg (by omega)]) : _ = (0 : Int))
      go_wp2_with fail
      go_ret
      rw [HR.out]
      exact ⟨rfl, by first | exact hk.below0 | (subst hg; exact hk.below0)⟩

set_option maxRecDepth 20000 in
set_option maxHeartbeats 16000000 in
theorem rform_11 (num at_ : Int) (name attr : ByteArray) (kids : List Int) (KA : Option Addr) (kc : Nat) (hn : name.size ≤ 1000000) (ha : attr.size ≤ 1000000) (w : World) : Calls Tryz.prog 233 #[nkV ⟨11, num, name, attr, kids, at_⟩ KA kc] w fun e w' => e = .returned (.int .i64 (formP ⟨11, num, name, attr, kids, at_⟩ false)) ∧ Below w.heap.size w w' := by
 have hk := (Hp.start w).new 76 (nkcs ⟨11, num, name, attr, kids, at_⟩ KA kc)
 have HN1 := Lib.hid (qword_any name hn)
 have HS : Hid (shapeP ⟨11, num, name, attr, kids, at_⟩ false = (decide (kids.length = 0) && (wordP name && decide (attr.size = 0)))) := Lib.hid (by simp [shapeP, kidsP, textsP])
 have HF : Hid (formP ⟨11, num, name, attr, kids, at_⟩ false = if shapeP ⟨11, num, name, attr, kids, at_⟩ false = false then 3 else if num < 0 ∨ 0 < num then 2 else 0) := Lib.hid (by simp [formP, lowP, highP])
 obtain ⟨g, hg⟩ : ∃ x, w.heap.size = x := ⟨_, rfl⟩
 rw [hg] at hk
 clear hn ha
 generalize wordP name = q1 at *
 go_enter Tryz.func233, Tryz.ntmps233
 go_upto_region 1 with fail
 try simp only [hg]
 have hk : Hp [] w [iblk g 76 (nkcs ⟨11, num, name, attr, kids, at_⟩ KA kc)] (w.alloc (.cells #[.int .i64 11, .int .i64 num, .string name, .string attr, .slice KA kids.length kc, .int .i64 at_] 76)) := hk
 generalize w.alloc (.cells #[.int .i64 11, .int .i64 num, .string name, .string attr, .slice KA kids.length kc, .int .i64 at_] 76) = W at *
 obtain ⟨c0, c1, c2, c3, c4, c5⟩ := (hk.blk 0 rfl).get6
 simp only at c0 c1 c2 c3 c4 c5
 cases hT : decide (kids.length = 0) with
 | false =>
  rw [hT] at HS
  have hT2 : ((kids.length : Int) == 0) = false := by rw [ieq, decide_eq_false]; have := of_decide_eq_false hT; omega
  clear hT
  have HR := Lib.hid (HF.out.trans (by rw [if_pos (by rw [HS.out]; simp)]) : _ = (3 : Int))
  go_wp2_with fail
  go_ret
  rw [HR.out]
  exact ⟨rfl, by first | exact hk.below0 | (subst hg; exact hk.below0)⟩
 | true =>
  rw [hT] at HS
  have hT2 : ((kids.length : Int) == 0) = true := by rw [ieq, decide_eq_true]; have := of_decide_eq_true hT; omega
  clear hT

  go_wp2_with fail
  refine (HN1.out W).mono ?_
  rintro e w1 ⟨rfl, hb1⟩
  have hk1 := hk.next hb1
  clear hk hb1 c0 c1 c2 c3 c4 c5
  obtain ⟨c0, c1, c2, c3, c4, c5⟩ := (hk1.blk 0 rfl).get6
  simp only at c0 c1 c2 c3 c4 c5
  cases q1 with
  | false =>
   have HR := Lib.hid (HF.out.trans (by rw [if_pos (by rw [HS.out]; simp)]) : _ = (3 : Int))
   go_wp2_with fail
   go_ret
   rw [HR.out]
   exact ⟨rfl, by first | exact hk1.below0 | (subst hg; exact hk1.below0)⟩
  | true =>

   cases ha : decide (attr.size = 0) with
   | false =>
    obtain ⟨e1, e2⟩ := sz_full ha
    rw [ha] at HS
    have HR := Lib.hid (HF.out.trans (by rw [if_pos (by rw [HS.out]; simp)]) : _ = (3 : Int))
    go_wp2_with fail
    go_ret
    rw [HR.out]
    exact ⟨rfl, by first | exact hk1.below0 | (subst hg; exact hk1.below0)⟩
   | true =>
    obtain ⟨e1, e2⟩ := sz_empty ha
    rw [ha] at HS
    have HV2 := Lib.hid (HF.out.trans (by rw [if_neg (by rw [HS.out]; simp)]) : _ = (if num < 0 ∨ 0 < num then (2 : Int) else 0))
    clear HF HS
    by_cases l1 : num < 0
    ·have HR := Lib.hid (HV2.out.trans (by rw [if_pos (.inl l1)]) : _ = (2 : Int))
     go_wp2_with fail
     go_ret
     rw [HR.out]
     exact ⟨rfl, by first | exact hk1.below0 | (subst hg; exact hk1.below0)⟩
    ·by_cases l2 : 0 < num
     ·have HR := Lib.hid (HV2.out.trans (by rw [if_pos (.inr l2)]) : _ = (2 : Int))
      go_wp2_with fail
      go_ret
      rw [HR.out]
      exact ⟨rfl, by first | exact hk1.below0 | (subst hg; exact hk1.below0)⟩
     ·have HR := Lib.hid (HV2.out.trans (by rw [if_neg (by omega)]) : _ = (0 : Int))
      go_wp2_with fail
      go_ret
      rw [HR.out]
      exact ⟨rfl, by first | exact hk1.below0 | (subst hg; exact hk1.below0)⟩

set_option maxRecDepth 20000 in
set_option maxHeartbeats 4000000 in
/-- the reference's form, for kinds that there are -/
theorem rform_any (n : Nk) (KA : Option Addr) (kc : Nat) (hB : NBd n) (h0 : 0 ≤ n.kind) (h12 : n.kind < 12) (w : World) : Calls Tryz.prog 233 #[nkV n KA kc] w fun e w' => e = .returned (.int .i64 (formP n (decide (n.kind ≤ 8)))) ∧ Below w.heap.size w w' := by
 obtain ⟨kind, num, name, attr, kids, at_⟩ := n
 rcases kids_cases kind with (rfl | rfl | rfl | rfl | rfl | rfl | rfl | rfl | rfl | rfl | rfl | rfl) | ⟨-, -, -, -, -, -, -, -, -, -, -, -, h⟩
 case inr => simp only at h0 h12; omega
 ·exact rform_0 num at_ name attr kids KA kc hB.name hB.attr w
 ·exact rform_1 num at_ name attr kids KA kc hB.name hB.attr w
 ·exact rform_2 num at_ name attr kids KA kc hB.name hB.attr w
 ·exact rform_3 num at_ name attr kids KA kc hB.name hB.attr w
 ·exact rform_4 num at_ name attr kids KA kc hB.name hB.attr w
 ·exact rform_5 num at_ name attr kids KA kc hB.name hB.attr w
 ·exact rform_6 num at_ name attr kids KA kc hB.name hB.attr w
 ·exact rform_7 num at_ name attr kids KA kc hB.name hB.attr w
 ·exact rform_8 num at_ name attr kids KA kc hB.name hB.attr w
 ·exact rform_9 num at_ name attr kids KA kc hB.name hB.attr w
 ·exact rform_10 num at_ name attr kids KA kc hB.name hB.attr w
 ·exact rform_11 num at_ name attr kids KA kc hB.name hB.attr w

set_option maxHeartbeats 2000000 in
theorem condition_is (k : Int) (w : World) : Calls Tryz.prog 232 #[.int .i64 k] w fun e w' => e = .returned (.bool (decide (0 ≤ k) && decide (k ≤ 8))) ∧ w' = w := by
 by_cases a : (0 : Int) ≤ k <;> by_cases b : k ≤ 8
 all_goals
  go_enter Tryz.func232, Tryz.ntmps232
  go_wp2_with fail
  go_ret
  exact ⟨ret_bool (by simp [a, b]), rfl⟩

end Go.Proofs.YtogmhaihmkcjgaaGreatDoor
-- halved
