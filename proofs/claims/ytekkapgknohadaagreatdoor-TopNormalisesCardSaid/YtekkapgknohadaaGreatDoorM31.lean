/- dominolaw44.Few of the empty policy. Printed by mkvb.py. -/
import Derived.Test.YtekkapgknohadaaGreatDoorM29
set_option linter.unusedVariables false
set_option maxRecDepth 20000
set_option maxHeartbeats 4000000
namespace Go.Proofs.YtekkapgknohadaaGreatDoor.Nf
open Go.RowKit Go.Shelf
open Lib (hid)
theorem all_bad2 {α : Type} {p : α → Bool} {l : List α} {i : Nat} {x : α} (h : l[i]? = some x) (hp : p x = true) : l.any p = true := List.any_eq_true.2 ⟨x, List.mem_of_getElem? h, hp⟩
theorem any_take {α : Type} {p : α → Bool} {l : List α} {i : Nat} {x : α} (h : l[i]? = some x) : (l.take (i + 1)).any p = ((l.take i).any p || p x) := by
 rw [zbb h, List.any_append]; simp
def badF (f : Fd) : Bool := decide (70 < f.words.length) || decide (80 < f.name.size)
def badM (m : Sm) : Bool := decide (20 < m.fields.length) || decide (80 < m.name.size) || m.fields.any badF
theorem few11_any (f : Fd) (WA : Option Addr) (c : Nat) (w : World) :
 Calls Tryz.prog 22 #[.agg (fcs f WA c).toArray] w fun e w' => e = .returned (.bool (badF f)) ∧ Below w.heap.size w w' := by
 have hk := (Hp.start w).new 57 (fcs f WA c)
 have hb := hk.below0
 obtain ⟨d0, d1, d2, d3, d4⟩ := Blk.get5 (hk.blk 0 rfl)
 clear hk
 by_cases h1 : 70 < f.words.length
 ·have i1 : (70 : Int) < (f.words.length : Int) := by omega
  have HV : Hid (badF f = true) := hid (by unfold badF; rw [decide_eq_true h1]; rfl)
  clear h1
  go_enter Tryz.func22, Tryz.ntmps22
  go_wp2_with fail
  go_ret
  exact ⟨zao (by first | (rw [HV.out]; rfl) | rw [HV.out]), hb⟩
 ·have i1 : ¬ (70 : Int) < (f.words.length : Int) := by omega
  by_cases h2 : 80 < f.name.size
  ·have i2 : (80 : Int) < (f.name.size : Int) := by omega
   have HV : Hid (badF f = true) := hid (by unfold badF; rw [decide_eq_true h2, Bool.or_true])
   clear h1 h2
   go_enter Tryz.func22, Tryz.ntmps22
   go_wp2_with fail
   go_ret
   exact ⟨zao (by first | (rw [HV.out]; rfl) | rw [HV.out]), hb⟩
  ·have i2 : ¬ (80 : Int) < (f.name.size : Int) := by omega
   have HV : Hid (badF f = false) := hid (by unfold badF; rw [decide_eq_false h1, decide_eq_false h2]; rfl)
   clear h1 h2
   go_enter Tryz.func22, Tryz.ntmps22
   go_wp2_with fail
   go_ret
   exact ⟨zao (by first | (rw [HV.out]; rfl) | rw [HV.out]), hb⟩
theorem enters_few11 : ∀ args w, (callFunc 22 args).run Tryz.prog w = .ok (.enter 22 args) w := enters_of Tryz.func22 (by kernel_rfl) rfl
theorem fewIdxF_any (A : Option Addr) (c : Nat) (l : List Fd) (hl : l.length ≤ 1000000) (W : World) (hx : Flds W A l) :
 Calls Tryz.prog 64 #[.slice A l.length c, .func (.func 22) #[] #[]] W fun e w' => (∃ y : Int, e = .returned (.int .i64 y) ∧ (0 ≤ y ↔ l.any badF = true)) ∧ Below W.heap.size W w' := by
 have hen := enters_few11
 obtain ⟨R, hR⟩ : ∃ R, l.any badF = R := ⟨_, rfl⟩
 rw [hR]
 have HR := hid hR
 clear hR
 go_enter Tryz.func64, Tryz.ntmps64
 go_upto_region 2 with fail
 go_loopg [8] l.length (fun m s8 wx => ∃ i : Nat, i ≤ l.length ∧ m = l.length - i ∧ s8 = .int .i64 (i : Int) ∧ Below W.heap.size W wx ∧ Hid ((l.take i).any badF = false))
 case atStart => exact ⟨0, Nat.zero_le _, rfl, rfl, Below.refl _ _, hid rfl⟩
 case round =>
  obtain ⟨i, hi, rfl, rfl, hb, HI⟩ := hrel
  by_cases hil : i < l.length
  ·have hii : (i : Int) < (l.length : Int) := by omega
   have hi0 : (0 : Int) ≤ (i : Int) := by omega
   obtain ⟨t, ht⟩ : ∃ t, l[i]? = some t := ⟨_, List.getElem?_eq_getElem hil⟩
   obtain ⟨ad, WA, wc, rfl, hFA0⟩ := hx.at_ i t ht
   have hFA := hFA0.up hb
   have c0 := hFA.name
   have c1 := hFA.kind
   have c2 := hFA.min
   have c3 := hFA.max
   have c4 := hFA.words
   have HC := hid (few11_any t WA wc wr)
   obtain ⟨Q, hQ⟩ : ∃ Q, badF t = Q := ⟨_, rfl⟩
   rw [hQ] at HC
   cases Q with
   | true =>
     have HM : Hid (R = true) := hid (by rw [← HR.out]; exact all_bad2 ht hQ)
     clear ht hQ
     go_wp2_with fail
     refine HC.out.mono ?_
     rintro e w1 ⟨rfl, hb1⟩
     go_wp2_with fail
     go_ret
     exact ⟨⟨_, rfl, by rw [HM.out]; simp⟩, hb.trans (hb1.mono hb.size)⟩
   | false =>
     have HI2 : Hid ((l.take (i + 1)).any badF = false) := hid (by rw [any_take ht, HI.out, hQ]; rfl)
     clear ht hQ
     go_wp2_with fail
     refine HC.out.mono ?_
     rintro e w1 ⟨rfl, hb1⟩
     go_wp2_with fail
     go_roundg (l.length - (i + 1))
     case measure => omega
     case rel => exact ⟨i + 1, hil, rfl, by first | rfl | simp, hb.trans (hb1.mono hb.size), HI2⟩
  ·have hii : ¬ (i : Int) < (l.length : Int) := by omega
   have HM : Hid (R = false) := hid (by rw [← HR.out, ← HI.out, List.take_of_length_le (by omega)])
   go_wp2_with fail
   go_ret
   exact ⟨⟨_, rfl, by rw [HM.out]; decide⟩, hb⟩
theorem containsF_any (A : Option Addr) (c : Nat) (l : List Fd) (hl : l.length ≤ 1000000) (W : World) (hx : Flds W A l) :
 Calls Tryz.prog 21 #[.slice A l.length c, .func (.func 22) #[] #[]] W fun e w' => e = .returned (.bool (l.any badF)) ∧ Below W.heap.size W w' := by
 have HC := hid (fewIdxF_any A c l hl W hx)
 obtain ⟨R, hR⟩ : ∃ R, l.any badF = R := ⟨_, rfl⟩
 rw [hR] at HC ⊢
 clear hR
 go_enter Tryz.func21, Tryz.ntmps21
 go_wp2_with fail
 refine HC.out.mono ?_
 rintro e w1 ⟨⟨y, rfl, hy⟩, hb⟩
 by_cases h : 0 ≤ y
 ·have HY := hid (hy.1 h)
  clear hy
  go_wp2_with fail
  go_ret
  exact ⟨by rw [HY.out]; simp, hb⟩
 ·have HY : Hid (R = false) := hid (by rw [← Bool.not_eq_true]; exact fun e => h (hy.2 e))
  clear hy
  go_wp2_with fail
  go_ret
  exact ⟨by rw [HY.out]; simp; omega, hb⟩
theorem few1_any (m : Sm) (FA : Option Addr) (c : Nat) (w : World) (hF : Flds w FA m.fields) :
 Calls Tryz.prog 20 #[smV m FA c] w fun e w' => e = .returned (.bool (badM m)) ∧ Below w.heap.size w w' := by
 have hk := (Hp.start w).new 53 [.string m.name, .slice FA m.fields.length c]
 have hb := hk.below0
 have d0 := (hk.blk 0 rfl).cell 0
 have d1 := (hk.blk 0 rfl).cell 1
 simp only [List.getElem?_cons_zero, List.getElem?_cons_succ] at d0 d1
 by_cases h1 : 20 < m.fields.length
 ·have i1 : (20 : Int) < (m.fields.length : Int) := by omega
  have HV : Hid (badM m = true) := hid (by unfold badM; rw [decide_eq_true h1]; rfl)
  clear h1 hk
  go_enter Tryz.func20, Tryz.ntmps20
  go_wp2_with fail
  go_ret
  exact ⟨zao (by first | (rw [HV.out]; rfl) | rw [HV.out]), hb⟩
 ·have i1 : ¬ (20 : Int) < (m.fields.length : Int) := by omega
  by_cases h2 : 80 < m.name.size
  ·have i2 : (80 : Int) < (m.name.size : Int) := by omega
   have HV : Hid (badM m = true) := hid (by unfold badM; rw [decide_eq_true h2, Bool.or_true]; rfl)
   clear h1 h2 hk
   go_enter Tryz.func20, Tryz.ntmps20
   go_wp2_with fail
   go_ret
   exact ⟨zao (by first | (rw [HV.out]; rfl) | rw [HV.out]), hb⟩
  ·have i2 : ¬ (80 : Int) < (m.name.size : Int) := by omega
   have HC := hid (containsF_any FA c m.fields (by omega) _ (hF.up hb))
   have HV : Hid (badM m = m.fields.any badF) := hid (by unfold badM; rw [decide_eq_false h1, decide_eq_false h2]; rfl)
   generalize m.fields.any badF = R at *
   clear h1 h2 hk
   go_enter Tryz.func20, Tryz.ntmps20
   go_wp2_with fail
   refine HC.out.mono ?_
   rintro e w1 ⟨rfl, hb1⟩
   go_wp2_with fail
   go_ret
   exact ⟨zao (by first | (rw [HV.out]; rfl) | rw [HV.out]), hb.trans (hb1.mono hb.size)⟩
theorem enters_few1 : ∀ args w, (callFunc 20 args).run Tryz.prog w = .ok (.enter 20 args) w := enters_of Tryz.func20 (by kernel_rfl) rfl
theorem fewIdxS_any (A : Option Addr) (c : Nat) (l : List Sm) (hl : l.length ≤ 1000000) (W : World) (hx : Schs W A l) :
 Calls Tryz.prog 63 #[.slice A l.length c, .func (.func 20) #[] #[]] W fun e w' => (∃ y : Int, e = .returned (.int .i64 y) ∧ (0 ≤ y ↔ l.any badM = true)) ∧ Below W.heap.size W w' := by
 have hen := enters_few1
 obtain ⟨R, hR⟩ : ∃ R, l.any badM = R := ⟨_, rfl⟩
 rw [hR]
 have HR := hid hR
 clear hR
 go_enter Tryz.func63, Tryz.ntmps63
 go_upto_region 2 with fail
 go_loopg [8] l.length (fun m s8 wx => ∃ i : Nat, i ≤ l.length ∧ m = l.length - i ∧ s8 = .int .i64 (i : Int) ∧ Below W.heap.size W wx ∧ Hid ((l.take i).any badM = false))
 case atStart => exact ⟨0, Nat.zero_le _, rfl, rfl, Below.refl _ _, hid rfl⟩
 case round =>
  obtain ⟨i, hi, rfl, rfl, hb, HI⟩ := hrel
  by_cases hil : i < l.length
  ·have hii : (i : Int) < (l.length : Int) := by omega
   have hi0 : (0 : Int) ≤ (i : Int) := by omega
   obtain ⟨t, ht⟩ : ∃ t, l[i]? = some t := ⟨_, List.getElem?_eq_getElem hil⟩
   obtain ⟨ad, FA, fc, rfl, c0, c1, hF0⟩ := (hx.up hb).at_ i t ht
   have HC := hid (few1_any t FA fc wr hF0)
   obtain ⟨Q, hQ⟩ : ∃ Q, badM t = Q := ⟨_, rfl⟩
   rw [hQ] at HC
   cases Q with
   | true =>
     have HM : Hid (R = true) := hid (by rw [← HR.out]; exact all_bad2 ht hQ)
     clear ht hQ
     go_wp2_with fail
     refine HC.out.mono ?_
     rintro e w1 ⟨rfl, hb1⟩
     go_wp2_with fail
     go_ret
     exact ⟨⟨_, rfl, by rw [HM.out]; simp⟩, hb.trans (hb1.mono hb.size)⟩
   | false =>
     have HI2 : Hid ((l.take (i + 1)).any badM = false) := hid (by rw [any_take ht, HI.out, hQ]; rfl)
     clear ht hQ
     go_wp2_with fail
     refine HC.out.mono ?_
     rintro e w1 ⟨rfl, hb1⟩
     go_wp2_with fail
     go_roundg (l.length - (i + 1))
     case measure => omega
     case rel => exact ⟨i + 1, hil, rfl, by first | rfl | simp, hb.trans (hb1.mono hb.size), HI2⟩
  ·have hii : ¬ (i : Int) < (l.length : Int) := by omega
   have HM : Hid (R = false) := hid (by rw [← HR.out, ← HI.out, List.take_of_length_le (by omega)])
   go_wp2_with fail
   go_ret
   exact ⟨⟨_, rfl, by rw [HM.out]; decide⟩, hb⟩
theorem containsS_any (A : Option Addr) (c : Nat) (l : List Sm) (hl : l.length ≤ 1000000) (W : World) (hx : Schs W A l) :
 Calls Tryz.prog 19 #[.slice A l.length c, .func (.func 20) #[] #[]] W fun e w' => e = .returned (.bool (l.any badM)) ∧ Below W.heap.size W w' := by
 have HC := hid (fewIdxS_any A c l hl W hx)
 obtain ⟨R, hR⟩ : ∃ R, l.any badM = R := ⟨_, rfl⟩
 rw [hR] at HC ⊢
 clear hR
 go_enter Tryz.func19, Tryz.ntmps19
 go_wp2_with fail
 refine HC.out.mono ?_
 rintro e w1 ⟨⟨y, rfl, hy⟩, hb⟩
 by_cases h : 0 ≤ y
 ·have HY := hid (hy.1 h)
  clear hy
  go_wp2_with fail
  go_ret
  exact ⟨by rw [HY.out]; simp, hb⟩
 ·have HY : Hid (R = false) := hid (by rw [← Bool.not_eq_true]; exact fun e => h (hy.2 e))
  clear hy
  go_wp2_with fail
  go_ret
  exact ⟨by rw [HY.out]; simp; omega, hb⟩
def fewS (S : List Sm) : Bool := decide (S.length ≤ 8) && !(S.any badM)
theorem fewS_bd {S : List Sm} (h : fewS S = true) : S.length ≤ 8 ∧ ∀ m ∈ S, MBd m := by
 unfold fewS at h
 simp only [Bool.and_eq_true, decide_eq_true_eq, Bool.not_eq_true'] at h
 refine ⟨h.1, fun m hm => ?_⟩
 have h2 : badM m = false := by
  rw [Bool.eq_false_iff]
  intro e
  have := List.any_eq_true.2 ⟨m, hm, e⟩
  rw [h.2] at this; cases this
 unfold badM at h2
 simp only [Bool.or_eq_false_iff, decide_eq_false_iff_not] at h2
 refine ⟨by omega, by omega, fun f hf => ?_⟩
 have h3 : badF f = false := by
  rw [Bool.eq_false_iff]
  intro e
  have := List.any_eq_true.2 ⟨f, hf, e⟩
  rw [h2.2] at this; cases this
 unfold badF at h3
 simp only [Bool.or_eq_false_iff, decide_eq_false_iff_not] at h3
 exact ⟨by omega, by omega⟩
theorem few_zero (A : Option Addr) (c : Nat) (S : List Sm) (w : World) (hS : Schs w A S) :
 Calls Tryz.prog 6 #[.agg #[.string ⟨#[]⟩, .slice none 0 0, .slice none 0 0, .slice none 0 0, .int .i64 0, .string ⟨#[]⟩, .int .i64 0, .string ⟨#[]⟩], .slice A S.length c] w fun e w' => e = .returned (.bool (fewS S)) ∧ Below w.heap.size w w' := by
 have hk := (Hp.start w).new 29 [.string ⟨#[]⟩, .slice none 0 0, .slice none 0 0, .slice none 0 0, .int .i64 0, .string ⟨#[]⟩, .int .i64 0, .string ⟨#[]⟩]
 have hb := hk.below0
 obtain ⟨d0, d1, d2, d3, d4, d5, d6, d7⟩ := (hk.blk 0 rfl).get8
 clear hk
 by_cases h1 : 8 < S.length
 ·have i1 : (8 : Int) < (S.length : Int) := by omega
  have HV : Hid (fewS S = false) := hid (by unfold fewS; rw [decide_eq_false (by omega)]; rfl)
  clear h1
  go_enter Tryz.func6, Tryz.ntmps6
  go_wp2_with fail
  go_ret
  exact ⟨zao (by first | (rw [HV.out]; rfl) | rw [HV.out]), hb⟩
 ·have i1 : ¬ (8 : Int) < (S.length : Int) := by omega
  have HC := hid (containsS_any A c S (by omega) _ (hS.up hb))
  have HV : Hid (fewS S = !(S.any badM)) := hid (by unfold fewS; rw [decide_eq_true (by omega)]; rfl)
  generalize S.any badM = R at *
  clear h1
  go_enter Tryz.func6, Tryz.ntmps6
  go_upto_region 4 with fail
  go_loopg [31] 0 (fun m s31 wx => m = 0 ∧ s31 = .int .i64 0 ∧ wx = w.alloc (.cells #[.string ⟨#[]⟩, .slice none 0 0, .slice none 0 0, .slice none 0 0, .int .i64 0, .string ⟨#[]⟩, .int .i64 0, .string ⟨#[]⟩] 29))
  case atStart => exact ⟨rfl, rfl, rfl⟩
  case round =>
   obtain ⟨rfl, rfl, rfl⟩ := hrel
   go_wp2_with fail
   refine HC.out.mono ?_
   rintro e w1 ⟨rfl, hb1⟩
   go_wp2_with fail
   go_ret
   exact ⟨zao (by first | (rw [HV.out]; rfl) | rw [HV.out]), hb.trans (hb1.mono hb.size)⟩
end Go.Proofs.YtekkapgknohadaaGreatDoor.Nf
