/- typing: lists of strings, values and their types, agree, numbers, first. -/
import Derived.Test.YtekkapgknohadaaGreatDoorM28
import Derived.Test.YtekkapgknohadaaGreatDoorM24
set_option linter.unusedVariables false
set_option maxRecDepth 20000
set_option maxHeartbeats 8000000
namespace Go.Proofs.YtekkapgknohadaaGreatDoor.Nf
open Go.RowKit Go.Shelf
open Lib (hid)
theorem equal_str (A B : Option Addr) (c d : Nat) (x y : List ByteArray) (W : World) (hx : Strs W A x) (hy : Strs W B y) (hxl : x.length ≤ 1000000) (hyl : y.length ≤ 1000000) :
 Calls Tryz.prog 264 #[.slice A x.length c, .slice B y.length d] W fun e w' => e = .returned (.bool (decide (x = y))) ∧ Below W.heap.size W w' := by
 by_cases hl : x.length = y.length
 ·have hne : ((x.length : Int) == (y.length : Int)) = true := by rw [hl]; simp
  have HLn := hid hl
  clear hl
  go_enter Tryz.func264, Tryz.ntmps264
  go_upto_region 4 with fail
  go_loopg [13] x.length (fun m s13 wx => ∃ i : Nat, i ≤ x.length ∧ m = x.length - i ∧ s13 = .int .i64 (i : Int) ∧ Below W.heap.size W wx ∧ Hid (∀ j, j < i → x[j]? = y[j]?))
  case atStart => exact ⟨0, Nat.zero_le _, rfl, rfl, Below.refl _ _, hid (fun j hj => absurd hj (Nat.not_lt_zero _))⟩
  case round =>
   obtain ⟨i, hi, rfl, rfl, hb, HI⟩ := hrel
   by_cases hil : i < x.length
   ·have hii : (i : Int) < (x.length : Int) := by omega
    have hi0 : (0 : Int) ≤ (i : Int) := by omega
    have hiy : (i : Int) < (y.length : Int) := by have := HLn.out; omega
    obtain ⟨a1, ha⟩ : ∃ a, x[i]? = some a := ⟨_, List.getElem?_eq_getElem hil⟩
    obtain ⟨b1, hb9⟩ : ∃ b, y[i]? = some b := ⟨_, List.getElem?_eq_getElem (by have := HLn.out; omega)⟩
    obtain ⟨ad, rfl, ca⟩ := (hx.up hb).at_ i _ ha
    obtain ⟨bd, rfl, da⟩ := (hy.up hb).at_ i _ hb9
    have hca := zbh a1 b1
    by_cases h1 : a1 = b1
    ·subst h1
     have HI2 : Hid (∀ j, j < i + 1 → x[j]? = y[j]?) := by
      refine hid fun j hj => ?_
      rcases Nat.lt_or_ge j i with h | h
      ·exact HI.out j h
      ·obtain rfl : j = i := by omega
       rw [ha, hb9]
     clear ha hb9 hca
     go_upto_region 6 with fail
     go_quiet (fail)
     go_wp2_with fail
     go_roundg (x.length - (i + 1))
     case measure => omega
     case rel => exact ⟨i + 1, hil, rfl, by first | rfl | simp, by first | exact zad hb _ | exact hb | exact hb.drew, HI2⟩
    ·rw [decide_eq_false h1] at hca
     have HD : Hid (decide (x = y) = false) := hid (by
      rw [decide_eq_false_iff_not]
      rintro rfl
      rw [ha] at hb9
      exact h1 (Option.some.inj hb9))
     clear ha hb9
     go_upto_region 6 with fail
     go_quiet (fail)
     go_wp2_with fail
     go_ret
     exact ⟨zao (by first | (rw [HD.out]; rfl) | rw [HD.out]), by first | exact zad hb _ | exact hb | exact hb.drew⟩
   ·obtain rfl : i = x.length := by omega
    have hii : ¬ (x.length : Int) < (x.length : Int) := by omega
    have HD : Hid (decide (x = y) = true) := hid (by rw [decide_eq_true_iff]; exact eq_take HLn.out HI.out)
    go_wp2_with fail
    go_ret
    exact ⟨zao (by first | (rw [HD.out]; rfl) | rw [HD.out]), hb⟩
 ·have hne : ((x.length : Int) == (y.length : Int)) = false := by simp; omega
  have HD : Hid (decide (x = y) = false) := hid (by rw [decide_eq_false_iff_not]; rintro rfl; exact hl rfl)
  go_enter Tryz.func264, Tryz.ntmps264
  go_wp2_with fail
  go_ret
  exact ⟨zao (by first | (rw [HD.out]; rfl) | rw [HD.out]), Below.refl _ _⟩
theorem index_str (A : Option Addr) (c : Nat) (l : List ByteArray) (s : ByteArray) (W : World) (hx : Strs W A l) (hl : l.length ≤ 1000000) :
 Calls Tryz.prog 152 #[.slice A l.length c, .string s] W fun e w' => (∃ y : Int, e = .returned (.int .i64 y) ∧ ((0 ≤ y) ↔ memD s l = true)) ∧ w' = W := by
 go_enter Tryz.func152, Tryz.ntmps152
 go_upto_region 2 with fail
 go_loopg [8] l.length (fun m s8 wx => ∃ i : Nat, i ≤ l.length ∧ m = l.length - i ∧ s8 = .int .i64 (i : Int) ∧ wx = W ∧ Hid (memD s (l.take i) = false))
 case atStart => exact ⟨0, Nat.zero_le _, rfl, rfl, rfl, hid rfl⟩
 case round =>
  obtain ⟨i, hi, rfl, rfl, rfl, HI⟩ := hrel
  by_cases hil : i < l.length
  ·have hii : (i : Int) < (l.length : Int) := by omega
   have hi0 : (0 : Int) ≤ (i : Int) := by omega
   obtain ⟨a, ha⟩ : ∃ a, l[i]? = some a := ⟨_, List.getElem?_eq_getElem hil⟩
   obtain ⟨ad, rfl, ca⟩ := hx.at_ i _ ha
   have hca := zbh s a
   by_cases h1 : s = a
   ·subst h1
    rw [decide_eq_true rfl] at hca
    have HM : Hid (memD s l = true) := hid (memD_iff.2 (List.mem_of_getElem? ha))
    clear ha
    go_wp2_with fail
    go_ret
    exact ⟨⟨_, rfl, by rw [HM.out]; simp⟩, rfl⟩
   ·rw [decide_eq_false h1] at hca
    have HI2 : Hid (memD s (l.take (i + 1)) = false) := hid (by rw [zbb ha, memD_snoc, HI.out]; simpa using fun e => h1 e.symm)
    clear ha h1
    go_wp2_with fail
    go_roundg (l.length - (i + 1))
    case measure => omega
    case rel => exact ⟨i + 1, hil, rfl, by first | rfl | simp, rfl, HI2⟩
  ·have hii : ¬ (i : Int) < (l.length : Int) := by omega
   have HM : Hid (memD s l = false) := hid (by rw [← HI.out, List.take_of_length_le (by omega)])
   go_wp2_with fail
   go_ret
   exact ⟨⟨_, rfl, by rw [HM.out]; decide⟩, rfl⟩
theorem contains_str (A : Option Addr) (c : Nat) (l : List ByteArray) (s : ByteArray) (W : World) (hx : Strs W A l) (hl : l.length ≤ 1000000) :
 Calls Tryz.prog 86 #[.slice A l.length c, .string s] W fun e w' => e = .returned (.bool (memD s l)) ∧ w' = W := by
 have HC := hid (index_str A c l s W hx hl)
 go_enter Tryz.func86, Tryz.ntmps86
 go_wp2_with fail
 refine HC.out.mono ?_
 rintro e w1 ⟨⟨y, rfl, hy⟩, rfl⟩
 by_cases h : 0 ≤ y
 ·have HY := hid (hy.1 h)
  clear hy
  go_wp2_with fail
  go_ret
  exact ⟨by rw [HY.out]; simp, rfl⟩
 ·have HY : Hid (memD s l = false) := hid (by rw [Bool.eq_false_iff]; exact fun e => h (hy.2 e))
  clear hy
  go_wp2_with fail
  go_ret
  exact ⟨by rw [HY.out]; simp [h], rfl⟩
inductive TyIs (w0 : World) : Ty → Bool → Option Addr → Nat → Nat → ByteArray → Prop
 | num (A : Option Addr) (n c : Nat) (s : ByteArray) : TyIs w0 .num true A n c s
 | word (s : ByteArray) : TyIs w0 (.word s) false none 0 0 s
 | ref (a : Addr) (l : List ByteArray) (c : Nat) (h : Strs w0 (some a) l) (hl : l.length ≤ 64) : TyIs w0 (.ref l) false (some a) l.length c ⟨#[]⟩
abbrev tyC (b : Bool) (A : Option Addr) (n c : Nat) (s : ByteArray) : List Value := [.bool b, .slice A n c, .string s]
theorem agree_any (w0 w : World) (h0 : Below w0.heap.size w0 w) {t u : Ty} {b b' : Bool} {A A' : Option Addr} {n c n' c' : Nat} {s s' : ByteArray} (ht : TyIs w0 t b A n c s) (hu : TyIs w0 u b' A' n' c' s') :
 Calls Tryz.prog 247 #[.agg (tyC b A n c s).toArray, .agg (tyC b' A' n' c' s').toArray] w fun e w' => (∃ y, e = .returned (.int .i64 y) ∧ (y = 0 ↔ agree t u = true)) ∧ Below w.heap.size w w' := by
 have hk := ((Hp.start w).new 275 (tyC b A n c s)).new 275 (tyC b' A' n' c' s')
 have hb := hk.below0
 obtain ⟨g, hg⟩ : ∃ g, w.heap.size = g := ⟨_, rfl⟩
 simp only [sizeA, hg] at hk
 have d0 := (hk.blk 1 rfl).cell 0
 have d1 := (hk.blk 1 rfl).cell 1
 have d2 := (hk.blk 1 rfl).cell 2
 have e0 := (hk.blk 0 rfl).cell 0
 have e1 := (hk.blk 0 rfl).cell 1
 have e2 := (hk.blk 0 rfl).cell 2
 simp only [List.getElem?_cons_zero, List.getElem?_cons_succ] at d0 d1 d2 e0 e1 e2
 cases ht with
 | num A n c s =>
   cases hu with
   | num A' n' c' s' =>
     go_enter Tryz.func247, Tryz.ntmps247
     go_wp2_with fail
     go_ret
     exact ⟨⟨0, rfl, by simp [agree]⟩, by first | exact hb | (subst hg; exact hb)⟩
   | word s' =>
     go_enter Tryz.func247, Tryz.ntmps247
     go_wp2_with fail
     go_ret
     exact ⟨⟨10, rfl, by simp [agree]⟩, by first | exact hb | (subst hg; exact hb)⟩
   | ref a l c' h hl =>
     go_enter Tryz.func247, Tryz.ntmps247
     go_wp2_with fail
     go_ret
     exact ⟨⟨10, rfl, by simp [agree]⟩, by first | exact hb | (subst hg; exact hb)⟩
 | word s =>
   cases hu with
   | num A' n' c' s' =>
     go_enter Tryz.func247, Tryz.ntmps247
     go_wp2_with fail
     go_ret
     exact ⟨⟨10, rfl, by simp [agree]⟩, by first | exact hb | (subst hg; exact hb)⟩
   | word s' =>
     go_enter Tryz.func247, Tryz.ntmps247
     go_wp2_with fail
     go_ret
     exact ⟨⟨0, rfl, by simp [agree]⟩, by first | exact hb | (subst hg; exact hb)⟩
   | ref a l c' h hl =>
     have HC := hid (contains_str (some a) c' l s _ ((h.up h0).up hb) (by omega))
     obtain ⟨R, hR⟩ : ∃ R, memD s l = R := ⟨_, rfl⟩
     rw [hR] at HC
     have HA : Hid (agree (.word s) (.ref l) = R) := hid hR
     clear hR
     cases R
     all_goals
      go_enter Tryz.func247, Tryz.ntmps247
      go_wp2_with fail
      refine HC.out.mono ?_
      rintro e w1 ⟨rfl, rfl⟩
      go_wp2_with fail
      go_ret
      first
       | exact ⟨⟨0, rfl, by rw [HA.out]; simp⟩, by first | exact hb | (subst hg; exact hb) | exact hb.trans (hb1.mono hb.size) | (subst hg; exact hb.trans (hb1.mono hb.size))⟩
       | exact ⟨⟨9, rfl, by rw [HA.out]; simp⟩, by first | exact hb | (subst hg; exact hb)⟩
       | exact ⟨⟨10, rfl, by rw [HA.out]; simp⟩, by first | exact hb.trans (hb1.mono hb.size) | (subst hg; exact hb.trans (hb1.mono hb.size))⟩
 | ref a l c h hl =>
   cases hu with
   | num A' n' c' s' =>
     go_enter Tryz.func247, Tryz.ntmps247
     go_wp2_with fail
     go_ret
     exact ⟨⟨10, rfl, by simp [agree]⟩, by first | exact hb | (subst hg; exact hb)⟩
   | word s' =>
     have HC := hid (contains_str (some a) c l s' _ ((h.up h0).up hb) (by omega))
     obtain ⟨R, hR⟩ : ∃ R, memD s' l = R := ⟨_, rfl⟩
     rw [hR] at HC
     have HA : Hid (agree (.ref l) (.word s') = R) := hid hR
     clear hR
     cases R
     all_goals
      go_enter Tryz.func247, Tryz.ntmps247
      go_wp2_with fail
      refine HC.out.mono ?_
      rintro e w1 ⟨rfl, rfl⟩
      go_wp2_with fail
      go_ret
      first
       | exact ⟨⟨0, rfl, by rw [HA.out]; simp⟩, by first | exact hb | (subst hg; exact hb) | exact hb.trans (hb1.mono hb.size) | (subst hg; exact hb.trans (hb1.mono hb.size))⟩
       | exact ⟨⟨9, rfl, by rw [HA.out]; simp⟩, by first | exact hb | (subst hg; exact hb)⟩
       | exact ⟨⟨10, rfl, by rw [HA.out]; simp⟩, by first | exact hb.trans (hb1.mono hb.size) | (subst hg; exact hb.trans (hb1.mono hb.size))⟩
   | ref a' l' c' h' hl' =>
     have HC := hid (equal_str (some a) (some a') c c' l l' _ ((h.up h0).up hb) ((h'.up h0).up hb) (by omega) (by omega))
     obtain ⟨R, hR⟩ : ∃ R, decide (l = l') = R := ⟨_, rfl⟩
     rw [hR] at HC
     have HA : Hid (agree (.ref l) (.ref l') = R) := hid hR
     clear hR
     cases R
     all_goals
      go_enter Tryz.func247, Tryz.ntmps247
      go_wp2_with fail
      refine HC.out.mono ?_
      rintro e w1 ⟨rfl, hb1⟩
      go_wp2_with fail
      go_ret
      first
       | exact ⟨⟨0, rfl, by rw [HA.out]; simp⟩, by first | exact hb | (subst hg; exact hb) | exact hb.trans (hb1.mono hb.size) | (subst hg; exact hb.trans (hb1.mono hb.size))⟩
       | exact ⟨⟨9, rfl, by rw [HA.out]; simp⟩, by first | exact hb | (subst hg; exact hb)⟩
       | exact ⟨⟨10, rfl, by rw [HA.out]; simp⟩, by first | exact hb.trans (hb1.mono hb.size) | (subst hg; exact hb.trans (hb1.mono hb.size))⟩
end Go.Proofs.YtekkapgknohadaaGreatDoor.Nf
