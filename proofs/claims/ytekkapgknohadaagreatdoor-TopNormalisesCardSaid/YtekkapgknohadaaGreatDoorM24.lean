/- slices.Equal at uses and at references. Printed by mkpga.py. -/
import Derived.Test.YtekkapgknohadaaGreatDoorM3
import Derived.Test.YtekkapgknohadaaGreatDoorM18
import Derived.Deep.LoopGhost
import Derived.Deep.QuietTactic
import Derived.BigQuiet
import Derived.Test.YtekkapgknohadaaGreatDoorM21
import Derived.Deep.RegionHeld3
import Derived.Deep.CutBlock
import Derived.Deep.DeepCutAuto
set_option linter.unusedVariables false
set_option maxRecDepth 20000
set_option maxHeartbeats 16000000
namespace Go.Proofs.YtekkapgknohadaaGreatDoor
open Go.RowKit
open Lib (hid)
theorem eq_take {α : Type} {x y : List α} (hl : x.length = y.length) (h : ∀ j, j < x.length → x[j]? = y[j]?) : x = y := by
 apply List.ext_getElem?
 intro j
 rcases Nat.lt_or_ge j x.length with h1 | h1
 ·exact h j h1
 ·rw [List.getElem?_eq_none h1, List.getElem?_eq_none (by omega)]
theorem zbh (s t : ByteArray) : (s.toList == t.toList) = decide (s = t) := strs_eq
theorem equal_use (A B : Option Addr) (c d : Nat) (x y : List Bp) (W : World) (hx : Prs W A x) (hy : Prs W B y) (hxl : x.length ≤ 1000000) (hyl : y.length ≤ 1000000) :
 Calls Tryz.prog 48 #[.slice A x.length c, .slice B y.length d] W fun e w' => e = .returned (.bool (decide (x = y))) ∧ Below W.heap.size W w' := by
 by_cases hl : x.length = y.length
 ·have hne : ((x.length : Int) == (y.length : Int)) = true := by rw [hl]; simp
  have HLn := hid hl
  clear hl
  go_enter Tryz.func48, Tryz.ntmps48
  go_upto_region 4 with fail
  go_loopg [13] x.length (fun m s13 wx => ∃ i : Nat, i ≤ x.length ∧ m = x.length - i ∧ s13 = .int .i64 (i : Int) ∧ Below W.heap.size W wx ∧ Hid (∀ j, j < i → x[j]? = y[j]?))
  case atStart => exact ⟨0, Nat.zero_le _, rfl, rfl, Below.refl _ _, hid (fun j hj => absurd hj (Nat.not_lt_zero _))⟩
  case round =>
   obtain ⟨i, hi, rfl, rfl, hb, HI⟩ := hrel
   by_cases hil : i < x.length
   ·have hii : (i : Int) < (x.length : Int) := by omega
    have hi0 : (0 : Int) ≤ (i : Int) := by omega
    have hiy : (i : Int) < (y.length : Int) := by have := HLn.out; omega
    obtain ⟨⟨a1, a2⟩, ha⟩ : ∃ a, x[i]? = some a := ⟨_, List.getElem?_eq_getElem hil⟩
    obtain ⟨⟨b1, b2⟩, hb9⟩ : ∃ b, y[i]? = some b := ⟨_, List.getElem?_eq_getElem (by have := HLn.out; omega)⟩
    obtain ⟨ad, rfl, ca, cb⟩ := (hx.up hb).at_ i _ ha
    obtain ⟨bd, rfl, da, db⟩ := (hy.up hb).at_ i _ hb9
    simp only at ca cb da db
    have hca := zbh a1 b1
    have hcb := zbh a2 b2
    by_cases h1 : a1 = b1
    ·by_cases h2 : a2 = b2
     ·subst h1 h2
      have HI2 : Hid (∀ j, j < i + 1 → x[j]? = y[j]?) := by
       refine hid fun j hj => ?_
       rcases Nat.lt_or_ge j i with h | h
       ·exact HI.out j h
       ·obtain rfl : j = i := by omega
        rw [ha, hb9]
      clear ha hb9 hca hcb
      go_upto_region 6 with fail
      go_quiet (fail)
      go_wp2_with fail
      go_roundg (x.length - (i + 1))
      case measure => omega
      case rel => exact ⟨i + 1, hil, rfl, by first | rfl | simp, by first | exact zad hb _ | exact hb | exact hb.drew, HI2⟩
     ·rw [decide_eq_false h2] at hcb
      subst h1
      have HD : Hid (decide (x = y) = false) := hid (by
       rw [decide_eq_false_iff_not]
       rintro rfl
       rw [ha] at hb9
       simp only [Option.some.injEq, Prod.mk.injEq] at hb9
       exact h2 hb9.2)
      clear ha hb9 hca
      go_upto_region 6 with fail
      go_quiet (fail)
      go_wp2_with fail
      go_ret
      exact ⟨zao (by first | (rw [HD.out]; rfl) | rw [HD.out]), by first | exact zad hb _ | exact hb | exact hb.drew⟩
    ·rw [decide_eq_false h1] at hca
     have HD : Hid (decide (x = y) = false) := hid (by
      rw [decide_eq_false_iff_not]
      rintro rfl
      rw [ha] at hb9
      simp only [Option.some.injEq, Prod.mk.injEq] at hb9
      exact h1 hb9.1)
     clear ha hb9 hcb
     go_upto_region 6 with fail
     go_quiet (fail)
     go_wp2_with fail
     go_ret
     exact ⟨zao (by first | (rw [HD.out]; rfl) | rw [HD.out]), by first | exact zad hb _ | exact hb | exact hb.drew⟩
   ·obtain rfl : i = x.length := by omega
    have hii : ¬ (x.length : Int) < (x.length : Int) := by omega
    have HD : Hid (decide (x = y) = true) := hid (by rw [decide_eq_true_iff]; exact eq_take HLn.out HI.out)
    go_wp2_with fail
    go_ret
    exact ⟨zao (by first | (rw [HD.out]; rfl) | rw [HD.out]), hb⟩
 ·have hne : ((x.length : Int) == (y.length : Int)) = false := by simp; omega
  have HD : Hid (decide (x = y) = false) := hid (by rw [decide_eq_false_iff_not]; rintro rfl; exact hl rfl)
  go_enter Tryz.func48, Tryz.ntmps48
  go_wp2_with fail
  go_ret
  exact ⟨zao (by first | (rw [HD.out]; rfl) | rw [HD.out]), Below.refl _ _⟩
theorem equal_ref (A B : Option Addr) (c d : Nat) (x y : List Bp) (W : World) (hx : Prs W A x) (hy : Prs W B y) (hxl : x.length ≤ 1000000) (hyl : y.length ≤ 1000000) :
 Calls Tryz.prog 49 #[.slice A x.length c, .slice B y.length d] W fun e w' => e = .returned (.bool (decide (x = y))) ∧ Below W.heap.size W w' := by
 by_cases hl : x.length = y.length
 ·have hne : ((x.length : Int) == (y.length : Int)) = true := by rw [hl]; simp
  have HLn := hid hl
  clear hl
  go_enter Tryz.func49, Tryz.ntmps49
  go_upto_region 4 with fail
  go_loopg [13] x.length (fun m s13 wx => ∃ i : Nat, i ≤ x.length ∧ m = x.length - i ∧ s13 = .int .i64 (i : Int) ∧ Below W.heap.size W wx ∧ Hid (∀ j, j < i → x[j]? = y[j]?))
  case atStart => exact ⟨0, Nat.zero_le _, rfl, rfl, Below.refl _ _, hid (fun j hj => absurd hj (Nat.not_lt_zero _))⟩
  case round =>
   obtain ⟨i, hi, rfl, rfl, hb, HI⟩ := hrel
   by_cases hil : i < x.length
   ·have hii : (i : Int) < (x.length : Int) := by omega
    have hi0 : (0 : Int) ≤ (i : Int) := by omega
    have hiy : (i : Int) < (y.length : Int) := by have := HLn.out; omega
    obtain ⟨⟨a1, a2⟩, ha⟩ : ∃ a, x[i]? = some a := ⟨_, List.getElem?_eq_getElem hil⟩
    obtain ⟨⟨b1, b2⟩, hb9⟩ : ∃ b, y[i]? = some b := ⟨_, List.getElem?_eq_getElem (by have := HLn.out; omega)⟩
    obtain ⟨ad, rfl, ca, cb⟩ := (hx.up hb).at_ i _ ha
    obtain ⟨bd, rfl, da, db⟩ := (hy.up hb).at_ i _ hb9
    simp only at ca cb da db
    have hca := zbh a1 b1
    have hcb := zbh a2 b2
    by_cases h1 : a1 = b1
    ·by_cases h2 : a2 = b2
     ·subst h1 h2
      have HI2 : Hid (∀ j, j < i + 1 → x[j]? = y[j]?) := by
       refine hid fun j hj => ?_
       rcases Nat.lt_or_ge j i with h | h
       ·exact HI.out j h
       ·obtain rfl : j = i := by omega
        rw [ha, hb9]
      clear ha hb9 hca hcb
      go_upto_region 6 with fail
      go_quiet (fail)
      go_wp2_with fail
      go_roundg (x.length - (i + 1))
      case measure => omega
      case rel => exact ⟨i + 1, hil, rfl, by first | rfl | simp, by first | exact zad hb _ | exact hb | exact hb.drew, HI2⟩
     ·rw [decide_eq_false h2] at hcb
      subst h1
      have HD : Hid (decide (x = y) = false) := hid (by
       rw [decide_eq_false_iff_not]
       rintro rfl
       rw [ha] at hb9
       simp only [Option.some.injEq, Prod.mk.injEq] at hb9
       exact h2 hb9.2)
      clear ha hb9 hca
      go_upto_region 6 with fail
      go_quiet (fail)
      go_wp2_with fail
      go_ret
      exact ⟨zao (by first | (rw [HD.out]; rfl) | rw [HD.out]), by first | exact zad hb _ | exact hb | exact hb.drew⟩
    ·rw [decide_eq_false h1] at hca
     have HD : Hid (decide (x = y) = false) := hid (by
      rw [decide_eq_false_iff_not]
      rintro rfl
      rw [ha] at hb9
      simp only [Option.some.injEq, Prod.mk.injEq] at hb9
      exact h1 hb9.1)
     clear ha hb9 hcb
     go_upto_region 6 with fail
     go_quiet (fail)
     go_wp2_with fail
     go_ret
     exact ⟨zao (by first | (rw [HD.out]; rfl) | rw [HD.out]), by first | exact zad hb _ | exact hb | exact hb.drew⟩
   ·obtain rfl : i = x.length := by omega
    have hii : ¬ (x.length : Int) < (x.length : Int) := by omega
    have HD : Hid (decide (x = y) = true) := hid (by rw [decide_eq_true_iff]; exact eq_take HLn.out HI.out)
    go_wp2_with fail
    go_ret
    exact ⟨zao (by first | (rw [HD.out]; rfl) | rw [HD.out]), hb⟩
 ·have hne : ((x.length : Int) == (y.length : Int)) = false := by simp; omega
  have HD : Hid (decide (x = y) = false) := hid (by rw [decide_eq_false_iff_not]; rintro rfl; exact hl rfl)
  go_enter Tryz.func49, Tryz.ntmps49
  go_wp2_with fail
  go_ret
  exact ⟨zao (by first | (rw [HD.out]; rfl) | rw [HD.out]), Below.refl _ _⟩
open Go.RowKit Go.Shelf
open Lib (hid)
theorem below_row' {B : Nat} {W : World} (g : Nat) (hg : B ≤ g) (cs : Array Value) : Below B W (W.setRow g cs) :=
 ⟨rfl, rfl, rfl, by simp [World.setRow], fun k hk => by simp only [World.setRow, Array.getElem?_modify]; rw [if_neg (by omega)]⟩
theorem blk_far {W : World} {g b : Nat} {t : TypeId} {cs : List Value} (h : Blk W g t cs) (hne : b ≠ g) (ds : Array Value) : Blk (W.setRow b ds) g t cs := by
 unfold Blk at h ⊢
 simp only [World.setRow, Array.getElem?_modify]
 rw [if_neg hne]; exact h
theorem Blk.up {W W' : World} {g : Nat} {t : TypeId} {cs : List Value} (h : Blk W g t cs) (hb : Below W.heap.size W W') : Blk W' g t cs := h.below hb h.lt
abbrev smF (ga gb gs : Nat) : Value := .func (.func 46) #[] #[pptr ga, pptr gb, pptr gs]
structure SmM (a b : Po) (La Lb : Lp) (ga gb gs : Nat) (W : World) : Prop where
 ba : Blk W ga 29 (polcs a La)
 bb : Blk W gb 29 (polcs b Lb)
 bs : Blk W gs 112 [smF ga gb gs]
 pa : PolM W a La
 pb : PolM W b Lb
theorem SmM.up {a b : Po} {La Lb : Lp} {ga gb gs : Nat} {W W' : World} (h : SmM a b La Lb ga gb gs W) (hb : Below W.heap.size W W') : SmM a b La Lb ga gb gs W' := ⟨h.ba.up hb, h.bb.up hb, h.bs.up hb, h.pa.up hb, h.pb.up hb⟩
theorem enters_same : ∀ args w, (callFunc 46 args).run Tryz.prog w = .ok (.enter 46 args) w := enters_of Tryz.func46 (by kernel_rfl) rfl
theorem eqf_any (a b : Po) (La Lb : Lp) (ga gb gs : Nat) (v : Int → Int → Bool) (A B : Option Addr) (c d : Nat) (X Y : List Int) (hv : ∀ i ∈ X, ∀ k ∈ Y, ∀ W, SmM a b La Lb ga gb gs W → Calls Tryz.prog 46 #[.int .i64 i, .int .i64 k, pptr ga, pptr gb, pptr gs] W fun e w' => e = .returned (.bool (v i k)) ∧ Below W.heap.size W w') (W : World) (hm : SmM a b La Lb ga gb gs W) (hx : Ints W A X) (hy : Ints W B Y) (hxl : X.length ≤ 1000000) (hyl : Y.length ≤ 1000000) :
 Calls Tryz.prog 47 #[.slice A X.length c, .slice B Y.length d, smF ga gb gs] W fun e w' => e = .returned (.bool (eachP v X Y)) ∧ Below W.heap.size W w' := by
 have hen := enters_same
 by_cases hl : X.length = Y.length
 ·have hne : ((X.length : Int) != (Y.length : Int)) = false := by rw [hl]; simp
  have HL := hid hl
  have HVV := hid hv
  clear hl hv
  go_enter Tryz.func47, Tryz.ntmps47
  go_upto_region 4 with fail
  go_loopg [17] X.length (fun m s17 wx => ∃ i : Nat, i ≤ X.length ∧ m = X.length - i ∧ s17 = .int .i64 (i : Int) ∧ Below W.heap.size W wx ∧ Hid (eachP v X Y = eachP v (X.drop i) (Y.drop i)))
  case atStart => exact ⟨0, Nat.zero_le _, rfl, rfl, Below.refl _ _, hid rfl⟩
  case round =>
   obtain ⟨i, hi, rfl, rfl, hbx, HE⟩ := hrel
   by_cases hil : i < X.length
   ·have hii : (i : Int) < (X.length : Int) := by omega
    have hi0 : (0 : Int) ≤ (i : Int) := by omega
    have hiy : (i : Int) < (Y.length : Int) := by have := HL.out; omega
    obtain ⟨x, hx1⟩ : ∃ x, X[i]? = some x := ⟨_, List.getElem?_eq_getElem hil⟩
    obtain ⟨y, hy1⟩ : ∃ y, Y[i]? = some y := ⟨_, List.getElem?_eq_getElem (by have := HL.out; omega)⟩
    obtain ⟨ad, rfl, ca⟩ := (hx.up hbx).at_ i _ hx1
    obtain ⟨bd, rfl, cb⟩ := (hy.up hbx).at_ i _ hy1
    have HE2 : Hid (eachP v X Y = (v x y && eachP v (X.drop (i + 1)) (Y.drop (i + 1)))) := hid (by rw [HE.out, zc7 hx1, zc7 hy1, eachP])
    have HC := HVV.out x (List.mem_of_getElem? hx1) y (List.mem_of_getElem? hy1) wr (hm.up hbx)
    clear hx1 hy1 HE
    obtain ⟨q, hq⟩ : ∃ q, v x y = q := ⟨_, rfl⟩
    rw [hq] at HC HE2
    have HC := hid HC
    clear hq
    cases q with
    | true =>
     go_wp2_with fail
     refine HC.out.mono ?_
     rintro e w5 ⟨rfl, hb5⟩
     have hb6 := hbx.trans (hb5.mono hbx.size)
     clear HC
     go_wp2_with fail
     go_roundg (X.length - (i + 1))
     case measure => omega
     case rel => exact ⟨i + 1, hil, rfl, by first | rfl | simp, hb6, hid (by rw [HE2.out, Bool.true_and])⟩
    | false =>
     have HD : Hid (eachP v X Y = false) := hid (by rw [HE2.out, Bool.false_and])
     go_wp2_with fail
     refine HC.out.mono ?_
     rintro e w5 ⟨rfl, hb5⟩
     have hb6 := hbx.trans (hb5.mono hbx.size)
     clear HC
     go_wp2_with fail
     go_ret
     exact ⟨zao (by first | (rw [HD.out]; rfl) | rw [HD.out]), hb6⟩
   ·obtain rfl : i = X.length := by omega
    have hii : ¬ (X.length : Int) < (X.length : Int) := by omega
    have HD : Hid (eachP v X Y = true) := hid (by
     rw [HE.out, List.drop_of_length_le (Nat.le_refl _), List.drop_of_length_le (by have := HL.out; omega)]; rfl)
    go_wp2_with fail
    go_ret
    exact ⟨zao (by first | (rw [HD.out]; rfl) | rw [HD.out]), hbx⟩
 ·have hne : ((X.length : Int) != (Y.length : Int)) = true := by simp; omega
  have HD : Hid (eachP v X Y = false) := hid (eachP_len hl)
  go_enter Tryz.func47, Tryz.ntmps47
  go_wp2_with fail
  go_ret
  exact ⟨zao (by first | (rw [HD.out]; rfl) | rw [HD.out]), Below.refl _ _⟩
theorem WfP.at_ {ns : List Nk} {f : Nat} {a : Int} (h : WfP ns (f + 1) a) : ∃ (i : Nat) (n : Nk), a = (i : Int) ∧ i < ns.length ∧ ns[i]? = some n ∧ ∀ k ∈ n.kids, WfP ns f k := by
 obtain ⟨h0, n, hn, hk⟩ := h
 have := (List.getElem?_eq_some_iff.1 hn).1
 exact ⟨a.toNat, n, by omega, this, hn, hk⟩
theorem same_any (a b : Po) (La Lb : Lp) (hA : PBd a) (hB : PBd b) (ga gb gs : Nat) : ∀ (f : Nat) (i k : Int) (W : World), WfP a.nodes f i → WfP b.nodes f k → SmM a b La Lb ga gb gs W →
 Calls Tryz.prog 46 #[.int .i64 i, .int .i64 k, pptr ga, pptr gb, pptr gs] W fun e w' => e = .returned (.bool (sameN a.nodes b.nodes f i k)) ∧ Below W.heap.size W w' := by
 intro f
 induction f with
 | zero => intro i k W h1; exact h1.elim
 | succ f ih =>
  intro i0 k0 W h1 h2 hm
  obtain ⟨i, x, rfl, hil, hx, hkx⟩ := h1.at_
  obtain ⟨k, y, rfl, hkl, hy, hky⟩ := h2.at_
  clear h1 h2
  have hi0 : (0 : Int) ≤ (i : Int) := by omega
  have hk0 : (0 : Int) ≤ (k : Int) := by omega
  have hii : (i : Int) < (a.nodes.length : Int) := by omega
  have hki : (k : Int) < (b.nodes.length : Int) := by omega
  have hxb := hA.ns x (List.mem_of_getElem? hx)
  have hyb := hB.ns y (List.mem_of_getElem? hy)
  have c3 : W.cell? ⟨ga, 3, none⟩ = some (.slice La.na a.nodes.length La.nc) := hm.ba.cell 3
  have d3 : W.cell? ⟨gb, 3, none⟩ = some (.slice Lb.na b.nodes.length Lb.nc) := hm.bb.cell 3
  obtain ⟨ad, KX, kx, hna, nx⟩ := hm.pa.ns.at_ i x hx
  obtain ⟨bd, KY, ky, hnb, ny⟩ := hm.pb.ns.at_ k y hy
  rw [hna] at c3
  rw [hnb] at d3
  have HV : Hid (sameN a.nodes b.nodes (f + 1) (i : Int) (k : Int) = (eqN x y && eachP (sameN a.nodes b.nodes f) x.kids y.kids)) := hid (by
   rw [sameN, Int.toNat_natCast, Int.toNat_natCast, hx, hy])
  have HC : Hid (∀ W, SmM a b La Lb ga gb gs W → Ints W KX x.kids → Ints W KY y.kids → Calls Tryz.prog 47 #[.slice KX x.kids.length kx, .slice KY y.kids.length ky, smF ga gb gs] W fun e w' => e = .returned (.bool (eachP (sameN a.nodes b.nodes f) x.kids y.kids)) ∧ Below W.heap.size W w') := hid (fun W hm hx' hy' =>
   eqf_any a b La Lb ga gb gs (sameN a.nodes b.nodes f) KX KY kx ky x.kids y.kids (fun i hi k hk W hm => ih i k W (hkx i hi) (hky k hk) hm) W hm hx' hy' hxb.kids hyb.kids)
  generalize sameN a.nodes b.nodes (f + 1) (i : Int) (k : Int) = R at *
  generalize eachP (sameN a.nodes b.nodes f) x.kids y.kids = E at *
  have nx0 := nx
  have ny0 := ny
  obtain ⟨x0, x1, x2, x3, x4, x5, hxI⟩ := nx
  obtain ⟨y0, y1, y2, y3, y4, y5, hyI⟩ := ny
  clear ih hkx hky hx hy hna hnb nx0 ny0
  go_enter Tryz.func46, Tryz.ntmps46
  go_upto_region 1 with fail
  go_cut [8, 9] from 10 to 19 (fun s8 s9 wx => ∃ g8 g9, s8 = pptr g8 ∧ s9 = pptr g9 ∧ Blk wx g8 68 [.int .i64 x.kind, .int .i64 x.num, .string x.name, .string x.attr, .slice KX x.kids.length kx, .int .i64 x.at_] ∧ Blk wx g9 68 [.int .i64 y.kind, .int .i64 y.num, .string y.name, .string y.attr, .slice KY y.kids.length ky, .int .i64 y.at_] ∧ Below W.heap.size W wx)
  case first => as_aux_lemma =>
   refine wp_region_held_drew (S := (fun w' => Below W.heap.size W w')) (by kernel_rfl) ?_ (fun hHeld => ?_)
   ·exact (Below.refl _ _).drew
   refine tkW 0 (v := ?_) rfl (Or.inl ⟨by rfl, ?_⟩) ?_
   rotate_left
   ·(intro w hSw; (try dsimp only at hSw); (have s0 := zaa c3 hSw; have s1 := zaa d3 hSw; have s2 := zaa x0 hSw; have s3 := zaa x1 hSw; have s4 := zaa x2 hSw; have s5 := zaa x3 hSw; have s6 := zaa x4 hSw; have s7 := zaa x5 hSw; have s8 := zaa y0 hSw; have s9 := zaa y1 hSw; have s10 := zaa y2 hSw; have s11 := zaa y3 hSw; have s12 := zaa y4 hSw; have s13 := zaa y5 hSw); go_simp; (try with_reducible rfl))
   try simp only [Act.put, tS1, tS2, tS4, tS5, tS6]
   refine tkW 1 (v := ?_) rfl (Or.inl ⟨by rfl, ?_⟩) ?_
   rotate_left
   ·(intro w hSw; (try dsimp only at hSw); (have s0 := zaa c3 hSw; have s1 := zaa d3 hSw; have s2 := zaa x0 hSw; have s3 := zaa x1 hSw; have s4 := zaa x2 hSw; have s5 := zaa x3 hSw; have s6 := zaa x4 hSw; have s7 := zaa x5 hSw; have s8 := zaa y0 hSw; have s9 := zaa y1 hSw; have s10 := zaa y2 hSw; have s11 := zaa y3 hSw; have s12 := zaa y4 hSw; have s13 := zaa y5 hSw); go_simp; (try with_reducible rfl))
   try simp only [Act.put, tS1, tS2, tS3, tS4, tS5, tS6]
   refine tkW 2 (v := ?_) rfl (Or.inl ⟨by rfl, ?_⟩) ?_
   rotate_left
   ·(intro w hSw; (try dsimp only at hSw); (have s0 := zaa c3 hSw; have s1 := zaa d3 hSw; have s2 := zaa x0 hSw; have s3 := zaa x1 hSw; have s4 := zaa x2 hSw; have s5 := zaa x3 hSw; have s6 := zaa x4 hSw; have s7 := zaa x5 hSw; have s8 := zaa y0 hSw; have s9 := zaa y1 hSw; have s10 := zaa y2 hSw; have s11 := zaa y3 hSw; have s12 := zaa y4 hSw; have s13 := zaa y5 hSw); go_simp; (try with_reducible rfl))
   try simp only [Act.put, tS1, tS2, tS3, tS4, tS5, tS6]
   refine tkW 3 (v := ?_) rfl (Or.inl ⟨by rfl, ?_⟩) ?_
   rotate_left
   ·(intro w hSw; (try dsimp only at hSw); (have s0 := zaa c3 hSw; have s1 := zaa d3 hSw; have s2 := zaa x0 hSw; have s3 := zaa x1 hSw; have s4 := zaa x2 hSw; have s5 := zaa x3 hSw; have s6 := zaa x4 hSw; have s7 := zaa x5 hSw; have s8 := zaa y0 hSw; have s9 := zaa y1 hSw; have s10 := zaa y2 hSw; have s11 := zaa y3 hSw; have s12 := zaa y4 hSw; have s13 := zaa y5 hSw); go_simp; (try with_reducible rfl))
   try simp only [Act.put, tS1, tS2, tS3, tS4, tS5, tS6]
   refine tkW 4 (v := ?_) rfl (Or.inl ⟨by rfl, ?_⟩) ?_
   rotate_left
   ·(intro w hSw; (try dsimp only at hSw); (have s0 := zaa c3 hSw; have s1 := zaa d3 hSw; have s2 := zaa x0 hSw; have s3 := zaa x1 hSw; have s4 := zaa x2 hSw; have s5 := zaa x3 hSw; have s6 := zaa x4 hSw; have s7 := zaa x5 hSw; have s8 := zaa y0 hSw; have s9 := zaa y1 hSw; have s10 := zaa y2 hSw; have s11 := zaa y3 hSw; have s12 := zaa y4 hSw; have s13 := zaa y5 hSw); go_simp; (try with_reducible rfl))
   try simp only [Act.put, tS1, tS2, tS3, tS4, tS5, tS6]
   refine tkW 5 (v := ?_) rfl (Or.inl ⟨by rfl, ?_⟩) ?_
   rotate_left
   ·(intro w hSw; (try dsimp only at hSw); (have s0 := zaa c3 hSw; have s1 := zaa d3 hSw; have s2 := zaa x0 hSw; have s3 := zaa x1 hSw; have s4 := zaa x2 hSw; have s5 := zaa x3 hSw; have s6 := zaa x4 hSw; have s7 := zaa x5 hSw; have s8 := zaa y0 hSw; have s9 := zaa y1 hSw; have s10 := zaa y2 hSw; have s11 := zaa y3 hSw; have s12 := zaa y4 hSw; have s13 := zaa y5 hSw); go_simp; (try with_reducible rfl))
   try simp only [Act.put, tS1, tS2, tS3, tS4, tS5, tS6]
   refine tkW 6 (v := ?_) rfl (Or.inl ⟨by rfl, ?_⟩) ?_
   rotate_left
   ·(intro w hSw; (try dsimp only at hSw); (have s0 := zaa c3 hSw; have s1 := zaa d3 hSw; have s2 := zaa x0 hSw; have s3 := zaa x1 hSw; have s4 := zaa x2 hSw; have s5 := zaa x3 hSw; have s6 := zaa x4 hSw; have s7 := zaa x5 hSw; have s8 := zaa y0 hSw; have s9 := zaa y1 hSw; have s10 := zaa y2 hSw; have s11 := zaa y3 hSw; have s12 := zaa y4 hSw; have s13 := zaa y5 hSw); go_simp; (try with_reducible rfl))
   try simp only [Act.put, tS1, tS2, tS3, tS4, tS5, tS6]
   refine tkW 7 (v := ?_) rfl (Or.inl ⟨by rfl, ?_⟩) ?_
   rotate_left
   ·(intro w hSw; (try dsimp only at hSw); (have s0 := zaa c3 hSw; have s1 := zaa d3 hSw; have s2 := zaa x0 hSw; have s3 := zaa x1 hSw; have s4 := zaa x2 hSw; have s5 := zaa x3 hSw; have s6 := zaa x4 hSw; have s7 := zaa x5 hSw; have s8 := zaa y0 hSw; have s9 := zaa y1 hSw; have s10 := zaa y2 hSw; have s11 := zaa y3 hSw; have s12 := zaa y4 hSw; have s13 := zaa y5 hSw); go_simp; (try with_reducible rfl))
   try simp only [Act.put, tS1, tS2, tS3, tS4, tS5, tS6]
   refine tkW 8 (v := ?_) rfl (Or.inl ⟨by rfl, ?_⟩) ?_
   rotate_left
   ·(intro w hSw; (try dsimp only at hSw); (have s0 := zaa c3 hSw; have s1 := zaa d3 hSw; have s2 := zaa x0 hSw; have s3 := zaa x1 hSw; have s4 := zaa x2 hSw; have s5 := zaa x3 hSw; have s6 := zaa x4 hSw; have s7 := zaa x5 hSw; have s8 := zaa y0 hSw; have s9 := zaa y1 hSw; have s10 := zaa y2 hSw; have s11 := zaa y3 hSw; have s12 := zaa y4 hSw; have s13 := zaa y5 hSw); go_simp; (try with_reducible rfl))
   try simp only [Act.put, tS1, tS2, tS3, tS4, tS5, tS6]
   refine tkW 9 (v := ?_) rfl (Or.inl ⟨by rfl, ?_⟩) ?_
   rotate_left
   ·(intro w hSw; (try dsimp only at hSw); (have s0 := zaa c3 hSw; have s1 := zaa d3 hSw; have s2 := zaa x0 hSw; have s3 := zaa x1 hSw; have s4 := zaa x2 hSw; have s5 := zaa x3 hSw; have s6 := zaa x4 hSw; have s7 := zaa x5 hSw; have s8 := zaa y0 hSw; have s9 := zaa y1 hSw; have s10 := zaa y2 hSw; have s11 := zaa y3 hSw; have s12 := zaa y4 hSw; have s13 := zaa y5 hSw); go_simp; (try with_reducible rfl))
   try simp only [Act.put, tS1, tS2, tS3, tS4, tS5, tS6]
   refine tkR [10, 11] ?_
   refine AllReadyH.cons rfl (fun K hK => ?_) ?_
   ·go_simp
    have hA1 : Blk (W.alloc (.cells #[.int .i64 0, .int .i64 0, .string ⟨#[]⟩, .string ⟨#[]⟩, .slice none 0 0, .int .i64 0] 68)).drew W.heap.size 68 [.int .i64 0, .int .i64 0, .string ⟨#[]⟩, .string ⟨#[]⟩, .slice none 0 0, .int .i64 0] := Blk.new _ _ _
    have hb1 : Below W.heap.size W (W.alloc (.cells #[.int .i64 0, .int .i64 0, .string ⟨#[]⟩, .string ⟨#[]⟩, .slice none 0 0, .int .i64 0] 68)).drew := ((Below.refl _ _).drew).alloc (Nat.le_refl _) (.cells #[.int .i64 0, .int .i64 0, .string ⟨#[]⟩, .string ⟨#[]⟩, .slice none 0 0, .int .i64 0] 68)
    refine hK.out _ _ ?_ (fun hHeld => ?_)
    ·exact hb1
    clear hK K
    refine tkO 11 rfl fun K hK => ?_
    go_simp
    have e9 : (W.alloc (.cells #[.int .i64 0, .int .i64 0, .string ⟨#[]⟩, .string ⟨#[]⟩, .slice none 0 0, .int .i64 0] 68)).drew.heap.size = W.heap.size + 1 := by show (W.heap.push _).size = _; simp
    have hB2 : Blk ((W.alloc (.cells #[.int .i64 0, .int .i64 0, .string ⟨#[]⟩, .string ⟨#[]⟩, .slice none 0 0, .int .i64 0] 68)).alloc (.cells #[.int .i64 0, .int .i64 0, .string ⟨#[]⟩, .string ⟨#[]⟩, .slice none 0 0, .int .i64 0] 68)).drew (W.heap.size + 1) 68 [.int .i64 0, .int .i64 0, .string ⟨#[]⟩, .string ⟨#[]⟩, .slice none 0 0, .int .i64 0] := by
     have h9 := Blk.new (W.alloc (.cells #[.int .i64 0, .int .i64 0, .string ⟨#[]⟩, .string ⟨#[]⟩, .slice none 0 0, .int .i64 0] 68)).drew 68 [.int .i64 0, .int .i64 0, .string ⟨#[]⟩, .string ⟨#[]⟩, .slice none 0 0, .int .i64 0]
     rw [e9] at h9
     exact h9
    have hA2 : Blk ((W.alloc (.cells #[.int .i64 0, .int .i64 0, .string ⟨#[]⟩, .string ⟨#[]⟩, .slice none 0 0, .int .i64 0] 68)).alloc (.cells #[.int .i64 0, .int .i64 0, .string ⟨#[]⟩, .string ⟨#[]⟩, .slice none 0 0, .int .i64 0] 68)).drew W.heap.size 68 [.int .i64 0, .int .i64 0, .string ⟨#[]⟩, .string ⟨#[]⟩, .slice none 0 0, .int .i64 0] := hA1.alloc _
    have hb2 : Below W.heap.size W ((W.alloc (.cells #[.int .i64 0, .int .i64 0, .string ⟨#[]⟩, .string ⟨#[]⟩, .slice none 0 0, .int .i64 0] 68)).alloc (.cells #[.int .i64 0, .int .i64 0, .string ⟨#[]⟩, .string ⟨#[]⟩, .slice none 0 0, .int .i64 0] 68)).drew := hb1.alloc (by omega) (.cells #[.int .i64 0, .int .i64 0, .string ⟨#[]⟩, .string ⟨#[]⟩, .slice none 0 0, .int .i64 0] 68)
    clear hA1
    refine hK.out _ _ ?_ (fun hHeld => ?_)
    ·exact hb2
    clear hK K
    refine tkO 12 rfl fun K hK => ?_
    try rw [if_pos (by rfl)]
    refine wp_store_row 68 (.tmp 8) (.tmp 14) (by rfl) W.heap.size ([.int .i64 x.kind, .int .i64 x.num, .string x.name, .string x.attr, .slice KX x.kids.length kx, .int .i64 x.at_] : List Value).toArray (by rfl) (by rfl) 68 ([.int .i64 0, .int .i64 0, .string ⟨#[]⟩, .string ⟨#[]⟩, .slice none 0 0, .int .i64 0] : List Value).toArray hA2 (by kernel_rfl) (by kernel_rfl) (by kernel_rfl) ?_
    have hX1 := blk_row hA2 [.int .i64 x.kind, .int .i64 x.num, .string x.name, .string x.attr, .slice KX x.kids.length kx, .int .i64 x.at_]
    have hY1 := blk_far hB2 (b := W.heap.size) (by omega) ([.int .i64 x.kind, .int .i64 x.num, .string x.name, .string x.attr, .slice KX x.kids.length kx, .int .i64 x.at_] : List Value).toArray
    have hb3 := hb2.trans (below_row' W.heap.size (by omega) ([.int .i64 x.kind, .int .i64 x.num, .string x.name, .string x.attr, .slice KX x.kids.length kx, .int .i64 x.at_] : List Value).toArray)
    clear hA2 hB2 hb2
    refine hK.out _ _ ?_ (fun hHeld => ?_)
    ·exact hb3
    clear hK K
    refine tkO 13 rfl fun K hK => ?_
    try rw [if_pos (by rfl)]
    refine wp_store_row 68 (.tmp 9) (.tmp 19) (by rfl) (W.heap.size + 1) ([.int .i64 y.kind, .int .i64 y.num, .string y.name, .string y.attr, .slice KY y.kids.length ky, .int .i64 y.at_] : List Value).toArray (by rfl) (by rfl) 68 ([.int .i64 0, .int .i64 0, .string ⟨#[]⟩, .string ⟨#[]⟩, .slice none 0 0, .int .i64 0] : List Value).toArray hY1 (by kernel_rfl) (by kernel_rfl) (by kernel_rfl) ?_
    have hY2 := blk_row hY1 [.int .i64 y.kind, .int .i64 y.num, .string y.name, .string y.attr, .slice KY y.kids.length ky, .int .i64 y.at_]
    have hX2 := blk_far hX1 (b := (W.heap.size + 1)) (by omega) ([.int .i64 y.kind, .int .i64 y.num, .string y.name, .string y.attr, .slice KY y.kids.length ky, .int .i64 y.at_] : List Value).toArray
    have hb4 := hb3.trans (below_row' (W.heap.size + 1) (by omega) ([.int .i64 y.kind, .int .i64 y.num, .string y.name, .string y.attr, .slice KY y.kids.length ky, .int .i64 y.at_] : List Value).toArray)
    clear hY1 hX1 hb3
    refine hK.out _ _ ?_ (fun hHeld => ?_)
    ·exact hb4
    clear hK K
    refine wpAnyH_done (by kernel_rfl) ?_ _
    try simp only [Act.put, List.getElem_toArray, List.getElem_cons_zero, List.getElem_cons_succ]
    go_wp2_with fail
    go_meet
    exact ⟨W.heap.size, (W.heap.size + 1), rfl, rfl, hX2, hY2, hb4⟩
   refine AllReadyH.cons rfl (fun K hK => ?_) ?_
   ·go_simp
    have hA1 : Blk (W.alloc (.cells #[.int .i64 0, .int .i64 0, .string ⟨#[]⟩, .string ⟨#[]⟩, .slice none 0 0, .int .i64 0] 68)).drew W.heap.size 68 [.int .i64 0, .int .i64 0, .string ⟨#[]⟩, .string ⟨#[]⟩, .slice none 0 0, .int .i64 0] := Blk.new _ _ _
    have hb1 : Below W.heap.size W (W.alloc (.cells #[.int .i64 0, .int .i64 0, .string ⟨#[]⟩, .string ⟨#[]⟩, .slice none 0 0, .int .i64 0] 68)).drew := ((Below.refl _ _).drew).alloc (Nat.le_refl _) (.cells #[.int .i64 0, .int .i64 0, .string ⟨#[]⟩, .string ⟨#[]⟩, .slice none 0 0, .int .i64 0] 68)
    refine hK.out _ _ ?_ (fun hHeld => ?_)
    ·exact hb1
    clear hK K
    refine tkO 10 rfl fun K hK => ?_
    go_simp
    have e9 : (W.alloc (.cells #[.int .i64 0, .int .i64 0, .string ⟨#[]⟩, .string ⟨#[]⟩, .slice none 0 0, .int .i64 0] 68)).drew.heap.size = W.heap.size + 1 := by show (W.heap.push _).size = _; simp
    have hB2 : Blk ((W.alloc (.cells #[.int .i64 0, .int .i64 0, .string ⟨#[]⟩, .string ⟨#[]⟩, .slice none 0 0, .int .i64 0] 68)).alloc (.cells #[.int .i64 0, .int .i64 0, .string ⟨#[]⟩, .string ⟨#[]⟩, .slice none 0 0, .int .i64 0] 68)).drew (W.heap.size + 1) 68 [.int .i64 0, .int .i64 0, .string ⟨#[]⟩, .string ⟨#[]⟩, .slice none 0 0, .int .i64 0] := by
     have h9 := Blk.new (W.alloc (.cells #[.int .i64 0, .int .i64 0, .string ⟨#[]⟩, .string ⟨#[]⟩, .slice none 0 0, .int .i64 0] 68)).drew 68 [.int .i64 0, .int .i64 0, .string ⟨#[]⟩, .string ⟨#[]⟩, .slice none 0 0, .int .i64 0]
     rw [e9] at h9
     exact h9
    have hA2 : Blk ((W.alloc (.cells #[.int .i64 0, .int .i64 0, .string ⟨#[]⟩, .string ⟨#[]⟩, .slice none 0 0, .int .i64 0] 68)).alloc (.cells #[.int .i64 0, .int .i64 0, .string ⟨#[]⟩, .string ⟨#[]⟩, .slice none 0 0, .int .i64 0] 68)).drew W.heap.size 68 [.int .i64 0, .int .i64 0, .string ⟨#[]⟩, .string ⟨#[]⟩, .slice none 0 0, .int .i64 0] := hA1.alloc _
    have hb2 : Below W.heap.size W ((W.alloc (.cells #[.int .i64 0, .int .i64 0, .string ⟨#[]⟩, .string ⟨#[]⟩, .slice none 0 0, .int .i64 0] 68)).alloc (.cells #[.int .i64 0, .int .i64 0, .string ⟨#[]⟩, .string ⟨#[]⟩, .slice none 0 0, .int .i64 0] 68)).drew := hb1.alloc (by omega) (.cells #[.int .i64 0, .int .i64 0, .string ⟨#[]⟩, .string ⟨#[]⟩, .slice none 0 0, .int .i64 0] 68)
    clear hA1
    refine hK.out _ _ ?_ (fun hHeld => ?_)
    ·exact hb2
    clear hK K
    refine tkO 12 rfl fun K hK => ?_
    try rw [if_pos (by rfl)]
    refine wp_store_row 68 (.tmp 8) (.tmp 14) (by rfl) (W.heap.size + 1) ([.int .i64 x.kind, .int .i64 x.num, .string x.name, .string x.attr, .slice KX x.kids.length kx, .int .i64 x.at_] : List Value).toArray (by rfl) (by rfl) 68 ([.int .i64 0, .int .i64 0, .string ⟨#[]⟩, .string ⟨#[]⟩, .slice none 0 0, .int .i64 0] : List Value).toArray hB2 (by kernel_rfl) (by kernel_rfl) (by kernel_rfl) ?_
    have hX1 := blk_row hB2 [.int .i64 x.kind, .int .i64 x.num, .string x.name, .string x.attr, .slice KX x.kids.length kx, .int .i64 x.at_]
    have hY1 := blk_far hA2 (b := (W.heap.size + 1)) (by omega) ([.int .i64 x.kind, .int .i64 x.num, .string x.name, .string x.attr, .slice KX x.kids.length kx, .int .i64 x.at_] : List Value).toArray
    have hb3 := hb2.trans (below_row' (W.heap.size + 1) (by omega) ([.int .i64 x.kind, .int .i64 x.num, .string x.name, .string x.attr, .slice KX x.kids.length kx, .int .i64 x.at_] : List Value).toArray)
    clear hB2 hA2 hb2
    refine hK.out _ _ ?_ (fun hHeld => ?_)
    ·exact hb3
    clear hK K
    refine tkO 13 rfl fun K hK => ?_
    try rw [if_pos (by rfl)]
    refine wp_store_row 68 (.tmp 9) (.tmp 19) (by rfl) W.heap.size ([.int .i64 y.kind, .int .i64 y.num, .string y.name, .string y.attr, .slice KY y.kids.length ky, .int .i64 y.at_] : List Value).toArray (by rfl) (by rfl) 68 ([.int .i64 0, .int .i64 0, .string ⟨#[]⟩, .string ⟨#[]⟩, .slice none 0 0, .int .i64 0] : List Value).toArray hY1 (by kernel_rfl) (by kernel_rfl) (by kernel_rfl) ?_
    have hY2 := blk_row hY1 [.int .i64 y.kind, .int .i64 y.num, .string y.name, .string y.attr, .slice KY y.kids.length ky, .int .i64 y.at_]
    have hX2 := blk_far hX1 (b := W.heap.size) (by omega) ([.int .i64 y.kind, .int .i64 y.num, .string y.name, .string y.attr, .slice KY y.kids.length ky, .int .i64 y.at_] : List Value).toArray
    have hb4 := hb3.trans (below_row' W.heap.size (by omega) ([.int .i64 y.kind, .int .i64 y.num, .string y.name, .string y.attr, .slice KY y.kids.length ky, .int .i64 y.at_] : List Value).toArray)
    clear hY1 hX1 hb3
    refine hK.out _ _ ?_ (fun hHeld => ?_)
    ·exact hb4
    clear hK K
    refine wpAnyH_done (by kernel_rfl) ?_ _
    try simp only [Act.put, List.getElem_toArray, List.getElem_cons_zero, List.getElem_cons_succ]
    go_wp2_with fail
    go_meet
    exact ⟨(W.heap.size + 1), W.heap.size, rfl, rfl, hX2, hY2, hb4⟩
   exact AllReadyH.nil
  case rest => as_aux_lemma =>
   obtain ⟨g8, g9, rfl, rfl, hX, hY, hb⟩ := hcut
   have hm := hm.up hb
   have hxI := hxI.up hb
   have hyI := hyI.up hb
   have e0 := hm.bs.cell 0
   simp only [List.getElem?_cons_zero] at e0
   clear c3 d3 x0 x1 x2 x3 x4 x5 y0 y1 y2 y3 y4 y5
   obtain ⟨x0, x1, x2, x3, x4, x5⟩ := hX.get6
   obtain ⟨y0, y1, y2, y3, y4, y5⟩ := hY.get6
   by_cases q1 : x.kind = y.kind
   ·have r1 : (x.kind == y.kind) = true := by rw [beq_iff_eq]; exact q1
    by_cases q2 : x.num = y.num
    ·have r2 : (x.num == y.num) = true := by rw [beq_iff_eq]; exact q2
     have r3 := zbh x.name y.name
     by_cases q3 : x.name = y.name
     ·rw [decide_eq_true q3] at r3
      have r4 := zbh x.attr y.attr
      by_cases q4 : x.attr = y.attr
      ·rw [decide_eq_true q4] at r4
       have HD : Hid (R = E) := hid (by rw [HV.out]; simp [eqN, q1, q2, q3, q4])
       clear q1 q2 q3 q4 HV
       have hen := enters_same
       have HC2 := hid (HC.out _ hm hxI hyI)
       clear HC
       go_wp2_with fail
       refine HC2.out.mono ?_
       rintro e w5 ⟨rfl, hb5⟩
       have hb6 := hb.trans (hb5.mono hb.size)
       clear HC2
       go_wp2_with fail
       go_ret
       exact ⟨zao (by first | (rw [HD.out]; rfl) | rw [HD.out]), hb6⟩
      ·rw [decide_eq_false q4] at r4
       have HD : Hid (R = false) := hid (by rw [HV.out]; simp [eqN, q4])
       clear q1 q2 q3 q4 HV
       go_wp2_with fail
       go_ret
       exact ⟨zao (by first | (rw [HD.out]; rfl) | rw [HD.out]), hb⟩
     ·rw [decide_eq_false q3] at r3
      have HD : Hid (R = false) := hid (by rw [HV.out]; simp [eqN, q3])
      clear q1 q2 q3 HV
      go_wp2_with fail
      go_ret
      exact ⟨zao (by first | (rw [HD.out]; rfl) | rw [HD.out]), hb⟩
    ·have r2 : (x.num == y.num) = false := by rw [beq_eq_false_iff_ne]; exact q2
     have HD : Hid (R = false) := hid (by rw [HV.out]; simp [eqN, q2])
     clear q1 q2 HV
     go_wp2_with fail
     go_ret
     exact ⟨zao (by first | (rw [HD.out]; rfl) | rw [HD.out]), hb⟩
   ·have r1 : (x.kind == y.kind) = false := by rw [beq_eq_false_iff_ne]; exact q1
    have HD : Hid (R = false) := hid (by rw [HV.out]; simp [eqN, q1])
    clear q1 HV
    go_wp2_with fail
    go_ret
    exact ⟨zao (by first | (rw [HD.out]; rfl) | rw [HD.out]), hb⟩
theorem psame_any (a b : Po) (La Lb : Lp) (hA : PBd a) (hB : PBd b) (w : World) (hPa : PolM w a La) (hPb : PolM w b Lb) :
 Calls Tryz.prog 12 #[polV a La, polV b Lb] w fun e w' => e = .returned (.bool (sameP a b)) ∧ Below w.heap.size w w' := by
 have hmf : ∀ (fn : Fn) (first cap : Array Value) (w : World), (Instr.makeFunc fn first cap).run Tryz.prog w = .ok (.func fn first cap) w := fun _ _ _ _ => rfl
 have HS := hid (store_func Tryz.prog)
 have HCa := hid (fun W (h : PolM W a La) => zb5 a La hA W h)
 have HCb := hid (fun W (h : PolM W b Lb) => zb5 b Lb hB W h)
 have HU := hid (fun W (h : PolM W a La) (h' : PolM W b Lb) => equal_use La.ua Lb.ua La.uc Lb.uc a.uses b.uses W h.us h'.us hA.ul hB.ul)
 have HR := hid (fun W (h : PolM W a La) (h' : PolM W b Lb) => equal_ref La.ra Lb.ra La.rc Lb.rc a.reveal b.reveal W h.rv h'.rv hA.rl hB.rl)
 have HN := hid (fun (ha : checkP a = 0) (hb : checkP b = 0) (ga gb gs : Nat) W (h : SmM a b La Lb ga gb gs W) => same_any a b La Lb hA hB ga gb gs 32 a.root b.root W (tree_wf (za7 ha)) (tree_wf (za7 hb)) h)
 have HV : Hid (sameP a b = (decide (checkP a = 0) && decide (checkP b = 0) && decide (a.name = b.name) && decide (a.scope = b.scope) && decide (a.limit = b.limit) && decide (a.escrow = b.escrow) && decide (a.uses = b.uses) && decide (a.reveal = b.reveal) && sameN a.nodes b.nodes 32 a.root b.root)) := hid rfl
 generalize sameP a b = R at *
 obtain ⟨ga, hga⟩ : ∃ g, w.heap.size = g := ⟨_, rfl⟩
 obtain ⟨gb, hgb⟩ : ∃ g, ga + 1 = g := ⟨_, rfl⟩
 have hk0 := ((Hp.start w).new 29 (polcs a La)).new 29 (polcs b Lb)
 simp only [sizeA] at hk0
 have hb0 := hk0.below0
 have hP0 := hPa.up hb0
 have hQ0 := hPb.up hb0
 go_enter Tryz.func12, Tryz.ntmps12
 go_upto_region 1 with fail
 simp only [hga, hgb] at hk0 ⊢
 generalize (w.alloc _).alloc _ = w1 at *
 have m0 := hk0.blk 1 rfl
 have m1 := hk0.blk 0 rfl
 obtain ⟨c0, c1, c2, c3, c4, c5, c6, c7⟩ := m0.get8
 obtain ⟨d0, d1, d2, d3, d4, d5, d6, d7⟩ := m1.get8
 have HC1 := hid (HCa.out w1 hP0)
 by_cases ha : checkP a = 0
 ·rw [ha] at HC1
  go_wp2_with fail
  refine HC1.out.mono ?_
  rintro e w2 ⟨rfl, hb2⟩
  have hk2 := hk0.next hb2
  have hP2 := hP0.up hb2
  have hQ2 := hQ0.up hb2
  clear c0 c1 c2 c3 c4 c5 c6 c7 d0 d1 d2 d3 d4 d5 d6 d7 m0 m1 hk0 hP0 hQ0 hb0 HC1 HCa hb2
  have m0 := hk2.blk 1 rfl
  have m1 := hk2.blk 0 rfl
  obtain ⟨c0, c1, c2, c3, c4, c5, c6, c7⟩ := m0.get8
  obtain ⟨d0, d1, d2, d3, d4, d5, d6, d7⟩ := m1.get8
  have HC1 := hid (HCb.out w2 hQ2)
  clear HCb
  by_cases hb : checkP b = 0
  ·rw [hb] at HC1
   go_wp2_with fail
   refine HC1.out.mono ?_
   rintro e w3 ⟨rfl, hb3⟩
   have hk3 := hk2.next hb3
   have hP3 := hP2.up hb3
   have hQ3 := hQ2.up hb3
   clear c0 c1 c2 c3 c4 c5 c6 c7 d0 d1 d2 d3 d4 d5 d6 d7 m0 m1 hk2 hP2 hQ2 HC1 hb3
   have HN2 := hid (HN.out ha hb)
   have HVa := hid ha
   have HVb := hid hb
   clear HN ha hb
   have hk4 := hk3.new 112 [.nilFunc]
   have hb4 := (Below.refl w3.heap.size w3).alloc (Nat.le_refl _) (.cells #[.nilFunc] 112)
   have hP4 := hP3.up hb4
   have hQ4 := hQ3.up hb4
   clear hk3 hP3 hQ3 hb4
   go_upto_region 4 with fail
   obtain ⟨gs, hgs⟩ : ∃ g, w3.heap.size = g := ⟨_, rfl⟩
   simp only [hgs] at hk4 ⊢
   generalize w3.alloc _ = w4 at *
   have hst := fun x y => HS.out w4 ⟨gs, 0, none⟩ .plain (Fn.func 46) x y _ ((hk4.blk 0 rfl).cell 0) ((hk4.blk 0 rfl).frozen 0)
   have hk5 := hk4.set 0 rfl 0 (smF ga gb gs)
   have hb5 : Below w.heap.size w (w4.setCell ⟨gs, 0, none⟩ (smF ga gb gs)) := hk5.below0
   have hP5 := hPa.up hb5
   have hQ5 := hPb.up hb5
   go_upto_region 5 with fail
   clear hst hk4 hP4 hQ4 HS
   generalize w4.setCell _ _ = w5 at *
   have hm : SmM a b La Lb ga gb gs w5 := ⟨hk5.blk 2 rfl, hk5.blk 1 rfl, hk5.blk 0 rfl, hP5, hQ5⟩
   replace hb5 := hk5.below0
   clear hk5 hP5 hQ5
   obtain ⟨c0, c1, c2, c3, c4, c5, c6, c7⟩ := hm.ba.get8
   obtain ⟨d0, d1, d2, d3, d4, d5, d6, d7⟩ := hm.bb.get8
   have r0 := zbh a.name b.name
   have r1 := zbh a.scope b.scope
   have r3 := zbh a.escrow b.escrow
   by_cases q0 : a.name = b.name
   ·rw [decide_eq_true q0] at r0
    by_cases q1 : a.scope = b.scope
    ·rw [decide_eq_true q1] at r1
     by_cases q2 : a.limit = b.limit
     ·have r2 : (a.limit == b.limit) = true := by rw [beq_iff_eq]; exact q2
      by_cases q3 : a.escrow = b.escrow
      ·rw [decide_eq_true q3] at r3
       have HC1 := HU.out w5 hm.pa hm.pb
       by_cases q4 : a.uses = b.uses
       ·rw [decide_eq_true q4] at HC1
        have HC1 := hid HC1
        have HX : Hid (R = (decide (a.reveal = b.reveal) && sameN a.nodes b.nodes 32 a.root b.root)) := hid (by rw [HV.out]; simp [HVa.out, HVb.out, q0, q1, q2, q3, q4])
        clear HV HVa HVb q0 q1 q2 q3 q4 HU
        go_wp2_with fail
        refine HC1.out.mono ?_
        rintro e w6 ⟨rfl, hb6⟩
        have hb7 := hb5.trans (hb6.mono hb5.size)
        have hm6 := hm.up hb6
        clear c0 c1 c2 c3 c4 c5 c6 c7 d0 d1 d2 d3 d4 d5 d6 d7 HC1 hm hb6 hb5
        obtain ⟨c0, c1, c2, c3, c4, c5, c6, c7⟩ := hm6.ba.get8
        obtain ⟨d0, d1, d2, d3, d4, d5, d6, d7⟩ := hm6.bb.get8
        have HC1 := HR.out w6 hm6.pa hm6.pb
        by_cases q5 : a.reveal = b.reveal
        ·rw [decide_eq_true q5] at HC1
         have HC1 := hid HC1
         have HD : Hid (R = sameN a.nodes b.nodes 32 a.root b.root) := hid (by rw [HX.out, decide_eq_true q5, Bool.true_and])
         clear HX q5 HR
         generalize sameN a.nodes b.nodes 32 a.root b.root = E at *
         go_wp2_with fail
         refine HC1.out.mono ?_
         rintro e w8 ⟨rfl, hb8⟩
         have hb9 := hb7.trans (hb8.mono hb7.size)
         have hm8 := hm6.up hb8
         clear c0 c1 c2 c3 c4 c5 c6 c7 d0 d1 d2 d3 d4 d5 d6 d7 HC1 hm6 hb8 hb7
         obtain ⟨c0, c1, c2, c3, c4, c5, c6, c7⟩ := hm8.ba.get8
         obtain ⟨d0, d1, d2, d3, d4, d5, d6, d7⟩ := hm8.bb.get8
         have e0 := hm8.bs.cell 0
         simp only [List.getElem?_cons_zero] at e0
         have HC1 := hid (HN2.out ga gb gs w8 hm8)
         clear HN2
         have hen := enters_same
         go_wp2_with fail
         refine HC1.out.mono ?_
         rintro e w10 ⟨rfl, hb10⟩
         have hb11 := hb9.trans (hb10.mono hb9.size)
         clear HC1
         go_wp2_with fail
         go_ret
         exact ⟨zao (by first | (rw [HD.out]; rfl) | rw [HD.out]), hb11⟩
        ·rw [decide_eq_false q5] at HC1
         have HC1 := hid HC1
         have HD : Hid (R = false) := hid (by rw [HX.out, decide_eq_false q5, Bool.false_and])
         clear HX q5 HR
         go_wp2_with fail
         refine HC1.out.mono ?_
         rintro e w8 ⟨rfl, hb8⟩
         have hb9 := hb7.trans (hb8.mono hb7.size)
         clear HC1
         go_wp2_with fail
         go_ret
         exact ⟨zao (by first | (rw [HD.out]; rfl) | rw [HD.out]), hb9⟩
       ·rw [decide_eq_false q4] at HC1
        have HC1 := hid HC1
        have HD : Hid (R = false) := hid (by rw [HV.out]; simp [q4])
        clear HV HVa HVb q0 q1 q2 q3 q4 HU
        go_wp2_with fail
        refine HC1.out.mono ?_
        rintro e w6 ⟨rfl, hb6⟩
        have hb7 := hb5.trans (hb6.mono hb5.size)
        clear HC1
        go_wp2_with fail
        go_ret
        exact ⟨zao (by first | (rw [HD.out]; rfl) | rw [HD.out]), hb7⟩
      ·rw [decide_eq_false q3] at r3
       have HD : Hid (R = false) := hid (by rw [HV.out]; simp [q3])
       clear HV HVa HVb q0 q1 q2 q3 HU HR HN2
       go_wp2_with fail
       go_ret
       exact ⟨zao (by first | (rw [HD.out]; rfl) | rw [HD.out]), hb5⟩
     ·have r2 : (a.limit == b.limit) = false := by rw [beq_eq_false_iff_ne]; exact q2
      have HD : Hid (R = false) := hid (by rw [HV.out]; simp [q2])
      clear HV HVa HVb q0 q1 q2 HU HR HN2
      go_wp2_with fail
      go_ret
      exact ⟨zao (by first | (rw [HD.out]; rfl) | rw [HD.out]), hb5⟩
    ·rw [decide_eq_false q1] at r1
     have HD : Hid (R = false) := hid (by rw [HV.out]; simp [q1])
     clear HV HVa HVb q0 q1 HU HR HN2
     go_wp2_with fail
     go_ret
     exact ⟨zao (by first | (rw [HD.out]; rfl) | rw [HD.out]), hb5⟩
   ·rw [decide_eq_false q0] at r0
    have HD : Hid (R = false) := hid (by rw [HV.out]; simp [q0])
    clear HV HVa HVb q0 HU HR HN2
    go_wp2_with fail
    go_ret
    exact ⟨zao (by first | (rw [HD.out]; rfl) | rw [HD.out]), hb5⟩
  ·have HD : Hid (R = false) := hid (by rw [HV.out]; simp [hb])
   have hne : (checkP b != 0) = true := by rw [bne_iff_ne]; exact hb
   generalize checkP b = E at *
   clear HV HU HR HN ha hb
   go_wp2_with fail
   refine HC1.out.mono ?_
   rintro e w3 ⟨rfl, hb3⟩
   have hk3 := hk2.next hb3
   clear HC1
   go_wp2_with fail
   go_ret
   exact ⟨zao (by first | (rw [HD.out]; rfl) | rw [HD.out]), hk3.below0⟩
 ·have HD : Hid (R = false) := hid (by rw [HV.out]; simp [ha])
  have hne : (checkP a != 0) = true := by rw [bne_iff_ne]; exact ha
  generalize checkP a = E at *
  clear HV HU HR HN ha HCb
  go_wp2_with fail
  refine HC1.out.mono ?_
  rintro e w2 ⟨rfl, hb2⟩
  have hk2 := hk0.next hb2
  clear HC1
  go_wp2_with fail
  go_ret
  exact ⟨zao (by first | (rw [HD.out]; rfl) | rw [HD.out]), hk2.below0⟩
open Go.RowKit Go.Shelf
open Lib (hid)
theorem zpo_bd : PBd zPo := ⟨by decide, by decide, by decide, by decide, by decide, by decide, fun x h => (List.not_mem_nil h).elim, fun x h => (List.not_mem_nil h).elim, fun x h => (List.not_mem_nil h).elim⟩
theorem parse_pbd (l : List UInt8) (hl : l.length ≤ 65536) : PBd (zav l).1 := by
 unfold zav
 cases hs : Lx.sc l with
 | err a e => exact zpo_bd
 | ok ts =>
  dsimp only
  have hS := Lx.sc_iff.1 hs
  have hn := toks_len hS
  unfold parseT
  cases hr : Pa.policyR ts with
  | mk o q =>
   cases o with
   | none => exact zpo_bd
   | some p =>
    dsimp only
    split
    ·exact zpo_bd
    ·exact pbd_of (Pa.policy_gd (Pa.sc_good hS) hr).1 (by omega)
end Go.Proofs.YtekkapgknohadaaGreatDoor
