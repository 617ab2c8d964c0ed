import Derived.Test.YtogmhaihmkcjgaaGreatDoorWrY
import Derived.Test.YtogmhaihmkcjgaaGreatDoorPqY
import Derived.Test.YtogmhaihmkcjgaaGreatDoorPcC
import Derived.Test.YtogmhaihmkcjgaaGreatDoorPcH
import Derived.Deep.LoopGhost
import Derived.Test.YtogmhaihmkcjgaaGreatDoorWrX
import Derived.Test.YtogmhaihmkcjgaaGreatDoorPostB
import Derived.Lib.SmallJoins
import Derived.Lib.LaidTab
import Derived.Deep.Slices
import Derived.Deep.Fields
import Derived.ChangeSame
import Derived.Stop.LaidErr
import Derived.MakeChecks
/-
 dominolaw43.awake holds.
-/
namespace Go.Proofs.YtogmhaihmkcjgaaGreatDoor
open Go.RowKit Go.Shelf
set_option linter.unusedVariables false

abbrev aqS : List UInt8 := [112, 111, 108, 105, 99, 121, 32, 112, 32, 117, 115, 101, 115, 32, 105, 100, 58, 80, 97, 115, 115, 112, 111, 114, 116, 32, 112, 114, 111, 118, 101, 32, 40, 110, 111, 116, 32, 105, 100, 46, 97, 103, 101, 60, 48, 49, 56, 41, 32, 101, 110, 100]
abbrev aqT : List UInt8 := [112, 111, 108, 105, 99, 121, 32, 112, 10, 117, 115, 101, 115, 32, 105, 100, 58, 32, 80, 97, 115, 115, 112, 111, 114, 116, 10, 112, 114, 111, 118, 101, 32, 110, 111, 116, 32, 105, 100, 46, 97, 103, 101, 32, 60, 32, 49, 56, 10, 101, 110, 100, 10]
abbrev aqU : List UInt8 := [105, 100, 46, 97, 103, 101, 32, 60, 32, 49, 56]
def aqPo : Po := ⟨bs [112], [(bs [105, 100], bs [80, 97, 115, 115, 112, 111, 114, 116])], [], [⟨2, 0, bs [], bs [], [1], 33⟩, ⟨6, 2, bs [], bs [], [2, 3], 37⟩, ⟨9, 0, bs [105, 100], bs [97, 103, 101], [], 37⟩, ⟨10, 18, bs [], bs [], [], 44⟩], 0, bs [], 0, bs []⟩
theorem aq_parse : parseP aqS = (aqPo, 0, 0) := by kernel_rfl
theorem aq_check : checkP aqPo = 0 := by kernel_rfl
theorem aq_itoa : Lib.itoa 18 = [49, 56] := by
 unfold Lib.itoa
 rw [if_neg (by decide)]
 rw [show ((18 : Int)).toNat = 18 from rfl, Lib.decDigits, dif_neg (by decide), Lib.decDigits, dif_pos (by decide)]
 decide
theorem aq_u : Pa.textN aqPo.nodes 32 1 = aqU := by
 have h : Pa.textN aqPo.nodes 32 1 = [105, 100, 46, 97, 103, 101, 32, 60, 32] ++ Lib.itoa 18 := by kernel_rfl
 rw [h, aq_itoa]; rfl
theorem aq_t : Pa.textN aqPo.nodes 32 0 = [110, 111, 116, 32, 105, 100, 46, 97, 103, 101, 32, 60, 32, 49, 56] := by
 have h : Pa.textN aqPo.nodes 32 0 = [110, 111, 116, 32, 105, 100, 46, 97, 103, 101, 32, 60, 32] ++ Lib.itoa 18 := by kernel_rfl
 rw [h, aq_itoa]; rfl
theorem aq_print : prS aqPo = ⟨aqT.toArray⟩ := by
 rw [prS_ok aq_check]
 unfold printW
 rw [show aqPo.root = 0 from rfl, aq_t]
 kernel_rfl
theorem aq_node : ndE aqPo 1 = 0 ∧ ndS aqPo 1 = ⟨aqU.toArray⟩ := by
 have h := nd_ok (x := 1) aq_check (by decide)
 rw [aq_u] at h
 exact h
theorem aq_bd : PBd aqPo := by
 refine ⟨by decide, by decide, by decide, by decide, by decide, by decide, fun x hx => ?_, fun x hx => (List.not_mem_nil hx).elim, fun n hn => ?_⟩
 ·obtain rfl := List.mem_singleton.1 hx
  exact ⟨by decide, by decide⟩
 ·have h : ∀ n ∈ aqPo.nodes, n.name.size ≤ 1000000 ∧ n.attr.size ≤ 1000000 ∧ n.kids.length ≤ 1000000 := by decide
  exact ⟨(h n hn).1, (h n hn).2.1, (h n hn).2.2⟩
set_option maxRecDepth 20000 in
set_option maxHeartbeats 8000000 in
theorem awake43_any (w : World) (hG : Glob w) : Calls Tryz.prog 27 #[] w fun e w' => e = .returned (.bool true) ∧ Below w.heap.size w w' := by
 have H1 := Lib.hid (fun W => parse_at aq_parse (by decide) W)
 have H2 : Hid (∀ (L : Lp) (W : World), PolM W aqPo L → Glob W → Calls Tryz.prog 14 #[polV aqPo L] W fun e w' => e = .returned (.tuple #[.string ⟨aqT.toArray⟩, .int .i64 0]) ∧ Below W.heap.size W w') := Lib.hid fun L W hP hG => by
  have := print_any aqPo L aq_bd W hP hG
  rw [aq_print, aq_check] at this
  exact this
 have H3 : Hid (∀ (L : Lp) (W : World), PolM W aqPo L → Glob W → Calls Tryz.prog 29 #[polV aqPo L, .int .i64 1] W fun e w' => e = .returned (.tuple #[.string ⟨aqU.toArray⟩, .int .i64 0]) ∧ Below W.heap.size W w') := Lib.hid fun L W hP hG => by
  have := pnode_any aqPo L 1 aq_bd W hP hG
  rw [aq_node.1, aq_node.2] at this
  exact this
 generalize aqPo = d at *
 obtain ⟨s1, hs1⟩ : ∃ x : ByteArray, ⟨aqT.toArray⟩ = x := ⟨_, rfl⟩
 obtain ⟨s2, hs2⟩ : ∃ x : ByteArray, ⟨aqU.toArray⟩ = x := ⟨_, rfl⟩
 rw [hs1] at H2
 rw [hs2] at H3
 have hq1 : (s1.toList == [112, 111, 108, 105, 99, 121, 32, 112, 10, 117, 115, 101, 115, 32, 105, 100, 58, 32, 80, 97, 115, 115, 112, 111, 114, 116, 10, 112, 114, 111, 118, 101, 32, 110, 111, 116, 32, 105, 100, 46, 97, 103, 101, 32, 60, 32, 49, 56, 10, 101, 110, 100, 10]) = true := by rw [← hs1, toList_tl]; exact beq_self_eq_true _
 have hq2 : (s2.toList == [105, 100, 46, 97, 103, 101, 32, 60, 32, 49, 56]) = true := by rw [← hs2, toList_tl]; exact beq_self_eq_true _
 clear hs1 hs2
 have hk := Hp.start w
 go_enter Tryz.func27, Tryz.ntmps27
 go_wp2_with fail
 refine (H1.out _).mono ?_
 rintro e w1 ⟨⟨L, rfl, hM⟩, hb1⟩
 clear H1
 have hk1 := (hk.next hb1).new 29 (polcs d L)
 have hba := (Below.refl w1.heap.size w1).alloc (Nat.le_refl _) (.cells #[.string d.name, .slice L.ua d.uses.length L.uc, .slice L.ra d.reveal.length L.rc, .slice L.na d.nodes.length L.nc, .int .i64 d.root, .string d.scope, .int .i64 d.limit, .string d.escrow] 29)
 have M1 := hM.up hba
 clear hM hb1 hba hk
 go_upto_region 2 with fail
 have hk1 : Hp [] w [iblk w1.heap.size 29 (polcs d L)] (w1.alloc (.cells #[.string d.name, .slice L.ua d.uses.length L.uc, .slice L.ra d.reveal.length L.rc, .slice L.na d.nodes.length L.nc, .int .i64 d.root, .string d.scope, .int .i64 d.limit, .string d.escrow] 29)) := hk1
 generalize w1.alloc (.cells #[.string d.name, .slice L.ua d.uses.length L.uc, .slice L.ra d.reveal.length L.rc, .slice L.na d.nodes.length L.nc, .int .i64 d.root, .string d.scope, .int .i64 d.limit, .string d.escrow] 29) = w2 at *
 generalize w1.heap.size = g at *
 obtain ⟨c0, c1, c2, c3, c4, c5, c6, c7⟩ := (hk1.blk 0 rfl).get8
 have HA := Lib.hid (H2.out L w2 M1 (hG.up hk1.below0))
 go_wp2_with fail
 refine HA.out.mono ?_
 rintro e w3 ⟨rfl, hb3⟩
 have hk3 := hk1.next hb3
 have M3 := M1.up hb3
 clear HA H2 hk1 M1 hb3 c0 c1 c2 c3 c4 c5 c6 c7
 obtain ⟨c0, c1, c2, c3, c4, c5, c6, c7⟩ := (hk3.blk 0 rfl).get8
 have HA := Lib.hid (H3.out L w3 M3 (hG.up hk3.below0))
 go_wp2_with fail
 refine HA.out.mono ?_
 rintro e w4 ⟨rfl, hb4⟩
 clear HA H3
 go_wp2_with fail
 go_ret
 exact ⟨rfl, hk3.below0.trans (hb4.mono hk3.size)⟩
end Go.Proofs.YtogmhaihmkcjgaaGreatDoor

/-
 dominolaw41.Few. Printed by mkwrp.py.
-/
namespace Go.Proofs.YtogmhaihmkcjgaaGreatDoor
open Go.RowKit Go.Shelf
set_option linter.unusedVariables false

def fewNk (n : Nk) : Bool := decide (n.kids.length ≤ 40) && decide (n.name.size ≤ 60) && decide (n.attr.size ≤ 60)
def fewBp (x : Bp) : Bool := decide (x.1.size ≤ 60) && decide (x.2.size ≤ 60)
/-- is the policy small? -/
def fewPo (d : Po) : Bool := decide (d.name.size ≤ 60) && (decide (d.uses.length ≤ 8) && (decide (d.reveal.length ≤ 20) && (decide (d.nodes.length ≤ 60) && (decide (d.scope.size ≤ 60) && (decide (d.escrow.size ≤ 60) && (d.nodes.all fewNk && (d.uses.all fewBp && d.reveal.all fewBp)))))))
theorem few_pbd {d : Po} (h : fewPo d = true) : PBd d := by
 unfold fewPo at h
 simp only [Bool.and_eq_true, decide_eq_true_eq, List.all_eq_true] at h
 obtain ⟨h1, h2, h3, h4, h5, h6, h7, h8, h9⟩ := h
 have key : ∀ l : List Bp, (∀ x ∈ l, fewBp x = true) → ∀ x ∈ l, x.1.size ≤ 1000000 ∧ x.2.size ≤ 1000000 := fun l h x hx => by
  have := h x hx
  unfold fewBp at this
  simp only [Bool.and_eq_true, decide_eq_true_eq] at this
  omega
 refine ⟨by omega, by omega, by omega, by omega, by omega, by omega, key _ h8, key _ h9, fun n hn => ?_⟩
 have := h7 n hn
 unfold fewNk at this
 simp only [Bool.and_eq_true, decide_eq_true_eq] at this
 exact ⟨by omega, by omega, by omega⟩
theorem wall_take {α : Type} {p : α → Bool} {l : List α} {i : Nat} {x : α} (h : l[i]? = some x) : (l.take (i + 1)).all p = ((l.take i).all p && p x) := by
 rw [take_at h, List.all_append]; simp
theorem wall_bad {α : Type} {p : α → Bool} {l : List α} {i : Nat} {x : α} (h : l[i]? = some x) (hp : p x = false) : l.all p = false := by
 rw [Bool.eq_false_iff]
 intro h9
 have := List.all_eq_true.1 h9 x (List.mem_of_getElem? h)
 rw [hp] at this; cases this
theorem wall_full {α : Type} {p : α → Bool} {l : List α} {i : Nat} (h : ¬ i < l.length) (ht : (l.take i).all p = true) : l.all p = true := by
 rwa [List.take_of_length_le (by omega)] at ht
set_option maxHeartbeats 16000000 in
set_option maxRecDepth 20000 in
theorem few_any (d : Po) (L : Lp) (w : World) (hP : PolM w d L) : Calls Tryz.prog 26 #[polV d L] w fun e w' => e = .returned (.bool (fewPo d)) ∧ Below w.heap.size w w' := by
 obtain ⟨ua, uc, ra, rc, na, nc⟩ := L
 have hus : Prs w ua d.uses := hP.us
 have hrv : Prs w ra d.reveal := hP.rv
 have hns : Nks w na d.nodes := hP.ns
 have hk := (Hp.start w).new 29 (polcs d ⟨ua, uc, ra, rc, na, nc⟩)
 obtain ⟨g, hg⟩ : ∃ x, w.heap.size = x := ⟨_, rfl⟩
 rw [hg] at hk
 have HV : Hid (fewPo d = (decide (d.name.size ≤ 60) && (decide (d.uses.length ≤ 8) && (decide (d.reveal.length ≤ 20) && (decide (d.nodes.length ≤ 60) && (decide (d.scope.size ≤ 60) && (decide (d.escrow.size ≤ 60) && (d.nodes.all fewNk && (d.uses.all fewBp && d.reveal.all fewBp))))))))) := Lib.hid rfl
 go_enter Tryz.func26, Tryz.ntmps26
 go_upto_region 1 with fail
 try simp only [hg]
 have hk : Hp [] w [iblk g 29 (polcs d ⟨ua, uc, ra, rc, na, nc⟩)] (w.alloc (.cells #[.string d.name, .slice ua d.uses.length uc, .slice ra d.reveal.length rc, .slice na d.nodes.length nc, .int .i64 d.root, .string d.scope, .int .i64 d.limit, .string d.escrow] 29)) := hk
 generalize w.alloc (.cells #[.string d.name, .slice ua d.uses.length uc, .slice ra d.reveal.length rc, .slice na d.nodes.length nc, .int .i64 d.root, .string d.scope, .int .i64 d.limit, .string d.escrow] 29) = W at *
 obtain ⟨p0, p1, p2, p3, p4, p5, p6, p7⟩ := (hk.blk 0 rfl).get8
 try simp only at p0 p1 p2 p3 p4 p5 p6 p7
 by_cases t0 : d.name.size ≤ 60
 ·have ti0 : ¬ (60 : Int) < (d.name.size : Int) := by omega
  by_cases t1 : d.uses.length ≤ 8
  ·have ti1 : ¬ (8 : Int) < (d.uses.length : Int) := by omega
   by_cases t2 : d.reveal.length ≤ 20
   ·have ti2 : ¬ (20 : Int) < (d.reveal.length : Int) := by omega
    by_cases t3 : d.nodes.length ≤ 60
    ·have ti3 : ¬ (60 : Int) < (d.nodes.length : Int) := by omega
     by_cases t4 : d.scope.size ≤ 60
     ·have ti4 : ¬ (60 : Int) < (d.scope.size : Int) := by omega
      by_cases t5 : d.escrow.size ≤ 60
      ·have ti5 : ¬ (60 : Int) < (d.escrow.size : Int) := by omega
       have HV6 : Hid (fewPo d = (d.nodes.all fewNk && (d.uses.all fewBp && d.reveal.all fewBp))) := Lib.hid (by rw [HV.out, decide_eq_true t0, decide_eq_true t1, decide_eq_true t2, decide_eq_true t3, decide_eq_true t4, decide_eq_true t5]; rfl)
       clear HV
       go_upto_region 4 with fail
       clear p0 p1 p2 p3 p4 p5 p6 p7
       go_loopg [3] d.nodes.length (fun m sk wx => ∃ k : Nat, k ≤ d.nodes.length ∧ m = d.nodes.length - k ∧ sk = .int .i64 (k : Int) ∧ Hp [] w [iblk g 29 (polcs d ⟨ua, uc, ra, rc, na, nc⟩)] wx ∧ Hid ((d.nodes.take k).all fewNk = true))
       case atStart => exact ⟨0, Nat.zero_le _, rfl, rfl, hk, Lib.hid rfl⟩
       case round =>
        obtain ⟨k, hk9, rfl, rfl, hM, HE⟩ := hrel
        clear hk
        have pp : wr.cell? ⟨g, 3, none⟩ = some (.slice na d.nodes.length nc) := (hM.blk 0 rfl).cell 3
        by_cases hkl : k < d.nodes.length
        ·have hii : (k : Int) < (d.nodes.length : Int) := by omega
         have hi0' : (0 : Int) ≤ (k : Int) := by omega
         obtain ⟨n, hn⟩ : ∃ n, d.nodes[k]? = some n := ⟨_, List.getElem?_eq_getElem hkl⟩
         obtain ⟨ad, KA, kc, hA, hN⟩ := (hns.up hM.below0).at_ k n hn
         subst hA
         obtain ⟨d0, d1, d2, d3, d4, d5, -, -⟩ := hN
         have HT : Hid ((d.nodes.take (k + 1)).all fewNk = fewNk n) := Lib.hid (by rw [wall_take hn, HE.out]; rfl)
         have HBad := Lib.hid (fun h => wall_bad (p := fewNk) hn h)
         have HFX : Hid (fewNk n = (decide (n.kids.length ≤ 40) && decide (n.name.size ≤ 60) && decide (n.attr.size ≤ 60))) := Lib.hid rfl
         clear hn HE
         go_upto_region 7 with fail
         have hM2 : Hp [] w [iblk wr.heap.size 76 (nkcs n KA kc), iblk g 29 (polcs d ⟨ua, uc, ra, rc, some ad, nc⟩)] (wr.alloc (.cells #[.int .i64 n.kind, .int .i64 n.num, .string n.name, .string n.attr, .slice KA n.kids.length kc, .int .i64 n.at_] 76)) := hM.new 76 (nkcs n KA kc)
         clear hM d0 d1 d2 d3 d4 d5 pp
         generalize wr.alloc (.cells #[.int .i64 n.kind, .int .i64 n.num, .string n.name, .string n.attr, .slice KA n.kids.length kc, .int .i64 n.at_] 76) = w3 at *
         generalize wr.heap.size = g5 at *
         obtain ⟨d0, d1, d2, d3, d4, d5⟩ := (hM2.blk 0 rfl).get6
         by_cases h0 : n.kids.length ≤ 40
         ·have hi0 : ¬ (40 : Int) < (n.kids.length : Int) := by omega
          by_cases h1 : n.name.size ≤ 60
          ·have hi1 : ¬ (60 : Int) < (n.name.size : Int) := by omega
           by_cases h2 : n.attr.size ≤ 60
           ·have hi2 : ¬ (60 : Int) < (n.attr.size : Int) := by omega
            have HT2 : Hid ((d.nodes.take (k + 1)).all fewNk = true) := Lib.hid (by rw [HT.out, HFX.out, decide_eq_true h0, decide_eq_true h1, decide_eq_true h2]; rfl)
            go_wp2_with fail
            go_roundg (d.nodes.length - (k + 1))
            case measure => omega
            case rel => exact ⟨k + 1, hkl, rfl, by first | rfl | simp, hM2.tail, HT2⟩
           ·have hi2 : (60 : Int) < (n.attr.size : Int) := by omega
            have HR : Hid (fewPo d = false) := Lib.hid (by rw [HV6.out, HBad.out (by rw [HFX.out, decide_eq_false h2]; simp)]; rfl)
            go_wp2_with fail
            go_ret
            rw [HR.out]
            exact ⟨rfl, by first | exact hM2.below0 | (subst hg; exact hM2.below0)⟩
          ·have hi1 : (60 : Int) < (n.name.size : Int) := by omega
           have HR : Hid (fewPo d = false) := Lib.hid (by rw [HV6.out, HBad.out (by rw [HFX.out, decide_eq_false h1]; simp)]; rfl)
           go_wp2_with fail
           go_ret
           rw [HR.out]
           exact ⟨rfl, by first | exact hM2.below0 | (subst hg; exact hM2.below0)⟩
         ·have hi0 : (40 : Int) < (n.kids.length : Int) := by omega
          have HR : Hid (fewPo d = false) := Lib.hid (by rw [HV6.out, HBad.out (by rw [HFX.out, decide_eq_false h0]; simp)]; rfl)
          go_wp2_with fail
          go_ret
          rw [HR.out]
          exact ⟨rfl, by first | exact hM2.below0 | (subst hg; exact hM2.below0)⟩
        ·have hii : ¬ (k : Int) < (d.nodes.length : Int) := by omega
         have HAll := Lib.hid (wall_full (p := fewNk) hkl HE.out)
         clear HE hk9
         have HV7 : Hid (fewPo d = (d.uses.all fewBp && d.reveal.all fewBp)) := Lib.hid (by rw [HV6.out, HAll.out]; rfl)
         clear HV6 HAll
         have hM3 := hM
         clear hM
         go_upto_region 10 with fail
         clear hii pp
         go_loopg [5] d.uses.length (fun m sk wx => ∃ i : Nat, i ≤ d.uses.length ∧ m = d.uses.length - i ∧ sk = .int .i64 (i : Int) ∧ Hp [] w [iblk g 29 (polcs d ⟨ua, uc, ra, rc, na, nc⟩)] wx ∧ Hid ((d.uses.take i).all fewBp = true))
         case atStart => exact ⟨0, Nat.zero_le _, rfl, rfl, hM3, Lib.hid rfl⟩
         case round =>
          obtain ⟨i, hi, rfl, rfl, hM2, HE⟩ := hrel
          clear hM3
          have pp : wr.cell? ⟨g, 1, none⟩ = some (.slice ua d.uses.length uc) := (hM2.blk 0 rfl).cell 1
          by_cases hil : i < d.uses.length
          ·have hii : (i : Int) < (d.uses.length : Int) := by omega
           have hi0 : (0 : Int) ≤ (i : Int) := by omega
           obtain ⟨x, hx⟩ : ∃ x, d.uses[i]? = some x := ⟨_, List.getElem?_eq_getElem hil⟩
           obtain ⟨ad, hA, c1, c2⟩ := (hus.up hM2.below0).at_ i x hx
           subst hA
           have HT : Hid ((d.uses.take (i + 1)).all fewBp = fewBp x) := Lib.hid (by rw [wall_take hx, HE.out]; rfl)
           have HBad := Lib.hid (fun h => wall_bad (p := fewBp) hx h)
           have HFX : Hid (fewBp x = (decide (x.1.size ≤ 60) && decide (x.2.size ≤ 60))) := Lib.hid rfl
           clear hx HE
           by_cases h1 : x.1.size ≤ 60
           ·have hi1 : ¬ (60 : Int) < (x.1.size : Int) := by omega
            by_cases h2 : x.2.size ≤ 60
            ·have hi2 : ¬ (60 : Int) < (x.2.size : Int) := by omega
             have HT2 : Hid ((d.uses.take (i + 1)).all fewBp = true) := Lib.hid (by rw [HT.out, HFX.out, decide_eq_true h1, decide_eq_true h2]; rfl)
             go_wp2_with fail
             go_roundg (d.uses.length - (i + 1))
             case measure => omega
             case rel => exact ⟨i + 1, hil, rfl, by first | rfl | simp, hM2, HT2⟩
            ·have hi2 : (60 : Int) < (x.2.size : Int) := by omega
             have HR : Hid (fewPo d = false) := Lib.hid (by rw [HV7.out, HBad.out (by rw [HFX.out, decide_eq_false h2, Bool.and_false])]; try simp)
             go_wp2_with fail
             go_ret
             rw [HR.out]
             exact ⟨rfl, by first | exact hM2.below0 | (subst hg; exact hM2.below0)⟩
           ·have hi1 : (60 : Int) < (x.1.size : Int) := by omega
            have HR : Hid (fewPo d = false) := Lib.hid (by rw [HV7.out, HBad.out (by rw [HFX.out, decide_eq_false h1]; rfl)]; try simp)
            go_wp2_with fail
            go_ret
            rw [HR.out]
            exact ⟨rfl, by first | exact hM2.below0 | (subst hg; exact hM2.below0)⟩
          ·have hii : ¬ (i : Int) < (d.uses.length : Int) := by omega
           have HAll := Lib.hid (wall_full (p := fewBp) hil HE.out)
           clear HE hi
           have HV8 : Hid (fewPo d = d.reveal.all fewBp) := Lib.hid (by rw [HV7.out, HAll.out]; rfl)
           clear HV7 HAll
           have hM3 := hM2
           clear hM2
           go_upto_region 15 with fail
           clear hii pp
           go_loopg [6] d.reveal.length (fun m sk wx => ∃ i : Nat, i ≤ d.reveal.length ∧ m = d.reveal.length - i ∧ sk = .int .i64 (i : Int) ∧ Hp [] w [iblk g 29 (polcs d ⟨ua, uc, ra, rc, na, nc⟩)] wx ∧ Hid ((d.reveal.take i).all fewBp = true))
           case atStart => exact ⟨0, Nat.zero_le _, rfl, rfl, hM3, Lib.hid rfl⟩
           case round =>
            obtain ⟨i, hi, rfl, rfl, hM2, HE⟩ := hrel
            clear hM3
            have pp : wr.cell? ⟨g, 2, none⟩ = some (.slice ra d.reveal.length rc) := (hM2.blk 0 rfl).cell 2
            by_cases hil : i < d.reveal.length
            ·have hii : (i : Int) < (d.reveal.length : Int) := by omega
             have hi0 : (0 : Int) ≤ (i : Int) := by omega
             obtain ⟨x, hx⟩ : ∃ x, d.reveal[i]? = some x := ⟨_, List.getElem?_eq_getElem hil⟩
             obtain ⟨ad, hA, c1, c2⟩ := (hrv.up hM2.below0).at_ i x hx
             subst hA
             have HT : Hid ((d.reveal.take (i + 1)).all fewBp = fewBp x) := Lib.hid (by rw [wall_take hx, HE.out]; rfl)
             have HBad := Lib.hid (fun h => wall_bad (p := fewBp) hx h)
             have HFX : Hid (fewBp x = (decide (x.1.size ≤ 60) && decide (x.2.size ≤ 60))) := Lib.hid rfl
             clear hx HE
             by_cases h1 : x.1.size ≤ 60
             ·have hi1 : ¬ (60 : Int) < (x.1.size : Int) := by omega
              by_cases h2 : x.2.size ≤ 60
              ·have hi2 : ¬ (60 : Int) < (x.2.size : Int) := by omega
               have HT2 : Hid ((d.reveal.take (i + 1)).all fewBp = true) := Lib.hid (by rw [HT.out, HFX.out, decide_eq_true h1, decide_eq_true h2]; rfl)
               go_wp2_with fail
               go_roundg (d.reveal.length - (i + 1))
               case measure => omega
               case rel => exact ⟨i + 1, hil, rfl, by first | rfl | simp, hM2, HT2⟩
              ·have hi2 : (60 : Int) < (x.2.size : Int) := by omega
               have HR : Hid (fewPo d = false) := Lib.hid (by rw [HV8.out, HBad.out (by rw [HFX.out, decide_eq_false h2, Bool.and_false])]; try simp)
               go_wp2_with fail
               go_ret
               rw [HR.out]
               exact ⟨rfl, by first | exact hM2.below0 | (subst hg; exact hM2.below0)⟩
             ·have hi1 : (60 : Int) < (x.1.size : Int) := by omega
              have HR : Hid (fewPo d = false) := Lib.hid (by rw [HV8.out, HBad.out (by rw [HFX.out, decide_eq_false h1]; rfl)]; try simp)
              go_wp2_with fail
              go_ret
              rw [HR.out]
              exact ⟨rfl, by first | exact hM2.below0 | (subst hg; exact hM2.below0)⟩
            ·have hii : ¬ (i : Int) < (d.reveal.length : Int) := by omega
             have HAll := Lib.hid (wall_full (p := fewBp) hil HE.out)
             clear HE hi
             have HR : Hid (fewPo d = true) := Lib.hid (by rw [HV8.out, HAll.out])
             go_wp2_with fail
             go_ret
             rw [HR.out]
             exact ⟨rfl, by first | exact hM2.below0 | (subst hg; exact hM2.below0)⟩
      ·have ti5 : (60 : Int) < (d.escrow.size : Int) := by omega
       have HR : Hid (fewPo d = false) := Lib.hid (by rw [HV.out, decide_eq_false t5]; simp)
       go_wp2_with fail
       go_ret
       rw [HR.out]
       exact ⟨rfl, by first | exact hk.below0 | (subst hg; exact hk.below0)⟩
     ·have ti4 : (60 : Int) < (d.scope.size : Int) := by omega
      have HR : Hid (fewPo d = false) := Lib.hid (by rw [HV.out, decide_eq_false t4]; simp)
      go_wp2_with fail
      go_ret
      rw [HR.out]
      exact ⟨rfl, by first | exact hk.below0 | (subst hg; exact hk.below0)⟩
    ·have ti3 : (60 : Int) < (d.nodes.length : Int) := by omega
     have HR : Hid (fewPo d = false) := Lib.hid (by rw [HV.out, decide_eq_false t3]; simp)
     go_wp2_with fail
     go_ret
     rw [HR.out]
     exact ⟨rfl, by first | exact hk.below0 | (subst hg; exact hk.below0)⟩
   ·have ti2 : (20 : Int) < (d.reveal.length : Int) := by omega
    have HR : Hid (fewPo d = false) := Lib.hid (by rw [HV.out, decide_eq_false t2]; simp)
    go_wp2_with fail
    go_ret
    rw [HR.out]
    exact ⟨rfl, by first | exact hk.below0 | (subst hg; exact hk.below0)⟩
  ·have ti1 : (8 : Int) < (d.uses.length : Int) := by omega
   have HR : Hid (fewPo d = false) := Lib.hid (by rw [HV.out, decide_eq_false t1]; simp)
   go_wp2_with fail
   go_ret
   rw [HR.out]
   exact ⟨rfl, by first | exact hk.below0 | (subst hg; exact hk.below0)⟩
 ·have ti0 : (60 : Int) < (d.name.size : Int) := by omega
  have HR : Hid (fewPo d = false) := Lib.hid (by rw [HV.out, decide_eq_false t0]; simp)
  go_wp2_with fail
  go_ret
  rw [HR.out]
  exact ⟨rfl, by first | exact hk.below0 | (subst hg; exact hk.below0)⟩
end Go.Proofs.YtogmhaihmkcjgaaGreatDoor

/-
 Arguments of a card: a policy that comes in; the library's variables.
-/
namespace Go.Proofs.YtogmhaihmkcjgaaGreatDoor
open Go.RowKit Go.ChangeShapes Go.WideShapes Go.Deep Go.Joins
set_option linter.unusedVariables false

theorem glob_of_laid {W : World} {x1 x2 : String × DataW Unit} {rest : List (String × DataW Unit)}
  (h : laidMet Tryz.prog (x1 :: x2 :: ("internal/strconv.uint64pow10", Lib.tabData .u64 Lib.pow10Tab) :: rest) W) : Glob W := by
 have h3 := h.tail.tail
 have hT : (Tryz.prog.globalNamed "internal/strconv.uint64pow10").bind (fun g => (Tryz.prog.globals[g]?).map (·.type)) = some 329 := by kernel_rfl
 cases hg : Tryz.prog.globalNamed "internal/strconv.uint64pow10" with
 | none => rw [hg] at hT; cases hT
 | some g =>
  rw [hg] at hT
  exact ⟨Lib.tabIs_of_head (t := 329) (e := 306) (n := 20) hg hT (by kernel_rfl) (by kernel_rfl) (by kernel_rfl) (by kernel_rfl) h3⟩
theorem wchoose_list {α : Type} {R : Nat → α → Prop} : ∀ (n : Nat), (∀ i, i < n → ∃ x, R i x) → ∃ l : List α, l.length = n ∧ ∀ i x, l[i]? = some x → R i x
 | 0, _ => ⟨[], rfl, fun i x h => by simp at h⟩
 | n + 1, h => by
  obtain ⟨l, h1, h2⟩ := wchoose_list n (fun i hi => h i (by omega))
  obtain ⟨x, hx⟩ := h n (by omega)
  refine ⟨l ++ [x], by simp [h1], fun i y hy => ?_⟩
  rcases Nat.lt_or_ge i l.length with hl | hl
  ·rw [List.getElem?_append_left hl] at hy; exact h2 i y hy
  ·rw [List.getElem?_append_right hl] at hy
   rcases Nat.eq_zero_or_pos (i - l.length) with h0 | h0
   ·rw [h0] at hy
    cases hy
    rw [show i = n by omega]; exact hx
   ·rw [List.getElem?_eq_none (by simp; omega)] at hy; cases hy
theorem wadd_at (a : Addr) (k : Nat) (hk : 0 < k) : a.add k = ⟨a.block, a.off + k, none⟩ := by
 unfold Addr.add
 rw [if_neg (by omega)]
theorem w2_of {α : Type} {l : List α} (h : l.length = 2) : ∃ x0 x1, l = [x0, x1] := by
 match l, h with
 | [x0, x1], _ => exact ⟨x0, x1, rfl⟩
theorem w6_of {α : Type} {l : List α} (h : l.length = 6) : ∃ x0 x1 x2 x3 x4 x5, l = [x0, x1, x2, x3, x4, x5] := by
 match l, h with
 | [x0, x1, x2, x3, x4, x5], _ => exact ⟨x0, x1, x2, x3, x4, x5, rfl⟩
theorem w8_of {α : Type} {l : List α} (h : l.length = 8) : ∃ x0 x1 x2 x3 x4 x5 x6 x7, l = [x0, x1, x2, x3, x4, x5, x6, x7] := by
 match l, h with
 | [x0, x1, x2, x3, x4, x5, x6, x7], _ => exact ⟨x0, x1, x2, x3, x4, x5, x6, x7, rfl⟩
section
variable {H : Type} {enc : TypeId × Value → H} {P : Program} {W : World} {base : Nat} {spare : Nat → Bool} {held : Bool}
theorem wtrod_struct6 {t : TypeId} {f0 f1 f2 f3 f4 f5 : Field} {fuel : Nat} {cs : List Value} {x : DataW H × List MemPlace} (ht : P.underlying t = some (.struct #[f0, f1, f2, f3, f4, f5])) (h : DataW.trod enc P W base spare held fuel t cs = some x) :
  ∃ y0 y1 y2 y3 y4 y5 n, DataW.trod enc P W base spare held n f0.type ((cs.drop f0.offset).take (P.cellsOf f0.type)) = some y0 ∧ DataW.trod enc P W base spare held n f1.type ((cs.drop f1.offset).take (P.cellsOf f1.type)) = some y1 ∧ DataW.trod enc P W base spare held n f2.type ((cs.drop f2.offset).take (P.cellsOf f2.type)) = some y2 ∧ DataW.trod enc P W base spare held n f3.type ((cs.drop f3.offset).take (P.cellsOf f3.type)) = some y3 ∧ DataW.trod enc P W base spare held n f4.type ((cs.drop f4.offset).take (P.cellsOf f4.type)) = some y4 ∧ DataW.trod enc P W base spare held n f5.type ((cs.drop f5.offset).take (P.cellsOf f5.type)) = some y5 := by
 obtain ⟨xs, n, _, rfl, hl, hlen, hf⟩ := DataW.trod_struct ht h
 match xs, hlen with
 | [y0, y1, y2, y3, y4, y5], _ => exact ⟨y0, y1, y2, y3, y4, y5, n, by simpa using hf 0 f0 rfl, by simpa using hf 1 f1 rfl, by simpa using hf 2 f2 rfl, by simpa using hf 3 f3 rfl, by simpa using hf 4 f4 rfl, by simpa using hf 5 f5 rfl⟩
theorem wtrod_struct8 {t : TypeId} {f0 f1 f2 f3 f4 f5 f6 f7 : Field} {fuel : Nat} {cs : List Value} {x : DataW H × List MemPlace} (ht : P.underlying t = some (.struct #[f0, f1, f2, f3, f4, f5, f6, f7])) (h : DataW.trod enc P W base spare held fuel t cs = some x) :
  ∃ y0 y1 y2 y3 y4 y5 y6 y7 n, DataW.trod enc P W base spare held n f0.type ((cs.drop f0.offset).take (P.cellsOf f0.type)) = some y0 ∧ DataW.trod enc P W base spare held n f1.type ((cs.drop f1.offset).take (P.cellsOf f1.type)) = some y1 ∧ DataW.trod enc P W base spare held n f2.type ((cs.drop f2.offset).take (P.cellsOf f2.type)) = some y2 ∧ DataW.trod enc P W base spare held n f3.type ((cs.drop f3.offset).take (P.cellsOf f3.type)) = some y3 ∧ DataW.trod enc P W base spare held n f4.type ((cs.drop f4.offset).take (P.cellsOf f4.type)) = some y4 ∧ DataW.trod enc P W base spare held n f5.type ((cs.drop f5.offset).take (P.cellsOf f5.type)) = some y5 ∧ DataW.trod enc P W base spare held n f6.type ((cs.drop f6.offset).take (P.cellsOf f6.type)) = some y6 ∧ DataW.trod enc P W base spare held n f7.type ((cs.drop f7.offset).take (P.cellsOf f7.type)) = some y7 := by
 obtain ⟨xs, n, _, rfl, hl, hlen, hf⟩ := DataW.trod_struct ht h
 match xs, hlen with
 | [y0, y1, y2, y3, y4, y5, y6, y7], _ => exact ⟨y0, y1, y2, y3, y4, y5, y6, y7, n, by simpa using hf 0 f0 rfl, by simpa using hf 1 f1 rfl, by simpa using hf 2 f2 rfl, by simpa using hf 3 f3 rfl, by simpa using hf 4 f4 rfl, by simpa using hf 5 f5 rfl, by simpa using hf 6 f6 rfl, by simpa using hf 7 f7 rfl⟩
end
section
variable {H : Type} {enc : TypeId × Value → H} {W : World} {base : Nat} {spare : Nat → Bool} {held : Bool}
theorem open_ints {fuel : Nat} {cs : List Value} {x : DataW H × List MemPlace} (h : DataW.trod enc Tryz.prog W base spare held fuel 61 cs = some x) : ∃ A c l, cs = [.slice A l.length c] ∧ Ints W A l ∧ l.length ≤ c ∧ c ≤ maxLen := by
 rcases open_slice Tryz.underlying61 h with ⟨rfl, _⟩ | ⟨a, len, cap, m, n, D, Pl, rfl, hb, hl, hm, hmm, hx, hi⟩
 ·exact ⟨none, 0, [], rfl, ⟨fun i s hs => by simp at hs⟩, Nat.le_refl _, Nat.zero_le _⟩
 ·obtain ⟨l, h1, h2⟩ := wchoose_list (R := fun i (z : Int) => W.cell? (a.add i) = some (.int .i64 z)) len (fun i hi' => by
   obtain ⟨cs', hc, ht⟩ := hi i (by rw [hmm]; split <;> omega)
   obtain ⟨z, rfl, -, -⟩ := DataW.trod_int Tryz.underlying3 ht
   have hcl : Tryz.prog.cellsOf 3 = 1 := by kernel_rfl
   rw [hcl] at hc
   obtain ⟨_, _, hat⟩ := World.cells?_some hc
   refine ⟨z, ?_⟩
   have h9 := hat 0 (by omega)
   rw [Nat.mul_one] at h9
   have e : (a.add i).add 0 = a.add i := by simp [Addr.add]
   rw [e] at h9
   exact h9)
  exact ⟨some a, cap, l, by rw [h1], ⟨fun i s hs => ⟨a, rfl, h2 i s hs⟩⟩, by omega, hm⟩
theorem open_uses {fuel : Nat} {cs : List Value} {x : DataW H × List MemPlace} (h : DataW.trod enc Tryz.prog W base spare held fuel 25 cs = some x) : ∃ A c L, cs = [.slice A L.length c] ∧ Prs W A L ∧ L.length ≤ maxLen := by
 rcases open_slice Tryz.underlying25 h with ⟨rfl, _⟩ | ⟨a, len, cap, m, n, D, Pl, rfl, hb, hl, hm, hmm, hx, hi⟩
 ·exact ⟨none, 0, [], rfl, ⟨fun i s hs => by simp at hs⟩, Nat.zero_le _⟩
 ·obtain ⟨l, h1, h2⟩ := wchoose_list (R := fun i (x : Bp) => W.cell? (a.add (i * 2)) = some (.string x.1) ∧ W.cell? ⟨(a.add (i * 2)).block, (a.add (i * 2)).off + 1, none⟩ = some (.string x.2)) len (fun i hi' => by
   obtain ⟨cs', hc, ht⟩ := hi i (by rw [hmm]; split <;> omega)
   have hcl : Tryz.prog.cellsOf 50 = 2 := by kernel_rfl
   rw [hcl] at hc
   obtain ⟨_, hlen, hat⟩ := World.cells?_some hc
   obtain ⟨y0, y1, k, -, -, q0, q1⟩ := trod_struct2 Tryz.underlying50 ht
   obtain ⟨u0, u1, rfl⟩ := w2_of hlen
   have e1 : Tryz.prog.cellsOf 9 = 1 := by kernel_rfl
   simp only [e1, List.drop_zero, List.take_succ_cons, List.take_zero, List.drop_succ_cons] at q0 q1
   obtain ⟨z0, r0, -, -⟩ := DataW.trod_string Tryz.underlying9 q0
   obtain ⟨z1, r1, -, -⟩ := DataW.trod_string Tryz.underlying9 q1
   cases r0
   cases r1
   refine ⟨(z0, z1), ?_, ?_⟩
   ·have h9 := hat 0 (by omega)
    have e : (a.add (i * 2)).add 0 = a.add (i * 2) := by simp [Addr.add]
    rw [e] at h9
    exact h9
   ·have h9 := hat 1 (by omega)
    rw [wadd_at _ 1 (by omega)] at h9
    exact h9)
  exact ⟨some a, cap, l, by rw [h1], ⟨fun i f hf => ⟨a, rfl, h2 i f hf⟩⟩, by omega⟩
theorem open_refs {fuel : Nat} {cs : List Value} {x : DataW H × List MemPlace} (h : DataW.trod enc Tryz.prog W base spare held fuel 26 cs = some x) : ∃ A c L, cs = [.slice A L.length c] ∧ Prs W A L ∧ L.length ≤ maxLen := by
 rcases open_slice Tryz.underlying26 h with ⟨rfl, _⟩ | ⟨a, len, cap, m, n, D, Pl, rfl, hb, hl, hm, hmm, hx, hi⟩
 ·exact ⟨none, 0, [], rfl, ⟨fun i s hs => by simp at hs⟩, Nat.zero_le _⟩
 ·obtain ⟨l, h1, h2⟩ := wchoose_list (R := fun i (x : Bp) => W.cell? (a.add (i * 2)) = some (.string x.1) ∧ W.cell? ⟨(a.add (i * 2)).block, (a.add (i * 2)).off + 1, none⟩ = some (.string x.2)) len (fun i hi' => by
   obtain ⟨cs', hc, ht⟩ := hi i (by rw [hmm]; split <;> omega)
   have hcl : Tryz.prog.cellsOf 97 = 2 := by kernel_rfl
   rw [hcl] at hc
   obtain ⟨_, hlen, hat⟩ := World.cells?_some hc
   obtain ⟨y0, y1, k, -, -, q0, q1⟩ := trod_struct2 Tryz.underlying97 ht
   obtain ⟨u0, u1, rfl⟩ := w2_of hlen
   have e1 : Tryz.prog.cellsOf 9 = 1 := by kernel_rfl
   simp only [e1, List.drop_zero, List.take_succ_cons, List.take_zero, List.drop_succ_cons] at q0 q1
   obtain ⟨z0, r0, -, -⟩ := DataW.trod_string Tryz.underlying9 q0
   obtain ⟨z1, r1, -, -⟩ := DataW.trod_string Tryz.underlying9 q1
   cases r0
   cases r1
   refine ⟨(z0, z1), ?_, ?_⟩
   ·have h9 := hat 0 (by omega)
    have e : (a.add (i * 2)).add 0 = a.add (i * 2) := by simp [Addr.add]
    rw [e] at h9
    exact h9
   ·have h9 := hat 1 (by omega)
    rw [wadd_at _ 1 (by omega)] at h9
    exact h9)
  exact ⟨some a, cap, l, by rw [h1], ⟨fun i f hf => ⟨a, rfl, h2 i f hf⟩⟩, by omega⟩
theorem open_nodes {fuel : Nat} {cs : List Value} {x : DataW H × List MemPlace} (h : DataW.trod enc Tryz.prog W base spare held fuel 27 cs = some x) : ∃ A c L, cs = [.slice A L.length c] ∧ Nks W A L ∧ L.length ≤ maxLen ∧ ∀ n ∈ L, n.kids.length ≤ maxLen := by
 rcases open_slice Tryz.underlying27 h with ⟨rfl, _⟩ | ⟨a, len, cap, m, n, D, Pl, rfl, hb, hl, hm, hmm, hx, hi⟩
 ·exact ⟨none, 0, [], rfl, ⟨fun i s hs => by simp at hs⟩, Nat.zero_le _, fun n hn => (List.not_mem_nil hn).elim⟩
 ·obtain ⟨l, h1, h2⟩ := wchoose_list (R := fun i (f : Nk) => (∃ WA c, NodeAt W (a.add (i * 6)) f WA c) ∧ f.kids.length ≤ maxLen) len (fun i hi' => by
   obtain ⟨cs', hc, ht⟩ := hi i (by rw [hmm]; split <;> omega)
   have hcl : Tryz.prog.cellsOf 76 = 6 := by kernel_rfl
   rw [hcl] at hc
   obtain ⟨_, hlen, hat⟩ := World.cells?_some hc
   obtain ⟨y0, y1, y2, y3, y4, y5, k, q0, q1, q2, q3, q4, q5⟩ := wtrod_struct6 Tryz.underlying76 ht
   obtain ⟨u0, u1, u2, u3, u4, u5, rfl⟩ := w6_of hlen
   have e0 : Tryz.prog.cellsOf 3 = 1 := by kernel_rfl
   have e1 : Tryz.prog.cellsOf 9 = 1 := by kernel_rfl
   have e2 : Tryz.prog.cellsOf 61 = 1 := by kernel_rfl
   simp only [e0, e1, e2, List.drop_zero, List.take_succ_cons, List.take_zero, List.drop_succ_cons] at q0 q1 q2 q3 q4 q5
   obtain ⟨z0, r0, -, -⟩ := DataW.trod_int Tryz.underlying3 q0
   obtain ⟨z1, r1, -, -⟩ := DataW.trod_int Tryz.underlying3 q1
   obtain ⟨z2, r2, -, -⟩ := DataW.trod_string Tryz.underlying9 q2
   obtain ⟨z3, r3, -, -⟩ := DataW.trod_string Tryz.underlying9 q3
   obtain ⟨KA, kc, kl, r4, hk, hcap, hcm⟩ := open_ints q4
   obtain ⟨z5, r5, -, -⟩ := DataW.trod_int Tryz.underlying3 q5
   cases r0
   cases r1
   cases r2
   cases r3
   cases r4
   cases r5
   have hat' : ∀ j, 0 < j → j < 6 → W.cell? ⟨(a.add (i * 6)).block, (a.add (i * 6)).off + j, none⟩ = ([.int .i64 z0, .int .i64 z1, .string z2, .string z3, .slice KA kl.length kc, .int .i64 z5] : List Value)[j]? := fun j h0 h5 => by
    have h9 := hat j (by omega)
    rw [wadd_at _ j h0] at h9
    exact h9
   refine ⟨⟨z0, z1, z2, z3, kl, z5⟩, ⟨KA, kc, ?_, hat' 1 (by omega) (by omega), hat' 2 (by omega) (by omega), hat' 3 (by omega) (by omega), hat' 4 (by omega) (by omega), hat' 5 (by omega) (by omega), hk, hcap⟩, by show kl.length ≤ _; omega⟩
   have h9 := hat 0 (by omega)
   have e : (a.add (i * 6)).add 0 = a.add (i * 6) := by simp [Addr.add]
   rw [e] at h9
   exact h9)
  refine ⟨some a, cap, l, by rw [h1], ⟨fun i f hf => ?_⟩, by omega, fun n hn => ?_⟩
  ·obtain ⟨⟨WA, c, hh⟩, -⟩ := h2 i f hf
   exact ⟨a, WA, c, rfl, hh⟩
  ·obtain ⟨i, hi'⟩ := List.mem_iff_getElem?.1 hn
   exact (h2 i n hi').2
/-- bounds that every policy which comes in keeps -/
structure LBd (d : Po) : Prop where
 ul : d.uses.length ≤ maxLen
 rl : d.reveal.length ≤ maxLen
 nl : d.nodes.length ≤ maxLen
 kl : ∀ n ∈ d.nodes, n.kids.length ≤ maxLen
set_option maxRecDepth 20000 in
theorem open_policy {v : Value} {dd : DataW H} {p : List MemPlace} {r : Reach} {b0 : Nat} (hv : Value.okWide Tryz.prog W r b0 29 v) (h : DataW.Trod enc Tryz.prog W base spare held 29 v dd p) : ∃ d L, v = polV d L ∧ PolM W d L ∧ LBd d := by
 obtain ⟨cs, rfl, hsz⟩ := okWide_struct Tryz.underlying29 hv
 have hc : Tryz.prog.cellsOf 29 = 8 := by kernel_rfl
 rw [hc] at hsz
 obtain ⟨fuel, hf⟩ := h
 obtain ⟨y0, y1, y2, y3, y4, y5, y6, y7, n, q0, q1, q2, q3, q4, q5, q6, q7⟩ := wtrod_struct8 Tryz.underlying29 hf
 obtain ⟨cs⟩ := cs
 obtain ⟨u0, u1, u2, u3, u4, u5, u6, u7, rfl⟩ := w8_of (show cs.length = 8 from hsz)
 have e0 : Tryz.prog.cellsOf 9 = 1 := by kernel_rfl
 have e1 : Tryz.prog.cellsOf 25 = 1 := by kernel_rfl
 have e2 : Tryz.prog.cellsOf 26 = 1 := by kernel_rfl
 have e3 : Tryz.prog.cellsOf 27 = 1 := by kernel_rfl
 have e4 : Tryz.prog.cellsOf 3 = 1 := by kernel_rfl
 simp only [Value.cells, e0, e1, e2, e3, e4, List.drop_zero, List.take_succ_cons, List.take_zero, List.drop_succ_cons] at q0 q1 q2 q3 q4 q5 q6 q7
 obtain ⟨z0, r0, -, -⟩ := DataW.trod_string Tryz.underlying9 q0
 obtain ⟨ua, uc, ul, r1, hu, hu2⟩ := open_uses q1
 obtain ⟨ra, rc, rl, r2, hr, hr2⟩ := open_refs q2
 obtain ⟨na, nc, nl, r3, hn, hn2, hn3⟩ := open_nodes q3
 obtain ⟨z4, r4, -, -⟩ := DataW.trod_int Tryz.underlying3 q4
 obtain ⟨z5, r5, -, -⟩ := DataW.trod_string Tryz.underlying9 q5
 obtain ⟨z6, r6, -, -⟩ := DataW.trod_int Tryz.underlying3 q6
 obtain ⟨z7, r7, -, -⟩ := DataW.trod_string Tryz.underlying9 q7
 cases r0
 cases r1
 cases r2
 cases r3
 cases r4
 cases r5
 cases r6
 cases r7
 exact ⟨⟨z0, ul, rl, nl, z4, z5, z6, z7⟩, ⟨ua, uc, ra, rc, na, nc⟩, rfl, ⟨hu, hr, hn⟩, ⟨hu2, hr2, hn2, hn3⟩⟩
end
end Go.Proofs.YtogmhaihmkcjgaaGreatDoor
-- halved
