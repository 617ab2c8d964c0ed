/-
 dominoref43.Print; the statement PrinterPrints: the walk. Printed by mkwub.py.
-/
import Derived.Test.YtogmhaihmkcjgaaGreatDoorWrZ
import Derived.Test.YtogmhaihmkcjgaaGreatDoorWsB
import Derived.BigQuiet
import Derived.Deep.CutBlock
import Derived.Deep.DeepCutAuto
namespace Go.Proofs.YtogmhaihmkcjgaaGreatDoor
open Go.RowKit Go.Shelf
set_option linter.unusedVariables false

theorem cms_takeB (tt : Bp → List UInt8) {ks : List Bp} {i : Nat} {x : Bp} (h : ks[i]? = some x) : cms ((ks.take (i + 1)).map tt) = if i = 0 then tt x else cms ((ks.take i).map tt) ++ ([44, 32] ++ tt x) := by
 rw [take_at h, List.map_append, List.map_singleton, commas_snoc]
 have hl := (List.getElem?_eq_some_iff.1 h).1
 by_cases h0 : i = 0
 ·subst h0; rw [if_pos (by simp), if_pos rfl]
 ·rw [if_neg h0, if_neg]
  intro h9
  have := congrArg List.length h9
  simp only [List.length_map, List.length_take, List.length_nil] at this
  omega
theorem cms_prefB (tt : Bp → List UInt8) (ks : List Bp) : ∀ j, j ≤ ks.length → (cms ((ks.take j).map tt)).length ≤ (cms (ks.map tt)).length := by
 have step : ∀ m, m < ks.length → (cms ((ks.take m).map tt)).length ≤ (cms ((ks.take (m + 1)).map tt)).length := fun m hm => by
  rw [cms_takeB tt (List.getElem?_eq_getElem hm)]
  by_cases h0 : m = 0
  ·subst h0; simp [cms]
  ·rw [if_neg h0, List.length_append]; omega
 have key : ∀ m j, j + m = ks.length → (cms ((ks.take j).map tt)).length ≤ (cms (ks.map tt)).length := by
  intro m
  induction m with
  | zero => intro j hj; rw [List.take_of_length_le (by omega)]; exact Nat.le_refl _
  | succ m ih => intro j hj; exact Nat.le_trans (step j (by omega)) (ih (j + 1) (by omega))
 exact fun j hj => key (ks.length - j) j (by omega)
/-- the text up to the uses -/
def hdW (d : Po) : List UInt8 := [112, 111, 108, 105, 99, 121, 32] ++ tl d.name ++ [10] ++ [117, 115, 101, 115, 32]
def a1W (d : Po) : List UInt8 := hdW d ++ cms (d.uses.map useW) ++ [10]
def a2W (d : Po) : List UInt8 := a1W d ++ lineW (decide (0 < d.reveal.length)) [114, 101, 118, 101, 97, 108, 32] (cms (d.reveal.map refW))
def a3W (d : Po) : List UInt8 := a2W d ++ lineW (decide (Pa.rootK d ≠ 0)) [112, 114, 111, 118, 101, 32] (Pa.textN d.nodes 32 d.root)
def a4W (d : Po) : List UInt8 := a3W d ++ lineW (decide (d.scope.size ≠ 0)) [115, 99, 111, 112, 101, 32] (scopeW d)
def a5W (d : Po) : List UInt8 := a4W d ++ lineW (decide (d.escrow.size ≠ 0)) [101, 115, 99, 114, 111, 119, 32] (tl d.escrow)
theorem printW_a (d : Po) : printW d = a5W d ++ [101, 110, 100, 10] := by
 unfold printW a5W a4W a3W a2W a1W hdW
 simp [lineW]
structure RLen (d : Po) : Prop where
 hd : (hdW d).length ≤ 100
 us : (cms (d.uses.map useW)).length ≤ 272
 rv : (cms (d.reveal.map refW)).length ≤ 4300
 a1 : (a1W d).length ≤ 400
 a2 : (a2W d).length ≤ 5000
 a3 : (a3W d).length ≤ 62000
 a4 : (a4W d).length ≤ 63000
 a5 : (a5W d).length ≤ 64000
theorem rlen {d : Po} (h : PLen d) : RLen d := by
 have h1 := h.uses
 have h2 := h.reveal
 have h3 := h.name
 have h4 := h.scopeT
 have h5 := h.escrow
 have h6 := h.root
 have l1 := lineW_len (decide (0 < d.reveal.length)) [114, 101, 118, 101, 97, 108, 32] (cms (d.reveal.map refW))
 have l2 := lineW_len (decide (Pa.rootK d ≠ 0)) [112, 114, 111, 118, 101, 32] (Pa.textN d.nodes 32 d.root)
 have l3 := lineW_len (decide (d.scope.size ≠ 0)) [115, 99, 111, 112, 101, 32] (scopeW d)
 have l4 := lineW_len (decide (d.escrow.size ≠ 0)) [101, 115, 99, 114, 111, 119, 32] (tl d.escrow)
 simp only [List.length_cons, List.length_nil] at l1 l2 l3 l4
 have e0 : (hdW d).length ≤ 100 := by unfold hdW; simp only [List.length_append, List.length_cons, List.length_nil]; omega
 have e1 : (a1W d).length ≤ 400 := by unfold a1W; simp only [List.length_append, List.length_cons, List.length_nil]; omega
 have e2 : (a2W d).length ≤ 5000 := by unfold a2W; simp only [List.length_append]; omega
 have e3 : (a3W d).length ≤ 62000 := by unfold a3W; simp only [List.length_append]; omega
 have e4 : (a4W d).length ≤ 63000 := by unfold a4W; simp only [List.length_append]; omega
 have e5 : (a5W d).length ≤ 64000 := by unfold a5W; simp only [List.length_append]; omega
 exact ⟨e0, h1, h2, e1, e2, e3, e4, e5⟩
theorem uW_len {d : Po} (h : d.uses.length ≤ 1000000) : True := trivial
set_option maxRecDepth 20000 in
set_option maxHeartbeats 32000000 in
theorem rprint_any (d : Po) (L : Lp) (hB : PBd d) (w : World) (hP : PolM w d L) : Calls Tryz.prog 28 #[polV d L] w fun e w' => e = .returned (.tuple #[.string (prS d), .int .i64 (checkP d)]) ∧ Below w.heap.size w w' := by
 have hk0 := (Hp.start w).new 29 (polcs d L)
 obtain ⟨gp, hgp⟩ : ∃ x, w.heap.size = x := ⟨_, rfl⟩
 rw [hgp] at hk0
 go_enter Tryz.func28, Tryz.ntmps28
 go_upto_region 1 with fail
 try simp only [hgp]
 have hk1 : Hp [] w [iblk gp 29 (polcs d L)] (w.alloc (.cells #[.string d.name, .slice L.ua d.uses.length L.uc, .slice L.ra d.reveal.length L.rc, .slice L.na d.nodes.length L.nc, .int .i64 d.root, .string d.scope, .int .i64 d.limit, .string d.escrow] 29)) := hk0
 clear hk0
 generalize w.alloc (.cells #[.string d.name, .slice L.ua d.uses.length L.uc, .slice L.ra d.reveal.length L.rc, .slice L.na d.nodes.length L.nc, .int .i64 d.root, .string d.scope, .int .i64 d.limit, .string d.escrow] 29) = W1 at *
 obtain ⟨c0, c1, c2, c3, c4, c5, c6, c7⟩ := (hk1.blk 0 rfl).get8
 have HC := Lib.hid (rcheck_any d L hB W1 (hP.up hk1.below0))
 by_cases hE : checkP d = 0
 ·have hl := plen hE hB
  have HRL := Lib.hid (rlen hl)
  have HPL := Lib.hid hl
  have HT := Lib.hid (prS_ok hE)
  have HVT := Lib.hid (fun h0 h1 => vnode_text hE hB L (x := d.root) h0 h1)
  have HRK : Hid (∃ ad KA kc n, L.na = some ad ∧ d.nodes[d.root.toNat]? = some n ∧ 0 ≤ d.root ∧ d.root < (d.nodes.length : Int) ∧ Pa.rootK d = n.kind ∧ NodeAt w (ad.add (d.root.toNat * 6)) n KA kc) := Lib.hid (by
   obtain ⟨h0, n, hn, -⟩ := tree_wf (check_tree hE)
   obtain ⟨ad, KA, kc, hA, hN⟩ := hP.ns.at_ _ n hn
   have hlt := (List.getElem?_eq_some_iff.1 hn).1
   exact ⟨ad, KA, kc, n, hA, hn, h0, by omega, by unfold Pa.rootK; rw [hn], hN⟩)
  have HE0 := Lib.hid hE
  rw [hE] at HC
  have hsz := hB.name
  have hz1 : ¬ 9223372036854775807 < 7 + d.name.size := by omega
  have hz2 : ¬ 9223372036854775807 < 7 + d.name.size + 6 := by omega
  clear hE hl
  go_wp2_with fail
  refine HC.out.mono ?_
  rintro e w2 ⟨rfl, hb2⟩
  have hMs := hk1.next hb2
  clear HC hk1 hb2 c0 c1 c2 c3 c4 c5 c6 c7
  obtain ⟨c0, c1, c2, c3, c4, c5, c6, c7⟩ := (hMs.blk 0 rfl).get8
  go_upto_region 6 with fail
  clear hz1 hz2 c0 c1 c2 c3 c4 c5 c6 c7
  go_loopg [5, 6] d.uses.length (fun m s5 s6 wx => ∃ i : Nat, i ≤ d.uses.length ∧ m = d.uses.length - i ∧ s5 = .string (bs (hdW d ++ cms ((d.uses.take i).map useW))) ∧ s6 = .int .i64 (i : Int) ∧ Hp [] w [iblk gp 29 (polcs d L)] wx)
  case atStart => exact ⟨0, Nat.zero_le _, rfl, congrArg Value.string (by apply ByteArray.ext; simp only [ByteArray.data_append]; simp [bs, tl, hdW, cms]), rfl, hMs⟩
  case round =>
   obtain ⟨i, hi, rfl, rfl, rfl, hM⟩ := hrel
   clear hMs
   obtain ⟨c0, c1, c2, c3, c4, c5, c6, c7⟩ := (hM.blk 0 rfl).get8
   by_cases hil : i < d.uses.length
   ·have hii : (i : Int) < (d.uses.length : Int) := by omega
    have hi0 : (0 : Int) ≤ (i : Int) := by omega
    have hw3 : IntKind.i64.wrap ((i : Int) + 1) = ((i + 1 : Nat) : Int) := IntWalk.i64_in _ (by have := hB.ul; omega)
    obtain ⟨⟨x1, x2⟩, hx⟩ : ∃ x, d.uses[i]? = some x := ⟨_, List.getElem?_eq_getElem hil⟩
    have HTK := Lib.hid (cms_takeB useW hx)
    have hpre := cms_prefB useW d.uses (i + 1) hil
    have hRl := HRL.out.us
    have hRh := HRL.out.hd
    obtain ⟨ad, hA, ca, cb⟩ := (hP.us.up hM.below0).at_ i _ hx
    rw [hA] at c1
    simp only at ca cb
    clear hA
    obtain ⟨acc, hacc⟩ : ∃ a, hdW d ++ cms ((d.uses.take i).map useW) = a := ⟨_, rfl⟩
    rw [hacc]
    by_cases h0 : i = 0
    ·have hj1 : ¬ (0 : Int) < (i : Int) := by omega
     have hj2 : ¬ 0 < i := by omega
     have HE : Hid (hdW d ++ cms ((d.uses.take (i + 1)).map useW) = acc ++ [] ++ useW (x1, x2)) := Lib.hid (by
      rw [← hacc, HTK.out, if_pos h0]
      subst h0
      simp [cms])
     have hla : acc.length + 0 + (x1.size + 2 + x2.size) ≤ 70000 := by
      have := congrArg List.length HE.out
      skip
      simp only [List.length_append, List.length_cons, List.length_nil, length_tl] at this
      omega
     have hz0 : ¬ 9223372036854775807 < (bs acc).size := by rw [size_bs]; omega
     have hz1 : ¬ 9223372036854775807 < (bs acc).size + x1.size := by rw [size_bs]; omega
     have hz2 : ¬ 9223372036854775807 < (bs acc).size + x1.size + 2 := by rw [size_bs]; omega
     have hz3 : ¬ 9223372036854775807 < (bs acc).size + x1.size + 2 + x2.size := by rw [size_bs]; omega
     clear HTK h0 hpre hacc hla hx
     go_upto_region 10 with fail
     go_quiet (fail)
     go_wp2_with fail
     go_roundg (d.uses.length - (i + 1))
     case measure => omega
     case rel => exact ⟨i + 1, hil, rfl, by rw [HE.out]; exact congrArg Value.string (by apply ByteArray.ext; simp only [ByteArray.data_append]; simp [bs, tl]), by first | rfl | simp, hM.drewN nq⟩
    ·have hj1 : (0 : Int) < (i : Int) := by omega
     have hj2 : 0 < i := by omega
     have HE : Hid (hdW d ++ cms ((d.uses.take (i + 1)).map useW) = acc ++ [44, 32] ++ useW (x1, x2)) := Lib.hid (by
      rw [← hacc, HTK.out, if_neg h0]
      skip
      simp only [List.append_assoc]; try simp)
     have hla : acc.length + 2 + (x1.size + 2 + x2.size) ≤ 70000 := by
      have := congrArg List.length HE.out
      skip
      simp only [List.length_append, List.length_cons, List.length_nil, length_tl] at this
      omega
     have hz0 : ¬ 9223372036854775807 < (bs acc).size + 2 := by rw [size_bs]; omega
     have hz1 : ¬ 9223372036854775807 < (bs acc).size + 2 + x1.size := by rw [size_bs]; omega
     have hz2 : ¬ 9223372036854775807 < (bs acc).size + 2 + x1.size + 2 := by rw [size_bs]; omega
     have hz3 : ¬ 9223372036854775807 < (bs acc).size + 2 + x1.size + 2 + x2.size := by rw [size_bs]; omega
     clear HTK h0 hpre hacc hla hx
     go_upto_region 10 with fail
     go_quiet (fail)
     go_wp2_with fail
     go_roundg (d.uses.length - (i + 1))
     case measure => omega
     case rel => exact ⟨i + 1, hil, rfl, by rw [HE.out]; exact congrArg Value.string (by apply ByteArray.ext; simp only [ByteArray.data_append]; simp [bs, tl]), by first | rfl | simp, hM.drewN nq⟩
   ·have hii : ¬ (i : Int) < (d.uses.length : Int) := by omega
    have hil2 : i = d.uses.length := by omega
    obtain ⟨tu, htu⟩ : ∃ t, hdW d ++ cms ((d.uses.take i).map useW) = t := ⟨_, rfl⟩
    rw [htu]
    have HX : Hid (tu = hdW d ++ cms ((d.uses.take d.uses.length).map useW)) := Lib.hid (by rw [← htu, hil2])
    clear hi hil hil2 htu
    have HA1 : Hid (bs tu ++ (⟨#[10]⟩ : ByteArray) = bs (a1W d) ∧ tu.length ≤ 1000) := Lib.hid (by
     have e := HX.out
     rw [List.take_length] at e
     refine ⟨?_, ?_⟩
     ·rw [e]; unfold a1W; apply ByteArray.ext; simp only [ByteArray.data_append]; simp [bs]
     ·have := HRL.out.hd
      have := HRL.out.us
      rw [e, List.length_append]; omega)
    have hz1 : ¬ 9223372036854775807 < (bs tu).size + 1 := by
     have := HA1.out.2
     rw [size_bs]; omega
    have hMs := hM
    clear hM HX
    go_upto_region 13 with fail
    clear hz1 c0 c1 c2 c3 c4 c5 c6 c7 hii
    rw [HA1.out.1]
    clear HA1
    go_loopg [5, 7] d.reveal.length (fun m s5 s7 wx => ∃ i : Nat, i ≤ d.reveal.length ∧ m = d.reveal.length - i ∧ s5 = .string (bs (a1W d ++ (if i = 0 then [] else [114, 101, 118, 101, 97, 108, 32] ++ cms ((d.reveal.take i).map refW)))) ∧ s7 = .int .i64 (i : Int) ∧ Hp [] w [iblk gp 29 (polcs d L)] wx)
    case atStart => exact ⟨0, Nat.zero_le _, rfl, congrArg Value.string (by apply ByteArray.ext; simp [bs, a1W]), rfl, hMs⟩
    case round =>
     obtain ⟨i, hi, rfl, rfl, rfl, hM⟩ := hrel
     clear hMs
     obtain ⟨c0, c1, c2, c3, c4, c5, c6, c7⟩ := (hM.blk 0 rfl).get8
     by_cases hil : i < d.reveal.length
     ·have hii : (i : Int) < (d.reveal.length : Int) := by omega
      have hi0 : (0 : Int) ≤ (i : Int) := by omega
      have hw3 : IntKind.i64.wrap ((i : Int) + 1) = ((i + 1 : Nat) : Int) := IntWalk.i64_in _ (by have := hB.rl; omega)
      obtain ⟨⟨x1, x2⟩, hx⟩ : ∃ x, d.reveal[i]? = some x := ⟨_, List.getElem?_eq_getElem hil⟩
      have HTK := Lib.hid (cms_takeB refW hx)
      have hpre := cms_prefB refW d.reveal (i + 1) hil
      have hRl := HRL.out.rv
      have hRh := HRL.out.a1
      obtain ⟨ad, hA, ca, cb⟩ := (hP.rv.up hM.below0).at_ i _ hx
      rw [hA] at c2
      simp only at ca cb
      clear hA
      obtain ⟨acc, hacc⟩ : ∃ a, a1W d ++ (if i = 0 then [] else [114, 101, 118, 101, 97, 108, 32] ++ cms ((d.reveal.take i).map refW)) = a := ⟨_, rfl⟩
      rw [hacc]
      by_cases h0 : i = 0
      ·have hj1 : ((i : Int) == 0) = true := by simp; omega
       have hj2 : (i == 0) = true := by simp; omega
       have HE : Hid (a1W d ++ (if (i + 1) = 0 then [] else [114, 101, 118, 101, 97, 108, 32] ++ cms ((d.reveal.take (i + 1)).map refW)) = acc ++ [114, 101, 118, 101, 97, 108, 32] ++ refW (x1, x2)) := Lib.hid (by
        rw [← hacc, if_neg (by omega), HTK.out, if_pos h0]
        subst h0
        simp)
       have hla : acc.length + 7 + (x1.size + 1 + x2.size) ≤ 70000 := by
        have := congrArg List.length HE.out
        rw [if_neg (show ¬ (i + 1 = 0) by omega)] at this
        simp only [List.length_append, List.length_cons, List.length_nil, length_tl] at this
        omega
       have hz0 : ¬ 9223372036854775807 < (bs acc).size + 7 := by rw [size_bs]; omega
       have hz1 : ¬ 9223372036854775807 < (bs acc).size + 7 + x1.size := by rw [size_bs]; omega
       have hz2 : ¬ 9223372036854775807 < (bs acc).size + 7 + x1.size + 1 := by rw [size_bs]; omega
       have hz3 : ¬ 9223372036854775807 < (bs acc).size + 7 + x1.size + 1 + x2.size := by rw [size_bs]; omega
       clear HTK h0 hpre hacc hla hx
       go_upto_region 18 with fail
       go_quiet (fail)
       go_wp2_with fail
       go_roundg (d.reveal.length - (i + 1))
       case measure => omega
       case rel => exact ⟨i + 1, hil, rfl, by rw [HE.out]; exact congrArg Value.string (by apply ByteArray.ext; simp only [ByteArray.data_append]; simp [bs, tl]), by first | rfl | simp, hM.drewN nq⟩
      ·have hj1 : ((i : Int) == 0) = false := by simp; omega
       have hj2 : (i == 0) = false := by simp; omega
       have HE : Hid (a1W d ++ (if (i + 1) = 0 then [] else [114, 101, 118, 101, 97, 108, 32] ++ cms ((d.reveal.take (i + 1)).map refW)) = acc ++ [44, 32] ++ refW (x1, x2)) := Lib.hid (by
        rw [← hacc, if_neg (by omega), HTK.out, if_neg h0]
        skip
        rw [if_neg h0]; simp)
       have hla : acc.length + 2 + (x1.size + 1 + x2.size) ≤ 70000 := by
        have := congrArg List.length HE.out
        rw [if_neg (show ¬ (i + 1 = 0) by omega)] at this
        simp only [List.length_append, List.length_cons, List.length_nil, length_tl] at this
        omega
       have hz0 : ¬ 9223372036854775807 < (bs acc).size + 2 := by rw [size_bs]; omega
       have hz1 : ¬ 9223372036854775807 < (bs acc).size + 2 + x1.size := by rw [size_bs]; omega
       have hz2 : ¬ 9223372036854775807 < (bs acc).size + 2 + x1.size + 1 := by rw [size_bs]; omega
       have hz3 : ¬ 9223372036854775807 < (bs acc).size + 2 + x1.size + 1 + x2.size := by rw [size_bs]; omega
       clear HTK h0 hpre hacc hla hx
       go_upto_region 18 with fail
       go_quiet (fail)
       go_wp2_with fail
       go_roundg (d.reveal.length - (i + 1))
       case measure => omega
       case rel => exact ⟨i + 1, hil, rfl, by rw [HE.out]; exact congrArg Value.string (by apply ByteArray.ext; simp only [ByteArray.data_append]; simp [bs, tl]), by first | rfl | simp, hM.drewN nq⟩
     ·have hii : ¬ (i : Int) < (d.reveal.length : Int) := by omega
      have hil2 : i = d.reveal.length := by omega
      obtain ⟨tu, htu⟩ : ∃ t, a1W d ++ (if i = 0 then [] else [114, 101, 118, 101, 97, 108, 32] ++ cms ((d.reveal.take i).map refW)) = t := ⟨_, rfl⟩
      rw [htu]
      have HX : Hid (tu = a1W d ++ (if d.reveal.length = 0 then [] else [114, 101, 118, 101, 97, 108, 32] ++ cms ((d.reveal.take d.reveal.length).map refW))) := Lib.hid (by rw [← htu, hil2])
      clear hi hil hil2 htu
      have HA2 : Hid (a2W d = if 0 < d.reveal.length then tu ++ [10] else tu) := Lib.hid (by
       have e := HX.out
       rw [List.take_length] at e
       unfold a2W lineW
       rw [e]
       by_cases h : 0 < d.reveal.length
       ·have h9 : ¬ d.reveal.length = 0 := by omega
        simp [h, h9]
       ·have h9 : d.reveal.length = 0 := by omega
        simp [h9])
      have hR2 := HRL.out.a2
      clear HX
      go_upto_if 78 with fail
      clear hii
      go_cut [5, 78] from 79 to 80 (fun s5 s78 wx => s5 = .string (bs (a2W d)) ∧ wr = wx)
      case first => as_aux_lemma =>
       clear HRK HVT HT HRL HPL hM
       by_cases hr : 0 < d.reveal.length
       ·have hr2 : (0 : Int) < (d.reveal.length : Int) := by omega
        have HE : Hid (tu ++ [10] = a2W d) := Lib.hid (by rw [HA2.out, if_pos hr])
        have hz1 : ¬ 9223372036854775807 < (bs tu).size + 1 := by
         have := congrArg List.length HE.out
         rw [List.length_append, List.length_singleton] at this
         rw [size_bs]; omega
        clear HA2 hr
        go_wp2_with fail
        go_meet
        exact ⟨congrArg Value.string (by rw [← HE.out]; apply ByteArray.ext; simp only [ByteArray.data_append]; simp [bs]), rfl⟩
       ·have hr2 : ¬ (0 : Int) < (d.reveal.length : Int) := by omega
        have HE : Hid (tu = a2W d) := Lib.hid (by rw [HA2.out, if_neg hr])
        clear HA2 hr
        go_wp2_with fail
        go_meet
        exact ⟨by rw [HE.out], rfl⟩
      case rest => as_aux_lemma =>
       obtain ⟨rfl, rfl⟩ := hcut
       obtain ⟨ad, KA, kc, n, hA, hn, h0, h1, hkn, hNd⟩ := HRK.out
       have hkind := (hNd.up hM.below0).kind
       have hrn : d.root = (d.root.toNat : Int) := by omega
       obtain ⟨rt, hrt⟩ : ∃ k : Nat, d.root.toNat = k := ⟨_, rfl⟩
       rw [hrt] at hkind hrn
       have c3' : wr.cell? ⟨gp, 3, none⟩ = some (.slice (some ad) d.nodes.length L.nc) := by rw [← hA]; exact (hM.blk 0 rfl).cell 3
       have c4' : wr.cell? ⟨gp, 4, none⟩ = some (.int .i64 (rt : Int)) := by rw [← hrn]; exact (hM.blk 0 rfl).cell 4
       have hrt0 : (0 : Int) ≤ (rt : Int) := by omega
       have hrt1 : (rt : Int) < (d.nodes.length : Int) := by omega
       have HRT := Lib.hid hrn
       clear c0 c1 c2 c3 c4 c5 c6 c7 hA hn hNd HRK hrt
       go_upto_if 88 with fail
       have HA3 : Hid (a3W d = a2W d ++ (if n.kind = 0 then [] else [112, 114, 111, 118, 101, 32] ++ Pa.textN d.nodes 32 d.root ++ [10])) := Lib.hid (by unfold a3W lineW; rw [hkn]; by_cases h : n.kind = 0 <;> simp [h])
       have hV := HVT.out h0 h1
       clear HVT h0 h1 hkn hrn
       go_cut [5, 88] from 89 to 96 (fun s5 s88 wx => s5 = .string (bs (a3W d)) ∧ Hp [] w [iblk gp 29 (polcs d L)] wx)
       case first => as_aux_lemma =>
        have hR3 := HRL.out.a3
        obtain ⟨c0, c1, c2, c3, c4, c5, c6, c7⟩ := (hM.blk 0 rfl).get8
        by_cases hk : n.kind = 0
        ·have hk2 : (n.kind == 0) = true := by simpa using hk
         have hk3 : (n.kind != 0) = false := by simpa using hk
         have HE : Hid (a3W d = a2W d) := Lib.hid (by rw [HA3.out, if_pos hk, List.append_nil])
         clear HA3 hk
         go_wp2_with fail
         go_meet
         exact ⟨by rw [HE.out], hM⟩
        ·have hk2 : (n.kind == 0) = false := by simpa using hk
         have hk3 : (n.kind != 0) = true := by simpa using hk
         have HE : Hid (a3W d = a2W d ++ ([112, 114, 111, 118, 101, 32] ++ Pa.textN d.nodes 32 d.root ++ [10])) := Lib.hid (by rw [HA3.out, if_neg hk])
         have HA := Lib.hid (hV wr (hP.up hM.below0))
         have hlen := congrArg List.length HE.out
         clear HA3 hk hV
         generalize Pa.textN d.nodes 32 d.root = tx at *
         simp only [List.length_append, List.length_cons, List.length_nil] at hlen
         generalize a3W d = a3 at *
         generalize a2W d = a2 at *
         have hz1 : ¬ 9223372036854775807 < (bs a2).size + 6 := by rw [size_bs]; omega
         have hz2 : ¬ 9223372036854775807 < (bs a2).size + 6 + (bs tx).size := by rw [size_bs, size_bs]; omega
         have hz3 : ¬ 9223372036854775807 < (bs a2).size + 6 + (bs tx).size + 1 := by rw [size_bs, size_bs]; omega
         clear hlen c3' c4'
         go_wp2_with fail
         refine HA.out.mono ?_
         rintro e w4 ⟨rfl, hb4⟩
         go_wp2_with fail
         go_meet
         exact ⟨congrArg Value.string (by rw [HE.out]; apply ByteArray.ext; simp only [ByteArray.data_append]; simp [bs]), hM.next hb4⟩
       case rest => as_aux_lemma =>
        obtain ⟨rfl, hM4⟩ := hcut
        obtain ⟨c0, c1, c2, c3, c4, c5, c6, c7⟩ := (hM4.blk 0 rfl).get8
        clear hM hV HA2 HA3 c3' c4' hkind
        go_upto_if 99 with fail
        go_cut [5, 99] from 100 to 116 (fun s5 s99 wx => s5 = .string (bs (a4W d)) ∧ Hp [] w [iblk gp 29 (polcs d L)] wx)
        case first => as_aux_lemma =>
         have hR4 := HRL.out.a4
         have hsc := HPL.out.scope
         rw [length_tl] at hsc
         have hR3 := HRL.out.a3
         by_cases hs : d.scope.size = 0
         ·have he : (!d.scope.toList.isEmpty) = false := by have := ne_size d.scope; rw [decide_eq_false (by simpa using hs)] at this; simpa using this
          have HE : Hid (a4W d = a3W d) := Lib.hid (by unfold a4W lineW; rw [decide_eq_false (by simpa using hs)]; simp)
          clear hs
          simp only [he]
          go_wp2_with fail
          go_meet
          exact ⟨by rw [HE.out], hM4⟩
         ·have he : (!d.scope.toList.isEmpty) = true := by have := ne_size d.scope; rw [decide_eq_true hs] at this; simpa using this
          have HE : Hid (a4W d = a3W d ++ ([115, 99, 111, 112, 101, 32] ++ scopeW d ++ [10])) := Lib.hid (by unfold a4W lineW; rw [decide_eq_true hs]; rfl)
          generalize a4W d = a4 at *
          generalize a3W d = a3 at *
          have hz1 : ¬ 9223372036854775807 < (bs a3).size + 7 := by rw [size_bs]; omega
          have hz2 : ¬ 9223372036854775807 < (bs a3).size + 7 + d.scope.size := by rw [size_bs]; omega
          have hz3 : ¬ 9223372036854775807 < (bs a3).size + 7 + d.scope.size + 1 := by rw [size_bs]; omega
          by_cases hlim : 0 < d.limit
          ·have HS : Hid (a4 = a3 ++ ([115, 99, 111, 112, 101, 32, 39] ++ tl d.scope ++ [39] ++ [32, 108, 105, 109, 105, 116, 32] ++ Lib.itoa d.limit ++ [10])) := Lib.hid (by rw [HE.out]; unfold scopeW; rw [if_pos hlim]; simp)
           have hl0 := HPL.out.lim0
           have hl1 := HPL.out.lim1
           have hil := Lib.itoa_length_le d.limit (by omega) (by omega)
           have HA := Lib.hid (vdecimal_any d.limit (by omega) (by omega) wc)
           have hz4 : ¬ 9223372036854775807 < (bs a3).size + 7 + d.scope.size + 1 + 7 := by rw [size_bs]; omega
           have hz5 : ¬ 9223372036854775807 < (bs a3).size + 7 + d.scope.size + 1 + 7 + (bs (Lib.itoa d.limit)).size := by rw [size_bs, size_bs]; omega
           have hz6 : ¬ 9223372036854775807 < (bs a3).size + 7 + d.scope.size + 1 + 7 + (bs (Lib.itoa d.limit)).size + 1 := by rw [size_bs, size_bs]; omega
           generalize Lib.itoa d.limit = ti at *
           clear HE hs hsc hil
           simp only [he]
           go_wp2_with fail
           refine HA.out.mono ?_
           rintro e w4 ⟨rfl, hb4⟩
           go_wp2_with fail
           go_meet
           exact ⟨congrArg Value.string (by rw [HS.out]; apply ByteArray.ext; simp only [ByteArray.data_append]; simp [bs, tl]), hM4.next hb4⟩
          ·have HS : Hid (a4 = a3 ++ ([115, 99, 111, 112, 101, 32, 39] ++ tl d.scope ++ [39] ++ [10])) := Lib.hid (by rw [HE.out]; unfold scopeW; rw [if_neg hlim]; simp)
           have hz4 : ¬ 9223372036854775807 < (bs a3).size + 7 + d.scope.size + 1 + 1 := by rw [size_bs]; omega
           clear HE hs hsc
           simp only [he]
           go_wp2_with fail
           go_meet
           exact ⟨congrArg Value.string (by rw [HS.out]; apply ByteArray.ext; simp only [ByteArray.data_append]; simp [bs, tl]), hM4⟩
        case rest => as_aux_lemma =>
         obtain ⟨rfl, hM5⟩ := hcut
         clear c0 c1 c2 c3 c4 c5 c6 c7
         obtain ⟨c0, c1, c2, c3, c4, c5, c6, c7⟩ := (hM5.blk 0 rfl).get8
         clear hM4
         go_upto_if 119 with fail
         go_cut [5, 119] from 120 to 125 (fun s5 s119 wx => s5 = .string (bs (a5W d)) ∧ wc = wx)
         case first => as_aux_lemma =>
          have hR4 := HRL.out.a4
          have hes := HPL.out.escrow
          rw [length_tl] at hes
          by_cases hs : d.escrow.size = 0
          ·have he : (!d.escrow.toList.isEmpty) = false := by have := ne_size d.escrow; rw [decide_eq_false (by simpa using hs)] at this; simpa using this
           have HE : Hid (a5W d = a4W d) := Lib.hid (by unfold a5W lineW; rw [decide_eq_false (by simpa using hs)]; simp)
           clear hs
           simp only [he]
           go_wp2_with fail
           go_meet
           exact ⟨by rw [HE.out], rfl⟩
          ·have he : (!d.escrow.toList.isEmpty) = true := by have := ne_size d.escrow; rw [decide_eq_true hs] at this; simpa using this
           have HE : Hid (a5W d = a4W d ++ ([101, 115, 99, 114, 111, 119, 32] ++ tl d.escrow ++ [10])) := Lib.hid (by unfold a5W lineW; rw [decide_eq_true hs]; rfl)
           generalize a5W d = a5 at *
           generalize a4W d = a4 at *
           have hz1 : ¬ 9223372036854775807 < (bs a4).size + 7 := by rw [size_bs]; omega
           have hz2 : ¬ 9223372036854775807 < (bs a4).size + 7 + d.escrow.size := by rw [size_bs]; omega
           have hz3 : ¬ 9223372036854775807 < (bs a4).size + 7 + d.escrow.size + 1 := by rw [size_bs]; omega
           clear hs hes
           simp only [he]
           go_wp2_with fail
           go_meet
           exact ⟨congrArg Value.string (by rw [HE.out]; apply ByteArray.ext; simp only [ByteArray.data_append]; simp [bs, tl]), rfl⟩
         case rest => as_aux_lemma =>
          obtain ⟨rfl, rfl⟩ := hcut
          have hR5 := HRL.out.a5
          have hz1 : ¬ 9223372036854775807 < (bs (a5W d)).size + 4 := by rw [size_bs]; omega
          have HF : Hid (prS d = bs (a5W d) ++ (⟨#[101, 110, 100, 10]⟩ : ByteArray)) := Lib.hid (by rw [HT.out, printW_a]; apply ByteArray.ext; simp only [ByteArray.data_append]; simp [bs])
          clear HT
          go_wp2_with fail
          go_ret2
          rw [HF.out, HE0.out]
          exact ⟨rfl, by first | exact hM5.below0 | (subst hgp; exact hM5.below0)⟩
 ·have HR := Lib.hid (prS_bad hE)
  obtain ⟨E, hEE⟩ : ∃ x, checkP d = x := ⟨_, rfl⟩
  rw [hEE] at hE HC
  have HEE := Lib.hid hEE
  clear hEE
  have hE1 : (E == 0) = false := by simpa using hE
  have hE2 : (E != 0) = true := by simpa using hE
  go_wp2_with fail
  refine HC.out.mono ?_
  rintro e w2 ⟨rfl, hb2⟩
  have hk2 := hk1.next hb2
  clear HC hk1 c0 c1 c2 c3 c4 c5 c6 c7
  go_wp2_with fail
  go_ret2
  rw [HR.out, HEE.out]
  exact ⟨rfl, by first | exact hk2.below0 | (subst hgp; exact hk2.below0)⟩
set_option maxRecDepth 20000 in
set_option maxHeartbeats 8000000 in
theorem prints_walk (d : Po) (L : Lp) (w : World) (hP : PolM w d L) (hG : Glob w) : Calls Tryz.prog 6 #[polV d L] w fun e w' => e = .returned (.bool true) ∧ Below w.heap.size w w' := by
 have HAW : Hid (∀ (it : List It) (V : World), Hp [] w it V → Calls Tryz.prog 27 #[] V fun e w' => e = .returned (.bool true) ∧ Hp [] w it w' ∧ Below V.heap.size V w') := Lib.hid fun it V h => (awake43_any V (hG.up h.below0)).mono fun e w' h9 => ⟨h9.1, h.next h9.2, h9.2⟩
 have hk0 := (Hp.start w).new 29 (polcs d L)
 obtain ⟨gp, hgp⟩ : ∃ x, w.heap.size = x := ⟨_, rfl⟩
 rw [hgp] at hk0
 have HF := Lib.hid (fun V h => few_any d L V h)
 go_enter Tryz.func6, Tryz.ntmps6
 go_upto_region 1 with fail
 try simp only [hgp]
 have hk1 : Hp [] w [iblk gp 29 (polcs d L)] (w.alloc (.cells #[.string d.name, .slice L.ua d.uses.length L.uc, .slice L.ra d.reveal.length L.rc, .slice L.na d.nodes.length L.nc, .int .i64 d.root, .string d.scope, .int .i64 d.limit, .string d.escrow] 29)) := hk0
 clear hk0
 generalize w.alloc (.cells #[.string d.name, .slice L.ua d.uses.length L.uc, .slice L.ra d.reveal.length L.rc, .slice L.na d.nodes.length L.nc, .int .i64 d.root, .string d.scope, .int .i64 d.limit, .string d.escrow] 29) = W1 at *
 obtain ⟨c0, c1, c2, c3, c4, c5, c6, c7⟩ := (hk1.blk 0 rfl).get8
 have HA := Lib.hid (HF.out W1 (hP.up hk1.below0))
 cases hfew : fewPo d with
 | false =>
  rw [hfew] at HA
  clear hfew HF
  go_wp2_with fail
  refine HA.out.mono ?_
  rintro e w2 ⟨rfl, hb2⟩
  have hk2 := hk1.next hb2
  clear HA hk1 hb2 c0 c1 c2 c3 c4 c5 c6 c7
  have HA := Lib.hid (HAW.out _ _ hk2)
  go_wp2_with fail
  refine HA.out.mono ?_
  rintro e w3 ⟨rfl, hk3, -⟩
  go_wp2_with fail
  go_ret
  exact ⟨rfl, by first | exact hk3.below0 | (subst hgp; exact hk3.below0)⟩
 | true =>
  have hB := few_pbd hfew
  rw [hfew] at HA
  clear hfew HF
  go_wp2_with fail
  refine HA.out.mono ?_
  rintro e w2 ⟨rfl, hb2⟩
  have hk2 := hk1.next hb2
  clear HA hk1 hb2 c0 c1 c2 c3 c4 c5 c6 c7
  obtain ⟨c0, c1, c2, c3, c4, c5, c6, c7⟩ := (hk2.blk 0 rfl).get8
  have HA := Lib.hid (print_any d L hB w2 (hP.up hk2.below0) (hG.up hk2.below0))
  have HR := Lib.hid (fun V h => rprint_any d L hB V h)
  generalize checkP d = E at *
  generalize prS d = S at *
  have hE3 : (E == E) = true := beq_self_eq_true _
  have hS3 : (S.toList == S.toList) = true := beq_self_eq_true _
  go_wp2_with fail
  refine HA.out.mono ?_
  rintro e w3 ⟨rfl, hb3⟩
  have hk3 := hk2.next hb3
  clear HA hk2 hb3 c0 c1 c2 c3 c4 c5 c6 c7
  obtain ⟨c0, c1, c2, c3, c4, c5, c6, c7⟩ := (hk3.blk 0 rfl).get8
  have HA := Lib.hid (HR.out w3 (hP.up hk3.below0))
  go_wp2_with fail
  refine HA.out.mono ?_
  rintro e w4 ⟨rfl, hb4⟩
  have hk4 := hk3.next hb4
  clear HA hk3 hb4 c0 c1 c2 c3 c4 c5 c6 c7
  have HA := Lib.hid (HAW.out _ _ hk4)
  go_wp2_with fail
  refine HA.out.mono ?_
  rintro e w7 ⟨rfl, hk7, hb7⟩
  go_wp2_with fail
  go_ret
  exact ⟨rfl, by first | exact hk7.below0 | (subst hgp; exact hk7.below0)⟩

end Go.Proofs.YtogmhaihmkcjgaaGreatDoor
-- halved
