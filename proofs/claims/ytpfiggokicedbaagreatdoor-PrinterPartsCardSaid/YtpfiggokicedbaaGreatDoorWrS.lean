/-
  The statement PrinterParts: the walk. Printed by mkwrs.py.
-/
import Derived.Test.YtpfiggokicedbaaGreatDoorWrZ
import Derived.Test.YtpfiggokicedbaaGreatDoorPrT
import Derived.Deep.LoopGhost
namespace Go.Proofs.YtpfiggokicedbaaGreatDoor
open Go.RowKit Go.Shelf
set_option linter.unusedVariables false
set_option linter.unusedSimpArgs false

theorem occ_short {w : List UInt8} : ∀ {s : List UInt8}, s.length < w.length → Pa.occ w s = 0
  | [], _ => rfl
  | c :: s, h => by
    rw [Pa.occ, occ_short (s := s) (by simp only [List.length_cons] at h; omega), if_neg]
    intro h9
    have := (List.isPrefixOf_iff_prefix.1 h9).length_le
    omega
theorem occ_step {w s : List UInt8} {i : Nat} (h : i < s.length) : Pa.occ w (s.drop i) = (if w.isPrefixOf (s.drop i) = true then 1 else 0) + Pa.occ w (s.drop (i + 1)) := by
  rw [List.drop_eq_getElem_cons h, Pa.occ]
theorem cut_pre (S ln : ByteArray) (i : Nat) (h : i + ln.size ≤ S.size) : ((S.extract i (i + ln.size)).toList == ln.toList) = (tl ln).isPrefixOf ((tl S).drop i) := by
  rw [toList_tl, toList_tl, tl_extract, Nat.add_sub_cancel_left, Bool.eq_iff_iff, beq_iff_eq, List.isPrefixOf_iff_prefix, List.prefix_iff_eq_take, length_tl]
  exact eq_comm
set_option maxRecDepth 20000 in
set_option maxHeartbeats 16000000 in
theorem parts_walk (d : Po) (L : Lp) (w : World) (hP : PolM w d L) (hG : Glob w) : Calls Tryz.prog 6 #[polV d L] w fun e w' => e = .returned (.bool true) ∧ Below w.heap.size w w' := by
  have HAW : Hid (∀ (it : List It) (V : World), Hp [] w it V → Calls Tryz.prog 11 #[] V fun e w' => e = .returned (.bool true) ∧ Hp [] w it w' ∧ Below V.heap.size V w') := Lib.hid fun it V h => (awake43_any V (hG.up h.below0)).mono fun e w' h9 => ⟨h9.1, h.next h9.2, h9.2⟩
  have hk0 := (Hp.start w).new 26 (polcs d L)
  obtain ⟨gp, hgp⟩ : ∃ x, w.heap.size = x := ⟨_, rfl⟩
  rw [hgp] at hk0
  have HF := Lib.hid (fun V h => few_any d L V h)
  go_enter Tryz.func6, Tryz.ntmps6
  go_upto_region 1 with fail
  try simp only [hgp]
  have hk1 : Hp [] w [iblk gp 26 (polcs d L)] (w.alloc (.cells #[.string d.name, .slice L.ua d.uses.length L.uc, .slice L.ra d.reveal.length L.rc, .slice L.na d.nodes.length L.nc, .int .i64 d.root, .string d.scope, .int .i64 d.limit, .string d.escrow] 26)) := hk0
  clear hk0
  generalize w.alloc (.cells #[.string d.name, .slice L.ua d.uses.length L.uc, .slice L.ra d.reveal.length L.rc, .slice L.na d.nodes.length L.nc, .int .i64 d.root, .string d.scope, .int .i64 d.limit, .string d.escrow] 26) = W1 at *
  obtain ⟨c0, c1, c2, c3, c4, c5, c6, c7⟩ := (hk1.blk 0 rfl).get8
  have HA := Lib.hid (HF.out W1 (hP.up hk1.below0))
  cases hfew : fewPo d with
  | false =>
    rw [hfew] at HA
    clear hfew HF
    go_wp2_with fail
    refine HA.out.mono ?_
    rintro e w2 ⟨rfl, hb2⟩
    have hk2 := hk1.next hb2
    clear HA hk1 hb2 c0 c1 c2 c3 c4 c5 c6 c7
    have HA := Lib.hid (HAW.out _ _ hk2)
    go_wp2_with fail
    refine HA.out.mono ?_
    rintro e w3 ⟨rfl, hk3, -⟩
    go_wp2_with fail
    go_ret
    exact ⟨rfl, by first | exact hk3.below0 | (subst hgp; exact hk3.below0)⟩
  | true =>
    have hB := few_pbd hfew
    rw [hfew] at HA
    clear hfew HF
    go_wp2_with fail
    refine HA.out.mono ?_
    rintro e w2 ⟨rfl, hb2⟩
    have hk2 := hk1.next hb2
    clear HA hk1 hb2 c0 c1 c2 c3 c4 c5 c6 c7
    obtain ⟨c0, c1, c2, c3, c4, c5, c6, c7⟩ := (hk2.blk 0 rfl).get8
    have HA := Lib.hid (print_any d L hB w2 (hP.up hk2.below0) (hG.up hk2.below0))
    have HND := Lib.hid (fun V h hg => pnode_any d L d.root hB V h hg)
    by_cases hE : checkP d = 0
    · obtain ⟨p1, p2⟩ := Pa.parts_law hE
      have hpe : prS d = ⟨(Pa.printP d).toArray⟩ := by unfold prS; rw [if_pos hE]; rfl
      obtain ⟨h0, n, hn, -⟩ := tree_wf (check_tree hE)
      have hlt := (List.getElem?_eq_some_iff.1 hn).1
      obtain ⟨x1, x2⟩ := nd_ok (x := d.root) hE (by omega)
      have hpl := Pa.print_len hE (fun n hn => (hB.ns n hn).kids)
      have htl := Pa.root_len hE (fun n hn => (hB.ns n hn).kids)
      rw [x1, x2] at HND
      rw [hE, hpe] at HA
      clear hE hpe x1 x2 hn hlt h0
      have HW : Hid (∀ T : ByteArray, tl T = Pa.textN d.nodes 32 d.root → tl ((⟨#[10, 112, 114, 111, 118, 101, 32]⟩ : ByteArray) ++ T ++ (⟨#[10]⟩ : ByteArray)) = 10 :: ((Pa.kProve ++ 32 :: Pa.textN d.nodes 32 d.root) ++ [10])) := Lib.hid fun T hT => by
        rw [cat_quote T [10, 112, 114, 111, 118, 101, 32] [10], hT]
        simp [tl, Pa.kProve]
      generalize Pa.textN d.nodes 32 d.root = tt at *
      generalize Pa.printP d = pp at *
      obtain ⟨S, hS⟩ : ∃ x : ByteArray, ⟨pp.toArray⟩ = x := ⟨_, rfl⟩
      obtain ⟨T, hT⟩ : ∃ x : ByteArray, ⟨tt.toArray⟩ = x := ⟨_, rfl⟩
      have hS2 : tl S = pp := by rw [← hS]
      have hT2 : tl T = tt := by rw [← hT]
      have hSz : S.size ≤ 64000 := by rw [← length_tl, hS2]; exact hpl
      have hTz : T.size ≤ 56320 := by rw [← length_tl, hT2]; exact htl
      rw [hS] at HA
      rw [hT] at HND
      have HWT := Lib.hid (HW.out T hT2)
      have hz1 : ¬ 9223372036854775807 < 7 + T.size := by omega
      have hz2 : ¬ 9223372036854775807 < 7 + T.size + 1 := by omega
      have HTB : Hid ((T.toList == [116, 114, 117, 101]) = decide (Pa.occ (10 :: ((Pa.kProve ++ 32 :: tt) ++ [10])) pp = 0)) := Lib.hid (by
        rw [Bool.eq_iff_iff, beq_iff_eq, decide_eq_true_iff, ← p1, toList_tl, hT2]; exact Iff.rfl)
      obtain ⟨F, hF⟩ : ∃ x, Pa.occ (10 :: ((Pa.kProve ++ 32 :: tt) ++ [10])) pp = x := ⟨_, rfl⟩
      rw [hF] at HTB p2
      have HF := Lib.hid hF
      clear hS hT hpl htl p1 hF HW
      go_wp2_with fail
      refine HA.out.mono ?_
      rintro e w3 ⟨rfl, hb3⟩
      have hk3 := hk2.next hb3
      clear HA hk2 hb3 c0 c1 c2 c3 c4 c5 c6 c7
      obtain ⟨c0, c1, c2, c3, c4, c5, c6, c7⟩ := (hk3.blk 0 rfl).get8
      try simp only at c0 c1 c2 c3 c4 c5 c6 c7
      have HA := Lib.hid (HND.out w3 (hP.up hk3.below0) (hG.up hk3.below0))
      go_wp2_with fail
      refine HA.out.mono ?_
      rintro e w4 ⟨rfl, hb4⟩
      have hk4 := hk3.next hb4
      clear HA hk3 hb4 HND c0 c1 c2 c3 c4 c5 c6 c7
      go_upto_region 10 with fail
      have hlz : 8 ≤ ((⟨#[10, 112, 114, 111, 118, 101, 32]⟩ : ByteArray) ++ T ++ (⟨#[10]⟩ : ByteArray)).size ∧ ((⟨#[10, 112, 114, 111, 118, 101, 32]⟩ : ByteArray) ++ T ++ (⟨#[10]⟩ : ByteArray)).size ≤ 56400 := by
        rw [cat_quote T [10, 112, 114, 111, 118, 101, 32] [10]]
        have h9 : (⟨([10, 112, 114, 111, 118, 101, 32] ++ tl T ++ [10]).toArray⟩ : ByteArray).size = T.size + 8 := by
          show ([10, 112, 114, 111, 118, 101, 32] ++ tl T ++ [10] : List UInt8).toArray.size = _
          simp [length_tl]
        rw [h9]; omega
      generalize (⟨#[10, 112, 114, 111, 118, 101, 32]⟩ : ByteArray) ++ T ++ (⟨#[10]⟩ : ByteArray) = ln at *
      obtain ⟨hlz0, hlz⟩ := hlz
      have HOC : Hid (∀ i, i + ln.size ≤ S.size → Pa.occ (tl ln) (pp.drop i) = (if ((S.extract i (i + ln.size)).toList == ln.toList) = true then 1 else 0) + Pa.occ (tl ln) (pp.drop (i + 1))) := Lib.hid fun i hi => by
        rw [cut_pre S ln i hi, hS2]
        exact occ_step (by rw [← hS2, length_tl]; omega)
      have HOS : Hid (∀ i, ¬ i + ln.size ≤ S.size → Pa.occ (tl ln) (pp.drop i) = 0) := Lib.hid fun i hi => occ_short (by rw [List.length_drop, ← hS2, length_tl, length_tl]; omega)
      have HF2 : Hid (Pa.occ (tl ln) pp = F) := Lib.hid (by rw [HWT.out]; exact HF.out)
      clear HF HWT hS2 hT2
      go_loopg [8, 9] (S.size + 1) (fun m s8 s9 wx => ∃ (i k : Nat), i ≤ S.size + 1 ∧ m = S.size + 1 - i ∧ s8 = .int .i64 (k : Int) ∧ s9 = .int .i64 (i : Int) ∧ w4 = wx ∧ Hid (k + Pa.occ (tl ln) (pp.drop i) = F))
      case atStart => exact ⟨0, 0, Nat.zero_le _, rfl, rfl, rfl, rfl, Lib.hid (by rw [List.drop_zero, Nat.zero_add]; exact HF2.out)⟩
      case round =>
        obtain ⟨i, k, hi, rfl, rfl, rfl, rfl, HE⟩ := hrel
        have hkF : k ≤ F := by have := HE.out; omega
        have hw1 : IntKind.i64.wrap ((i : Int) + (ln.size : Int)) = ((i + ln.size : Nat) : Int) := IntWalk.i64_in _ (by omega)
        have hw2 : IntKind.i64.wrap ((k : Int) + 1) = ((k + 1 : Nat) : Int) := IntWalk.i64_in _ (by omega)
        have hw3 : IntKind.i64.wrap ((i : Int) + 1) = ((i + 1 : Nat) : Int) := IntWalk.i64_in _ (by omega)
        by_cases hil : i + ln.size ≤ S.size
        · have hi0 : (0 : Int) ≤ (i : Int) := by omega
          have hi1 : ((i + ln.size : Nat) : Int) ≤ (S.size : Int) := by omega
          have hi2 : (i : Int) + (ln.size : Int) ≤ (S.size : Int) := by omega
          have hi3 : (i : Int) ≤ ((i + ln.size : Nat) : Int) := by omega
          have hi4 : (i : Int) ≤ (i : Int) + (ln.size : Int) := by omega
          have hi5 : (0 : Int) ≤ ((i + ln.size : Nat) : Int) := by omega
          have HO := Lib.hid (HOC.out i hil)
          cases hcmp : ((S.extract i (i + ln.size)).toList == ln.toList) with
          | true =>
            have HE2 : Hid (k + 1 + Pa.occ (tl ln) (pp.drop (i + 1)) = F) := Lib.hid (by
              have h1 := HO.out
              have h2 := HE.out
              rw [hcmp, if_pos rfl] at h1
              omega)
            clear HO HE
            go_wp2_with fail
            go_roundg (S.size + 1 - (i + 1))
            case measure => omega
            case rel => exact ⟨i + 1, k + 1, by omega, rfl, by first | rfl | simp, by first | rfl | simp, rfl, HE2⟩
          | false =>
            have HE2 : Hid (k + Pa.occ (tl ln) (pp.drop (i + 1)) = F) := Lib.hid (by
              have h1 := HO.out
              have h2 := HE.out
              rw [hcmp, if_neg (by decide)] at h1
              omega)
            clear HO HE
            go_wp2_with fail
            go_roundg (S.size + 1 - (i + 1))
            case measure => omega
            case rel => exact ⟨i + 1, k, by omega, rfl, by first | rfl | simp, by first | rfl | simp, rfl, HE2⟩
        · have hi1 : ¬ ((i + ln.size : Nat) : Int) ≤ (S.size : Int) := by omega
          have hi2 : ¬ (i : Int) + (ln.size : Int) ≤ (S.size : Int) := by omega
          have hkF2 : k = F := by
            have h1 := HE.out
            rw [HOS.out i hil] at h1
            omega
          have hb0 : ((k : Int) == 0) = decide (F = 0) := by
            rw [← hkF2, Bool.eq_iff_iff, beq_iff_eq, decide_eq_true_iff]; omega
          have hb1 := HTB.out
          have hb2 : (k : Int) ≤ 1 := by omega
          generalize decide (F = 0) = tb at *
          clear hkF2 HE HOC HOS HF2 HTB hkF
          have HA := Lib.hid (HAW.out _ _ hk4)
          go_wp2_with fail
          refine HA.out.mono ?_
          rintro e w7 ⟨rfl, hk7, hb7⟩
          clear HA hk4
          cases tb
          all_goals
            go_wp2_with fail
            go_ret
            exact ⟨rfl, by first | exact hk7.below0 | (subst hgp; exact hk7.below0)⟩
    · obtain ⟨x1, x2⟩ := nd_eq0 (x := d.root) hE
      have hpe : prS d = ⟨#[]⟩ := prS_bad hE
      rw [hpe] at HA
      rw [x1, x2] at HND
      clear x1 x2 hpe
      generalize checkP d = E at *
      have hE1 : (E == 0) = false := by simpa using hE
      have hE2 : (E != 0) = true := by simpa using hE
      have hE3 : (E == E) = true := beq_self_eq_true _
      go_wp2_with fail
      refine HA.out.mono ?_
      rintro e w3 ⟨rfl, hb3⟩
      have hk3 := hk2.next hb3
      clear HA hk2 hb3 c0 c1 c2 c3 c4 c5 c6 c7
      obtain ⟨c0, c1, c2, c3, c4, c5, c6, c7⟩ := (hk3.blk 0 rfl).get8
      try simp only at c0 c1 c2 c3 c4 c5 c6 c7
      have HA := Lib.hid (HND.out w3 (hP.up hk3.below0) (hG.up hk3.below0))
      go_wp2_with fail
      refine HA.out.mono ?_
      rintro e w4 ⟨rfl, hb4⟩
      have hk4 := hk3.next hb4
      clear HA hk3 hb4 HND c0 c1 c2 c3 c4 c5 c6 c7
      have HA := Lib.hid (HAW.out _ _ hk4)
      go_wp2_with fail
      refine HA.out.mono ?_
      rintro e w7 ⟨rfl, hk7, hb7⟩
      clear HA hk4
      go_wp2_with fail
      go_ret
      exact ⟨rfl, by first | exact hk7.below0 | (subst hgp; exact hk7.below0)⟩

end Go.Proofs.YtpfiggokicedbaaGreatDoor
