/-
  The statement PrinterTidies: the walk. Printed by mkwrr.py.
-/
import Derived.Test.YtpfiggokicedbaaGreatDoorWrZ
import Derived.Test.YtpfiggokicedbaaGreatDoorPrE
import Derived.Test.YtpfiggokicedbaaGreatDoorPgX
namespace Go.Proofs.YtpfiggokicedbaaGreatDoor
open Go.RowKit Go.Shelf
set_option linter.unusedVariables false

theorem tidy_bd {d q : Po} (hB : PBd d) (hd : checkP d = 0) (h : tidyP d = (q, 0)) : PBd q := by
  obtain ⟨q', h1, h2, -⟩ := tidies_law hd
  rw [h] at h1
  injection h1 with h1 _
  subst h1
  unfold tidyP at h
  split at h
  · injection h with _ h9
    cases h9
  · split at h
    · rename_i h8
      injection h with _ h9
      exact absurd h9 h8
    · injection h with h9 _
      subst h9
      refine pick_bd hB _ ?_
      have h3 := (Pa.check_ck h2).nodes
      have h4 : ∀ S : List Int, (d.pick S).nodes.length = S.length := fun S => List.length_map _
      rw [h4] at h3
      exact h3
theorem prS_same {d q : Po} (h : checkP d = 0) (h2 : checkP q = 0) (h3 : Pa.printP q = Pa.printP d) : prS q = prS d := by
  unfold prS; rw [if_pos h, if_pos h2, h3]
set_option maxRecDepth 20000 in
set_option maxHeartbeats 8000000 in
theorem tidies_walk (d : Po) (L : Lp) (w : World) (hP : PolM w d L) (hG : Glob w) : Calls Tryz.prog 9 #[polV d L] w fun e w' => e = .returned (.bool true) ∧ Below w.heap.size w w' := by
  have HAW : Hid (∀ (it : List It) (V : World), Hp [] w it V → Calls Tryz.prog 11 #[] V fun e w' => e = .returned (.bool true) ∧ Hp [] w it w' ∧ Below V.heap.size V w') := Lib.hid fun it V h => (awake43_any V (hG.up h.below0)).mono fun e w' h9 => ⟨h9.1, h.next h9.2, h9.2⟩
  have hk0 := (Hp.start w).new 26 (polcs d L)
  obtain ⟨gp, hgp⟩ : ∃ x, w.heap.size = x := ⟨_, rfl⟩
  rw [hgp] at hk0
  have HF := Lib.hid (fun V h => few_any d L V h)
  go_enter Tryz.func9, Tryz.ntmps9
  go_upto_region 1 with fail
  try simp only [hgp]
  have hk1 : Hp [] w [iblk gp 26 (polcs d L)] (w.alloc (.cells #[.string d.name, .slice L.ua d.uses.length L.uc, .slice L.ra d.reveal.length L.rc, .slice L.na d.nodes.length L.nc, .int .i64 d.root, .string d.scope, .int .i64 d.limit, .string d.escrow] 26)) := hk0
  clear hk0
  generalize w.alloc (.cells #[.string d.name, .slice L.ua d.uses.length L.uc, .slice L.ra d.reveal.length L.rc, .slice L.na d.nodes.length L.nc, .int .i64 d.root, .string d.scope, .int .i64 d.limit, .string d.escrow] 26) = W1 at *
  obtain ⟨c0, c1, c2, c3, c4, c5, c6, c7⟩ := (hk1.blk 0 rfl).get8
  have HA := Lib.hid (HF.out W1 (hP.up hk1.below0))
  cases hfew : fewPo d with
  | false =>
    rw [hfew] at HA
    clear hfew HF
    go_wp2_with fail
    refine HA.out.mono ?_
    rintro e w2 ⟨rfl, hb2⟩
    have hk2 := hk1.next hb2
    clear HA hk1 hb2 c0 c1 c2 c3 c4 c5 c6 c7
    have HA := Lib.hid (HAW.out _ _ hk2)
    go_wp2_with fail
    refine HA.out.mono ?_
    rintro e w3 ⟨rfl, hk3, -⟩
    go_wp2_with fail
    go_ret
    exact ⟨rfl, by first | exact hk3.below0 | (subst hgp; exact hk3.below0)⟩
  | true =>
    have hB := few_pbd hfew
    rw [hfew] at HA
    clear hfew HF
    go_wp2_with fail
    refine HA.out.mono ?_
    rintro e w2 ⟨rfl, hb2⟩
    have hk2 := hk1.next hb2
    clear HA hk1 hb2 c0 c1 c2 c3 c4 c5 c6 c7
    obtain ⟨c0, c1, c2, c3, c4, c5, c6, c7⟩ := (hk2.blk 0 rfl).get8
    have HA := Lib.hid (print_any d L hB w2 (hP.up hk2.below0) (hG.up hk2.below0))
    have HT := Lib.hid (fun V h => tidy_any d L hB V h)
    by_cases hE : checkP d = 0
    · obtain ⟨q, t1, t2, t3, t4, t5, t6⟩ := tidies_law hE
      have hBq := tidy_bd hB hE t1
      have HQ := Lib.hid (fun LQ V h hg => print_any q LQ hBq V h hg)
      rw [t2, prS_same hE t2 t4] at HQ
      rw [t1] at HT
      rw [hE] at HA
      have hn : ¬ q.nodes.length = 0 := fun h => t5 (List.eq_nil_of_length_eq_zero h)
      have hn2 : (0 : Int) < (q.nodes.length : Int) := by omega
      have hq1 : ((prS d).toList == (prS d).toList) = true := beq_self_eq_true _
      have hrt : (q.root == 0) = true := by rw [t6]; rfl
      clear hE t1 t2 t3 t4 t5 t6
      generalize prS d = S at *
      go_wp2_with fail
      refine HA.out.mono ?_
      rintro e w3 ⟨rfl, hb3⟩
      have hk3 := hk2.next hb3
      clear HA hk2 hb3 c0 c1 c2 c3 c4 c5 c6 c7
      obtain ⟨c0, c1, c2, c3, c4, c5, c6, c7⟩ := (hk3.blk 0 rfl).get8
      have HA := Lib.hid (HT.out w3 (hP.up hk3.below0))
      go_wp2_with fail
      refine HA.out.mono ?_
      rintro e w4 ⟨⟨L2, rfl, hM⟩, hb4⟩
      have hk4 := (hk3.next hb4).new 26 (polcs q L2)
      have hba := (Below.refl w4.heap.size w4).alloc (Nat.le_refl _) (.cells #[.string q.name, .slice L2.ua q.uses.length L2.uc, .slice L2.ra q.reveal.length L2.rc, .slice L2.na q.nodes.length L2.nc, .int .i64 q.root, .string q.scope, .int .i64 q.limit, .string q.escrow] 26)
      have M1 := hM.up hba
      clear hM hb4 hba HA hk3 HT c0 c1 c2 c3 c4 c5 c6 c7
      go_upto_region 5 with fail
      have hk4 : Hp [] w [iblk w4.heap.size 26 (polcs q L2), iblk gp 26 (polcs d L)] (w4.alloc (.cells #[.string q.name, .slice L2.ua q.uses.length L2.uc, .slice L2.ra q.reveal.length L2.rc, .slice L2.na q.nodes.length L2.nc, .int .i64 q.root, .string q.scope, .int .i64 q.limit, .string q.escrow] 26)) := hk4
      generalize w4.alloc (.cells #[.string q.name, .slice L2.ua q.uses.length L2.uc, .slice L2.ra q.reveal.length L2.rc, .slice L2.na q.nodes.length L2.nc, .int .i64 q.root, .string q.scope, .int .i64 q.limit, .string q.escrow] 26) = w5 at *
      generalize w4.heap.size = gq at *
      obtain ⟨c0, c1, c2, c3, c4, c5, c6, c7⟩ := (hk4.blk 0 rfl).get8
      have HA := Lib.hid (HQ.out L2 w5 M1 (hG.up hk4.below0))
      go_wp2_with fail
      refine HA.out.mono ?_
      rintro e w6 ⟨rfl, hb6⟩
      have hk6 := hk4.next hb6
      clear HA HQ hk4 hb6 M1 c0 c1 c2 c3 c4 c5 c6 c7
      have HA := Lib.hid (HAW.out _ _ hk6)
      go_wp2_with fail
      refine HA.out.mono ?_
      rintro e w7 ⟨rfl, hk7, hb7⟩
      clear HA hk6
      obtain ⟨c0, c1, c2, c3, c4, c5, c6, c7⟩ := (hk7.blk 0 rfl).get8
      try simp only at c0 c1 c2 c3 c4 c5 c6 c7
      go_wp2_with fail
      go_ret
      exact ⟨rfl, by first | exact hk7.below0 | (subst hgp; exact hk7.below0)⟩
    · generalize checkP d = E at *
      generalize prS d = S at *
      have hE1 : (E == 0) = false := by simpa using hE
      have hE2 : (E != 0) = true := by simpa using hE
      generalize tidyP d = TR at *
      obtain ⟨q, F⟩ := TR
      go_wp2_with fail
      refine HA.out.mono ?_
      rintro e w3 ⟨rfl, hb3⟩
      have hk3 := hk2.next hb3
      clear HA hk2 hb3 c0 c1 c2 c3 c4 c5 c6 c7
      obtain ⟨c0, c1, c2, c3, c4, c5, c6, c7⟩ := (hk3.blk 0 rfl).get8
      have HA := Lib.hid (HT.out w3 (hP.up hk3.below0))
      go_wp2_with fail
      refine HA.out.mono ?_
      rintro e w4 ⟨⟨L2, rfl, hM⟩, hb4⟩
      have hk4 := (hk3.next hb4).new 26 (polcs q L2)
      clear hM hb4 HA hk3 HT c0 c1 c2 c3 c4 c5 c6 c7
      go_upto_region 5 with fail
      have hk4 : Hp [] w [iblk w4.heap.size 26 (polcs q L2), iblk gp 26 (polcs d L)] (w4.alloc (.cells #[.string q.name, .slice L2.ua q.uses.length L2.uc, .slice L2.ra q.reveal.length L2.rc, .slice L2.na q.nodes.length L2.nc, .int .i64 q.root, .string q.scope, .int .i64 q.limit, .string q.escrow] 26)) := hk4
      generalize w4.alloc (.cells #[.string q.name, .slice L2.ua q.uses.length L2.uc, .slice L2.ra q.reveal.length L2.rc, .slice L2.na q.nodes.length L2.nc, .int .i64 q.root, .string q.scope, .int .i64 q.limit, .string q.escrow] 26) = w5 at *
      have HA := Lib.hid (HAW.out _ _ hk4)
      go_wp2_with fail
      refine HA.out.mono ?_
      rintro e w7 ⟨rfl, hk7, hb7⟩
      clear HA hk4
      go_wp2_with fail
      go_ret
      exact ⟨rfl, by first | exact hk7.below0 | (subst hgp; exact hk7.below0)⟩
end Go.Proofs.YtpfiggokicedbaaGreatDoor
