/-
  The statement PrinterBack: the walk. Printed by mkwrr.py.
-/
import Derived.Test.YtpfiggokicedbaaGreatDoorWrZ
import Derived.Test.YtpfiggokicedbaaGreatDoorPgY
namespace Go.Proofs.YtpfiggokicedbaaGreatDoor
open Go.RowKit Go.Shelf
set_option linter.unusedVariables false

theorem bprS_same {d q : Po} (h : checkP d = 0) (h2 : checkP q = 0) (h3 : Pa.printP q = Pa.printP d) : prS q = prS d := by
  unfold prS; rw [if_pos h, if_pos h2, h3]
set_option maxRecDepth 20000 in
set_option maxHeartbeats 8000000 in
theorem back_walk (d : Po) (L : Lp) (w : World) (hP : PolM w d L) (hG : Glob w) : Calls Tryz.prog 7 #[polV d L] w fun e w' => e = .returned (.bool true) ∧ Below w.heap.size w w' := by
  have HAW : Hid (∀ (it : List It) (V : World), Hp [] w it V → Calls Tryz.prog 11 #[] V fun e w' => e = .returned (.bool true) ∧ Hp [] w it w' ∧ Below V.heap.size V w') := Lib.hid fun it V h => (awake43_any V (hG.up h.below0)).mono fun e w' h9 => ⟨h9.1, h.next h9.2, h9.2⟩
  have hk0 := (Hp.start w).new 26 (polcs d L)
  obtain ⟨gp, hgp⟩ : ∃ x, w.heap.size = x := ⟨_, rfl⟩
  rw [hgp] at hk0
  have HF := Lib.hid (fun V h => few_any d L V h)
  go_enter Tryz.func7, Tryz.ntmps7
  go_upto_region 1 with fail
  try simp only [hgp]
  have hk1 : Hp [] w [iblk gp 26 (polcs d L)] (w.alloc (.cells #[.string d.name, .slice L.ua d.uses.length L.uc, .slice L.ra d.reveal.length L.rc, .slice L.na d.nodes.length L.nc, .int .i64 d.root, .string d.scope, .int .i64 d.limit, .string d.escrow] 26)) := hk0
  clear hk0
  generalize w.alloc (.cells #[.string d.name, .slice L.ua d.uses.length L.uc, .slice L.ra d.reveal.length L.rc, .slice L.na d.nodes.length L.nc, .int .i64 d.root, .string d.scope, .int .i64 d.limit, .string d.escrow] 26) = W1 at *
  obtain ⟨c0, c1, c2, c3, c4, c5, c6, c7⟩ := (hk1.blk 0 rfl).get8
  have HA := Lib.hid (HF.out W1 (hP.up hk1.below0))
  cases hfew : fewPo d with
  | false =>
    rw [hfew] at HA
    clear hfew HF
    go_wp2_with fail
    refine HA.out.mono ?_
    rintro e w2 ⟨rfl, hb2⟩
    have hk2 := hk1.next hb2
    clear HA hk1 hb2 c0 c1 c2 c3 c4 c5 c6 c7
    have HA := Lib.hid (HAW.out _ _ hk2)
    go_wp2_with fail
    refine HA.out.mono ?_
    rintro e w3 ⟨rfl, hk3, -⟩
    go_wp2_with fail
    go_ret
    exact ⟨rfl, by first | exact hk3.below0 | (subst hgp; exact hk3.below0)⟩
  | true =>
    have hB := few_pbd hfew
    rw [hfew] at HA
    clear hfew HF
    go_wp2_with fail
    refine HA.out.mono ?_
    rintro e w2 ⟨rfl, hb2⟩
    have hk2 := hk1.next hb2
    clear HA hk1 hb2 c0 c1 c2 c3 c4 c5 c6 c7
    obtain ⟨c0, c1, c2, c3, c4, c5, c6, c7⟩ := (hk2.blk 0 rfl).get8
    have HA := Lib.hid (print_any d L hB w2 (hP.up hk2.below0) (hG.up hk2.below0))
    by_cases hE : checkP d = 0
    · obtain ⟨q, t1, t2, t3⟩ := back_law hE (fun n hn => (hB.ns n hn).kids)
      have hlen := Pa.print_len hE (fun n hn => (hB.ns n hn).kids)
      have hBq : PBd q := by
        have := parse_pbd (Pa.printP d) (by omega)
        rw [t1] at this
        exact this
      have hcq : checkP q = 0 := by
        unfold sameP at t2
        simp only [Bool.and_eq_true, decide_eq_true_eq] at t2
        exact t2.1.1.1.1.1.1.1.2
      have hpe : prS d = ⟨(Pa.printP d).toArray⟩ := by unfold prS; rw [if_pos hE]; rfl
      have HPA := Lib.hid (fun V => parse_at t1 (by omega) V)
      rw [← hpe] at HPA
      have HS := Lib.hid (fun L2 V h1 h2 => psame_any d q L L2 hB hBq V h1 h2)
      rw [t2] at HS
      have HQ := Lib.hid (fun LQ V h hg => print_any q LQ hBq V h hg)
      rw [hcq, bprS_same hE hcq t3] at HQ
      rw [hE] at HA
      have hq1 : ((prS d).toList == (prS d).toList) = true := beq_self_eq_true _
      clear hE t1 t2 t3 hpe hlen hcq
      generalize prS d = S at *
      go_wp2_with fail
      refine HA.out.mono ?_
      rintro e w3 ⟨rfl, hb3⟩
      have hk3 := hk2.next hb3
      clear HA hk2 hb3 c0 c1 c2 c3 c4 c5 c6 c7
      go_wp2_with fail
      refine (HPA.out _).mono ?_
      rintro e w4 ⟨⟨L2, rfl, hM⟩, hb4⟩
      have hk4 := (hk3.next hb4).new 26 (polcs q L2)
      have hba := (Below.refl w4.heap.size w4).alloc (Nat.le_refl _) (.cells #[.string q.name, .slice L2.ua q.uses.length L2.uc, .slice L2.ra q.reveal.length L2.rc, .slice L2.na q.nodes.length L2.nc, .int .i64 q.root, .string q.scope, .int .i64 q.limit, .string q.escrow] 26)
      have M1 := hM.up hba
      clear hM hb4 hba hk3 HPA
      go_upto_region 7 with fail
      have hk4 : Hp [] w [iblk w4.heap.size 26 (polcs q L2), iblk gp 26 (polcs d L)] (w4.alloc (.cells #[.string q.name, .slice L2.ua q.uses.length L2.uc, .slice L2.ra q.reveal.length L2.rc, .slice L2.na q.nodes.length L2.nc, .int .i64 q.root, .string q.scope, .int .i64 q.limit, .string q.escrow] 26)) := hk4
      generalize w4.alloc (.cells #[.string q.name, .slice L2.ua q.uses.length L2.uc, .slice L2.ra q.reveal.length L2.rc, .slice L2.na q.nodes.length L2.nc, .int .i64 q.root, .string q.scope, .int .i64 q.limit, .string q.escrow] 26) = w5 at *
      generalize w4.heap.size = gq at *
      obtain ⟨c0, c1, c2, c3, c4, c5, c6, c7⟩ := (hk4.blk 0 rfl).get8
      have HA := Lib.hid (HQ.out L2 w5 M1 (hG.up hk4.below0))
      go_wp2_with fail
      refine HA.out.mono ?_
      rintro e w6 ⟨rfl, hb6⟩
      have hk6 := hk4.next hb6
      have M6 := M1.up hb6
      clear HA HQ hk4 hb6 M1 c0 c1 c2 c3 c4 c5 c6 c7
      have HA := Lib.hid (HAW.out _ _ hk6)
      go_wp2_with fail
      refine HA.out.mono ?_
      rintro e w7 ⟨rfl, hk7, hb7⟩
      have HA2 := Lib.hid (HS.out L2 w7 (hP.up hk7.below0) (M6.up hb7))
      clear HA hk6 hb7 HS M6
      obtain ⟨a0, a1, a2, a3, a4, a5, a6, a7⟩ := (hk7.blk 0 rfl).get8
      obtain ⟨b0, b1, b2, b3, b4, b5, b6, b7⟩ := (hk7.blk 1 rfl).get8
      try simp only at a0 a1 a2 a3 a4 a5 a6 a7 b0 b1 b2 b3 b4 b5 b6 b7
      go_wp2_with fail
      refine HA2.out.mono ?_
      rintro e w8 ⟨rfl, hb8⟩
      have hk8 := hk7.next hb8
      go_wp2_with fail
      go_ret
      exact ⟨rfl, by first | exact hk8.below0 | (subst hgp; exact hk8.below0)⟩
    · have hpe : prS d = ⟨#[]⟩ := prS_bad hE
      rw [hpe] at HA
      have HCK := Lib.hid (fun V h => pcheck_any d L hB V h)
      generalize checkP d = E at *
      have hE1 : (E == 0) = false := by simpa using hE
      have hE2 : (E != 0) = true := by simpa using hE
      have hE3 : (E == E) = true := beq_self_eq_true _
      clear hpe
      go_wp2_with fail
      refine HA.out.mono ?_
      rintro e w3 ⟨rfl, hb3⟩
      have hk3 := hk2.next hb3
      clear HA hk2 hb3 c0 c1 c2 c3 c4 c5 c6 c7
      have HA := Lib.hid (HAW.out _ _ hk3)
      go_wp2_with fail
      refine HA.out.mono ?_
      rintro e w4 ⟨rfl, hk4, hb4⟩
      clear HA hk3 hb4
      obtain ⟨c0, c1, c2, c3, c4, c5, c6, c7⟩ := (hk4.blk 0 rfl).get8
      have HA := Lib.hid (HCK.out w4 (hP.up hk4.below0))
      go_wp2_with fail
      refine HA.out.mono ?_
      rintro e w5 ⟨rfl, hb5⟩
      have hk5 := hk4.next hb5
      go_wp2_with fail
      go_ret
      exact ⟨rfl, by first | exact hk5.below0 | (subst hgp; exact hk5.below0)⟩

end Go.Proofs.YtpfiggokicedbaaGreatDoor
