/-
  The statement PrinterNodes: the walk. Printed by mkwsc.py.
-/
import Derived.Test.YtogmhaihmkcjgaaGreatDoorWrZ
import Derived.Test.YtogmhaihmkcjgaaGreatDoorWsB
namespace Go.Proofs.YtogmhaihmkcjgaaGreatDoor
open Go.RowKit Go.Shelf
set_option linter.unusedVariables false

set_option maxRecDepth 20000 in
set_option maxHeartbeats 8000000 in
theorem nodes_walk (d : Po) (L : Lp) (x : Int) (w : World) (hP : PolM w d L) (hG : Glob w) : Calls Tryz.prog 7 #[polV d L, .int .i64 x] w fun e w' => e = .returned (.bool true) ∧ Below w.heap.size w w' := by
  have HAW : Hid (∀ (it : List It) (V : World), Hp [] w it V → Calls Tryz.prog 27 #[] V fun e w' => e = .returned (.bool true) ∧ Hp [] w it w' ∧ Below V.heap.size V w') := Lib.hid fun it V h => (awake43_any V (hG.up h.below0)).mono fun e w' h9 => ⟨h9.1, h.next h9.2, h9.2⟩
  have hk0 := (Hp.start w).new 29 (polcs d L)
  obtain ⟨gp, hgp⟩ : ∃ x, w.heap.size = x := ⟨_, rfl⟩
  rw [hgp] at hk0
  have HF := Lib.hid (fun V h => few_any d L V h)
  go_enter Tryz.func7, Tryz.ntmps7
  go_upto_region 1 with fail
  try simp only [hgp]
  have hk1 : Hp [] w [iblk gp 29 (polcs d L)] (w.alloc (.cells #[.string d.name, .slice L.ua d.uses.length L.uc, .slice L.ra d.reveal.length L.rc, .slice L.na d.nodes.length L.nc, .int .i64 d.root, .string d.scope, .int .i64 d.limit, .string d.escrow] 29)) := hk0
  clear hk0
  generalize w.alloc (.cells #[.string d.name, .slice L.ua d.uses.length L.uc, .slice L.ra d.reveal.length L.rc, .slice L.na d.nodes.length L.nc, .int .i64 d.root, .string d.scope, .int .i64 d.limit, .string d.escrow] 29) = W1 at *
  obtain ⟨c0, c1, c2, c3, c4, c5, c6, c7⟩ := (hk1.blk 0 rfl).get8
  have HA := Lib.hid (HF.out W1 (hP.up hk1.below0))
  cases hfew : fewPo d with
  | false =>
    rw [hfew] at HA
    clear hfew HF
    go_wp2_with fail
    refine HA.out.mono ?_
    rintro e w2 ⟨rfl, hb2⟩
    have hk2 := hk1.next hb2
    clear HA hk1 hb2 c0 c1 c2 c3 c4 c5 c6 c7
    have HA := Lib.hid (HAW.out _ _ hk2)
    go_wp2_with fail
    refine HA.out.mono ?_
    rintro e w3 ⟨rfl, hk3, -⟩
    go_wp2_with fail
    go_ret
    exact ⟨rfl, by first | exact hk3.below0 | (subst hgp; exact hk3.below0)⟩
  | true =>
    have hB := few_pbd hfew
    rw [hfew] at HA
    clear hfew HF
    go_wp2_with fail
    refine HA.out.mono ?_
    rintro e w2 ⟨rfl, hb2⟩
    have hk2 := hk1.next hb2
    clear HA hk1 hb2 c0 c1 c2 c3 c4 c5 c6 c7
    obtain ⟨c0, c1, c2, c3, c4, c5, c6, c7⟩ := (hk2.blk 0 rfl).get8
    have HA := Lib.hid (pnode_any d L x hB w2 (hP.up hk2.below0) (hG.up hk2.below0))
    have HR := Lib.hid (fun V h => rnode_any d L x hB V h)
    generalize ndE d x = E at *
    generalize ndS d x = S at *
    have hE3 : (E == E) = true := beq_self_eq_true _
    have hS3 : (S.toList == S.toList) = true := beq_self_eq_true _
    go_wp2_with fail
    refine HA.out.mono ?_
    rintro e w3 ⟨rfl, hb3⟩
    have hk3 := hk2.next hb3
    clear HA hk2 hb3 c0 c1 c2 c3 c4 c5 c6 c7
    obtain ⟨c0, c1, c2, c3, c4, c5, c6, c7⟩ := (hk3.blk 0 rfl).get8
    have HA := Lib.hid (HR.out w3 (hP.up hk3.below0))
    go_wp2_with fail
    refine HA.out.mono ?_
    rintro e w4 ⟨rfl, hb4⟩
    have hk4 := hk3.next hb4
    clear HA hk3 hb4 c0 c1 c2 c3 c4 c5 c6 c7
    have HA := Lib.hid (HAW.out _ _ hk4)
    go_wp2_with fail
    refine HA.out.mono ?_
    rintro e w7 ⟨rfl, hk7, hb7⟩
    go_wp2_with fail
    go_ret
    exact ⟨rfl, by first | exact hk7.below0 | (subst hgp; exact hk7.below0)⟩

end Go.Proofs.YtogmhaihmkcjgaaGreatDoor
