/-
  The statement PrinterSources: the walk.
-/
import Derived.Test.YtogmhaihmkcjgaaGreatDoorWrZ
import Derived.Test.YtogmhaihmkcjgaaGreatDoorPgY
import Derived.Test.YtogmhaihmkcjgaaGreatDoorPsA
namespace Go.Proofs.YtogmhaihmkcjgaaGreatDoor
open Go.RowKit Go.Shelf
set_option linter.unusedVariables false

theorem parse_chk {l : List UInt8} (h : (parseP l).2.2 = 0) : checkP (parseP l).1 = 0 := by
  unfold parseP at h ⊢
  cases hsc : Lx.sc l with
  | err a n =>
    rw [hsc] at h
    have := sc_err_ne hsc
    simp only at h
    omega
  | ok ts =>
    rw [hsc] at h
    simp only at h ⊢
    unfold parseT at h ⊢
    cases hp : Pa.policyR ts with
    | mk so q =>
      rw [hp] at h
      cases so with
      | none => simp only at h; cases h
      | some p =>
        simp only at h ⊢
        by_cases hc : checkP (poOf p) = 0
        · rw [if_neg (by simpa using hc)]; exact hc
        · rw [if_pos hc] at h; exact absurd h hc
set_option maxRecDepth 20000 in
set_option maxHeartbeats 16000000 in
theorem sources_walk (s : ByteArray) (w : World) (hG : Glob w) : Calls Tryz.prog 8 #[.string s] w fun e w' => e = .returned (.bool true) ∧ Below w.heap.size w w' := by
  have HAW : Hid (∀ (it : List It) (V : World), Hp [] w it V → Calls Tryz.prog 27 #[] V fun e w' => e = .returned (.bool true) ∧ Hp [] w it w' ∧ Below V.heap.size V w') := Lib.hid fun it V h => (awake43_any V (hG.up h.below0)).mono fun e w' h9 => ⟨h9.1, h.next h9.2, h9.2⟩
  have hk0 := Hp.start w
  by_cases hs : 800 < s.size
  · have hi : (800 : Int) < (s.size : Int) := by omega
    go_enter Tryz.func8, Tryz.ntmps8
    have HA := Lib.hid (HAW.out _ _ hk0)
    go_wp2_with fail
    refine HA.out.mono ?_
    rintro e w90 ⟨rfl, hk90, hb90⟩
    clear HA
    go_wp2_with fail
    go_ret
    exact ⟨rfl, hk90.below0⟩
  have hi : ¬ (800 : Int) < (s.size : Int) := by omega
  have HP := Lib.hid (fun W => Parse_any s (by omega) W)
  have hB := parse_pbd (tl s) (by rw [length_tl]; omega)
  have HCK := Lib.hid (fun h => parse_chk (l := tl s) h)
  generalize parseP (tl s) = R at *
  obtain ⟨d, at1, E⟩ := R
  simp only at hB HCK
  by_cases hE : E = 0
  · subst hE
    have hE := HCK.out rfl
    obtain ⟨q, t1, t2, t3⟩ := back_law hE (fun n hn => (hB.ns n hn).kids)
    have hlen := Pa.print_len hE (fun n hn => (hB.ns n hn).kids)
    have hBq : PBd q := by
      have := parse_pbd (Pa.printP d) (by omega)
      rw [t1] at this
      exact this
    have hpe : prS d = ⟨(Pa.printP d).toArray⟩ := by unfold prS; rw [if_pos hE]; rfl
    have HPA := Lib.hid (fun V => parse_at t1 (by omega) V)
    rw [← hpe] at HPA
    have HS := Lib.hid (fun L L2 V h1 h2 => psame_any d q L L2 hB hBq V h1 h2)
    rw [t2] at HS
    have HRS := Lib.hid (fun L L2 V h1 h2 => rsame_true d q L L2 hB hBq t2 V h1 h2)
    have HPr := Lib.hid (fun LQ V h hg => print_any d LQ hB V h hg)
    rw [hE] at HPr
    clear hE t1 t2 t3 hpe hlen HCK
    generalize prS d = S at *
    go_enter Tryz.func8, Tryz.ntmps8
    go_wp2_with fail
    refine (HP.out _).mono ?_
    rintro e w1 ⟨⟨L, rfl, hM⟩, hb1⟩
    have hk1 := ((Hp.start w).next hb1).new 29 (polcs d L)
    have hba := (Below.refl w1.heap.size w1).alloc (Nat.le_refl _) (.cells #[.string d.name, .slice L.ua d.uses.length L.uc, .slice L.ra d.reveal.length L.rc, .slice L.na d.nodes.length L.nc, .int .i64 d.root, .string d.scope, .int .i64 d.limit, .string d.escrow] 29)
    have M1 := hM.up hba
    clear hM hb1 hba HP hk0
    go_upto_region 4 with fail
    have hk1 : Hp [] w [iblk w1.heap.size 29 (polcs d L)] (w1.alloc (.cells #[.string d.name, .slice L.ua d.uses.length L.uc, .slice L.ra d.reveal.length L.rc, .slice L.na d.nodes.length L.nc, .int .i64 d.root, .string d.scope, .int .i64 d.limit, .string d.escrow] 29)) := hk1
    generalize w1.alloc (.cells #[.string d.name, .slice L.ua d.uses.length L.uc, .slice L.ra d.reveal.length L.rc, .slice L.na d.nodes.length L.nc, .int .i64 d.root, .string d.scope, .int .i64 d.limit, .string d.escrow] 29) = w2 at *
    generalize w1.heap.size = g at *
    obtain ⟨c0, c1, c2, c3, c4, c5, c6, c7⟩ := (hk1.blk 0 rfl).get8
    have HA := Lib.hid (HPr.out L w2 M1 (hG.up hk1.below0))
    go_wp2_with fail
    refine HA.out.mono ?_
    rintro e w3 ⟨rfl, hb3⟩
    have hk3 := hk1.next hb3
    have M3 := M1.up hb3
    clear HA hk1 M1 hb3 c0 c1 c2 c3 c4 c5 c6 c7 HPr
    go_wp2_with fail
    refine (HPA.out _).mono ?_
    rintro e w4 ⟨⟨L2, rfl, hM⟩, hb4⟩
    have hk4 := (hk3.next hb4).new 29 (polcs q L2)
    have hba := (Below.refl w4.heap.size w4).alloc (Nat.le_refl _) (.cells #[.string q.name, .slice L2.ua q.uses.length L2.uc, .slice L2.ra q.reveal.length L2.rc, .slice L2.na q.nodes.length L2.nc, .int .i64 q.root, .string q.scope, .int .i64 q.limit, .string q.escrow] 29)
    have MQ := hM.up hba
    have MD := (M3.up hb4).up hba
    clear hM hb4 hba hk3 HPA M3
    go_upto_region 8 with fail
    have hk4 : Hp [] w [iblk w4.heap.size 29 (polcs q L2), iblk g 29 (polcs d L)] (w4.alloc (.cells #[.string q.name, .slice L2.ua q.uses.length L2.uc, .slice L2.ra q.reveal.length L2.rc, .slice L2.na q.nodes.length L2.nc, .int .i64 q.root, .string q.scope, .int .i64 q.limit, .string q.escrow] 29)) := hk4
    generalize w4.alloc (.cells #[.string q.name, .slice L2.ua q.uses.length L2.uc, .slice L2.ra q.reveal.length L2.rc, .slice L2.na q.nodes.length L2.nc, .int .i64 q.root, .string q.scope, .int .i64 q.limit, .string q.escrow] 29) = w5 at *
    generalize w4.heap.size = gq at *
    have HA := Lib.hid (HAW.out _ _ hk4)
    go_wp2_with fail
    refine HA.out.mono ?_
    rintro e w7 ⟨rfl, hk7, hb7⟩
    have MQ7 := MQ.up hb7
    have MD7 := MD.up hb7
    have HA2 := Lib.hid (HS.out L L2 w7 MD7 MQ7)
    clear HA hk4 hb7 HS MQ MD
    obtain ⟨a0, a1, a2, a3, a4, a5, a6, a7⟩ := (hk7.blk 0 rfl).get8
    obtain ⟨b0, b1, b2, b3, b4, b5, b6, b7⟩ := (hk7.blk 1 rfl).get8
    go_wp2_with fail
    refine HA2.out.mono ?_
    rintro e w8 ⟨rfl, hb8⟩
    have hk8 := hk7.next hb8
    have HA3 := Lib.hid (HRS.out L L2 w8 (MD7.up hb8) (MQ7.up hb8))
    clear HA2 HRS a0 a1 a2 a3 a4 a5 a6 a7 b0 b1 b2 b3 b4 b5 b6 b7 hk7 MD7 MQ7
    obtain ⟨a0, a1, a2, a3, a4, a5, a6, a7⟩ := (hk8.blk 0 rfl).get8
    obtain ⟨b0, b1, b2, b3, b4, b5, b6, b7⟩ := (hk8.blk 1 rfl).get8
    go_wp2_with fail
    refine HA3.out.mono ?_
    rintro e w9 ⟨rfl, hb9⟩
    have hk9 := hk8.next hb9
    go_wp2_with fail
    go_ret
    exact ⟨rfl, hk9.below0⟩
  · have hne : (E == 0) = false := by simpa using hE
    have hne2 : (E != 0) = true := by rw [bne, hne]; rfl
    clear HCK hE
    go_enter Tryz.func8, Tryz.ntmps8
    go_wp2_with fail
    refine (HP.out _).mono ?_
    rintro e w1 ⟨⟨L, rfl, hM⟩, hb1⟩
    have hk1 := (((Hp.start w).next hb1).new 29 (polcs d L))
    go_upto_region 5 with fail
    have hk1 : Hp [] w [iblk w1.heap.size 29 (polcs d L)] (w1.alloc (.cells #[.string d.name, .slice L.ua d.uses.length L.uc, .slice L.ra d.reveal.length L.rc, .slice L.na d.nodes.length L.nc, .int .i64 d.root, .string d.scope, .int .i64 d.limit, .string d.escrow] 29)) := hk1
    generalize w1.alloc (.cells #[.string d.name, .slice L.ua d.uses.length L.uc, .slice L.ra d.reveal.length L.rc, .slice L.na d.nodes.length L.nc, .int .i64 d.root, .string d.scope, .int .i64 d.limit, .string d.escrow] 29) = w2 at *
    have HA := Lib.hid (HAW.out _ _ hk1)
    go_wp2_with fail
    refine HA.out.mono ?_
    rintro e w3 ⟨rfl, hk3, -⟩
    go_wp2_with fail
    go_ret
    exact ⟨rfl, hk3.below0⟩
end Go.Proofs.YtogmhaihmkcjgaaGreatDoor
