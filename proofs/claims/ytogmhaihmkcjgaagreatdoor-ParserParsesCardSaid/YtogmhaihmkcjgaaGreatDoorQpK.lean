/-
  The statement ParserParses: the walk.
-/
import Derived.Test.YtogmhaihmkcjgaaGreatDoorQpW
import Derived.Test.YtogmhaihmkcjgaaGreatDoorQpE
import Derived.Test.YtogmhaihmkcjgaaGreatDoorQrJ
namespace Go.Proofs.YtogmhaihmkcjgaaGreatDoor
open Go.RowKit Go.Shelf
set_option linter.unusedVariables false

set_option maxRecDepth 20000 in
set_option maxHeartbeats 16000000 in
theorem parses_walk (s : ByteArray) (w : World) : Calls Tryz.prog 5 #[.string s] w fun e w' => e = .returned (.bool true) ∧ Below w.heap.size w w' := by
  have HA := Lib.hid (fun W => awake_any W)
  by_cases hs : 600 < s.size
  · have hi : (600 : Int) < (s.size : Int) := by omega
    go_enter Tryz.func5, Tryz.ntmps5
    go_wp2_with fail
    refine (HA.out _).mono ?_
    rintro e w1 ⟨rfl, hb1⟩
    go_wp2_with fail
    go_ret
    exact ⟨rfl, hb1⟩
  have hi : ¬ (600 : Int) < (s.size : Int) := by omega
  have hB := parse_pbd (tl s) (by rw [length_tl]; omega)
  have HP := Lib.hid (fun W => Parse_any s (by omega) W)
  have HR := Lib.hid (fun W => rParse_any s (by omega) W)
  generalize parseP (tl s) = R at *
  obtain ⟨pd, at1, E⟩ := R
  simp only at hB
  have HC3 := Lib.hid (fun L L' W (h : PolM W pd L) (h' : PolM W pd L') => requal_same pd L L' hB W h h')
  have hz1 : ((at1 : Int) == (at1 : Int)) = true := by simp
  have hz2 : (E == E) = true := by simp
  go_enter Tryz.func5, Tryz.ntmps5
  go_wp2_with fail
  refine (HP.out _).mono ?_
  rintro e w1 ⟨⟨L, rfl, hM⟩, hb1⟩
  have hk1 := ((Hp.start w).next hb1).new 29 (polcs pd L)
  have hba := (Below.refl w1.heap.size w1).alloc (Nat.le_refl _) (.cells #[.string pd.name, .slice L.ua pd.uses.length L.uc, .slice L.ra pd.reveal.length L.rc, .slice L.na pd.nodes.length L.nc, .int .i64 pd.root, .string pd.scope, .int .i64 pd.limit, .string pd.escrow] 29)
  have M1 := hM.up hba
  clear hM hb1 hba HP
  go_upto_region 4 with fail
  obtain ⟨g1, hg1⟩ : ∃ g, w1.heap.size = g := ⟨_, rfl⟩
  try simp only [hg1] at hk1 ⊢
  generalize w1.alloc _ = w2 at *
  clear hg1
  go_wp2_with fail
  refine (HR.out _).mono ?_
  rintro e w3 ⟨⟨L2, rfl, hM2⟩, hb3⟩
  have hk3 := (hk1.next hb3).new 29 (polcs pd L2)
  have hba := (Below.refl w3.heap.size w3).alloc (Nat.le_refl _) (.cells #[.string pd.name, .slice L2.ua pd.uses.length L2.uc, .slice L2.ra pd.reveal.length L2.rc, .slice L2.na pd.nodes.length L2.nc, .int .i64 pd.root, .string pd.scope, .int .i64 pd.limit, .string pd.escrow] 29)
  have M2 := hM2.up hba
  have M3 := (M1.up hb3).up hba
  clear hM2 hb3 hba HR M1 hk1
  go_upto_region 5 with fail
  obtain ⟨g2, hg2⟩ : ∃ g, w3.heap.size = g := ⟨_, rfl⟩
  try simp only [hg2] at hk3 ⊢
  generalize w3.alloc _ = w4 at *
  clear hg2
  go_wp2_with fail
  refine (HA.out _).mono ?_
  rintro e w5 ⟨rfl, hb5⟩
  have hk5 := hk3.next hb5
  have M5 := M2.up hb5
  have M6 := M3.up hb5
  obtain ⟨a0, a1, a2, a3, a4, a5, a6, a7⟩ := (hk5.blk 0 rfl).get8
  obtain ⟨b0, b1, b2, b3, b4, b5, b6, b7⟩ := (hk5.blk 1 rfl).get8
  have HX := Lib.hid (HC3.out L L2 w5 M6 M5)
  clear HC3 hk3 M2 M3
  go_wp2_with fail
  refine HX.out.mono ?_
  rintro e w6 ⟨rfl, hb6⟩
  have hk6 := hk5.next hb6
  go_wp2_with fail
  go_ret
  exact ⟨rfl, hk6.below0⟩
end Go.Proofs.YtogmhaihmkcjgaaGreatDoor
