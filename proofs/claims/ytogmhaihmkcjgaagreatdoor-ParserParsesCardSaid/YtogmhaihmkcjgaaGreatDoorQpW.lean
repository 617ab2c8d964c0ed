import Derived.Lib.ItoaNum
import Derived.Test.YtogmhaihmkcjgaaGreatDoorQpQ
import Derived.Test.YtogmhaihmkcjgaaGreatDoorPdM
import Derived.Deep.RegionHeld3
/-
  The examples of the chapter. Plain.
-/
namespace Go.Proofs.YtogmhaihmkcjgaaGreatDoor
open Go.RowKit Go.Shelf
set_option linter.unusedVariables false

abbrev aw1 : List UInt8 := [112, 111, 108, 105, 99, 121, 32, 112, 32, 117, 115, 101, 115, 32, 105, 100, 58, 32, 80, 97, 115, 115, 112, 111, 114, 116, 32, 112, 114, 111, 118, 101, 32, 110, 111, 116, 32, 105, 100, 46, 97, 103, 101, 32, 60, 32, 49, 56, 32, 101, 110, 100]
abbrev aw2 : List UInt8 := [112, 111, 108, 105, 99, 121, 32, 112, 32, 117, 115, 101, 115, 32, 105, 100, 32, 80, 97, 115, 115, 112, 111, 114, 116, 32, 101, 110, 100]
abbrev aw3 : List UInt8 := [112, 111, 108, 105, 99, 121, 32, 112, 32, 117, 115, 101, 115, 32, 105, 100, 58, 32, 80, 97, 115, 115, 112, 111, 114, 116, 32, 114, 101, 118, 101, 97, 108, 32, 120, 46, 97, 32, 101, 110, 100]
abbrev aw4 : List UInt8 := [112, 111, 108, 105, 99, 121, 32, 112, 32, 117, 115, 101, 115, 32, 105, 100, 58, 32, 80, 97, 115, 115, 112, 111, 114, 116, 32, 108, 105, 109, 105, 116, 32, 51, 32, 101, 110, 100]
def awPo : Po := ⟨bs [112], [(bs [105, 100], bs [80, 97, 115, 115, 112, 111, 114, 116])], [], [⟨2, 0, bs [], bs [], [1], 33⟩, ⟨6, 2, bs [], bs [], [2, 3], 37⟩, ⟨9, 0, bs [105, 100], bs [97, 103, 101], [], 37⟩, ⟨10, 18, bs [], bs [], [], 46⟩], 0, bs [], 0, bs []⟩
theorem aw1_ok : parseP aw1 = (awPo, 0, 0) := by kernel_rfl
theorem aw2_ok : parseP aw2 = (zPo, 17, 4) := by kernel_rfl
theorem aw3_ok : parseP aw3 = (zPo, 0, 9) := by kernel_rfl
theorem aw4_ok : parseP aw4 = (zPo, 27, 4) := by kernel_rfl
end Go.Proofs.YtogmhaihmkcjgaaGreatDoor

/-
  dominolaw42.awake holds.
-/
namespace Go.Proofs.YtogmhaihmkcjgaaGreatDoor
open Go.RowKit Go.Shelf
set_option linter.unusedVariables false

theorem Nks.base {W : World} {A : Option Addr} {l : List Nk} (h : Nks W A l) (hl : 0 < l.length) : ∃ ad, A = some ad ∧ ∀ i n, l[i]? = some n → ∃ KA kc, NodeAt W (ad.add (i * 6)) n KA kc := by
  obtain ⟨ad, _, _, h1, _⟩ := h.at_ 0 _ (List.getElem?_eq_getElem hl)
  refine ⟨ad, h1, fun i n hn => ?_⟩
  obtain ⟨ad', KA, kc, h2, h3⟩ := h.at_ i n hn
  rw [h1] at h2
  cases h2
  exact ⟨KA, kc, h3⟩
theorem Prs.base {W : World} {A : Option Addr} {l : List Bp} (h : Prs W A l) (hl : 0 < l.length) : ∃ ad, A = some ad ∧ ∀ i x, l[i]? = some x → W.cell? (ad.add (i * 2)) = some (.string x.1) ∧ W.cell? ⟨(ad.add (i * 2)).block, (ad.add (i * 2)).off + 1, none⟩ = some (.string x.2) := by
  obtain ⟨ad, h1, _⟩ := h.at_ 0 _ (List.getElem?_eq_getElem hl)
  refine ⟨ad, h1, fun i n hn => ?_⟩
  obtain ⟨ad', h2, h3⟩ := h.at_ i n hn
  rw [h1] at h2
  cases h2
  exact h3
/-- what Parse returns for a bad source -/
theorem parse_bad {l : List UInt8} {n : Nat} {E : Int} (h : parseP l = (zPo, n, E)) (hl : l.length ≤ 65536) (w : World) : Calls Tryz.prog 11 #[.string ⟨l.toArray⟩] w fun e w' => (∃ ua uc ra rc na nc, e = .returned (.tuple #[.agg #[.string ⟨#[]⟩, .slice ua 0 uc, .slice ra 0 rc, .slice na 0 nc, .int .i64 0, .string ⟨#[]⟩, .int .i64 0, .string ⟨#[]⟩], .int .i64 (n : Int), .int .i64 E])) ∧ Below w.heap.size w w' :=
  (parse_at h hl w).mono fun e w' ⟨⟨⟨ua, uc, ra, rc, na, nc⟩, h1, _⟩, h2⟩ => ⟨⟨ua, uc, ra, rc, na, nc, h1⟩, h2⟩
theorem aw1_call (w : World) : Calls Tryz.prog 11 #[.string ⟨aw1.toArray⟩] w fun e w' => (∃ ua uc ra rc na nc, e = .returned (.tuple #[.agg #[.string ⟨#[112]⟩, .slice (some ua) 1 uc, .slice ra 0 rc, .slice (some na) 4 nc, .int .i64 0, .string ⟨#[]⟩, .int .i64 0, .string ⟨#[]⟩], .int .i64 0, .int .i64 0]) ∧ Prs w' (some ua) awPo.uses ∧ Nks w' (some na) awPo.nodes) ∧ Below w.heap.size w w' :=
  (parse_at aw1_ok (by decide) w).mono fun e w' ⟨⟨⟨ua, uc, ra, rc, na, nc⟩, h1, hP⟩, h2⟩ => by
    obtain ⟨ua, rfl, -⟩ := hP.us.base (by decide)
    obtain ⟨na, rfl, -⟩ := hP.ns.base (by decide)
    exact ⟨⟨ua, uc, ra, rc, na, nc, h1, hP.us, hP.ns⟩, h2⟩
theorem add_six (a : Addr) : a.add 6 = ⟨a.block, a.off + 6, none⟩ := rfl
theorem add_twelve (a : Addr) : a.add 12 = ⟨a.block, a.off + 12, none⟩ := rfl
theorem add_eighteen (a : Addr) : a.add 18 = ⟨a.block, a.off + 18, none⟩ := rfl
theorem Nks.get {W : World} {ad : Addr} {l : List Nk} (h : Nks W (some ad) l) {i : Nat} {n : Nk} (hn : l[i]? = some n) : ∃ KA kc, NodeAt W (ad.add (i * 6)) n KA kc := by
  obtain ⟨ad', KA, kc, h2, h3⟩ := h.at_ i n hn
  cases h2
  exact ⟨KA, kc, h3⟩
theorem Prs.get {W : World} {ad : Addr} {l : List Bp} (h : Prs W (some ad) l) {i : Nat} {x : Bp} (hn : l[i]? = some x) : W.cell? (ad.add (i * 2)) = some (.string x.1) ∧ W.cell? ⟨(ad.add (i * 2)).block, (ad.add (i * 2)).off + 1, none⟩ = some (.string x.2) := by
  obtain ⟨ad', h2, h3⟩ := h.at_ i x hn
  cases h2
  exact h3
set_option maxRecDepth 20000 in
set_option maxHeartbeats 8000000 in
theorem awake_any (w : World) : Calls Tryz.prog 23 #[] w fun e w' => e = .returned (.bool true) ∧ Below w.heap.size w w' := by
  have H1 := Lib.hid (fun W => aw1_call W)
  have H2 := Lib.hid (fun W => parse_bad aw2_ok (by decide) W)
  have H3 := Lib.hid (fun W => parse_bad aw3_ok (by decide) W)
  have H4 := Lib.hid (fun W => parse_bad aw4_ok (by decide) W)
  have hk := Hp.start w
  go_enter Tryz.func23, Tryz.ntmps23
  go_wp2_with fail
  refine (H1.out _).mono ?_
  rintro e w1 ⟨⟨ua, uc, ra, rc, na, nc, rfl, hU, hN⟩, hb1⟩
  clear H1
  have hk1 := (hk.next (hb1.mono (Nat.le_refl _))).new 29 [.string ⟨#[112]⟩, .slice (some ua) 1 uc, .slice ra 0 rc, .slice (some na) 4 nc, .int .i64 0, .string ⟨#[]⟩, .int .i64 0, .string ⟨#[]⟩]
  have hU1 := hU.up ((Below.refl w1.heap.size w1).alloc (Nat.le_refl _) (.cells #[.string ⟨#[112]⟩, .slice (some ua) 1 uc, .slice ra 0 rc, .slice (some na) 4 nc, .int .i64 0, .string ⟨#[]⟩, .int .i64 0, .string ⟨#[]⟩] 29))
  have hN1 := hN.up ((Below.refl w1.heap.size w1).alloc (Nat.le_refl _) (.cells #[.string ⟨#[112]⟩, .slice (some ua) 1 uc, .slice ra 0 rc, .slice (some na) 4 nc, .int .i64 0, .string ⟨#[]⟩, .int .i64 0, .string ⟨#[]⟩] 29))
  clear hU hN hk hb1
  go_upto_region 2 with fail
  generalize w1.heap.size = bp at *
  generalize w1.alloc _ = w2 at *
  go_wp2_with fail
  refine (H2.out _).mono ?_
  rintro e w3 ⟨⟨ua2, uc2, ra2, rc2, na2, nc2, rfl⟩, hb3⟩
  have hb4 := hb3.alloc hb3.size (.cells #[.string ⟨#[]⟩, .slice ua2 0 uc2, .slice ra2 0 rc2, .slice na2 0 nc2, .int .i64 0, .string ⟨#[]⟩, .int .i64 0, .string ⟨#[]⟩] 29)
  have hk2 := hk1.next hb4
  have hU2 := hU1.up hb4
  have hN2 := hN1.up hb4
  clear hk1 hU1 hN1 hb4 hb3 H2
  go_upto_region 3 with fail
  generalize w3.alloc _ = w4 at *
  go_wp2_with fail
  refine (H3.out _).mono ?_
  rintro e w5 ⟨⟨ua3, uc3, ra3, rc3, na3, nc3, rfl⟩, hb3⟩
  have hb4 := hb3.alloc hb3.size (.cells #[.string ⟨#[]⟩, .slice ua3 0 uc3, .slice ra3 0 rc3, .slice na3 0 nc3, .int .i64 0, .string ⟨#[]⟩, .int .i64 0, .string ⟨#[]⟩] 29)
  have hk3 := hk2.next hb4
  have hU3 := hU2.up hb4
  have hN3 := hN2.up hb4
  clear hk2 hU2 hN2 hb4 hb3 H3
  go_upto_region 4 with fail
  generalize w5.alloc _ = w6 at *
  go_wp2_with fail
  refine (H4.out _).mono ?_
  rintro e w7 ⟨⟨ua4, uc4, ra4, rc4, na4, nc4, rfl⟩, hb3⟩
  have hb4 := hb3.alloc hb3.size (.cells #[.string ⟨#[]⟩, .slice ua4 0 uc4, .slice ra4 0 rc4, .slice na4 0 nc4, .int .i64 0, .string ⟨#[]⟩, .int .i64 0, .string ⟨#[]⟩] 29)
  have hk4 := hk3.next hb4
  have hU4 := hU3.up hb4
  have hN4 := hN3.up hb4
  clear hk3 hU3 hN3 hb4 hb3 H4
  go_upto_region 5 with fail
  generalize w7.alloc _ = w8 at *
  obtain ⟨c0, c1, c2, c3, c4, c5, c6, c7⟩ := (hk4.blk 0 rfl).get8
  obtain ⟨u0, u1⟩ := hU4.get (i := 0) rfl
  obtain ⟨K0, k0, n0⟩ := hN4.get (i := 0) rfl
  obtain ⟨K1, k1, n1⟩ := hN4.get (i := 1) rfl
  obtain ⟨K2, k2, n2⟩ := hN4.get (i := 2) rfl
  obtain ⟨K3, k3, n3⟩ := hN4.get (i := 3) rfl
  obtain ⟨a0, a1, a2, a3, a4, a5, -⟩ := n0
  obtain ⟨b0, b1, b2, b3, b4, b5, -⟩ := n1
  obtain ⟨d0, d1, d2, d3, d4, d5, -⟩ := n2
  obtain ⟨e0, e1, e2, e3, e4, e5, -⟩ := n3
  clear hU4 hN4
  simp only [Nat.zero_mul, Nat.one_mul, Nat.reduceMul, add_none, add_six, add_twelve, add_eighteen, Nat.add_assoc, Nat.reduceAdd, bs] at u0 u1 a0 a1 a2 a3 a4 a5 b0 b1 b2 b3 b4 b5 d0 d1 d2 d3 d4 d5 e0 e1 e2 e3 e4 e5
  go_wp2_with fail
  go_ret
  exact ⟨rfl, hk4.below0⟩
end Go.Proofs.YtogmhaihmkcjgaaGreatDoor
