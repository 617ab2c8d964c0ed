import Derived.Test.YtminghdnclpocaaGreatDoorPbZ
import Derived.Test.YtminghdnclpocaaGreatDoorPdM
import Derived.Deep.RegionHeld3
/-
  The examples of the chapter. Plain.
-/
namespace Go.Proofs.YtminghdnclpocaaGreatDoor
open Go.RowKit Go.Shelf
set_option linter.unusedVariables false

abbrev aw1 : List UInt8 := [112, 111, 108, 105, 99, 121, 32, 112, 32, 117, 115, 101, 115, 32, 105, 100, 58, 32, 80, 97, 115, 115, 112, 111, 114, 116, 32, 112, 114, 111, 118, 101, 32, 110, 111, 116, 32, 105, 100, 46, 97, 103, 101, 32, 60, 32, 49, 56, 32, 101, 110, 100]
abbrev aw2 : List UInt8 := [112, 111, 108, 105, 99, 121, 32, 112, 32, 117, 115, 101, 115, 32, 105, 100, 32, 80, 97, 115, 115, 112, 111, 114, 116, 32, 101, 110, 100]
abbrev aw3 : List UInt8 := [112, 111, 108, 105, 99, 121, 32, 112, 32, 117, 115, 101, 115, 32, 105, 100, 58, 32, 80, 97, 115, 115, 112, 111, 114, 116, 32, 114, 101, 118, 101, 97, 108, 32, 120, 46, 97, 32, 101, 110, 100]
abbrev aw4 : List UInt8 := [112, 111, 108, 105, 99, 121, 32, 112, 32, 117, 115, 101, 115, 32, 105, 100, 58, 32, 80, 97, 115, 115, 112, 111, 114, 116, 32, 108, 105, 109, 105, 116, 32, 51, 32, 101, 110, 100]
def awPo : Po := ⟨bs [112], [(bs [105, 100], bs [80, 97, 115, 115, 112, 111, 114, 116])], [], [⟨2, 0, bs [], bs [], [1], 33⟩, ⟨6, 2, bs [], bs [], [2, 3], 37⟩, ⟨9, 0, bs [105, 100], bs [97, 103, 101], [], 37⟩, ⟨10, 18, bs [], bs [], [], 46⟩], 0, bs [], 0, bs []⟩
theorem aw1_ok : parseP aw1 = (awPo, 0, 0) := by kernel_rfl
theorem aw2_ok : parseP aw2 = (zPo, 17, 4) := by kernel_rfl
theorem aw3_ok : parseP aw3 = (zPo, 0, 9) := by kernel_rfl
theorem aw4_ok : parseP aw4 = (zPo, 27, 4) := by kernel_rfl
end Go.Proofs.YtminghdnclpocaaGreatDoor

/-
  dominolaw42.awake holds.
-/
namespace Go.Proofs.YtminghdnclpocaaGreatDoor
open Go.RowKit Go.Shelf
set_option linter.unusedVariables false

/-- Parse at a source given by its bytes -/
theorem parse_at {l : List UInt8} {r : Po × Nat × Int} (h : parseP l = r) (hl : l.length ≤ 65536) (w : World) : Calls Tryz.prog 11 #[.string ⟨l.toArray⟩] w fun e w' => PaOut r e w' ∧ Below w.heap.size w w' := by
  have := Parse_any (bs l) (by rw [size_bs]; exact hl) w
  rw [tl_bs, h] at this
  exact this
theorem Nks.base {W : World} {A : Option Addr} {l : List Nk} (h : Nks W A l) (hl : 0 < l.length) : ∃ ad, A = some ad ∧ ∀ i n, l[i]? = some n → ∃ KA kc, NodeAt W (ad.add (i * 6)) n KA kc := by
  obtain ⟨ad, _, _, h1, _⟩ := h.at_ 0 _ (List.getElem?_eq_getElem hl)
  refine ⟨ad, h1, fun i n hn => ?_⟩
  obtain ⟨ad', KA, kc, h2, h3⟩ := h.at_ i n hn
  rw [h1] at h2
  cases h2
  exact ⟨KA, kc, h3⟩
theorem Prs.base {W : World} {A : Option Addr} {l : List Bp} (h : Prs W A l) (hl : 0 < l.length) : ∃ ad, A = some ad ∧ ∀ i x, l[i]? = some x → W.cell? (ad.add (i * 2)) = some (.string x.1) ∧ W.cell? ⟨(ad.add (i * 2)).block, (ad.add (i * 2)).off + 1, none⟩ = some (.string x.2) := by
  obtain ⟨ad, h1, _⟩ := h.at_ 0 _ (List.getElem?_eq_getElem hl)
  refine ⟨ad, h1, fun i n hn => ?_⟩
  obtain ⟨ad', h2, h3⟩ := h.at_ i n hn
  rw [h1] at h2
  cases h2
  exact h3
/-- what Parse returns for a bad source -/
theorem parse_bad {l : List UInt8} {n : Nat} {E : Int} (h : parseP l = (zPo, n, E)) (hl : l.length ≤ 65536) (w : World) : Calls Tryz.prog 11 #[.string ⟨l.toArray⟩] w fun e w' => (∃ ua uc ra rc na nc, e = .returned (.tuple #[.agg #[.string ⟨#[]⟩, .slice ua 0 uc, .slice ra 0 rc, .slice na 0 nc, .int .i64 0, .string ⟨#[]⟩, .int .i64 0, .string ⟨#[]⟩], .int .i64 (n : Int), .int .i64 E])) ∧ Below w.heap.size w w' :=
  (parse_at h hl w).mono fun e w' ⟨⟨⟨ua, uc, ra, rc, na, nc⟩, h1, _⟩, h2⟩ => ⟨⟨ua, uc, ra, rc, na, nc, h1⟩, h2⟩
theorem aw1_call (w : World) : Calls Tryz.prog 11 #[.string ⟨aw1.toArray⟩] w fun e w' => (∃ ua uc ra rc na nc, e = .returned (.tuple #[.agg #[.string ⟨#[112]⟩, .slice (some ua) 1 uc, .slice ra 0 rc, .slice (some na) 4 nc, .int .i64 0, .string ⟨#[]⟩, .int .i64 0, .string ⟨#[]⟩], .int .i64 0, .int .i64 0]) ∧ Prs w' (some ua) awPo.uses ∧ Nks w' (some na) awPo.nodes) ∧ Below w.heap.size w w' :=
  (parse_at aw1_ok (by decide) w).mono fun e w' ⟨⟨⟨ua, uc, ra, rc, na, nc⟩, h1, hP⟩, h2⟩ => by
    obtain ⟨ua, rfl, -⟩ := hP.us.base (by decide)
    obtain ⟨na, rfl, -⟩ := hP.ns.base (by decide)
    exact ⟨⟨ua, uc, ra, rc, na, nc, h1, hP.us, hP.ns⟩, h2⟩
theorem add_none (a : Addr) : a.add 0 = a := by
  obtain ⟨b, o, k⟩ := a
  unfold Addr.add
  split <;> simp_all
theorem add_six (a : Addr) : a.add 6 = ⟨a.block, a.off + 6, none⟩ := rfl
theorem add_twelve (a : Addr) : a.add 12 = ⟨a.block, a.off + 12, none⟩ := rfl
theorem add_eighteen (a : Addr) : a.add 18 = ⟨a.block, a.off + 18, none⟩ := rfl
theorem Nks.get {W : World} {ad : Addr} {l : List Nk} (h : Nks W (some ad) l) {i : Nat} {n : Nk} (hn : l[i]? = some n) : ∃ KA kc, NodeAt W (ad.add (i * 6)) n KA kc := by
  obtain ⟨ad', KA, kc, h2, h3⟩ := h.at_ i n hn
  cases h2
  exact ⟨KA, kc, h3⟩
theorem Prs.get {W : World} {ad : Addr} {l : List Bp} (h : Prs W (some ad) l) {i : Nat} {x : Bp} (hn : l[i]? = some x) : W.cell? (ad.add (i * 2)) = some (.string x.1) ∧ W.cell? ⟨(ad.add (i * 2)).block, (ad.add (i * 2)).off + 1, none⟩ = some (.string x.2) := by
  obtain ⟨ad', h2, h3⟩ := h.at_ i x hn
  cases h2
  exact h3
set_option maxRecDepth 20000 in
set_option maxHeartbeats 8000000 in
theorem awake_any (w : World) : Calls Tryz.prog 10 #[] w fun e w' => e = .returned (.bool true) ∧ Below w.heap.size w w' := by
  have H1 := Lib.hid (fun W => aw1_call W)
  have H2 := Lib.hid (fun W => parse_bad aw2_ok (by decide) W)
  have H3 := Lib.hid (fun W => parse_bad aw3_ok (by decide) W)
  have H4 := Lib.hid (fun W => parse_bad aw4_ok (by decide) W)
  have hk := Hp.start w
  go_enter Tryz.func10, Tryz.ntmps10
  go_wp2_with fail
  refine (H1.out _).mono ?_
  rintro e w1 ⟨⟨ua, uc, ra, rc, na, nc, rfl, hU, hN⟩, hb1⟩
  clear H1
  have hk1 := (hk.next (hb1.mono (Nat.le_refl _))).new 27 [.string ⟨#[112]⟩, .slice (some ua) 1 uc, .slice ra 0 rc, .slice (some na) 4 nc, .int .i64 0, .string ⟨#[]⟩, .int .i64 0, .string ⟨#[]⟩]
  have hU1 := hU.up ((Below.refl w1.heap.size w1).alloc (Nat.le_refl _) (.cells #[.string ⟨#[112]⟩, .slice (some ua) 1 uc, .slice ra 0 rc, .slice (some na) 4 nc, .int .i64 0, .string ⟨#[]⟩, .int .i64 0, .string ⟨#[]⟩] 27))
  have hN1 := hN.up ((Below.refl w1.heap.size w1).alloc (Nat.le_refl _) (.cells #[.string ⟨#[112]⟩, .slice (some ua) 1 uc, .slice ra 0 rc, .slice (some na) 4 nc, .int .i64 0, .string ⟨#[]⟩, .int .i64 0, .string ⟨#[]⟩] 27))
  clear hU hN hk hb1
  go_upto_region 2 with fail
  generalize w1.heap.size = bp at *
  generalize w1.alloc _ = w2 at *
  go_wp2_with fail
  refine (H2.out _).mono ?_
  rintro e w3 ⟨⟨ua2, uc2, ra2, rc2, na2, nc2, rfl⟩, hb3⟩
  have hb4 := hb3.alloc hb3.size (.cells #[.string ⟨#[]⟩, .slice ua2 0 uc2, .slice ra2 0 rc2, .slice na2 0 nc2, .int .i64 0, .string ⟨#[]⟩, .int .i64 0, .string ⟨#[]⟩] 27)
  have hk2 := hk1.next hb4
  have hU2 := hU1.up hb4
  have hN2 := hN1.up hb4
  clear hk1 hU1 hN1 hb4 hb3 H2
  go_upto_region 3 with fail
  generalize w3.alloc _ = w4 at *
  go_wp2_with fail
  refine (H3.out _).mono ?_
  rintro e w5 ⟨⟨ua3, uc3, ra3, rc3, na3, nc3, rfl⟩, hb3⟩
  have hb4 := hb3.alloc hb3.size (.cells #[.string ⟨#[]⟩, .slice ua3 0 uc3, .slice ra3 0 rc3, .slice na3 0 nc3, .int .i64 0, .string ⟨#[]⟩, .int .i64 0, .string ⟨#[]⟩] 27)
  have hk3 := hk2.next hb4
  have hU3 := hU2.up hb4
  have hN3 := hN2.up hb4
  clear hk2 hU2 hN2 hb4 hb3 H3
  go_upto_region 4 with fail
  generalize w5.alloc _ = w6 at *
  go_wp2_with fail
  refine (H4.out _).mono ?_
  rintro e w7 ⟨⟨ua4, uc4, ra4, rc4, na4, nc4, rfl⟩, hb3⟩
  have hb4 := hb3.alloc hb3.size (.cells #[.string ⟨#[]⟩, .slice ua4 0 uc4, .slice ra4 0 rc4, .slice na4 0 nc4, .int .i64 0, .string ⟨#[]⟩, .int .i64 0, .string ⟨#[]⟩] 27)
  have hk4 := hk3.next hb4
  have hU4 := hU3.up hb4
  have hN4 := hN3.up hb4
  clear hk3 hU3 hN3 hb4 hb3 H4
  go_upto_region 5 with fail
  generalize w7.alloc _ = w8 at *
  obtain ⟨c0, c1, c2, c3, c4, c5, c6, c7⟩ := (hk4.blk 0 rfl).get8
  obtain ⟨u0, u1⟩ := hU4.get (i := 0) rfl
  obtain ⟨K0, k0, n0⟩ := hN4.get (i := 0) rfl
  obtain ⟨K1, k1, n1⟩ := hN4.get (i := 1) rfl
  obtain ⟨K2, k2, n2⟩ := hN4.get (i := 2) rfl
  obtain ⟨K3, k3, n3⟩ := hN4.get (i := 3) rfl
  obtain ⟨a0, a1, a2, a3, a4, a5, -⟩ := n0
  obtain ⟨b0, b1, b2, b3, b4, b5, -⟩ := n1
  obtain ⟨d0, d1, d2, d3, d4, d5, -⟩ := n2
  obtain ⟨e0, e1, e2, e3, e4, e5, -⟩ := n3
  clear hU4 hN4
  simp only [Nat.zero_mul, Nat.one_mul, Nat.reduceMul, add_none, add_six, add_twelve, add_eighteen, Nat.add_assoc, Nat.reduceAdd, bs] at u0 u1 a0 a1 a2 a3 a4 a5 b0 b1 b2 b3 b4 b5 d0 d1 d2 d3 d4 d5 e0 e1 e2 e3 e4 e5
  go_wp2_with fail
  go_ret
  exact ⟨rfl, hk4.below0⟩
end Go.Proofs.YtminghdnclpocaaGreatDoor

/-
  dominolaw42: decimal, body.
-/
namespace Go.Proofs.YtminghdnclpocaaGreatDoor
open Go.RowKit Go.Shelf
set_option linter.unusedVariables false

theorem ba_app (l m : List UInt8) : (⟨l.toArray⟩ : ByteArray) ++ ⟨m.toArray⟩ = ⟨(l ++ m).toArray⟩ := by
  apply ByteArray.ext
  rw [ByteArray.data_append]; simp
theorem dec_lenk : ∀ (k n : Nat), n < 10 ^ (k + 1) → (Lib.decDigits n).length ≤ k + 1 := by
  intro k
  induction k with
  | zero => intro n h; rw [Lib.decDigits, dif_pos (by omega)]; simp
  | succ k ih =>
    intro n h
    rw [Lib.decDigits]
    split
    · simp
    · have := ih (n / 10) (by rw [Nat.pow_succ] at h; omega)
      simp only [List.length_append, List.length_cons, List.length_nil]
      omega
theorem dec_len10 (n : Nat) (h : n < 10000000000) : (Lib.decDigits n).length ≤ 10 := dec_lenk 9 n h
set_option maxHeartbeats 2000000 in
theorem ldecimal_digit (n : Nat) (h : n < 10) (w : World) : Calls Tryz.prog 15 #[.int .i64 (n : Int)] w fun e w' => e = .returned (.string ⟨(Lib.decDigits n).toArray⟩) ∧ Below w.heap.size w w' := by
  rcases (by omega : n = 0 ∨ n = 1 ∨ n = 2 ∨ n = 3 ∨ n = 4 ∨ n = 5 ∨ n = 6 ∨ n = 7 ∨ n = 8 ∨ n = 9) with rfl | rfl | rfl | rfl | rfl | rfl | rfl | rfl | rfl | rfl <;>
    (go_enter Tryz.func15, Tryz.ntmps15
     go_wp2_with fail
     go_ret
     exact ⟨by first | rfl | (rw [Lib.decDigits]; rfl), Below.refl _ _⟩)
set_option maxHeartbeats 2000000 in
theorem ldecimal_nat : ∀ (n : Nat), n < 10000000000 → ∀ (w : World), Calls Tryz.prog 15 #[.int .i64 (n : Int)] w fun e w' => e = .returned (.string ⟨(Lib.decDigits n).toArray⟩) ∧ Below w.heap.size w w' := by
  intro n
  induction n using Nat.strongRecOn with
  | _ n ih =>
    intro hn w
    by_cases h : n < 10
    · exact ldecimal_digit n h w
    · have HC1 := Lib.hid (ih (n / 10) (by omega) (by omega) w)
      have hd : ((n : Int).tdiv 10) = ((n / 10 : Nat) : Int) := rfl
      have hm : ((n : Int).tmod 10) = ((n % 10 : Nat) : Int) := rfl
      have tn : decide ((9 : Int) < (n : Int)) = true := by rw [decide_eq_true_iff]; omega
      have tz : decide ((n : Int) < 0) = false := by rw [decide_eq_false_iff_not]; omega
      have HD : Hid (Lib.decDigits n = Lib.decDigits (n / 10) ++ Lib.decDigits (n % 10)) := by
        refine Lib.hid ?_
        rw [Lib.decDigits, dif_neg h]
        congr 1
        rw [Lib.decDigits, dif_pos (by omega)]
      go_enter Tryz.func15, Tryz.ntmps15
      go_wp2_with fail
      rw [show (n : Int) / 10 = ((n / 10 : Nat) : Int) by omega]
      refine HC1.out.mono ?_
      rintro e w1 ⟨rfl, hb1⟩
      have HC2 := Lib.hid (ih (n % 10) (by omega) (by omega) w1)
      clear HC1 ih
      have hs1 : (Lib.decDigits (n / 10)).length ≤ 100 := Nat.le_trans (dec_len10 _ (by omega)) (by omega)
      have hs2 : (Lib.decDigits (n % 10)).length ≤ 100 := Nat.le_trans (dec_len10 _ (by omega)) (by omega)
      go_wp2_with fail
      rw [show (n : Int) % 10 = ((n % 10 : Nat) : Int) by omega]
      refine HC2.out.mono ?_
      rintro e w2 ⟨rfl, hb2⟩
      clear HC2
      clear hd hm tn tz
      generalize Lib.decDigits (n / 10) = x at *
      generalize Lib.decDigits (n % 10) = y at *
      go_wp2_with fail
      go_ret
      exact ⟨ret_val (by rw [HD.out, ba_app]; rfl), hb1.trans (hb2.mono hb1.size)⟩
set_option maxHeartbeats 2000000 in
theorem ldecimal_any (n : Int) (h1 : -2147483648 ≤ n) (h2 : n ≤ 2147483647) (w : World) : Calls Tryz.prog 15 #[.int .i64 n] w fun e w' => e = .returned (.string ⟨(Lib.itoa n).toArray⟩) ∧ Below w.heap.size w w' := by
  by_cases h : n < 0
  · have tn : decide (n < 0) = true := by rw [decide_eq_true_iff]; omega
    have hN : -n = ((n.natAbs : Nat) : Int) := by omega
    have HC := Lib.hid (ldecimal_nat n.natAbs (by omega) w)
    have hl : (Lib.decDigits n.natAbs).length ≤ 10 := dec_len10 _ (by omega)
    have HI : Hid (Lib.itoa n = 45 :: Lib.decDigits n.natAbs) := Lib.hid (if_pos h)
    go_enter Tryz.func15, Tryz.ntmps15
    go_wp2_with fail
    refine HC.out.mono ?_
    rintro e w1 ⟨rfl, hb1⟩
    clear hN
    generalize Lib.decDigits n.natAbs = x at *
    go_wp2_with fail
    go_ret
    exact ⟨ret_val (by rw [HI.out, show (45 :: x) = [45] ++ x from rfl, ← ba_app]; rfl), hb1⟩
  · obtain ⟨k, rfl⟩ := Int.eq_ofNat_of_zero_le (by omega : 0 ≤ n)
    have HI : Lib.itoa (k : Int) = Lib.decDigits k := by unfold Lib.itoa; rw [if_neg h]; rfl
    rw [HI]
    exact ldecimal_nat k (by omega) w
set_option maxHeartbeats 2000000 in
theorem body_any (l : List UInt8) (hl : l.length ≤ 1000) (w : World) : Calls Tryz.prog 16 #[.string ⟨l.toArray⟩] w fun e w' => e = .returned (.string ⟨(cmPre ++ 32 :: (l ++ cmEnd)).toArray⟩) ∧ Below w.heap.size w w' := by
  go_enter Tryz.func16, Tryz.ntmps16
  go_wp2_with fail
  go_ret
  exact ⟨ret_val (by
    have e1 : (⟨#[112, 111, 108, 105, 99, 121, 32, 112, 32, 117, 115, 101, 115, 32, 97, 58, 32, 65, 44, 32, 98, 58, 32, 66, 32, 112, 114, 111, 118, 101, 32]⟩ : ByteArray) = ⟨(cmPre ++ [32]).toArray⟩ := rfl
    have e2 : (⟨#[32, 101, 110, 100]⟩ : ByteArray) = ⟨cmEnd.toArray⟩ := rfl
    rw [e1, e2, ba_app, ba_app]
    simp), Below.refl _ _⟩
end Go.Proofs.YtminghdnclpocaaGreatDoor
