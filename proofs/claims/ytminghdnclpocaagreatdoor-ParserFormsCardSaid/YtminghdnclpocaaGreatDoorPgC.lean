/-
  dominolaw42.ParserSpaces.
-/
import Derived.Test.YtminghdnclpocaaGreatDoorPeC
import Derived.Test.YtminghdnclpocaaGreatDoorPeZ
import Derived.Test.YtminghdnclpocaaGreatDoorPfS
import Derived.Test.YtminghdnclpocaaGreatDoorPgB
namespace Go.Proofs.YtminghdnclpocaaGreatDoor
open Go.RowKit Go.Shelf
set_option linter.unusedVariables false

theorem zpo_bd : PBd zPo := ⟨by decide, by decide, by decide, by decide, by decide, by decide, fun x h => (List.not_mem_nil h).elim, fun x h => (List.not_mem_nil h).elim, fun x h => (List.not_mem_nil h).elim⟩
theorem parse_pbd (l : List UInt8) (hl : l.length ≤ 65536) : PBd (parseP l).1 := by
  unfold parseP
  cases hs : Lx.sc l with
  | err a e => exact zpo_bd
  | ok ts =>
    dsimp only
    have hS := Lx.sc_iff.1 hs
    have hn := toks_len hS
    unfold parseT
    cases hr : Pa.policyR ts with
    | mk o q =>
      cases o with
      | none => exact zpo_bd
      | some p =>
        dsimp only
        split
        · exact zpo_bd
        · exact pbd_of (Pa.policy_gd (Pa.sc_good hS) hr).1 (by omega)
theorem spread_at {how i : Nat} {ts : List Lx.Tok} (h : i < ts.length) {acc : ByteArray} {k : Nat} (hk : (i + how) % 3 = k) {S : List UInt8} (ha : tl acc ++ Lx.spread how i (ts.drop i) = S) {gap : ByteArray} (hg : tl gap = Lx.gapv k) (hk3 : k < 3) :
    tl (acc ++ bs ts[i].text ++ gap) ++ Lx.spread how (i + 1) (ts.drop (i + 1)) = S := by
  rw [tl_app, tl_app, ← ha, List.drop_eq_getElem_cons h, Lx.spread, tl_bs, hg]
  have : Lx.gapv (i + how) = Lx.gapv k := by
    unfold Lx.gapv
    rw [hk, Nat.mod_eq_of_lt hk3]
  rw [this]
  simp only [List.append_assoc]
theorem spread_bd {how i : Nat} {ts : List Lx.Tok} (h : i < ts.length) {acc : ByteArray} {S : List UInt8} (ha : tl acc ++ Lx.spread how i (ts.drop i) = S) : acc.size + (bs ts[i].text).size ≤ S.length := by
  rw [← ha, List.drop_eq_getElem_cons h, Lx.spread, size_bs, ← length_tl]
  simp only [List.length_append]
  omega
set_option maxRecDepth 20000 in
set_option maxHeartbeats 8000000 in
theorem spaces_walk (s : ByteArray) (how : Int) (h0 : 0 ≤ how) (h1 : how ≤ 255) (w : World) : Calls Tryz.prog 7 #[.string s, .int .u8 how] w fun e w' => e = .returned (.bool true) ∧ Below w.heap.size w w' := by
  have HA := Lib.hid (fun W => awake_any W)
  by_cases hs : 500 < s.size
  · have hi : (500 : Int) < (s.size : Int) := by omega
    go_enter Tryz.func7, Tryz.ntmps7
    go_wp2_with fail
    refine (HA.out _).mono ?_
    rintro e w1 ⟨rfl, hb1⟩
    go_wp2_with fail
    go_ret
    exact ⟨rfl, hb1⟩
  have hi : ¬ (500 : Int) < (s.size : Int) := by omega
  obtain ⟨how, rfl⟩ := Int.eq_ofNat_of_zero_le h0
  have hh : how ≤ 255 := by omega
  clear h0 h1
  cases hsc : Lx.sc (tl s) with
  | err a n =>
    have hR : parseP (tl s) = (zPo, a, (n : Int)) := by unfold parseP; rw [hsc]
    have HP := parse_two s (by omega)
    rw [hR] at HP
    have HP := Lib.hid HP
    have hn : ((n : Int) != 0) = true := by
      have := sc_err_ne hsc
      rw [bne_iff_ne]; omega
    have hnn : (((n : Nat) : Int) == ((n : Nat) : Int)) = true := by simp
    have HS := Lib.hid (fun W => scan_err s a n W (by omega) hsc)
    clear hR hsc
    go_enter Tryz.func7, Tryz.ntmps7
    go_wp2_with fail
    refine (HS.out _).mono ?_
    rintro e w1 ⟨rfl, hb1⟩
    go_wp2_with fail
    refine (HP.out _).mono ?_
    rintro e w2 ⟨⟨nm, ua, un, uc, ra, rn, rc, na, nn, nc, rt, sc, lim, esc, rfl⟩, hb2⟩
    go_wp2_with fail
    refine (HA.out _).mono ?_
    rintro e w3 ⟨rfl, hb3⟩
    go_wp2_with fail
    go_ret
    exact ⟨rfl, ((((Hp.start w).next hb1).next hb2).alloc _ |>.next hb3).below0⟩
  | ok ts =>
    have h0 : 0 < ts.length := List.length_pos_iff.2 (Pa.sc_good (Lx.sc_iff.1 hsc)).ne
    have htl : ts.length ≤ 501 := by have := toks_len (Lx.sc_iff.1 hsc); rw [length_tl] at this; omega
    have HS := Lib.hid (fun W => scan_ok s ts W (by omega) hsc h0)
    have HP := Lib.hid (fun W => Parse_any s (by omega) W)
    obtain ⟨l1, l2, l3⟩ := spaces_law hsc how
    rw [length_tl] at l3
    have hB1 := parse_pbd (tl s) (by rw [length_tl]; omega)
    have hB2 := parse_pbd (Lx.spread how 0 ts) (by omega)
    obtain ⟨S, hS⟩ : ∃ S, Lx.spread how 0 ts = S := ⟨_, rfl⟩
    rw [hS] at l1 l2 l3 hB2
    have HQ : Hid (∀ (T : ByteArray) W, tl T = S → Calls Tryz.prog 11 #[.string T] W fun e w' => PaOut (parseP S) e w' ∧ Below W.heap.size W w') := Lib.hid (fun T W hT => by
      have := Parse_any T (by rw [← length_tl, hT]; omega) W
      rw [hT] at this; exact this)
    have HS0 := Lib.hid hS
    clear hsc hS
    generalize parseP (tl s) = R at *
    generalize parseP S = R2 at *
    obtain ⟨pd, at1, E⟩ := R
    obtain ⟨pd2, at2, E2⟩ := R2
    simp only at l1 l2 hB1 hB2
    subst l1
    have HL := Lib.hid l2
    clear l2
    have hEE : (E != E) = false := by simp
    go_enter Tryz.func7, Tryz.ntmps7
    go_wp2_with fail
    refine (HS.out _).mono ?_
    rintro e w1 ⟨g, cap, rfl, hT, hc, hb1⟩
    have hk1 := (Hp.start w).next hb1
    go_wp2_with fail
    refine (HP.out _).mono ?_
    rintro e w2 ⟨⟨L, rfl, hM⟩, hb2⟩
    have hk2 := (hk1.next hb2).new 27 (polcs pd L)
    have hb3 := (Below.refl w2.heap.size w2).alloc (Nat.le_refl _) (.cells #[.string pd.name, .slice L.ua pd.uses.length L.uc, .slice L.ra pd.reveal.length L.rc, .slice L.na pd.nodes.length L.nc, .int .i64 pd.root, .string pd.scope, .int .i64 pd.limit, .string pd.escrow] 27)
    have hM2 := hM.up hb3
    have hT2 := hT.below (hb2.trans (hb3.mono hb2.size)) (Nat.le_refl _)
    clear HP HS hk1 hT hb1 hb2 hM hb3
    go_upto_region 5 with fail
    obtain ⟨gp, hgp⟩ : ∃ g, w2.heap.size = g := ⟨_, rfl⟩
    simp only [hgp] at hk2 ⊢
    generalize w2.alloc _ = w3 at *
    clear hgp
    go_upto_region 9 with fail
    go_loopg [11, 12] ts.length (fun m s11 s12 wx => ∃ (i : Nat) (acc : ByteArray), i ≤ ts.length ∧ m = ts.length - i ∧ s11 = .string acc ∧ s12 = .int .i64 (i : Int) ∧ wx = w3 ∧ Hid (tl acc ++ Lx.spread how i (ts.drop i) = S))
    case atStart => exact ⟨0, ⟨#[]⟩, Nat.zero_le _, by omega, rfl, rfl, rfl, Lib.hid HS0.out⟩
    case round =>
      obtain ⟨i, acc, hi, rfl, rfl, rfl, rfl, HE⟩ := hrel
      by_cases hil : i < ts.length
      · have hii : (i : Int) < (ts.length : Int) := by omega
        have hi0 : (0 : Int) ≤ (i : Int) := by omega
        obtain ⟨t0, t1, t2⟩ := hT2.at i hil
        have hbd := spread_bd hil HE.out
        have hb5 : acc.size ≤ 8000 := by omega
        have hb6 : (bs ts[i].text).size ≤ 8000 := by omega
        clear hbd
        have hwr : IntKind.i64.wrap ((i : Int) + (how : Int)) = (i : Int) + (how : Int) := IntWalk.i64_in _ (by omega)

        obtain ⟨k, hk⟩ : ∃ k, (i + how) % 3 = k := ⟨_, rfl⟩
        have hk3 : k < 3 := by omega
        have hm3 : ((i : Int) + (how : Int)).tmod 3 = (k : Int) := by
          rw [Int.tmod_eq_emod_of_nonneg (by omega)]; omega
        have HN : Hid (∀ gap : ByteArray, tl gap = Lx.gapv k → tl (acc ++ bs ts[i].text ++ gap) ++ Lx.spread how (i + 1) (ts.drop (i + 1)) = S) := Lib.hid (fun gap hg => spread_at hil hk HE.out hg hk3)
        clear HE hk
        rcases (by omega : k = 0 ∨ k = 1 ∨ k = 2) with rfl | rfl | rfl
        · have hN := Lib.hid (HN.out ⟨#[32]⟩ (by decide))
          clear HN
          generalize bs ts[i].text = tx at *
          go_wp2_with fail
          go_roundg (ts.length - (i + 1))
          case measure => omega
          case rel => exact ⟨i + 1, _, hil, rfl, rfl, by first | rfl | simp, rfl, hN⟩
        · have hN := Lib.hid (HN.out ⟨#[10, 9]⟩ (by decide))
          clear HN
          generalize bs ts[i].text = tx at *
          go_wp2_with fail
          go_roundg (ts.length - (i + 1))
          case measure => omega
          case rel => exact ⟨i + 1, _, hil, rfl, rfl, by first | rfl | simp, rfl, hN⟩
        · have hN := Lib.hid (HN.out ⟨#[32, 35, 32, 97, 32, 40, 99, 111, 109, 109, 101, 110, 116, 10]⟩ (by decide))
          clear HN
          generalize bs ts[i].text = tx at *
          go_wp2_with fail
          go_roundg (ts.length - (i + 1))
          case measure => omega
          case rel => exact ⟨i + 1, _, hil, rfl, rfl, by first | rfl | simp, rfl, hN⟩
      · obtain rfl : i = ts.length := by omega
        have hii : ¬ (ts.length : Int) < (ts.length : Int) := by omega
        have hST : tl acc = S := by
          have := HE.out
          rw [List.drop_of_length_le (Nat.le_refl _), Lx.spread, List.append_nil] at this
          exact this
        have HQ2 := Lib.hid (fun W => HQ.out acc W hST)
        clear HE HQ hST
        go_wp2_with fail
        refine (HQ2.out _).mono ?_
        rintro e w5 ⟨⟨L2, rfl, hM5⟩, hb5⟩
        have hk6 := (hk2.next hb5).new 27 (polcs pd2 L2)
        have hb6 := (Below.refl w5.heap.size w5).alloc (Nat.le_refl _) (.cells #[.string pd2.name, .slice L2.ua pd2.uses.length L2.uc, .slice L2.ra pd2.reveal.length L2.rc, .slice L2.na pd2.nodes.length L2.nc, .int .i64 pd2.root, .string pd2.scope, .int .i64 pd2.limit, .string pd2.escrow] 27)
        have hM6 := hM5.up hb6
        have hM7 := (hM2.up hb5).up hb6
        clear HQ2 hk2 hM2 hM5 hb5 hb6
        go_upto_region 19 with fail
        obtain ⟨gq, hgq⟩ : ∃ g, w5.heap.size = g := ⟨_, rfl⟩
        simp only [hgq] at hk6 ⊢
        generalize w5.alloc _ = w6 at *
        clear hgq
        go_upto_region 21 with fail
        cases hE : (E != 0) with
        | true =>
          go_wp2_with fail
          refine (HA.out _).mono ?_
          rintro e w7 ⟨rfl, hb7⟩
          go_wp2_with fail
          go_ret
          exact ⟨rfl, (hk6.next hb7).below0⟩
        | false =>
          obtain rfl : E = 0 := by simpa using hE
          have HSm := Lib.hid (fun W h1 h2 => psame_any pd pd2 L L2 hB1 hB2 W h1 h2)
          rw [HL.out rfl] at HSm
          go_wp2_with fail
          refine (HA.out _).mono ?_
          rintro e w7 ⟨rfl, hb7⟩
          have hk8 := hk6.next hb7
          have hM8 := hM6.up hb7
          have hM9 := hM7.up hb7
          clear hk6 hM6 hM7 hb7
          obtain ⟨c0, c1, c2, c3, c4, c5, c6, c7⟩ := (hk8.blk 1 rfl).get8
          obtain ⟨d0, d1, d2, d3, d4, d5, d6, d7⟩ := (hk8.blk 0 rfl).get8
          have HS2 := Lib.hid (HSm.out _ hM9 hM8)
          clear HSm
          go_wp2_with fail
          refine HS2.out.mono ?_
          rintro e w9 ⟨rfl, hb9⟩
          go_wp2_with fail
          go_ret
          exact ⟨rfl, (hk8.next hb9).below0⟩
end Go.Proofs.YtminghdnclpocaaGreatDoor
