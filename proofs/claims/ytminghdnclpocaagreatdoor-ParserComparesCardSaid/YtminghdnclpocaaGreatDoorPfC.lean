/-
  dominolaw42.ParserCompares.
-/
import Derived.Test.YtminghdnclpocaaGreatDoorPeZ
namespace Go.Proofs.YtminghdnclpocaaGreatDoor
open Go.RowKit Go.Shelf
set_option linter.unusedVariables false

theorem below_setRow' {B : Nat} {W : World} (g : Nat) (hg : B ≤ g) (cs : Array Value) : Below B W (W.setRow g cs) :=
  ⟨rfl, rfl, rfl, by simp [World.setRow], fun k hk => by simp only [World.setRow, Array.getElem?_modify]; rw [if_neg (by omega)]⟩
abbrev cmC (k : Nat) : Nk := ⟨6, k, bs [], bs [], [1, 2], 31⟩
abbrev cmR (b : Int) : Nk := ⟨9, 0, bs [97], bs [120], [], b⟩
def cmVal (word : Bool) (n : Int) : List UInt8 := if word then cmW else Lib.itoa n
def cmSrc1 (k : Nat) (d : List UInt8) : List UInt8 := cmPre ++ 32 :: (([97, 46, 120] ++ cmSign k ++ d) ++ cmEnd)
def cmSrc2 (k : Nat) (d : List UInt8) : List UInt8 := cmPre ++ 32 :: ((d ++ [32] ++ cmSign k ++ [32, 97, 46, 120]) ++ cmEnd)
theorem cmp_parse (k : Nat) (hk : k < 6) (n : Int) (h1 : -2147483648 ≤ n) (h2 : n ≤ 2147483647) (word : Bool) :
    ∃ (x y : Nk) (b : Int), parseP (cmSrc1 k (cmVal word n)) = (cmPo [cmC k, cmR 31, x], 0, 0) ∧ parseP (cmSrc2 k (cmVal word n)) = (cmPo [cmC k, y, cmR b], 0, 0) ∧ (x.kind = if word then 11 else 10) ∧ (y.kind = if word then 11 else 10) ∧ (x.num = if word then 0 else n) ∧ (y.num = if word then 0 else n) ∧ (x.name = if word then bs [119, 45, 49] else bs []) ∧ (y.name = if word then bs [119, 45, 49] else bs []) := by
  have e1 : ∀ d, cmSrc1 k d = cmNum1 k d := fun d => by simp [cmSrc1, cmNum1]
  have e2 : ∀ d, cmSrc2 k d = cmNum2 k d := fun d => by simp [cmSrc2, cmNum2]
  rw [e1, e2]
  cases word with
  | true =>
    obtain ⟨a1, a2⟩ := parse_word k hk
    exact ⟨_, _, _, a1, a2, rfl, rfl, rfl, rfl, rfl, rfl⟩
  | false =>
    obtain ⟨b, a2⟩ := parse_num2 k hk n h1 h2
    exact ⟨_, _, b, parse_num1 k hk n h1 h2, a2, rfl, rfl, rfl, rfl, rfl, rfl⟩
theorem cmp_call {l : List UInt8} {n0 n1 n2 : Nk} (h : parseP l = (cmPo [n0, n1, n2], 0, 0)) (hl : l.length ≤ 1000) (w : World) : Calls Tryz.prog 11 #[.string ⟨l.toArray⟩] w fun e w' => (∃ ua uc ra rc na nc, e = .returned (.tuple #[.agg #[.string ⟨#[112]⟩, .slice ua 2 uc, .slice ra 0 rc, .slice (some na) 3 nc, .int .i64 0, .string ⟨#[]⟩, .int .i64 0, .string ⟨#[]⟩], .int .i64 0, .int .i64 0]) ∧ Nks w' (some na) [n0, n1, n2]) ∧ Below w.heap.size w w' :=
  (parse_at h (by omega) w).mono fun e w' ⟨⟨⟨ua, uc, ra, rc, na, nc⟩, h1, hP⟩, h2⟩ => by
    obtain ⟨na, rfl, -⟩ := hP.ns.base (Nat.succ_pos _)
    exact ⟨⟨ua, uc, ra, rc, na, nc, h1, hP.ns⟩, h2⟩
theorem sign_len (k : Nat) : (cmSign k).length ≤ 2 := by
  unfold cmSign
  match k with
  | 0 | 1 | 2 | 3 | 4 | 5 => decide
  | k + 6 => show ([] : List UInt8).length ≤ 2; decide
theorem sign_cells {W : World} {g : Nat} {t : TypeId} (h : Blk W g t [.string ⟨#[61]⟩, .string ⟨#[33, 61]⟩, .string ⟨#[60]⟩, .string ⟨#[60, 61]⟩, .string ⟨#[62]⟩, .string ⟨#[62, 61]⟩]) (k : Nat) (hk : k < 6) : W.cell? ⟨g, k, none⟩ = some (.string ⟨(cmSign k).toArray⟩) := by
  rcases (by omega : k = 0 ∨ k = 1 ∨ k = 2 ∨ k = 3 ∨ k = 4 ∨ k = 5) with rfl | rfl | rfl | rfl | rfl | rfl
  · exact h.cell 0
  · exact h.cell 1
  · exact h.cell 2
  · exact h.cell 3
  · exact h.cell 4
  · exact h.cell 5
set_option maxRecDepth 20000 in
set_option maxHeartbeats 8000000 in
theorem compares_walk (n : Int) (which : Int) (word : Bool) (h1 : -2147483648 ≤ n) (h2 : n ≤ 2147483647) (h3 : 0 ≤ which) (h4 : which ≤ 255) (w : World) : Calls Tryz.prog 5 #[.int .i32 n, .int .u8 which, .bool word] w fun e w' => e = .returned (.bool true) ∧ Below w.heap.size w w' := by
  have HA := Lib.hid (fun W => awake_any W)
  obtain ⟨m, rfl⟩ := Int.eq_ofNat_of_zero_le h3
  obtain ⟨k, hk0⟩ : ∃ k, m % 6 = k := ⟨_, rfl⟩
  have hk : k < 6 := by omega
  have HD := Lib.hid (fun W => ldecimal_any n h1 h2 W)
  have hk1 := (Hp.start w).new 9 [.string ⟨#[61]⟩, .string ⟨#[33, 61]⟩, .string ⟨#[60]⟩, .string ⟨#[60, 61]⟩, .string ⟨#[62]⟩, .string ⟨#[62, 61]⟩]
  obtain ⟨x, y, b, hP1, hP2, hx1, hy1, hx2, hy2, hx3, hy3⟩ := cmp_parse k hk n h1 h2 word
  have hdl : (cmVal word n).length ≤ 11 := by
    unfold cmVal
    cases word
    · have := dec_len10 n.natAbs (by omega)
      have := dec_len10 n.toNat (by omega)
      show (Lib.itoa n).length ≤ 11
      unfold Lib.itoa
      split
      · simp; omega
      · omega
    · show cmW.length ≤ 11; decide
  have hsl := sign_len k
  have hl1 : ([97, 46, 120] ++ cmSign k ++ cmVal word n).length ≤ 100 := by simp only [List.length_append, List.length_cons, List.length_nil]; omega
  have hl2 : (cmVal word n ++ [32] ++ cmSign k ++ [32, 97, 46, 120]).length ≤ 100 := by simp only [List.length_append, List.length_cons, List.length_nil]; omega
  have HB1 : Hid (∀ W : World, Calls Tryz.prog 16 #[.string (⟨#[97, 46, 120]⟩ ++ ⟨(cmSign k).toArray⟩ ++ ⟨(cmVal word n).toArray⟩)] W fun e w' => e = .returned (.string ⟨(cmSrc1 k (cmVal word n)).toArray⟩) ∧ Below W.heap.size W w') := Lib.hid (fun W => by
    have := body_any ([97, 46, 120] ++ cmSign k ++ cmVal word n) (by omega) W
    rw [← ba_app, ← ba_app] at this
    exact this)
  have HB2 : Hid (∀ W : World, Calls Tryz.prog 16 #[.string (⟨(cmVal word n).toArray⟩ ++ ⟨#[32]⟩ ++ ⟨(cmSign k).toArray⟩ ++ ⟨#[32, 97, 46, 120]⟩)] W fun e w' => e = .returned (.string ⟨(cmSrc2 k (cmVal word n)).toArray⟩) ∧ Below W.heap.size W w') := Lib.hid (fun W => by
    have := body_any (cmVal word n ++ [32] ++ cmSign k ++ [32, 97, 46, 120]) (by omega) W
    rw [← ba_app, ← ba_app, ← ba_app] at this
    exact this)
  have HP1 := Lib.hid (fun W => cmp_call hP1 (by
    have e : (cmSrc1 k (cmVal word n)).length = 35 + ([97, 46, 120] ++ cmSign k ++ cmVal word n).length := by
      simp only [cmSrc1, List.length_append, List.length_cons, List.length_nil]; omega
    omega) W)
  have HP2 := Lib.hid (fun W => cmp_call hP2 (by
    have e : (cmSrc2 k (cmVal word n)).length = 35 + (cmVal word n ++ [32] ++ cmSign k ++ [32, 97, 46, 120]).length := by
      simp only [cmSrc2, List.length_append, List.length_cons, List.length_nil]; omega
    omega) W)
  have hc := sign_cells (hk1.blk 0 rfl) k hk
  have hss : (⟨(cmSign k).toArray⟩ : ByteArray).size ≤ 2 := by rw [show (⟨(cmSign k).toArray⟩ : ByteArray).size = (cmSign k).length from by simp [ByteArray.size]]; exact hsl
  have hds : (⟨(cmVal word n).toArray⟩ : ByteArray).size ≤ 11 := by rw [show (⟨(cmVal word n).toArray⟩ : ByteArray).size = (cmVal word n).length from by simp [ByteArray.size]]; exact hdl
  have hw1 : (Lib.itoa n).length ≤ 11 ∨ word = true := by cases word; exact .inl hdl; exact .inr rfl
  generalize hS1 : cmSrc1 k (cmVal word n) = S1 at *
  generalize hS2 : cmSrc2 k (cmVal word n) = S2 at *
  clear hS1 hS2 hP1 hP2 hl1 hl2 hsl hdl
  have he : ((m : Int) % 6) = (k : Int) := by omega
  go_enter Tryz.func5, Tryz.ntmps5
  go_wp2_with fail
  refine (HD.out _).mono ?_
  rintro e w1 ⟨rfl, hb1⟩
  simp only [he]
  have hk2 := hk1.next hb1
  have hc2 := scell_up hc hb1
  clear hk1 hc hb1 HD
  obtain ⟨gs, hgs⟩ : ∃ g, w.heap.size = g := ⟨_, rfl⟩
  simp only [hgs] at hk2 hc2 ⊢
  cases word with
  | false =>
    have hd0 : (⟨(cmVal false n).toArray⟩ : ByteArray) = ⟨(Lib.itoa n).toArray⟩ := rfl
    rw [hd0] at HB1 HB2 hds
    generalize (⟨(cmSign k).toArray⟩ : ByteArray) = sg at *
    obtain ⟨xk, xn, xnm, xa, xks, xat⟩ := x
    obtain ⟨yk, yn, ynm, ya, yks, yat⟩ := y
    replace hx1 : xk = 10 := hx1
    replace hy1 : yk = 10 := hy1
    replace hx2 : n = xn := hx2.symm
    replace hy2 : n = yn := hy2.symm
    replace hx3 : xnm = bs [] := hx3
    replace hy3 : ynm = bs [] := hy3
    subst hx1 hy1 hx2 hy2 hx3 hy3
    clear hw1
    go_upto_region 6 with fail
    clear hd0
    generalize (⟨(Lib.itoa n).toArray⟩ : ByteArray) = dd at *
    go_wp2_with fail
    refine (HB1.out _).mono ?_
    rintro e w2 ⟨rfl, hb2⟩
    have hk3 := hk2.next hb2
    have hc3 := scell_up hc2 hb2
    clear hk2 hc2 hb2 HB1
    go_wp2_with fail
    refine (HP1.out _).mono ?_
    rintro e w3 ⟨⟨ua, uc, ra, rc, na, nc, rfl, hN⟩, hb3⟩
    have hk4 := (hk3.next hb3).new 27 [.string ⟨#[112]⟩, .slice ua 2 uc, .slice ra 0 rc, .slice (some na) 3 nc, .int .i64 0, .string ⟨#[]⟩, .int .i64 0, .string ⟨#[]⟩]
    have hc4 := scell_up (scell_up hc3 hb3) ((Below.refl w3.heap.size w3).alloc (Nat.le_refl _) (.cells #[.string ⟨#[112]⟩, .slice ua 2 uc, .slice ra 0 rc, .slice (some na) 3 nc, .int .i64 0, .string ⟨#[]⟩, .int .i64 0, .string ⟨#[]⟩] 27))
    have hN1 := hN.up ((Below.refl w3.heap.size w3).alloc (Nat.le_refl _) (.cells #[.string ⟨#[112]⟩, .slice ua 2 uc, .slice ra 0 rc, .slice (some na) 3 nc, .int .i64 0, .string ⟨#[]⟩, .int .i64 0, .string ⟨#[]⟩] 27))
    clear hk3 hc3 hN hb3 HP1
    go_upto_region 7 with fail
    generalize w3.heap.size = bp at *
    generalize w3.alloc _ = w4 at *
    go_wp2_with fail
    refine (HB2.out _).mono ?_
    rintro e w5 ⟨rfl, hb5⟩
    have hk5 := hk4.next hb5
    have hN2 := hN1.up hb5
    clear hk4 hN1 hc4 hb5 HB2
    go_wp2_with fail
    refine (HP2.out _).mono ?_
    rintro e w6 ⟨⟨ua2, uc2, ra2, rc2, na2, nc2, rfl, hM⟩, hb6⟩
    have hk6 := (hk5.next hb6).new 27 [.string ⟨#[112]⟩, .slice ua2 2 uc2, .slice ra2 0 rc2, .slice (some na2) 3 nc2, .int .i64 0, .string ⟨#[]⟩, .int .i64 0, .string ⟨#[]⟩]
    have hb7 := (Below.refl w6.heap.size w6).alloc (Nat.le_refl _) (.cells #[.string ⟨#[112]⟩, .slice ua2 2 uc2, .slice ra2 0 rc2, .slice (some na2) 3 nc2, .int .i64 0, .string ⟨#[]⟩, .int .i64 0, .string ⟨#[]⟩] 27)
    have hN3 := (hN2.up hb6).up hb7
    have hNQ := hM.up hb7
    clear hk5 hN2 hM hb6 hb7 HP2
    go_upto_region 8 with fail
    generalize w6.heap.size = bq at *
    generalize w6.alloc _ = w7 at *
    replace hk6 : Hp [] w [iblk bq 27 [.string ⟨#[112]⟩, .slice ua2 2 uc2, .slice ra2 0 rc2, .slice (some na2) 3 nc2, .int .i64 0, .string ⟨#[]⟩, .int .i64 0, .string ⟨#[]⟩], iblk bp 27 [.string ⟨#[112]⟩, .slice ua 2 uc, .slice ra 0 rc, .slice (some na) 3 nc, .int .i64 0, .string ⟨#[]⟩, .int .i64 0, .string ⟨#[]⟩]] w7 := Hp.sub (r := [_]) hk6
    obtain ⟨c0, c1, c2, c3, c4, c5, c6, c7⟩ := (hk6.blk 1 rfl).get8
    obtain ⟨d0, d1, d2, d3, d4, d5, d6, d7⟩ := (hk6.blk 0 rfl).get8
    go_upto_region 10 with fail
    obtain ⟨KX, kx, x0, x1, x2, x3, x4, x5, -⟩ := hN3.get (i := 2) rfl
    obtain ⟨KY, ky, y0, y1, y2, y3, y4, y5, -⟩ := hNQ.get (i := 1) rfl
    simp only [Nat.one_mul, Nat.reduceMul, add_six, add_twelve, Nat.add_assoc, Nat.reduceAdd, bs] at x0 x1 x2 x3 x4 x5 y0 y1 y2 y3 y4 y5
    have hMd := hk6.drew
    refine wp_region_held_drew (S := (fun w' => Below w7.heap.size w7 w')) (by kernel_rfl) ?_ (fun hHeld => ?_)
    · exact (Below.refl _ _).drew
    refine wpAnyH_take (i := 0) (v := ?_) rfl (by kernel_rfl) (by kernel_rfl) (by kernel_rfl) (fun _ _ _ h => h) (Or.inl ⟨by rfl, ?_⟩) (by assumption) ?_
    rotate_left
    · (intro w hSw; (try dsimp only at hSw); (have s0 := scell_up c3 hSw; have s1 := scell_up d3 hSw; have s2 := scell_up x0 hSw; have s3 := scell_up x1 hSw; have s4 := scell_up x2 hSw; have s5 := scell_up x3 hSw; have s6 := scell_up x4 hSw; have s7 := scell_up x5 hSw; have s8 := scell_up y0 hSw; have s9 := scell_up y1 hSw; have s10 := scell_up y2 hSw; have s11 := scell_up y3 hSw; have s12 := scell_up y4 hSw; have s13 := scell_up y5 hSw); go_simp; (try with_reducible rfl))
    try simp only [Act.put, List.getElem_toArray, List.getElem_cons_zero, List.setIfInBounds_toArray, List.set_cons_zero, List.set_cons_succ]
    refine wpAnyH_take (i := 1) (v := ?_) rfl (by kernel_rfl) (by kernel_rfl) (by kernel_rfl) (fun _ _ _ h => h) (Or.inl ⟨by rfl, ?_⟩) (by assumption) ?_
    rotate_left
    · (intro w hSw; (try dsimp only at hSw); (have s0 := scell_up c3 hSw; have s1 := scell_up d3 hSw; have s2 := scell_up x0 hSw; have s3 := scell_up x1 hSw; have s4 := scell_up x2 hSw; have s5 := scell_up x3 hSw; have s6 := scell_up x4 hSw; have s7 := scell_up x5 hSw; have s8 := scell_up y0 hSw; have s9 := scell_up y1 hSw; have s10 := scell_up y2 hSw; have s11 := scell_up y3 hSw; have s12 := scell_up y4 hSw; have s13 := scell_up y5 hSw); go_simp; (try with_reducible rfl))
    try simp only [Act.put, List.getElem_toArray, List.getElem_cons_zero, List.getElem_cons_succ, List.setIfInBounds_toArray, List.set_cons_zero, List.set_cons_succ]
    refine wpAnyH_take (i := 2) (v := ?_) rfl (by kernel_rfl) (by kernel_rfl) (by kernel_rfl) (fun _ _ _ h => h) (Or.inl ⟨by rfl, ?_⟩) (by assumption) ?_
    rotate_left
    · (intro w hSw; (try dsimp only at hSw); (have s0 := scell_up c3 hSw; have s1 := scell_up d3 hSw; have s2 := scell_up x0 hSw; have s3 := scell_up x1 hSw; have s4 := scell_up x2 hSw; have s5 := scell_up x3 hSw; have s6 := scell_up x4 hSw; have s7 := scell_up x5 hSw; have s8 := scell_up y0 hSw; have s9 := scell_up y1 hSw; have s10 := scell_up y2 hSw; have s11 := scell_up y3 hSw; have s12 := scell_up y4 hSw; have s13 := scell_up y5 hSw); go_simp; (try with_reducible rfl))
    try simp only [Act.put, List.getElem_toArray, List.getElem_cons_zero, List.getElem_cons_succ, List.setIfInBounds_toArray, List.set_cons_zero, List.set_cons_succ]
    refine wpAnyH_take (i := 3) (v := ?_) rfl (by kernel_rfl) (by kernel_rfl) (by kernel_rfl) (fun _ _ _ h => h) (Or.inl ⟨by rfl, ?_⟩) (by assumption) ?_
    rotate_left
    · (intro w hSw; (try dsimp only at hSw); (have s0 := scell_up c3 hSw; have s1 := scell_up d3 hSw; have s2 := scell_up x0 hSw; have s3 := scell_up x1 hSw; have s4 := scell_up x2 hSw; have s5 := scell_up x3 hSw; have s6 := scell_up x4 hSw; have s7 := scell_up x5 hSw; have s8 := scell_up y0 hSw; have s9 := scell_up y1 hSw; have s10 := scell_up y2 hSw; have s11 := scell_up y3 hSw; have s12 := scell_up y4 hSw; have s13 := scell_up y5 hSw); go_simp; (try with_reducible rfl))
    try simp only [Act.put, List.getElem_toArray, List.getElem_cons_zero, List.getElem_cons_succ, List.setIfInBounds_toArray, List.set_cons_zero, List.set_cons_succ]
    refine wpAnyH_take (i := 4) (v := ?_) rfl (by kernel_rfl) (by kernel_rfl) (by kernel_rfl) (fun _ _ _ h => h) (Or.inl ⟨by rfl, ?_⟩) (by assumption) ?_
    rotate_left
    · (intro w hSw; (try dsimp only at hSw); (have s0 := scell_up c3 hSw; have s1 := scell_up d3 hSw; have s2 := scell_up x0 hSw; have s3 := scell_up x1 hSw; have s4 := scell_up x2 hSw; have s5 := scell_up x3 hSw; have s6 := scell_up x4 hSw; have s7 := scell_up x5 hSw; have s8 := scell_up y0 hSw; have s9 := scell_up y1 hSw; have s10 := scell_up y2 hSw; have s11 := scell_up y3 hSw; have s12 := scell_up y4 hSw; have s13 := scell_up y5 hSw); go_simp; (try with_reducible rfl))
    try simp only [Act.put, List.getElem_toArray, List.getElem_cons_zero, List.getElem_cons_succ, List.setIfInBounds_toArray, List.set_cons_zero, List.set_cons_succ]
    refine wpAnyH_take (i := 5) (v := ?_) rfl (by kernel_rfl) (by kernel_rfl) (by kernel_rfl) (fun _ _ _ h => h) (Or.inl ⟨by rfl, ?_⟩) (by assumption) ?_
    rotate_left
    · (intro w hSw; (try dsimp only at hSw); (have s0 := scell_up c3 hSw; have s1 := scell_up d3 hSw; have s2 := scell_up x0 hSw; have s3 := scell_up x1 hSw; have s4 := scell_up x2 hSw; have s5 := scell_up x3 hSw; have s6 := scell_up x4 hSw; have s7 := scell_up x5 hSw; have s8 := scell_up y0 hSw; have s9 := scell_up y1 hSw; have s10 := scell_up y2 hSw; have s11 := scell_up y3 hSw; have s12 := scell_up y4 hSw; have s13 := scell_up y5 hSw); go_simp; (try with_reducible rfl))
    try simp only [Act.put, List.getElem_toArray, List.getElem_cons_zero, List.getElem_cons_succ, List.setIfInBounds_toArray, List.set_cons_zero, List.set_cons_succ]
    refine wpAnyH_take (i := 6) (v := ?_) rfl (by kernel_rfl) (by kernel_rfl) (by kernel_rfl) (fun _ _ _ h => h) (Or.inl ⟨by rfl, ?_⟩) (by assumption) ?_
    rotate_left
    · (intro w hSw; (try dsimp only at hSw); (have s0 := scell_up c3 hSw; have s1 := scell_up d3 hSw; have s2 := scell_up x0 hSw; have s3 := scell_up x1 hSw; have s4 := scell_up x2 hSw; have s5 := scell_up x3 hSw; have s6 := scell_up x4 hSw; have s7 := scell_up x5 hSw; have s8 := scell_up y0 hSw; have s9 := scell_up y1 hSw; have s10 := scell_up y2 hSw; have s11 := scell_up y3 hSw; have s12 := scell_up y4 hSw; have s13 := scell_up y5 hSw); go_simp; (try with_reducible rfl))
    try simp only [Act.put, List.getElem_toArray, List.getElem_cons_zero, List.getElem_cons_succ, List.setIfInBounds_toArray, List.set_cons_zero, List.set_cons_succ]
    refine wpAnyH_take (i := 7) (v := ?_) rfl (by kernel_rfl) (by kernel_rfl) (by kernel_rfl) (fun _ _ _ h => h) (Or.inl ⟨by rfl, ?_⟩) (by assumption) ?_
    rotate_left
    · (intro w hSw; (try dsimp only at hSw); (have s0 := scell_up c3 hSw; have s1 := scell_up d3 hSw; have s2 := scell_up x0 hSw; have s3 := scell_up x1 hSw; have s4 := scell_up x2 hSw; have s5 := scell_up x3 hSw; have s6 := scell_up x4 hSw; have s7 := scell_up x5 hSw; have s8 := scell_up y0 hSw; have s9 := scell_up y1 hSw; have s10 := scell_up y2 hSw; have s11 := scell_up y3 hSw; have s12 := scell_up y4 hSw; have s13 := scell_up y5 hSw); go_simp; (try with_reducible rfl))
    try simp only [Act.put, List.getElem_toArray, List.getElem_cons_zero, List.getElem_cons_succ, List.setIfInBounds_toArray, List.set_cons_zero, List.set_cons_succ]
    refine wpAnyH_ready (rs := [8, 9]) (by kernel_rfl) (by simp) ?_
    refine AllReadyH.cons rfl (fun K hK => ?_) ?_
    · go_simp
      have hM1 : Hp [] w [iblk w7.heap.size 46 [.int .i64 0, .int .i64 0, .string ⟨#[]⟩, .string ⟨#[]⟩, .slice none 0 0, .int .i64 0], iblk bq 27 [.string ⟨#[112]⟩, .slice ua2 2 uc2, .slice ra2 0 rc2, .slice (some na2) 3 nc2, .int .i64 0, .string ⟨#[]⟩, .int .i64 0, .string ⟨#[]⟩], iblk bp 27 [.string ⟨#[112]⟩, .slice ua 2 uc, .slice ra 0 rc, .slice (some na) 3 nc, .int .i64 0, .string ⟨#[]⟩, .int .i64 0, .string ⟨#[]⟩]] (w7.alloc (.cells #[.int .i64 0, .int .i64 0, .string ⟨#[]⟩, .string ⟨#[]⟩, .slice none 0 0, .int .i64 0] 46)).drew := hMd.new 46 [.int .i64 0, .int .i64 0, .string ⟨#[]⟩, .string ⟨#[]⟩, .slice none 0 0, .int .i64 0]
      have hb1 : Below w7.heap.size w7 (w7.alloc (.cells #[.int .i64 0, .int .i64 0, .string ⟨#[]⟩, .string ⟨#[]⟩, .slice none 0 0, .int .i64 0] 46)).drew := ((Below.refl _ _).drew).alloc (Nat.le_refl _) (.cells #[.int .i64 0, .int .i64 0, .string ⟨#[]⟩, .string ⟨#[]⟩, .slice none 0 0, .int .i64 0] 46)
      refine hK.out _ _ ?_ (fun hHeld => ?_)
      · exact hb1
      clear hK K
      refine wpAnyH_ready (rs := [9]) (by kernel_rfl) (by simp) ?_
      refine AllReadyH.cons rfl (fun K hK => ?_) ?_
      · go_simp
        have e9 : (w7.alloc (.cells #[.int .i64 0, .int .i64 0, .string ⟨#[]⟩, .string ⟨#[]⟩, .slice none 0 0, .int .i64 0] 46)).drew.heap.size = w7.heap.size + 1 := by show (w7.heap.push _).size = _; simp
        have hM2 : Hp [] w [iblk (w7.heap.size + 1) 46 [.int .i64 0, .int .i64 0, .string ⟨#[]⟩, .string ⟨#[]⟩, .slice none 0 0, .int .i64 0], iblk w7.heap.size 46 [.int .i64 0, .int .i64 0, .string ⟨#[]⟩, .string ⟨#[]⟩, .slice none 0 0, .int .i64 0], iblk bq 27 [.string ⟨#[112]⟩, .slice ua2 2 uc2, .slice ra2 0 rc2, .slice (some na2) 3 nc2, .int .i64 0, .string ⟨#[]⟩, .int .i64 0, .string ⟨#[]⟩], iblk bp 27 [.string ⟨#[112]⟩, .slice ua 2 uc, .slice ra 0 rc, .slice (some na) 3 nc, .int .i64 0, .string ⟨#[]⟩, .int .i64 0, .string ⟨#[]⟩]] ((w7.alloc (.cells #[.int .i64 0, .int .i64 0, .string ⟨#[]⟩, .string ⟨#[]⟩, .slice none 0 0, .int .i64 0] 46)).alloc (.cells #[.int .i64 0, .int .i64 0, .string ⟨#[]⟩, .string ⟨#[]⟩, .slice none 0 0, .int .i64 0] 46)).drew := by
          have h9 := hM1.new 46 [.int .i64 0, .int .i64 0, .string ⟨#[]⟩, .string ⟨#[]⟩, .slice none 0 0, .int .i64 0]
          rw [e9] at h9
          exact h9
        have hb2 : Below w7.heap.size w7 ((w7.alloc (.cells #[.int .i64 0, .int .i64 0, .string ⟨#[]⟩, .string ⟨#[]⟩, .slice none 0 0, .int .i64 0] 46)).alloc (.cells #[.int .i64 0, .int .i64 0, .string ⟨#[]⟩, .string ⟨#[]⟩, .slice none 0 0, .int .i64 0] 46)).drew := hb1.alloc (by omega) (.cells #[.int .i64 0, .int .i64 0, .string ⟨#[]⟩, .string ⟨#[]⟩, .slice none 0 0, .int .i64 0] 46)
        clear hM1
        refine hK.out _ _ ?_ (fun hHeld => ?_)
        · exact hb2
        clear hK K
        refine wpAnyH_ready (rs := [10]) (by kernel_rfl) (by simp) ?_
        refine AllReadyH.cons rfl (fun K hK => ?_) ?_
        · rw [if_pos (by rfl)]
          refine wp_store_row 46 (.tmp 17) (.tmp 75) (by rfl) w7.heap.size ([.int .i64 10, .int .i64 n, .string ⟨#[]⟩, .string xa, .slice KX xks.length kx, .int .i64 xat] : List Value).toArray (by rfl) (by rfl) 46 ([.int .i64 0, .int .i64 0, .string ⟨#[]⟩, .string ⟨#[]⟩, .slice none 0 0, .int .i64 0] : List Value).toArray (hM2.blk 1 rfl) (by kernel_rfl) (by kernel_rfl) (by kernel_rfl) ?_
          have hM3 := hM2.rowAt 1 rfl [.int .i64 10, .int .i64 n, .string ⟨#[]⟩, .string xa, .slice KX xks.length kx, .int .i64 xat]
          have hb3 := hb2.trans (below_setRow' w7.heap.size (by omega) ([.int .i64 10, .int .i64 n, .string ⟨#[]⟩, .string xa, .slice KX xks.length kx, .int .i64 xat] : List Value).toArray)
          refine hK.out _ _ ?_ (fun hHeld => ?_)
          · exact hb3
          clear hK K
          refine wpAnyH_ready (rs := [11]) (by kernel_rfl) (by simp) ?_
          refine AllReadyH.cons rfl (fun K hK => ?_) ?_
          · rw [if_pos (by rfl)]
            refine wp_store_row 46 (.tmp 18) (.tmp 79) (by rfl) (w7.heap.size + 1) ([.int .i64 10, .int .i64 n, .string ⟨#[]⟩, .string ya, .slice KY yks.length ky, .int .i64 yat] : List Value).toArray (by rfl) (by rfl) 46 ([.int .i64 0, .int .i64 0, .string ⟨#[]⟩, .string ⟨#[]⟩, .slice none 0 0, .int .i64 0] : List Value).toArray (hM3.blk 0 rfl) (by kernel_rfl) (by kernel_rfl) (by kernel_rfl) ?_
            have hM4 := hM3.rowAt 0 rfl [.int .i64 10, .int .i64 n, .string ⟨#[]⟩, .string ya, .slice KY yks.length ky, .int .i64 yat]
            have hb4 := hb3.trans (below_setRow' (w7.heap.size + 1) (by omega) ([.int .i64 10, .int .i64 n, .string ⟨#[]⟩, .string ya, .slice KY yks.length ky, .int .i64 yat] : List Value).toArray)
            refine hK.out _ _ ?_ (fun hHeld => ?_)
            · exact hb4
            clear hK K
            refine wpAnyH_done (by kernel_rfl) ?_ _
            have hN4 := hN3.up hb4
            have hM9 := hNQ.up hb4
            have hM5 := hM4
            clear hb1 hb2 hb3 hb4 hM2 hM3 hHeld hM4 hMd hk6 hN3 hNQ c0 c1 c2 c3 c4 c5 c6 c7 d0 d1 d2 d3 d4 d5 d6 d7 x0 x1 x2 x3 x4 x5 y0 y1 y2 y3 y4 y5
            obtain ⟨x0, x1, x2, x3, x4, x5⟩ := (hM5.blk 1 rfl).get6
            obtain ⟨y0, y1, y2, y3, y4, y5⟩ := (hM5.blk 0 rfl).get6
            obtain ⟨c0, c1, c2, c3, c4, c5, c6, c7⟩ := (hM5.blk 3 rfl).get8
            obtain ⟨d0, d1, d2, d3, d4, d5, d6, d7⟩ := (hM5.blk 2 rfl).get8
            obtain ⟨K0, k0, p0, p1, p2, p3, p4, p5, -⟩ := hN4.get (i := 0) rfl
            obtain ⟨K1, k1, q0, q1, q2, q3, q4, q5, -⟩ := hN4.get (i := 1) rfl
            obtain ⟨K2, k2, r0, r1, r2, r3, r4, r5, -⟩ := hM9.get (i := 0) rfl
            obtain ⟨K3, k3, t0, t1, t2, t3, t4, t5, -⟩ := hM9.get (i := 2) rfl
            clear hN4 hM9
            simp only [Nat.zero_mul, Nat.one_mul, Nat.reduceMul, add_none, add_six, add_twelve, Nat.add_assoc, Nat.reduceAdd, bs] at p0 p1 p2 p3 p4 p5 q0 q1 q2 q3 q4 q5 r0 r1 r2 r3 r4 r5 t0 t1 t2 t3 t4 t5
            generalize hX : w7.heap.size = bX at *
            generalize hY : (w7.heap.size + 1) = bY at *
            generalize World.setRow _ bY _ = w9 at *
            go_wp2_with fail
            refine (HA.out _).mono ?_
            rintro e w10 ⟨rfl, hb9⟩
            have hM6 := hM5.next hb9
            clear x0 x1 x2 x3 x4 x5 y0 y1 y2 y3 y4 y5 c0 c1 c2 c3 c4 c5 c6 c7 d0 d1 d2 d3 d4 d5 d6 d7 p0 p1 p2 p3 p4 p5 q0 q1 q2 q3 q4 q5 r0 r1 r2 r3 r4 r5 t0 t1 t2 t3 t4 t5
            obtain ⟨x0, x1, x2, x3, x4, x5⟩ := (hM6.blk 1 rfl).get6
            obtain ⟨y0, y1, y2, y3, y4, y5⟩ := (hM6.blk 0 rfl).get6
            go_wp2_with fail
            go_ret
            exact ⟨rfl, hM6.below0⟩
          exact AllReadyH.nil
        exact AllReadyH.nil
      exact AllReadyH.nil
    refine AllReadyH.cons rfl (fun K hK => ?_) ?_
    · go_simp
      have hM1 : Hp [] w [iblk w7.heap.size 46 [.int .i64 0, .int .i64 0, .string ⟨#[]⟩, .string ⟨#[]⟩, .slice none 0 0, .int .i64 0], iblk bq 27 [.string ⟨#[112]⟩, .slice ua2 2 uc2, .slice ra2 0 rc2, .slice (some na2) 3 nc2, .int .i64 0, .string ⟨#[]⟩, .int .i64 0, .string ⟨#[]⟩], iblk bp 27 [.string ⟨#[112]⟩, .slice ua 2 uc, .slice ra 0 rc, .slice (some na) 3 nc, .int .i64 0, .string ⟨#[]⟩, .int .i64 0, .string ⟨#[]⟩]] (w7.alloc (.cells #[.int .i64 0, .int .i64 0, .string ⟨#[]⟩, .string ⟨#[]⟩, .slice none 0 0, .int .i64 0] 46)).drew := hMd.new 46 [.int .i64 0, .int .i64 0, .string ⟨#[]⟩, .string ⟨#[]⟩, .slice none 0 0, .int .i64 0]
      have hb1 : Below w7.heap.size w7 (w7.alloc (.cells #[.int .i64 0, .int .i64 0, .string ⟨#[]⟩, .string ⟨#[]⟩, .slice none 0 0, .int .i64 0] 46)).drew := ((Below.refl _ _).drew).alloc (Nat.le_refl _) (.cells #[.int .i64 0, .int .i64 0, .string ⟨#[]⟩, .string ⟨#[]⟩, .slice none 0 0, .int .i64 0] 46)
      refine hK.out _ _ ?_ (fun hHeld => ?_)
      · exact hb1
      clear hK K
      refine wpAnyH_ready (rs := [8]) (by kernel_rfl) (by simp) ?_
      refine AllReadyH.cons rfl (fun K hK => ?_) ?_
      · go_simp
        have e9 : (w7.alloc (.cells #[.int .i64 0, .int .i64 0, .string ⟨#[]⟩, .string ⟨#[]⟩, .slice none 0 0, .int .i64 0] 46)).drew.heap.size = w7.heap.size + 1 := by show (w7.heap.push _).size = _; simp
        have hM2 : Hp [] w [iblk (w7.heap.size + 1) 46 [.int .i64 0, .int .i64 0, .string ⟨#[]⟩, .string ⟨#[]⟩, .slice none 0 0, .int .i64 0], iblk w7.heap.size 46 [.int .i64 0, .int .i64 0, .string ⟨#[]⟩, .string ⟨#[]⟩, .slice none 0 0, .int .i64 0], iblk bq 27 [.string ⟨#[112]⟩, .slice ua2 2 uc2, .slice ra2 0 rc2, .slice (some na2) 3 nc2, .int .i64 0, .string ⟨#[]⟩, .int .i64 0, .string ⟨#[]⟩], iblk bp 27 [.string ⟨#[112]⟩, .slice ua 2 uc, .slice ra 0 rc, .slice (some na) 3 nc, .int .i64 0, .string ⟨#[]⟩, .int .i64 0, .string ⟨#[]⟩]] ((w7.alloc (.cells #[.int .i64 0, .int .i64 0, .string ⟨#[]⟩, .string ⟨#[]⟩, .slice none 0 0, .int .i64 0] 46)).alloc (.cells #[.int .i64 0, .int .i64 0, .string ⟨#[]⟩, .string ⟨#[]⟩, .slice none 0 0, .int .i64 0] 46)).drew := by
          have h9 := hM1.new 46 [.int .i64 0, .int .i64 0, .string ⟨#[]⟩, .string ⟨#[]⟩, .slice none 0 0, .int .i64 0]
          rw [e9] at h9
          exact h9
        have hb2 : Below w7.heap.size w7 ((w7.alloc (.cells #[.int .i64 0, .int .i64 0, .string ⟨#[]⟩, .string ⟨#[]⟩, .slice none 0 0, .int .i64 0] 46)).alloc (.cells #[.int .i64 0, .int .i64 0, .string ⟨#[]⟩, .string ⟨#[]⟩, .slice none 0 0, .int .i64 0] 46)).drew := hb1.alloc (by omega) (.cells #[.int .i64 0, .int .i64 0, .string ⟨#[]⟩, .string ⟨#[]⟩, .slice none 0 0, .int .i64 0] 46)
        clear hM1
        refine hK.out _ _ ?_ (fun hHeld => ?_)
        · exact hb2
        clear hK K
        refine wpAnyH_ready (rs := [10]) (by kernel_rfl) (by simp) ?_
        refine AllReadyH.cons rfl (fun K hK => ?_) ?_
        · rw [if_pos (by rfl)]
          refine wp_store_row 46 (.tmp 17) (.tmp 75) (by rfl) (w7.heap.size + 1) ([.int .i64 10, .int .i64 n, .string ⟨#[]⟩, .string xa, .slice KX xks.length kx, .int .i64 xat] : List Value).toArray (by rfl) (by rfl) 46 ([.int .i64 0, .int .i64 0, .string ⟨#[]⟩, .string ⟨#[]⟩, .slice none 0 0, .int .i64 0] : List Value).toArray (hM2.blk 0 rfl) (by kernel_rfl) (by kernel_rfl) (by kernel_rfl) ?_
          have hM3 := hM2.rowAt 0 rfl [.int .i64 10, .int .i64 n, .string ⟨#[]⟩, .string xa, .slice KX xks.length kx, .int .i64 xat]
          have hb3 := hb2.trans (below_setRow' (w7.heap.size + 1) (by omega) ([.int .i64 10, .int .i64 n, .string ⟨#[]⟩, .string xa, .slice KX xks.length kx, .int .i64 xat] : List Value).toArray)
          refine hK.out _ _ ?_ (fun hHeld => ?_)
          · exact hb3
          clear hK K
          refine wpAnyH_ready (rs := [11]) (by kernel_rfl) (by simp) ?_
          refine AllReadyH.cons rfl (fun K hK => ?_) ?_
          · rw [if_pos (by rfl)]
            refine wp_store_row 46 (.tmp 18) (.tmp 79) (by rfl) w7.heap.size ([.int .i64 10, .int .i64 n, .string ⟨#[]⟩, .string ya, .slice KY yks.length ky, .int .i64 yat] : List Value).toArray (by rfl) (by rfl) 46 ([.int .i64 0, .int .i64 0, .string ⟨#[]⟩, .string ⟨#[]⟩, .slice none 0 0, .int .i64 0] : List Value).toArray (hM3.blk 1 rfl) (by kernel_rfl) (by kernel_rfl) (by kernel_rfl) ?_
            have hM4 := hM3.rowAt 1 rfl [.int .i64 10, .int .i64 n, .string ⟨#[]⟩, .string ya, .slice KY yks.length ky, .int .i64 yat]
            have hb4 := hb3.trans (below_setRow' w7.heap.size (by omega) ([.int .i64 10, .int .i64 n, .string ⟨#[]⟩, .string ya, .slice KY yks.length ky, .int .i64 yat] : List Value).toArray)
            refine hK.out _ _ ?_ (fun hHeld => ?_)
            · exact hb4
            clear hK K
            refine wpAnyH_done (by kernel_rfl) ?_ _
            have hN4 := hN3.up hb4
            have hM9 := hNQ.up hb4
            have hM5 := hM4
            clear hb1 hb2 hb3 hb4 hM2 hM3 hHeld hM4 hMd hk6 hN3 hNQ c0 c1 c2 c3 c4 c5 c6 c7 d0 d1 d2 d3 d4 d5 d6 d7 x0 x1 x2 x3 x4 x5 y0 y1 y2 y3 y4 y5
            obtain ⟨x0, x1, x2, x3, x4, x5⟩ := (hM5.blk 0 rfl).get6
            obtain ⟨y0, y1, y2, y3, y4, y5⟩ := (hM5.blk 1 rfl).get6
            obtain ⟨c0, c1, c2, c3, c4, c5, c6, c7⟩ := (hM5.blk 3 rfl).get8
            obtain ⟨d0, d1, d2, d3, d4, d5, d6, d7⟩ := (hM5.blk 2 rfl).get8
            obtain ⟨K0, k0, p0, p1, p2, p3, p4, p5, -⟩ := hN4.get (i := 0) rfl
            obtain ⟨K1, k1, q0, q1, q2, q3, q4, q5, -⟩ := hN4.get (i := 1) rfl
            obtain ⟨K2, k2, r0, r1, r2, r3, r4, r5, -⟩ := hM9.get (i := 0) rfl
            obtain ⟨K3, k3, t0, t1, t2, t3, t4, t5, -⟩ := hM9.get (i := 2) rfl
            clear hN4 hM9
            simp only [Nat.zero_mul, Nat.one_mul, Nat.reduceMul, add_none, add_six, add_twelve, Nat.add_assoc, Nat.reduceAdd, bs] at p0 p1 p2 p3 p4 p5 q0 q1 q2 q3 q4 q5 r0 r1 r2 r3 r4 r5 t0 t1 t2 t3 t4 t5
            generalize hX : (w7.heap.size + 1) = bX at *
            generalize hY : w7.heap.size = bY at *
            generalize World.setRow _ bY _ = w9 at *
            go_wp2_with fail
            refine (HA.out _).mono ?_
            rintro e w10 ⟨rfl, hb9⟩
            have hM6 := hM5.next hb9
            clear x0 x1 x2 x3 x4 x5 y0 y1 y2 y3 y4 y5 c0 c1 c2 c3 c4 c5 c6 c7 d0 d1 d2 d3 d4 d5 d6 d7 p0 p1 p2 p3 p4 p5 q0 q1 q2 q3 q4 q5 r0 r1 r2 r3 r4 r5 t0 t1 t2 t3 t4 t5
            obtain ⟨x0, x1, x2, x3, x4, x5⟩ := (hM6.blk 0 rfl).get6
            obtain ⟨y0, y1, y2, y3, y4, y5⟩ := (hM6.blk 1 rfl).get6
            go_wp2_with fail
            go_ret
            exact ⟨rfl, hM6.below0⟩
          exact AllReadyH.nil
        exact AllReadyH.nil
      exact AllReadyH.nil
    exact AllReadyH.nil
  | true =>
    have hd0 : (⟨(cmVal true n).toArray⟩ : ByteArray) = ⟨#[39, 119, 45, 49, 39]⟩ := rfl
    rw [hd0] at HB1 HB2 hds
    generalize (⟨(cmSign k).toArray⟩ : ByteArray) = sg at *
    obtain ⟨xk, xn, xnm, xa, xks, xat⟩ := x
    obtain ⟨yk, yn, ynm, ya, yks, yat⟩ := y
    replace hx1 : xk = 11 := hx1
    replace hy1 : yk = 11 := hy1
    replace hx2 : xn = 0 := hx2
    replace hy2 : yn = 0 := hy2
    replace hx3 : xnm = bs [119, 45, 49] := hx3
    replace hy3 : ynm = bs [119, 45, 49] := hy3
    subst hx1 hy1 hx2 hy2 hx3 hy3
    clear hw1
    go_upto_region 6 with fail
    clear hd0
    generalize (⟨#[39, 119, 45, 49, 39]⟩ : ByteArray) = dd at *
    go_wp2_with fail
    refine (HB1.out _).mono ?_
    rintro e w2 ⟨rfl, hb2⟩
    have hk3 := hk2.next hb2
    have hc3 := scell_up hc2 hb2
    clear hk2 hc2 hb2 HB1
    go_wp2_with fail
    refine (HP1.out _).mono ?_
    rintro e w3 ⟨⟨ua, uc, ra, rc, na, nc, rfl, hN⟩, hb3⟩
    have hk4 := (hk3.next hb3).new 27 [.string ⟨#[112]⟩, .slice ua 2 uc, .slice ra 0 rc, .slice (some na) 3 nc, .int .i64 0, .string ⟨#[]⟩, .int .i64 0, .string ⟨#[]⟩]
    have hc4 := scell_up (scell_up hc3 hb3) ((Below.refl w3.heap.size w3).alloc (Nat.le_refl _) (.cells #[.string ⟨#[112]⟩, .slice ua 2 uc, .slice ra 0 rc, .slice (some na) 3 nc, .int .i64 0, .string ⟨#[]⟩, .int .i64 0, .string ⟨#[]⟩] 27))
    have hN1 := hN.up ((Below.refl w3.heap.size w3).alloc (Nat.le_refl _) (.cells #[.string ⟨#[112]⟩, .slice ua 2 uc, .slice ra 0 rc, .slice (some na) 3 nc, .int .i64 0, .string ⟨#[]⟩, .int .i64 0, .string ⟨#[]⟩] 27))
    clear hk3 hc3 hN hb3 HP1
    go_upto_region 7 with fail
    generalize w3.heap.size = bp at *
    generalize w3.alloc _ = w4 at *
    go_wp2_with fail
    refine (HB2.out _).mono ?_
    rintro e w5 ⟨rfl, hb5⟩
    have hk5 := hk4.next hb5
    have hN2 := hN1.up hb5
    clear hk4 hN1 hc4 hb5 HB2
    go_wp2_with fail
    refine (HP2.out _).mono ?_
    rintro e w6 ⟨⟨ua2, uc2, ra2, rc2, na2, nc2, rfl, hM⟩, hb6⟩
    have hk6 := (hk5.next hb6).new 27 [.string ⟨#[112]⟩, .slice ua2 2 uc2, .slice ra2 0 rc2, .slice (some na2) 3 nc2, .int .i64 0, .string ⟨#[]⟩, .int .i64 0, .string ⟨#[]⟩]
    have hb7 := (Below.refl w6.heap.size w6).alloc (Nat.le_refl _) (.cells #[.string ⟨#[112]⟩, .slice ua2 2 uc2, .slice ra2 0 rc2, .slice (some na2) 3 nc2, .int .i64 0, .string ⟨#[]⟩, .int .i64 0, .string ⟨#[]⟩] 27)
    have hN3 := (hN2.up hb6).up hb7
    have hNQ := hM.up hb7
    clear hk5 hN2 hM hb6 hb7 HP2
    go_upto_region 8 with fail
    generalize w6.heap.size = bq at *
    generalize w6.alloc _ = w7 at *
    replace hk6 : Hp [] w [iblk bq 27 [.string ⟨#[112]⟩, .slice ua2 2 uc2, .slice ra2 0 rc2, .slice (some na2) 3 nc2, .int .i64 0, .string ⟨#[]⟩, .int .i64 0, .string ⟨#[]⟩], iblk bp 27 [.string ⟨#[112]⟩, .slice ua 2 uc, .slice ra 0 rc, .slice (some na) 3 nc, .int .i64 0, .string ⟨#[]⟩, .int .i64 0, .string ⟨#[]⟩]] w7 := Hp.sub (r := [_]) hk6
    obtain ⟨c0, c1, c2, c3, c4, c5, c6, c7⟩ := (hk6.blk 1 rfl).get8
    obtain ⟨d0, d1, d2, d3, d4, d5, d6, d7⟩ := (hk6.blk 0 rfl).get8
    go_upto_region 10 with fail
    obtain ⟨KX, kx, x0, x1, x2, x3, x4, x5, -⟩ := hN3.get (i := 2) rfl
    obtain ⟨KY, ky, y0, y1, y2, y3, y4, y5, -⟩ := hNQ.get (i := 1) rfl
    simp only [Nat.one_mul, Nat.reduceMul, add_six, add_twelve, Nat.add_assoc, Nat.reduceAdd, bs] at x0 x1 x2 x3 x4 x5 y0 y1 y2 y3 y4 y5
    have hMd := hk6.drew
    refine wp_region_held_drew (S := (fun w' => Below w7.heap.size w7 w')) (by kernel_rfl) ?_ (fun hHeld => ?_)
    · exact (Below.refl _ _).drew
    refine wpAnyH_take (i := 0) (v := ?_) rfl (by kernel_rfl) (by kernel_rfl) (by kernel_rfl) (fun _ _ _ h => h) (Or.inl ⟨by rfl, ?_⟩) (by assumption) ?_
    rotate_left
    · (intro w hSw; (try dsimp only at hSw); (have s0 := scell_up c3 hSw; have s1 := scell_up d3 hSw; have s2 := scell_up x0 hSw; have s3 := scell_up x1 hSw; have s4 := scell_up x2 hSw; have s5 := scell_up x3 hSw; have s6 := scell_up x4 hSw; have s7 := scell_up x5 hSw; have s8 := scell_up y0 hSw; have s9 := scell_up y1 hSw; have s10 := scell_up y2 hSw; have s11 := scell_up y3 hSw; have s12 := scell_up y4 hSw; have s13 := scell_up y5 hSw); go_simp; (try with_reducible rfl))
    try simp only [Act.put, List.getElem_toArray, List.getElem_cons_zero, List.setIfInBounds_toArray, List.set_cons_zero, List.set_cons_succ]
    refine wpAnyH_take (i := 1) (v := ?_) rfl (by kernel_rfl) (by kernel_rfl) (by kernel_rfl) (fun _ _ _ h => h) (Or.inl ⟨by rfl, ?_⟩) (by assumption) ?_
    rotate_left
    · (intro w hSw; (try dsimp only at hSw); (have s0 := scell_up c3 hSw; have s1 := scell_up d3 hSw; have s2 := scell_up x0 hSw; have s3 := scell_up x1 hSw; have s4 := scell_up x2 hSw; have s5 := scell_up x3 hSw; have s6 := scell_up x4 hSw; have s7 := scell_up x5 hSw; have s8 := scell_up y0 hSw; have s9 := scell_up y1 hSw; have s10 := scell_up y2 hSw; have s11 := scell_up y3 hSw; have s12 := scell_up y4 hSw; have s13 := scell_up y5 hSw); go_simp; (try with_reducible rfl))
    try simp only [Act.put, List.getElem_toArray, List.getElem_cons_zero, List.getElem_cons_succ, List.setIfInBounds_toArray, List.set_cons_zero, List.set_cons_succ]
    refine wpAnyH_take (i := 2) (v := ?_) rfl (by kernel_rfl) (by kernel_rfl) (by kernel_rfl) (fun _ _ _ h => h) (Or.inl ⟨by rfl, ?_⟩) (by assumption) ?_
    rotate_left
    · (intro w hSw; (try dsimp only at hSw); (have s0 := scell_up c3 hSw; have s1 := scell_up d3 hSw; have s2 := scell_up x0 hSw; have s3 := scell_up x1 hSw; have s4 := scell_up x2 hSw; have s5 := scell_up x3 hSw; have s6 := scell_up x4 hSw; have s7 := scell_up x5 hSw; have s8 := scell_up y0 hSw; have s9 := scell_up y1 hSw; have s10 := scell_up y2 hSw; have s11 := scell_up y3 hSw; have s12 := scell_up y4 hSw; have s13 := scell_up y5 hSw); go_simp; (try with_reducible rfl))
    try simp only [Act.put, List.getElem_toArray, List.getElem_cons_zero, List.getElem_cons_succ, List.setIfInBounds_toArray, List.set_cons_zero, List.set_cons_succ]
    refine wpAnyH_take (i := 3) (v := ?_) rfl (by kernel_rfl) (by kernel_rfl) (by kernel_rfl) (fun _ _ _ h => h) (Or.inl ⟨by rfl, ?_⟩) (by assumption) ?_
    rotate_left
    · (intro w hSw; (try dsimp only at hSw); (have s0 := scell_up c3 hSw; have s1 := scell_up d3 hSw; have s2 := scell_up x0 hSw; have s3 := scell_up x1 hSw; have s4 := scell_up x2 hSw; have s5 := scell_up x3 hSw; have s6 := scell_up x4 hSw; have s7 := scell_up x5 hSw; have s8 := scell_up y0 hSw; have s9 := scell_up y1 hSw; have s10 := scell_up y2 hSw; have s11 := scell_up y3 hSw; have s12 := scell_up y4 hSw; have s13 := scell_up y5 hSw); go_simp; (try with_reducible rfl))
    try simp only [Act.put, List.getElem_toArray, List.getElem_cons_zero, List.getElem_cons_succ, List.setIfInBounds_toArray, List.set_cons_zero, List.set_cons_succ]
    refine wpAnyH_take (i := 4) (v := ?_) rfl (by kernel_rfl) (by kernel_rfl) (by kernel_rfl) (fun _ _ _ h => h) (Or.inl ⟨by rfl, ?_⟩) (by assumption) ?_
    rotate_left
    · (intro w hSw; (try dsimp only at hSw); (have s0 := scell_up c3 hSw; have s1 := scell_up d3 hSw; have s2 := scell_up x0 hSw; have s3 := scell_up x1 hSw; have s4 := scell_up x2 hSw; have s5 := scell_up x3 hSw; have s6 := scell_up x4 hSw; have s7 := scell_up x5 hSw; have s8 := scell_up y0 hSw; have s9 := scell_up y1 hSw; have s10 := scell_up y2 hSw; have s11 := scell_up y3 hSw; have s12 := scell_up y4 hSw; have s13 := scell_up y5 hSw); go_simp; (try with_reducible rfl))
    try simp only [Act.put, List.getElem_toArray, List.getElem_cons_zero, List.getElem_cons_succ, List.setIfInBounds_toArray, List.set_cons_zero, List.set_cons_succ]
    refine wpAnyH_take (i := 5) (v := ?_) rfl (by kernel_rfl) (by kernel_rfl) (by kernel_rfl) (fun _ _ _ h => h) (Or.inl ⟨by rfl, ?_⟩) (by assumption) ?_
    rotate_left
    · (intro w hSw; (try dsimp only at hSw); (have s0 := scell_up c3 hSw; have s1 := scell_up d3 hSw; have s2 := scell_up x0 hSw; have s3 := scell_up x1 hSw; have s4 := scell_up x2 hSw; have s5 := scell_up x3 hSw; have s6 := scell_up x4 hSw; have s7 := scell_up x5 hSw; have s8 := scell_up y0 hSw; have s9 := scell_up y1 hSw; have s10 := scell_up y2 hSw; have s11 := scell_up y3 hSw; have s12 := scell_up y4 hSw; have s13 := scell_up y5 hSw); go_simp; (try with_reducible rfl))
    try simp only [Act.put, List.getElem_toArray, List.getElem_cons_zero, List.getElem_cons_succ, List.setIfInBounds_toArray, List.set_cons_zero, List.set_cons_succ]
    refine wpAnyH_take (i := 6) (v := ?_) rfl (by kernel_rfl) (by kernel_rfl) (by kernel_rfl) (fun _ _ _ h => h) (Or.inl ⟨by rfl, ?_⟩) (by assumption) ?_
    rotate_left
    · (intro w hSw; (try dsimp only at hSw); (have s0 := scell_up c3 hSw; have s1 := scell_up d3 hSw; have s2 := scell_up x0 hSw; have s3 := scell_up x1 hSw; have s4 := scell_up x2 hSw; have s5 := scell_up x3 hSw; have s6 := scell_up x4 hSw; have s7 := scell_up x5 hSw; have s8 := scell_up y0 hSw; have s9 := scell_up y1 hSw; have s10 := scell_up y2 hSw; have s11 := scell_up y3 hSw; have s12 := scell_up y4 hSw; have s13 := scell_up y5 hSw); go_simp; (try with_reducible rfl))
    try simp only [Act.put, List.getElem_toArray, List.getElem_cons_zero, List.getElem_cons_succ, List.setIfInBounds_toArray, List.set_cons_zero, List.set_cons_succ]
    refine wpAnyH_take (i := 7) (v := ?_) rfl (by kernel_rfl) (by kernel_rfl) (by kernel_rfl) (fun _ _ _ h => h) (Or.inl ⟨by rfl, ?_⟩) (by assumption) ?_
    rotate_left
    · (intro w hSw; (try dsimp only at hSw); (have s0 := scell_up c3 hSw; have s1 := scell_up d3 hSw; have s2 := scell_up x0 hSw; have s3 := scell_up x1 hSw; have s4 := scell_up x2 hSw; have s5 := scell_up x3 hSw; have s6 := scell_up x4 hSw; have s7 := scell_up x5 hSw; have s8 := scell_up y0 hSw; have s9 := scell_up y1 hSw; have s10 := scell_up y2 hSw; have s11 := scell_up y3 hSw; have s12 := scell_up y4 hSw; have s13 := scell_up y5 hSw); go_simp; (try with_reducible rfl))
    try simp only [Act.put, List.getElem_toArray, List.getElem_cons_zero, List.getElem_cons_succ, List.setIfInBounds_toArray, List.set_cons_zero, List.set_cons_succ]
    refine wpAnyH_ready (rs := [8, 9]) (by kernel_rfl) (by simp) ?_
    refine AllReadyH.cons rfl (fun K hK => ?_) ?_
    · go_simp
      have hM1 : Hp [] w [iblk w7.heap.size 46 [.int .i64 0, .int .i64 0, .string ⟨#[]⟩, .string ⟨#[]⟩, .slice none 0 0, .int .i64 0], iblk bq 27 [.string ⟨#[112]⟩, .slice ua2 2 uc2, .slice ra2 0 rc2, .slice (some na2) 3 nc2, .int .i64 0, .string ⟨#[]⟩, .int .i64 0, .string ⟨#[]⟩], iblk bp 27 [.string ⟨#[112]⟩, .slice ua 2 uc, .slice ra 0 rc, .slice (some na) 3 nc, .int .i64 0, .string ⟨#[]⟩, .int .i64 0, .string ⟨#[]⟩]] (w7.alloc (.cells #[.int .i64 0, .int .i64 0, .string ⟨#[]⟩, .string ⟨#[]⟩, .slice none 0 0, .int .i64 0] 46)).drew := hMd.new 46 [.int .i64 0, .int .i64 0, .string ⟨#[]⟩, .string ⟨#[]⟩, .slice none 0 0, .int .i64 0]
      have hb1 : Below w7.heap.size w7 (w7.alloc (.cells #[.int .i64 0, .int .i64 0, .string ⟨#[]⟩, .string ⟨#[]⟩, .slice none 0 0, .int .i64 0] 46)).drew := ((Below.refl _ _).drew).alloc (Nat.le_refl _) (.cells #[.int .i64 0, .int .i64 0, .string ⟨#[]⟩, .string ⟨#[]⟩, .slice none 0 0, .int .i64 0] 46)
      refine hK.out _ _ ?_ (fun hHeld => ?_)
      · exact hb1
      clear hK K
      refine wpAnyH_ready (rs := [9]) (by kernel_rfl) (by simp) ?_
      refine AllReadyH.cons rfl (fun K hK => ?_) ?_
      · go_simp
        have e9 : (w7.alloc (.cells #[.int .i64 0, .int .i64 0, .string ⟨#[]⟩, .string ⟨#[]⟩, .slice none 0 0, .int .i64 0] 46)).drew.heap.size = w7.heap.size + 1 := by show (w7.heap.push _).size = _; simp
        have hM2 : Hp [] w [iblk (w7.heap.size + 1) 46 [.int .i64 0, .int .i64 0, .string ⟨#[]⟩, .string ⟨#[]⟩, .slice none 0 0, .int .i64 0], iblk w7.heap.size 46 [.int .i64 0, .int .i64 0, .string ⟨#[]⟩, .string ⟨#[]⟩, .slice none 0 0, .int .i64 0], iblk bq 27 [.string ⟨#[112]⟩, .slice ua2 2 uc2, .slice ra2 0 rc2, .slice (some na2) 3 nc2, .int .i64 0, .string ⟨#[]⟩, .int .i64 0, .string ⟨#[]⟩], iblk bp 27 [.string ⟨#[112]⟩, .slice ua 2 uc, .slice ra 0 rc, .slice (some na) 3 nc, .int .i64 0, .string ⟨#[]⟩, .int .i64 0, .string ⟨#[]⟩]] ((w7.alloc (.cells #[.int .i64 0, .int .i64 0, .string ⟨#[]⟩, .string ⟨#[]⟩, .slice none 0 0, .int .i64 0] 46)).alloc (.cells #[.int .i64 0, .int .i64 0, .string ⟨#[]⟩, .string ⟨#[]⟩, .slice none 0 0, .int .i64 0] 46)).drew := by
          have h9 := hM1.new 46 [.int .i64 0, .int .i64 0, .string ⟨#[]⟩, .string ⟨#[]⟩, .slice none 0 0, .int .i64 0]
          rw [e9] at h9
          exact h9
        have hb2 : Below w7.heap.size w7 ((w7.alloc (.cells #[.int .i64 0, .int .i64 0, .string ⟨#[]⟩, .string ⟨#[]⟩, .slice none 0 0, .int .i64 0] 46)).alloc (.cells #[.int .i64 0, .int .i64 0, .string ⟨#[]⟩, .string ⟨#[]⟩, .slice none 0 0, .int .i64 0] 46)).drew := hb1.alloc (by omega) (.cells #[.int .i64 0, .int .i64 0, .string ⟨#[]⟩, .string ⟨#[]⟩, .slice none 0 0, .int .i64 0] 46)
        clear hM1
        refine hK.out _ _ ?_ (fun hHeld => ?_)
        · exact hb2
        clear hK K
        refine wpAnyH_ready (rs := [10]) (by kernel_rfl) (by simp) ?_
        refine AllReadyH.cons rfl (fun K hK => ?_) ?_
        · rw [if_pos (by rfl)]
          refine wp_store_row 46 (.tmp 17) (.tmp 75) (by rfl) w7.heap.size ([.int .i64 11, .int .i64 0, .string ⟨#[119, 45, 49]⟩, .string xa, .slice KX xks.length kx, .int .i64 xat] : List Value).toArray (by rfl) (by rfl) 46 ([.int .i64 0, .int .i64 0, .string ⟨#[]⟩, .string ⟨#[]⟩, .slice none 0 0, .int .i64 0] : List Value).toArray (hM2.blk 1 rfl) (by kernel_rfl) (by kernel_rfl) (by kernel_rfl) ?_
          have hM3 := hM2.rowAt 1 rfl [.int .i64 11, .int .i64 0, .string ⟨#[119, 45, 49]⟩, .string xa, .slice KX xks.length kx, .int .i64 xat]
          have hb3 := hb2.trans (below_setRow' w7.heap.size (by omega) ([.int .i64 11, .int .i64 0, .string ⟨#[119, 45, 49]⟩, .string xa, .slice KX xks.length kx, .int .i64 xat] : List Value).toArray)
          refine hK.out _ _ ?_ (fun hHeld => ?_)
          · exact hb3
          clear hK K
          refine wpAnyH_ready (rs := [11]) (by kernel_rfl) (by simp) ?_
          refine AllReadyH.cons rfl (fun K hK => ?_) ?_
          · rw [if_pos (by rfl)]
            refine wp_store_row 46 (.tmp 18) (.tmp 79) (by rfl) (w7.heap.size + 1) ([.int .i64 11, .int .i64 0, .string ⟨#[119, 45, 49]⟩, .string ya, .slice KY yks.length ky, .int .i64 yat] : List Value).toArray (by rfl) (by rfl) 46 ([.int .i64 0, .int .i64 0, .string ⟨#[]⟩, .string ⟨#[]⟩, .slice none 0 0, .int .i64 0] : List Value).toArray (hM3.blk 0 rfl) (by kernel_rfl) (by kernel_rfl) (by kernel_rfl) ?_
            have hM4 := hM3.rowAt 0 rfl [.int .i64 11, .int .i64 0, .string ⟨#[119, 45, 49]⟩, .string ya, .slice KY yks.length ky, .int .i64 yat]
            have hb4 := hb3.trans (below_setRow' (w7.heap.size + 1) (by omega) ([.int .i64 11, .int .i64 0, .string ⟨#[119, 45, 49]⟩, .string ya, .slice KY yks.length ky, .int .i64 yat] : List Value).toArray)
            refine hK.out _ _ ?_ (fun hHeld => ?_)
            · exact hb4
            clear hK K
            refine wpAnyH_done (by kernel_rfl) ?_ _
            have hN4 := hN3.up hb4
            have hM9 := hNQ.up hb4
            have hM5 := hM4
            clear hb1 hb2 hb3 hb4 hM2 hM3 hHeld hM4 hMd hk6 hN3 hNQ c0 c1 c2 c3 c4 c5 c6 c7 d0 d1 d2 d3 d4 d5 d6 d7 x0 x1 x2 x3 x4 x5 y0 y1 y2 y3 y4 y5
            obtain ⟨x0, x1, x2, x3, x4, x5⟩ := (hM5.blk 1 rfl).get6
            obtain ⟨y0, y1, y2, y3, y4, y5⟩ := (hM5.blk 0 rfl).get6
            obtain ⟨c0, c1, c2, c3, c4, c5, c6, c7⟩ := (hM5.blk 3 rfl).get8
            obtain ⟨d0, d1, d2, d3, d4, d5, d6, d7⟩ := (hM5.blk 2 rfl).get8
            obtain ⟨K0, k0, p0, p1, p2, p3, p4, p5, -⟩ := hN4.get (i := 0) rfl
            obtain ⟨K1, k1, q0, q1, q2, q3, q4, q5, -⟩ := hN4.get (i := 1) rfl
            obtain ⟨K2, k2, r0, r1, r2, r3, r4, r5, -⟩ := hM9.get (i := 0) rfl
            obtain ⟨K3, k3, t0, t1, t2, t3, t4, t5, -⟩ := hM9.get (i := 2) rfl
            clear hN4 hM9
            simp only [Nat.zero_mul, Nat.one_mul, Nat.reduceMul, add_none, add_six, add_twelve, Nat.add_assoc, Nat.reduceAdd, bs] at p0 p1 p2 p3 p4 p5 q0 q1 q2 q3 q4 q5 r0 r1 r2 r3 r4 r5 t0 t1 t2 t3 t4 t5
            generalize hX : w7.heap.size = bX at *
            generalize hY : (w7.heap.size + 1) = bY at *
            generalize World.setRow _ bY _ = w9 at *
            go_wp2_with fail
            refine (HA.out _).mono ?_
            rintro e w10 ⟨rfl, hb9⟩
            have hM6 := hM5.next hb9
            clear x0 x1 x2 x3 x4 x5 y0 y1 y2 y3 y4 y5 c0 c1 c2 c3 c4 c5 c6 c7 d0 d1 d2 d3 d4 d5 d6 d7 p0 p1 p2 p3 p4 p5 q0 q1 q2 q3 q4 q5 r0 r1 r2 r3 r4 r5 t0 t1 t2 t3 t4 t5
            obtain ⟨x0, x1, x2, x3, x4, x5⟩ := (hM6.blk 1 rfl).get6
            obtain ⟨y0, y1, y2, y3, y4, y5⟩ := (hM6.blk 0 rfl).get6
            go_wp2_with fail
            go_ret
            exact ⟨rfl, hM6.below0⟩
          exact AllReadyH.nil
        exact AllReadyH.nil
      exact AllReadyH.nil
    refine AllReadyH.cons rfl (fun K hK => ?_) ?_
    · go_simp
      have hM1 : Hp [] w [iblk w7.heap.size 46 [.int .i64 0, .int .i64 0, .string ⟨#[]⟩, .string ⟨#[]⟩, .slice none 0 0, .int .i64 0], iblk bq 27 [.string ⟨#[112]⟩, .slice ua2 2 uc2, .slice ra2 0 rc2, .slice (some na2) 3 nc2, .int .i64 0, .string ⟨#[]⟩, .int .i64 0, .string ⟨#[]⟩], iblk bp 27 [.string ⟨#[112]⟩, .slice ua 2 uc, .slice ra 0 rc, .slice (some na) 3 nc, .int .i64 0, .string ⟨#[]⟩, .int .i64 0, .string ⟨#[]⟩]] (w7.alloc (.cells #[.int .i64 0, .int .i64 0, .string ⟨#[]⟩, .string ⟨#[]⟩, .slice none 0 0, .int .i64 0] 46)).drew := hMd.new 46 [.int .i64 0, .int .i64 0, .string ⟨#[]⟩, .string ⟨#[]⟩, .slice none 0 0, .int .i64 0]
      have hb1 : Below w7.heap.size w7 (w7.alloc (.cells #[.int .i64 0, .int .i64 0, .string ⟨#[]⟩, .string ⟨#[]⟩, .slice none 0 0, .int .i64 0] 46)).drew := ((Below.refl _ _).drew).alloc (Nat.le_refl _) (.cells #[.int .i64 0, .int .i64 0, .string ⟨#[]⟩, .string ⟨#[]⟩, .slice none 0 0, .int .i64 0] 46)
      refine hK.out _ _ ?_ (fun hHeld => ?_)
      · exact hb1
      clear hK K
      refine wpAnyH_ready (rs := [8]) (by kernel_rfl) (by simp) ?_
      refine AllReadyH.cons rfl (fun K hK => ?_) ?_
      · go_simp
        have e9 : (w7.alloc (.cells #[.int .i64 0, .int .i64 0, .string ⟨#[]⟩, .string ⟨#[]⟩, .slice none 0 0, .int .i64 0] 46)).drew.heap.size = w7.heap.size + 1 := by show (w7.heap.push _).size = _; simp
        have hM2 : Hp [] w [iblk (w7.heap.size + 1) 46 [.int .i64 0, .int .i64 0, .string ⟨#[]⟩, .string ⟨#[]⟩, .slice none 0 0, .int .i64 0], iblk w7.heap.size 46 [.int .i64 0, .int .i64 0, .string ⟨#[]⟩, .string ⟨#[]⟩, .slice none 0 0, .int .i64 0], iblk bq 27 [.string ⟨#[112]⟩, .slice ua2 2 uc2, .slice ra2 0 rc2, .slice (some na2) 3 nc2, .int .i64 0, .string ⟨#[]⟩, .int .i64 0, .string ⟨#[]⟩], iblk bp 27 [.string ⟨#[112]⟩, .slice ua 2 uc, .slice ra 0 rc, .slice (some na) 3 nc, .int .i64 0, .string ⟨#[]⟩, .int .i64 0, .string ⟨#[]⟩]] ((w7.alloc (.cells #[.int .i64 0, .int .i64 0, .string ⟨#[]⟩, .string ⟨#[]⟩, .slice none 0 0, .int .i64 0] 46)).alloc (.cells #[.int .i64 0, .int .i64 0, .string ⟨#[]⟩, .string ⟨#[]⟩, .slice none 0 0, .int .i64 0] 46)).drew := by
          have h9 := hM1.new 46 [.int .i64 0, .int .i64 0, .string ⟨#[]⟩, .string ⟨#[]⟩, .slice none 0 0, .int .i64 0]
          rw [e9] at h9
          exact h9
        have hb2 : Below w7.heap.size w7 ((w7.alloc (.cells #[.int .i64 0, .int .i64 0, .string ⟨#[]⟩, .string ⟨#[]⟩, .slice none 0 0, .int .i64 0] 46)).alloc (.cells #[.int .i64 0, .int .i64 0, .string ⟨#[]⟩, .string ⟨#[]⟩, .slice none 0 0, .int .i64 0] 46)).drew := hb1.alloc (by omega) (.cells #[.int .i64 0, .int .i64 0, .string ⟨#[]⟩, .string ⟨#[]⟩, .slice none 0 0, .int .i64 0] 46)
        clear hM1
        refine hK.out _ _ ?_ (fun hHeld => ?_)
        · exact hb2
        clear hK K
        refine wpAnyH_ready (rs := [10]) (by kernel_rfl) (by simp) ?_
        refine AllReadyH.cons rfl (fun K hK => ?_) ?_
        · rw [if_pos (by rfl)]
          refine wp_store_row 46 (.tmp 17) (.tmp 75) (by rfl) (w7.heap.size + 1) ([.int .i64 11, .int .i64 0, .string ⟨#[119, 45, 49]⟩, .string xa, .slice KX xks.length kx, .int .i64 xat] : List Value).toArray (by rfl) (by rfl) 46 ([.int .i64 0, .int .i64 0, .string ⟨#[]⟩, .string ⟨#[]⟩, .slice none 0 0, .int .i64 0] : List Value).toArray (hM2.blk 0 rfl) (by kernel_rfl) (by kernel_rfl) (by kernel_rfl) ?_
          have hM3 := hM2.rowAt 0 rfl [.int .i64 11, .int .i64 0, .string ⟨#[119, 45, 49]⟩, .string xa, .slice KX xks.length kx, .int .i64 xat]
          have hb3 := hb2.trans (below_setRow' (w7.heap.size + 1) (by omega) ([.int .i64 11, .int .i64 0, .string ⟨#[119, 45, 49]⟩, .string xa, .slice KX xks.length kx, .int .i64 xat] : List Value).toArray)
          refine hK.out _ _ ?_ (fun hHeld => ?_)
          · exact hb3
          clear hK K
          refine wpAnyH_ready (rs := [11]) (by kernel_rfl) (by simp) ?_
          refine AllReadyH.cons rfl (fun K hK => ?_) ?_
          · rw [if_pos (by rfl)]
            refine wp_store_row 46 (.tmp 18) (.tmp 79) (by rfl) w7.heap.size ([.int .i64 11, .int .i64 0, .string ⟨#[119, 45, 49]⟩, .string ya, .slice KY yks.length ky, .int .i64 yat] : List Value).toArray (by rfl) (by rfl) 46 ([.int .i64 0, .int .i64 0, .string ⟨#[]⟩, .string ⟨#[]⟩, .slice none 0 0, .int .i64 0] : List Value).toArray (hM3.blk 1 rfl) (by kernel_rfl) (by kernel_rfl) (by kernel_rfl) ?_
            have hM4 := hM3.rowAt 1 rfl [.int .i64 11, .int .i64 0, .string ⟨#[119, 45, 49]⟩, .string ya, .slice KY yks.length ky, .int .i64 yat]
            have hb4 := hb3.trans (below_setRow' w7.heap.size (by omega) ([.int .i64 11, .int .i64 0, .string ⟨#[119, 45, 49]⟩, .string ya, .slice KY yks.length ky, .int .i64 yat] : List Value).toArray)
            refine hK.out _ _ ?_ (fun hHeld => ?_)
            · exact hb4
            clear hK K
            refine wpAnyH_done (by kernel_rfl) ?_ _
            have hN4 := hN3.up hb4
            have hM9 := hNQ.up hb4
            have hM5 := hM4
            clear hb1 hb2 hb3 hb4 hM2 hM3 hHeld hM4 hMd hk6 hN3 hNQ c0 c1 c2 c3 c4 c5 c6 c7 d0 d1 d2 d3 d4 d5 d6 d7 x0 x1 x2 x3 x4 x5 y0 y1 y2 y3 y4 y5
            obtain ⟨x0, x1, x2, x3, x4, x5⟩ := (hM5.blk 0 rfl).get6
            obtain ⟨y0, y1, y2, y3, y4, y5⟩ := (hM5.blk 1 rfl).get6
            obtain ⟨c0, c1, c2, c3, c4, c5, c6, c7⟩ := (hM5.blk 3 rfl).get8
            obtain ⟨d0, d1, d2, d3, d4, d5, d6, d7⟩ := (hM5.blk 2 rfl).get8
            obtain ⟨K0, k0, p0, p1, p2, p3, p4, p5, -⟩ := hN4.get (i := 0) rfl
            obtain ⟨K1, k1, q0, q1, q2, q3, q4, q5, -⟩ := hN4.get (i := 1) rfl
            obtain ⟨K2, k2, r0, r1, r2, r3, r4, r5, -⟩ := hM9.get (i := 0) rfl
            obtain ⟨K3, k3, t0, t1, t2, t3, t4, t5, -⟩ := hM9.get (i := 2) rfl
            clear hN4 hM9
            simp only [Nat.zero_mul, Nat.one_mul, Nat.reduceMul, add_none, add_six, add_twelve, Nat.add_assoc, Nat.reduceAdd, bs] at p0 p1 p2 p3 p4 p5 q0 q1 q2 q3 q4 q5 r0 r1 r2 r3 r4 r5 t0 t1 t2 t3 t4 t5
            generalize hX : (w7.heap.size + 1) = bX at *
            generalize hY : w7.heap.size = bY at *
            generalize World.setRow _ bY _ = w9 at *
            go_wp2_with fail
            refine (HA.out _).mono ?_
            rintro e w10 ⟨rfl, hb9⟩
            have hM6 := hM5.next hb9
            clear x0 x1 x2 x3 x4 x5 y0 y1 y2 y3 y4 y5 c0 c1 c2 c3 c4 c5 c6 c7 d0 d1 d2 d3 d4 d5 d6 d7 p0 p1 p2 p3 p4 p5 q0 q1 q2 q3 q4 q5 r0 r1 r2 r3 r4 r5 t0 t1 t2 t3 t4 t5
            obtain ⟨x0, x1, x2, x3, x4, x5⟩ := (hM6.blk 0 rfl).get6
            obtain ⟨y0, y1, y2, y3, y4, y5⟩ := (hM6.blk 1 rfl).get6
            go_wp2_with fail
            go_ret
            exact ⟨rfl, hM6.below0⟩
          exact AllReadyH.nil
        exact AllReadyH.nil
      exact AllReadyH.nil
    exact AllReadyH.nil
end Go.Proofs.YtminghdnclpocaaGreatDoor
