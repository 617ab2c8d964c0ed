/-
  Walk over integer.Extended.
-/
import Derived.Test.YtlagcdgfmgkooaaDoorIntC
namespace Go.Proofs.YtlagcdgfmgkooaaDoor
open Go.RowKit
set_option linter.unusedVariables false

abbrev bz (z : Int) : Value := .bool (decide (z < 0))
theorem fits_zz {n : Bool} {m : Nat} (h : m < 256 ^ 128) : Fits (zz n m) := by
  unfold Fits zz
  cases n <;> simp <;> omega
theorem zz_step (s : Bool) (q X0 X1 : Nat) : zz s X0 - q * zz (!s) X1 = zz s (X0 + q * X1) := by
  unfold zz
  cases s <;> simp [Int.mul_neg] <;> omega
theorem fits_mul {q X1 : Nat} {s : Bool} (h : q * X1 < 256 ^ 128) : Fits (q * zz s X1) := by
  have : (q : Int) * zz s X1 = zz s (q * X1) := by
    unfold zz
    cases s <;> simp [Int.mul_neg]
  rw [this]
  exact fits_zz h
theorem nextZ (x0 x1 : Int) (q : Nat) (f0 : Fits x0) (f1 : Fits x1) (hq : q < 256 ^ 128) (d : Int) (hd : x0 - q * x1 = d) (fp : Fits (q * x1)) (fd : Fits d) (gq : Nat) (w : World) (hQ : Blk w gq 22 [Sv (Dm.str q)]) :
    Calls Tryd.prog 58 #[.agg #[.bool (decide (x0 < 0)), Sv (Dm.str x0.natAbs), .bool (decide (x1 < 0)), Sv (Dm.str x1.natAbs)], .pointer (some ⟨gq, 0, none⟩)] w fun e w' => e = .returned (.agg #[.bool (decide (x1 < 0)), Sv (Dm.str x1.natAbs), .bool (decide (d < 0)), Sv (Dm.str d.natAbs)]) ∧ Below w.heap.size w w' :=
  next_any _ _ _ _ q (nm_of x0 f0) (nm_of x1 f1) hq (q * x1) d (by rw [zz_of]) (by rw [zz_of]; exact hd) fp fd gq w hQ
def mE (g : Nat) (w : World) : Nat := match w.cell? ⟨g, 1, none⟩ with
  | some v => numV v
  | none => 0
theorem mE_of {g : Nat} {w : World} {r : Nat} (h : w.cell? ⟨g, 1, none⟩ = some (Sv (Dm.str r))) : mE g w = r := by
  unfold mE
  rw [h]
  simp [numV, tl_bs, Dm.val_str]
def EWorld (w : World) (g8 g9 g10 r0 r1 : Nat) (x0 x1 y0 y1 : Int) (W : World) : Prop :=
  ES w g8 g9 g10 (Sv (Dm.str r0)) (Sv (Dm.str r1)) (.bool (decide (x0 < 0))) (Sv (Dm.str x0.natAbs)) (.bool (decide (x1 < 0))) (Sv (Dm.str x1.natAbs)) (.bool (decide (y0 < 0))) (Sv (Dm.str y0.natAbs)) (.bool (decide (y1 < 0))) (Sv (Dm.str y1.natAbs)) (.bool false) (.string ⟨#[]⟩) (.bool false) (.string ⟨#[]⟩) W
theorem EWorld.start {w wd : World} {a b : Nat}
    (hd : Below (((w.alloc (.cells #[.bool false, .string ⟨#[]⟩] 24)).alloc (.cells #[.bool false, .string ⟨#[]⟩] 24)).alloc (.cells #[.string (bs (Dm.str a)), .string (bs (Dm.str b))] 73)).heap.size (((w.alloc (.cells #[.bool false, .string ⟨#[]⟩] 24)).alloc (.cells #[.bool false, .string ⟨#[]⟩] 24)).alloc (.cells #[.string (bs (Dm.str a)), .string (bs (Dm.str b))] 73)) wd) :
    EWorld w (w.heap.size + 1 + 1) wd.heap.size (wd.heap.size + 1) a b 1 0 0 1 ((wd.alloc (.cells #[.bool false, .string (bs (Dm.str 1)), .bool false, .string (bs (Dm.str 0))] 74)).alloc (.cells #[.bool false, .string (bs (Dm.str 0)), .bool false, .string (bs (Dm.str 1))] 74)) ∧ w.heap.size + 1 + 1 < wd.heap.size := by
  have b0 : Below w.heap.size w (((w.alloc (.cells #[.bool false, .string ⟨#[]⟩] 24)).alloc (.cells #[.bool false, .string ⟨#[]⟩] 24)).alloc (.cells #[.string (bs (Dm.str a)), .string (bs (Dm.str b))] 73)) :=
    (((Below.refl _ w).alloc (Nat.le_refl _) _).alloc (by simp) _).alloc (by simp; omega) _
  have b1 : Below w.heap.size w wd := b0.trans (hd.mono b0.size)
  have U : Blk wd w.heap.size 24 [.bool false, .string ⟨#[]⟩] := (((Blk.new w 24 [.bool false, .string ⟨#[]⟩]).alloc _).alloc _).below hd (by simp; omega)
  have hV := Blk.new (w.alloc (.cells #[.bool false, .string ⟨#[]⟩] 24)) 24 [.bool false, .string ⟨#[]⟩]
  have V : Blk wd (w.heap.size + 1) 24 [.bool false, .string ⟨#[]⟩] := by
    have h := (hV.alloc _).below hd (by simp)
    simpa using h
  have hR := Blk.new ((w.alloc (.cells #[.bool false, .string ⟨#[]⟩] 24)).alloc (.cells #[.bool false, .string ⟨#[]⟩] 24)) 73 [.string (bs (Dm.str a)), .string (bs (Dm.str b))]
  have R : Blk wd (w.heap.size + 1 + 1) 73 [Sv (Dm.str a), Sv (Dm.str b)] := by
    have h := hR.below hd (by simp)
    simpa using h
  have X := Blk.new wd 74 [.bool false, .string (bs (Dm.str 1)), .bool false, .string (bs (Dm.str 0))]
  have hY := Blk.new (wd.alloc (.cells #[.bool false, .string (bs (Dm.str 1)), .bool false, .string (bs (Dm.str 0))] 74)) 74 [.bool false, .string (bs (Dm.str 0)), .bool false, .string (bs (Dm.str 1))]
  have Y : Blk ((wd.alloc (.cells #[.bool false, .string (bs (Dm.str 1)), .bool false, .string (bs (Dm.str 0))] 74)).alloc (.cells #[.bool false, .string (bs (Dm.str 0)), .bool false, .string (bs (Dm.str 1))] 74)) (wd.heap.size + 1) 74 [.bool false, .string (bs (Dm.str 0)), .bool false, .string (bs (Dm.str 1))] := by
    simpa using hY
  refine ⟨⟨(R.alloc _).alloc _, X.alloc _, Y, (U.alloc _).alloc _, (V.alloc _).alloc _, (b1.alloc b1.size _).alloc (by have := b1.size; simp; omega) _⟩, ?_⟩
  have := R.lt
  omega
structure EState (a b r0 r1 : Nat) (x0 x1 y0 y1 : Int) : Prop where
  out : ∃ X0 X1 Y0 Y1 s, EI (256 ^ 128) a b r0 r1 X0 X1 Y0 Y1 s ∧ x0 = zz s X0 ∧ x1 = zz (!s) X1 ∧ y0 = zz (!s) Y0 ∧ y1 = zz s Y1
  l0 : r0 < 256 ^ 128
  l1 : r1 < 256 ^ 128
theorem EState.fits {a b r0 r1 : Nat} {x0 x1 y0 y1 : Int} (h : EState a b r0 r1 x0 x1 y0 y1) : Fits x0 ∧ Fits x1 ∧ Fits y0 ∧ Fits y1 := by
  obtain ⟨X0, X1, Y0, Y1, s, hI, rfl, rfl, rfl, rfl⟩ := h.out
  exact ⟨fits_zz hI.f0, fits_zz hI.f1, fits_zz hI.f2, fits_zz hI.f3⟩
theorem EState.step {a b r0 r1 : Nat} {x0 x1 y0 y1 : Int} (h : EState a b r0 r1 x0 x1 y0 y1) (h1 : r1 ≠ 0) (ha : a < 256 ^ 128) (hb : b < 256 ^ 128) :
    EState a b r1 (r0 % r1) x1 (x0 - ((r0 / r1 : Nat) : Int) * x1) y1 (y0 - ((r0 / r1 : Nat) : Int) * y1) ∧ Fits (((r0 / r1 : Nat) : Int) * x1) ∧ Fits (((r0 / r1 : Nat) : Int) * y1) := by
  obtain ⟨X0, X1, Y0, Y1, s, hI, rfl, rfl, rfl, rfl⟩ := h.out
  have hS := hI.step h1 ha hb
  have hq0 := h.l0
  have f1 := hS.f1
  have f3 := hS.f3
  have hl := Nat.mod_lt r0 (Nat.pos_of_ne_zero h1)
  have l1 := h.l1
  refine ⟨⟨⟨_, _, _, _, _, hS, rfl, ?_, ?_, ?_⟩, h.l1, Nat.lt_trans hl l1⟩, fits_mul (Nat.lt_of_le_of_lt (Nat.le_add_left _ _) f1), fits_mul (Nat.lt_of_le_of_lt (Nat.le_add_left _ _) f3)⟩
  · rw [zz_step, Bool.not_not]
  · rw [Bool.not_not]
  · have := zz_step (!s) (r0 / r1) Y0 Y1
    rw [Bool.not_not] at this
    exact this
theorem zz_neg {s : Bool} {X : Nat} : zz s X < 0 ↔ (s = true ∧ X ≠ 0) := by
  unfold zz
  cases s
  · simp
  · simp; omega
theorem EState.plus {a b r0 : Nat} {x0 x1 y0 y1 : Int} (h : EState a b r0 0 x0 x1 y0 y1) (hb : b ≠ 0) (hn : ¬ x0 < 0) : EZ a b x0 y0 ∧ r0 = Nat.gcd a b := by
  obtain ⟨X0, X1, Y0, Y1, s, hI, rfl, rfl, rfl, rfl⟩ := h.out
  rw [zz_neg] at hn
  exact ⟨hI.plus hn hb, hI.done.1⟩
theorem EState.minus {a b r0 : Nat} {x0 x1 y0 y1 : Int} (h : EState a b r0 0 x0 x1 y0 y1) (hb : b ≠ 0) (hn : x0 < 0) : (EZ a b (x0 + (b / r0 : Nat)) (y0 - (a / r0 : Nat)) ∧ r0 = Nat.gcd a b) ∧ r0 ≠ 0 ∧ Fits (x0 + (b / r0 : Nat)) ∧ Fits (y0 - (a / r0 : Nat)) ∧ b / r0 < 256 ^ 128 ∧ a / r0 < 256 ^ 128 := by
  obtain ⟨X0, X1, Y0, Y1, s, hI, rfl, rfl, rfl, rfl⟩ := h.out
  rw [zz_neg] at hn
  obtain ⟨h1, h2, h3, h4, h5⟩ := hI.minus hn.1 hn.2 hb
  rw [h2, h3]
  obtain ⟨rfl, -⟩ := hn
  have f0 := hI.f0
  have f1 := hI.f1
  have f2 := hI.f2
  have f3 := hI.f3
  refine ⟨⟨h1, hI.done.1⟩, h5, ?_, ?_, f1, f3⟩
  · unfold Fits zz
    simp
    omega
  · unfold Fits zz
    simp
    omega
def ExtRel (a b : Nat) (g8 g9 g10 : Nat) (w : World) (v : Value) (W : World) : Prop :=
  ∃ r0 r1 x0 x1 y0 y1, EState a b r0 r1 x0 x1 y0 y1 ∧ EWorld w g8 g9 g10 r0 r1 x0 x1 y0 y1 W
set_option maxRecDepth 20000 in
set_option maxHeartbeats 10000000 in
theorem Ext_nm (a b : Nat) (ha : a < 256 ^ 128) (hb : b < 256 ^ 128) (hb0 : b ≠ 0) (w : World) :
    Calls Tryd.prog 20 #[Sv (Dm.str a), Sv (Dm.str b)] w fun e w' => (∃ x y, EZ a b x y ∧ Fits x ∧ Fits y ∧ e = .returned (.tuple #[Sv (Dm.str (Nat.gcd a b)), iV x, iV y, .int .i64 0])) ∧ Below w.heap.size w w' := by
  have sa : (bs (Dm.str a)).size ≤ 1073741824 := by
    have : (bs (Dm.str a)).size ≤ 128 := by rw [size_bs]; exact Dm.length_str_le.2 ha
    omega
  have sb : (bs (Dm.str b)).size ≤ 1073741824 := by
    have : (bs (Dm.str b)).size ≤ 128 := by rw [size_bs]; exact Dm.length_str_le.2 hb
    omega
  have va : validB (tl (bs (Dm.str a))) = true := by rw [tl_bs]; exact validB_short' (Dm.length_str_le.2 ha)
  have vb : validB (tl (bs (Dm.str b))) = true := by rw [tl_bs]; exact validB_short' (Dm.length_str_le.2 hb)
  have HA := Lib.hid va
  have HB := Lib.hid vb
  clear va vb
  obtain ⟨e1, e2⟩ := str_pos hb0
  have hO1 := fun W : World => iOf_any 1 (by omega) (by omega) W
  have hO0 := fun W : World => iOf_any 0 (by omega) (by omega) W
  have hv1 : iV 1 = .agg #[.bool false, Sv (Dm.str 1)] := by simp [iV]
  have hv0 : iV 0 = .agg #[.bool false, Sv (Dm.str 0)] := by simp [iV]
  rw [hv1] at hO1
  rw [hv0] at hO0
  have O1 := Lib.hid hO1
  have O0 := Lib.hid hO0
  clear hO1 hO0 hv1 hv0
  go_enter Tryd.func20, Tryd.ntmps20
  go_wp2_with fail
  refine (valid_at _ true _ sa HA.out).mono ?_
  rintro e w' ⟨rfl, rfl⟩
  go_wp2_with fail
  refine (valid_at _ true _ sb HB.out).mono ?_
  rintro e w' ⟨rfl, rfl⟩
  go_wp2_with fail
  refine (O1.out _).mono ?_
  rintro e wa ⟨rfl, hba⟩
  go_wp2_with fail
  refine (O0.out _).mono ?_
  rintro e wb ⟨rfl, hbb⟩
  go_wp2_with fail
  refine (O0.out _).mono ?_
  rintro e wc ⟨rfl, hbc⟩
  go_wp2_with fail
  refine (O1.out _).mono ?_
  rintro e wd ⟨rfl, hbd⟩
  go_wp2_with fail
  obtain ⟨hE, h9⟩ := EWorld.start ((hba.trans (hbb.mono hba.size)).trans ((hbc.trans (hbd.mono hbc.size)).mono (Nat.le_trans hba.size hbb.size)))
  clear hba hbb hbc hbd
  have h8 : w.heap.size + 1 < w.heap.size + 1 + 1 := by omega
  have h10 : wd.heap.size < wd.heap.size + 1 := by omega
  generalize wd.heap.size + 1 = g10 at *
  generalize hgW : ((wd.alloc (.cells #[.bool false, .string (bs (Dm.str 1)), .bool false, .string (bs (Dm.str 0))] 74)).alloc (.cells #[.bool false, .string (bs (Dm.str 0)), .bool false, .string (bs (Dm.str 1))] 74)) = W0 at *
  clear hgW
  generalize wd.heap.size = g9 at *
  generalize hg8 : w.heap.size + 1 + 1 = g8 at *
  clear hg8
  go_loopw [12] (ExtRel a b g8 g9 g10 w) (fun _ wr => mE g8 wr)
  case atStart =>
    exact ⟨a, b, 1, 0, 0, 1, ⟨⟨1, 0, 0, 1, false, EI.start hb0 (by decide +kernel), by simp [zz], by simp [zz], by simp [zz], by simp [zz]⟩, ha, hb⟩, hE⟩
  case round =>
    obtain ⟨r0, r1, x0, x1, y0, y1, hS, hW⟩ := hrel
    unfold EWorld at hW
    obtain ⟨c80, c81, c90, c91, c92, c93, c100, c101, c102, c103, cu0, cu1, cv0, cv1⟩ := hW.cells
    have HM := Lib.hid (mE_of c81)
    clear hE O1 O0 e1 e2
    by_cases hr1 : r1 = 0
    · subst hr1
      obtain ⟨z1, z2⟩ := str_zero (n := 0) rfl
      by_cases hx : x0 < 0
      · obtain ⟨⟨hz, hg⟩, hr0, fx, fy, lu, lv⟩ := hS.minus hb0 hx
        obtain ⟨fx0, -, fy0, -⟩ := hS.fits
        have hdx : decide (x0 < 0) = true := by simpa using hx
        obtain ⟨x, hxe⟩ : ∃ x, x0 + ((b / r0 : Nat) : Int) = x := ⟨_, rfl⟩
        obtain ⟨y, hye⟩ : ∃ y, y0 - ((a / r0 : Nat) : Int) = y := ⟨_, rfl⟩
        rw [hxe] at hz fx
        rw [hye] at hz fy
        have hD1 := fun W : World => nDiv b r0 hb hS.l0 hr0 W
        have hD2 := fun W : World => nDiv a r0 ha hS.l0 hr0 W
        have hF1 := fun W : World => fromN (b / r0) lu W
        have hF2 := fun W : World => fromN (a / r0) lv W
        have hAd := fun W : World => addZ (nm_of x0 fx0) (⟨(fun h => by cases h), lu⟩ : Nm false (b / r0)) x (by rw [zz_of]; exact hxe) fx W
        have hSb := fun W : World => subZ (nm_of y0 fy0) (⟨(fun h => by cases h), lv⟩ : Nm false (a / r0)) y (by rw [zz_of]; exact hye) fy W
        rw [hdx] at hAd
        have HZ := Lib.hid hz
        have HG := Lib.hid hg
        have HD1 := Lib.hid hD1
        have HD2 := Lib.hid hD2
        have HF1 := Lib.hid hF1
        have HF2 := Lib.hid hF2
        have HAd := Lib.hid hAd
        have HSb := Lib.hid hSb
        rw [hdx] at hW c90
        clear hdx hz hg hS hx hD1 hD2 hF1 hF2 hAd hSb hxe hye lu lv hr0
        go_wp2_with fail
        refine (HD1.out _).mono ?_
        rintro e we ⟨rfl, hbe⟩
        have hW1 := hW.next hbe
        clear hW hbe c80 c81 c90 c91 c92 c93 c100 c101 c102 c103 cu0 cu1 cv0 cv1
        go_wp2_with fail
        refine (HD2.out _).mono ?_
        rintro e wf ⟨rfl, hbf⟩
        have hW2 := hW1.next hbf
        clear hW1 hbf
        obtain ⟨c80, c81, c90, c91, c92, c93, c100, c101, c102, c103, cu0, cu1, cv0, cv1⟩ := hW2.cells
        go_wp2_with fail
        have hWd := hW2.drew
        clear c80 c81 c100 c101 c102 c103 cu0 cu1 cv0 cv1 HD1 HD2
        go_region_with (first | (go_at_call 23; refine (HF1.out _).mono ?_; rintro e wg ⟨rfl, hbg⟩; have hW3 := hWd.next hbg; obtain ⟨-, -, b90, b91, b92, b93, -⟩ := hW3.cells) | (go_at_call 14; refine (HAd.out _).mono ?_; rintro e wh ⟨rfl, hbh⟩; have hW4 := hW3.next hbh; obtain ⟨-, -, a90, a91, a92, a93, -⟩ := hW4.cells; obtain ⟨-, -, f90, f91, f92, f93, -⟩ := hW4.free))
        all_goals
          have hW5 := hW4.setX2 h8 h9 h10 (.bool (decide (x < 0))) (Sv (Dm.str x.natAbs))
          clear c90 c91 c92 c93 b90 b91 b92 b93 a90 a91 a92 a93 f90 f91 f92 f93 hW2 hWd hW3 hW4 hbg hbh HF1 HAd
          change Exit.then _ _ _ _ ((wh.setCell ⟨g9, 0, none⟩ (.bool (decide (x < 0)))).setCell ⟨g9, 1, none⟩ (Sv (Dm.str x.natAbs)))
          generalize (wh.setCell ⟨g9, 0, none⟩ (.bool (decide (x < 0)))).setCell ⟨g9, 1, none⟩ (Sv (Dm.str x.natAbs)) = W5 at *
          obtain ⟨-, -, -, -, -, -, c100, c101, c102, c103, -⟩ := hW5.cells
          go_wp2_with fail
          have hWd := hW5.drew
          go_region_with (first | (go_at_call 23; refine (HF2.out _).mono ?_; rintro e wi ⟨rfl, hbi⟩; have hW6 := hWd.next hbi; obtain ⟨-, -, -, -, -, -, b100, b101, b102, b103, -⟩ := hW6.cells) | (go_at_call 16; refine (HSb.out _).mono ?_; rintro e wj ⟨rfl, hbj⟩; have hW7 := hW6.next hbj; obtain ⟨-, -, -, -, -, -, a100, a101, a102, a103, -⟩ := hW7.cells; obtain ⟨-, -, -, -, -, -, f100, f101, f102, f103, -⟩ := hW7.free))
          all_goals
            have hW8 := hW7.setY2 h8 h9 h10 (.bool (decide (y < 0))) (Sv (Dm.str y.natAbs))
            clear c100 c101 c102 c103 b100 b101 b102 b103 a100 a101 a102 a103 f100 f101 f102 f103 hW5 hWd hW6 hW7 hbi hbj
            change Exit.then _ _ _ _ ((wj.setCell ⟨g10, 0, none⟩ (.bool (decide (y < 0)))).setCell ⟨g10, 1, none⟩ (Sv (Dm.str y.natAbs)))
            generalize (wj.setCell ⟨g10, 0, none⟩ (.bool (decide (y < 0)))).setCell ⟨g10, 1, none⟩ (Sv (Dm.str y.natAbs)) = W8 at *
            obtain ⟨-, -, c90, c91, c92, c93, c100, c101, c102, c103, cu0, cu1, cv0, cv1⟩ := hW8.cells
            obtain ⟨-, -, -, -, -, -, -, -, -, -, fu0, fu1, fv0, fv1⟩ := hW8.free
            have hWf := (hW8.setU h8 h9 h10 (.bool (decide (x < 0))) (Sv (Dm.str x.natAbs))).setV h8 h9 h10 (.bool (decide (y < 0))) (Sv (Dm.str y.natAbs))
            go_wp2_with fail
            go_region_with fail
            all_goals
              obtain ⟨-, -, -, -, -, -, -, -, -, -, du0, du1, dv0, dv1⟩ := hWf.cells
              go_wp2_with fail
              refine bodyPost_ret (v := .tuple #[Sv (Dm.str r0), .agg #[.bool (decide (x < 0)), Sv (Dm.str x.natAbs)], .agg #[.bool (decide (y < 0)), Sv (Dm.str y.natAbs)], .int .i64 0]) (by simp [results, Tryd.results20, go_sem, du0, du1, dv0, dv1]) rfl ⟨⟨x, y, HZ.out, fx, fy, ?_⟩, hWf.drew.below⟩
              rw [← HG.out]
              rfl
      · obtain ⟨hz, hg⟩ := hS.plus hb0 hx
        obtain ⟨fx0, -, fy0, -⟩ := hS.fits
        have hdx : decide (x0 < 0) = false := by simpa using hx
        have HZ := Lib.hid hz
        have HG := Lib.hid hg
        have HDX := Lib.hid hdx
        rw [hdx] at hW c90
        obtain ⟨f80, f81, f90, f91, f92, f93, f100, f101, f102, f103, fu0, fu1, fv0, fv1⟩ := hW.free
        have hWf := (hW.setU h8 h9 h10 (.bool false) (Sv (Dm.str x0.natAbs))).setV h8 h9 h10 (.bool (decide (y0 < 0))) (Sv (Dm.str y0.natAbs))
        clear hdx hz hg hS hx
        go_wp2_with fail
        go_region_with fail
        all_goals
          obtain ⟨-, -, -, -, -, -, -, -, -, -, du0, du1, dv0, dv1⟩ := hWf.cells
          go_wp2_with fail
          refine bodyPost_ret (v := .tuple #[Sv (Dm.str r0), .agg #[.bool false, Sv (Dm.str x0.natAbs)], .agg #[.bool (decide (y0 < 0)), Sv (Dm.str y0.natAbs)], .int .i64 0]) (by simp [results, Tryd.results20, go_sem, du0, du1, dv0, dv1]) rfl ⟨⟨x0, y0, HZ.out, fx0, fy0, ?_⟩, hWf.drew.below⟩
          rw [← HG.out, iV, HDX.out]
          rfl
    · obtain ⟨e1, e2⟩ := str_pos hr1
      have hD := fun W : World => nDiv r0 r1 hS.l0 hS.l1 hr1 W
      have HD := Lib.hid hD
      clear hD
      go_wp2_with fail
      refine (HD.out _).mono ?_
      rintro e we ⟨rfl, hbe⟩
      have hW1 := hW.next hbe
      clear hW hbe c80 c81 c90 c91 c92 c93 c100 c101 c102 c103 cu0 cu1 cv0 cv1
      obtain ⟨c80, c81, c90, c91, c92, c93, c100, c101, c102, c103, cu0, cu1, cv0, cv1⟩ := hW1.cells
      obtain ⟨f80, f81, f90, f91, f92, f93, f100, f101, f102, f103, fu0, fu1, fv0, fv1⟩ := hW1.free
      have hlt : g8 < we.heap.size := hW1.R.lt
      go_wp2_with fail
      have hW2 := (hW1.setR h8 h9 h10 (Sv (Dm.str r1)) (Sv (Dm.str (r0 % r1)))).alloc (.cells #[.string (bs (Dm.str (r0 / r1)))] 22)
      have hQ : Blk (((we.setCell ⟨g8, 0, none⟩ (Sv (Dm.str r1))).setCell ⟨g8, 1, none⟩ (Sv (Dm.str (r0 % r1)))).alloc (.cells #[.string (bs (Dm.str (r0 / r1)))] 22)) we.heap.size 22 [Sv (Dm.str (r0 / r1))] := by
        have := Blk.new ((we.setCell ⟨g8, 0, none⟩ (Sv (Dm.str r1))).setCell ⟨g8, 1, none⟩ (Sv (Dm.str (r0 % r1)))) 22 [.string (bs (Dm.str (r0 / r1)))]
        simpa using this
      clear hW1 c80 c81 c90 c91 c92 c93 c100 c101 c102 c103 cu0 cu1 cv0 cv1 f80 f81 f90 f91 f92 f93 f100 f101 f102 f103 fu0 fu1 fv0 fv1 HD
      change Code.wp _ _ _ _ (((we.setCell ⟨g8, 0, none⟩ (Sv (Dm.str r1))).setCell ⟨g8, 1, none⟩ (Sv (Dm.str (r0 % r1)))).alloc (.cells #[.string (bs (Dm.str (r0 / r1)))] 22))
      generalize ((we.setCell ⟨g8, 0, none⟩ (Sv (Dm.str r1))).setCell ⟨g8, 1, none⟩ (Sv (Dm.str (r0 % r1)))).alloc (.cells #[.string (bs (Dm.str (r0 / r1)))] 22) = W2 at *
      generalize we.heap.size = gq at *
      obtain ⟨hS2, fpx, fpy⟩ := hS.step hr1 ha hb
      obtain ⟨fx0, fx1, fy0, fy1⟩ := hS.fits
      obtain ⟨-, fdx, -, fdy⟩ := hS2.fits
      have hql : r0 / r1 < 256 ^ 128 := Nat.lt_of_le_of_lt (Nat.div_le_self _ _) hS.l0
      obtain ⟨d, hd⟩ : ∃ d, x0 - ((r0 / r1 : Nat) : Int) * x1 = d := ⟨_, rfl⟩
      obtain ⟨k, hk⟩ : ∃ k, y0 - ((r0 / r1 : Nat) : Int) * y1 = k := ⟨_, rfl⟩
      have hX := fun (W : World) (hQ : Blk W gq 22 [Sv (Dm.str (r0 / r1))]) => nextZ x0 x1 (r0 / r1) fx0 fx1 hql d hd fpx (hd ▸ fdx) gq W hQ
      have hY := fun (W : World) (hQ : Blk W gq 22 [Sv (Dm.str (r0 / r1))]) => nextZ y0 y1 (r0 / r1) fy0 fy1 hql k hk fpy (hk ▸ fdy) gq W hQ
      rw [hd, hk] at hS2
      have HX := Lib.hid hX
      have HY := Lib.hid hY
      have HS2 := Lib.hid hS2
      have HR1 := Lib.hid hr1
      clear hX hY hS2 hd hk fdx fdy fpx fpy fx0 fx1 fy0 fy1 hS hr1 e1 e2
      have hWd := hW2.drew
      have hQd := hQ.drew
      obtain ⟨c80, c81, c90, c91, c92, c93, c100, c101, c102, c103, cu0, cu1, cv0, cv1⟩ := hW2.cells
      clear c80 c81 cu0 cu1 cv0 cv1
      go_region_with (first | (go_at_call 58; refine (HY.out _ hQ3).mono ?_; rintro e wg ⟨rfl, hbg⟩; have hW4 := hW3.next hbg; obtain ⟨-, -, a90, a91, a92, a93, a100, a101, a102, a103, -⟩ := hW4.cells; obtain ⟨-, -, f90, f91, f92, f93, f100, f101, f102, f103, -⟩ := hW4.free) | (go_at_call 58; refine (HX.out _ hQd).mono ?_; rintro e wf ⟨rfl, hbf⟩; have hW3 := hWd.next hbf; have hQ3 := hQd.below hbf hQd.lt; obtain ⟨-, -, b90, b91, b92, b93, b100, b101, b102, b103, -⟩ := hW3.cells))
      all_goals
        have hW5 := (hW4.setX h8 h9 h10 (.bool (decide (x1 < 0))) (Sv (Dm.str x1.natAbs)) (.bool (decide (d < 0))) (Sv (Dm.str d.natAbs))).setY h8 h9 h10 (.bool (decide (y1 < 0))) (Sv (Dm.str y1.natAbs)) (.bool (decide (k < 0))) (Sv (Dm.str k.natAbs))
        go_wp2_with fail
        go_roundw
        case rel => exact ⟨r1, r0 % r1, x1, d, y1, k, HS2.out, hW5⟩
        case measure =>
          rw [HM.out]
          have := mE_of (hW5.R.cell 1)
          have h2 := Nat.mod_lt r0 (Nat.pos_of_ne_zero HR1.out)
          exact this.symm ▸ h2
end Go.Proofs.YtlagcdgfmgkooaaDoor
