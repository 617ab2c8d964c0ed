/-
  dominoref02.Extended at a second number that is not 0.
-/
import Derived.Test.YtlagcdgfmgkooaaDoorIntE
import Derived.Deep.DeepCutAuto
namespace Go.Proofs.YtlagcdgfmgkooaaDoor
open Go.RowKit
set_option linter.unusedVariables false

/-- a pointer to a new block that holds v, beside the kept blocks -/
def CutP (w : World) (lo : Nat) (v : List Value) (bl : List (Nat × TypeId × List Value)) (s : Value) (W : World) : Prop := ∃ g, s = .pointer (some ⟨g, 0, none⟩) ∧ lo < g ∧ Kp w ((g, 24, v) :: bl) W
theorem kp_sub {w W : World} {bl bl' : List (Nat × TypeId × List Value)} (h : Kp w bl W) (hs : ∀ x ∈ bl', x ∈ bl) : Kp w bl' W := ⟨fun x hx => h.blk x (hs x hx), h.below⟩
set_option maxHeartbeats 4000000 in
theorem rExt_gen (a b m k : Nat) (G : Nat) (x y q p z : Int) (r : Nat) (hb0 : b ≠ 0) (HA : Hid (validB (tl (bs (Dm.str a))) = true)) (HB : Hid (validB (tl (bs (Dm.str b))) = true)) (sa : (bs (Dm.str a)).size ≤ 128) (sb : (bs (Dm.str b)).size ≤ 128)
    (hR : Hid (∀ W : World, Calls Tryd.prog 60 #[Sv (Dm.str a), Sv (Dm.str b)] W fun e w' => e = .returned (.tuple #[Sv (Dm.str G), az x, az y]) ∧ Below W.heap.size W w'))
    (hM : Hid (∀ W : World, Calls Tryd.prog 61 #[Sv (Dm.str b), Sv (Dm.str G)] W fun e w' => e = .returned (.tuple #[Sv (Dm.str m), Sv (Dm.str (b % G)), .int .i64 0]) ∧ Below W.heap.size W w'))
    (hK : Hid (∀ W : World, Calls Tryd.prog 61 #[Sv (Dm.str a), Sv (Dm.str G)] W fun e w' => e = .returned (.tuple #[Sv (Dm.str k), Sv (Dm.str (a % G)), .int .i64 0]) ∧ Below W.heap.size W w'))
    (hFm : Hid (∀ W : World, Calls Tryd.prog 39 #[Sv (Dm.str m)] W fun e w' => e = .returned (.agg #[.bool false, Sv (Dm.str m)]) ∧ Below W.heap.size W w'))
    (hFk : Hid (∀ W : World, Calls Tryd.prog 39 #[Sv (Dm.str k)] W fun e w' => e = .returned (.agg #[.bool false, Sv (Dm.str k)]) ∧ Below W.heap.size W w'))
    (hFr : Hid (∀ W : World, Calls Tryd.prog 39 #[Sv (Dm.str r)] W fun e w' => e = .returned (.agg #[.bool false, Sv (Dm.str r)]) ∧ Below W.heap.size W w'))
    (hD : Hid (∀ W : World, Calls Tryd.prog 27 #[az x, .agg #[.bool false, Sv (Dm.str m)]] W fun e w' => e = .returned (.tuple #[az q, Sv (Dm.str r), .int .i64 0]) ∧ Below W.heap.size W w'))
    (hP : Hid (∀ W : World, Calls Tryd.prog 19 #[az q, .agg #[.bool false, Sv (Dm.str k)]] W fun e w' => e = .returned (.tuple #[az p, .int .i64 0]) ∧ Below W.heap.size W w'))
    (hS : Hid (∀ W : World, Calls Tryd.prog 15 #[az y, az p] W fun e w' => e = .returned (.tuple #[az z, .int .i64 0]) ∧ Below W.heap.size W w'))
    (w : World) :
    Calls Tryd.prog 21 #[Sv (Dm.str a), Sv (Dm.str b)] w fun e w' => e = .returned (.tuple #[Sv (Dm.str G), .agg #[.bool false, Sv (Dm.str r)], az z, .int .i64 0]) ∧ Below w.heap.size w w' := by
  obtain ⟨l1, l2⟩ := str_pos hb0
  have hk0 : Kp w [(w.heap.size + 1, 24, [.bool false, .string ⟨#[]⟩]), (w.heap.size, 24, [.bool false, .string ⟨#[]⟩])] ((w.alloc (.cells #[.bool false, .string ⟨#[]⟩] 24)).alloc (.cells #[.bool false, .string ⟨#[]⟩] 24)) := by
    have := ((Kp.start w).new 24 [.bool false, .string ⟨#[]⟩]).new 24 [.bool false, .string ⟨#[]⟩]
    simpa using this
  generalize b % G = r1 at *
  generalize a % G = r2 at *
  go_enter Tryd.func21, Tryd.ntmps21
  go_wp2_with fail
  refine (ref_valid_at _ true _ (by omega) HA.out).mono ?_
  rintro e w0 ⟨rfl, rfl⟩
  go_wp2_with fail
  refine (ref_valid_at _ true _ (by omega) HB.out).mono ?_
  rintro e w0 ⟨rfl, rfl⟩
  go_wp2_with fail
  refine (hR.out _).mono ?_
  rintro e w2 ⟨rfl, hb2⟩
  have HZ2 : w.heap.size + 1 < w2.heap.size := kp_l 0 (hk0.next hb2) rfl
  have hk2 := (hk0.next hb2).new 24 (azL x)
  have hk3 := hk2.new 24 (azL y)
  have hsz : (w2.alloc (.cells (azL x).toArray 24)).heap.size = w2.heap.size + 1 := by simp
  rw [hsz] at hk3
  clear hk0 hb2 hk2 hsz
  go_wp2_with fail
  refine (hM.out _).mono ?_
  rintro e w3 ⟨rfl, hb3⟩
  have hk4 := Kp.next hk3 hb3
  clear hk3 hb3
  have hz2 : w2.heap.size < w2.heap.size + 1 := Nat.lt_succ_self _
  generalize w2.heap.size + 1 = g10 at *
  generalize w2.heap.size = g9 at *
  go_wp2_with fail
  refine (hK.out _).mono ?_
  rintro e w4 ⟨rfl, hb4⟩
  have hk5 := Kp.next hk4 hb4
  clear hk4 hb4
  go_upto_region 8 with fail
  have hz3 : g10 < w4.heap.size := kp_l 0 hk5 rfl
  have hkd := hk5.drew
  have hkn := (hk5.new 24 [.bool false, .string ⟨#[]⟩]).drew
  go_cut [17, 18, 19] (fun s17 s18 s19 wx => s18 = Sv (Dm.str r) ∧ s19 = .int .i64 0 ∧ CutP w g10 (azL q) [(g10, 24, azL y), (g9, 24, azL x), (w.heap.size + 1, 24, [.bool false, .string ⟨#[]⟩]), (w.heap.size, 24, [.bool false, .string ⟨#[]⟩])] s17 wx)
  case first =>
    clear hk5
    go_region_held3 (fun w' => w'.cell? ⟨g9, 0, none⟩ = some (.bool (decide (x < 0))) ∧ w'.cell? ⟨g9, 1, none⟩ = some (Sv (Dm.str (x).natAbs)))
      (first | exact kp_c01' (w := w) 1 (by assumption) rfl | exact kp_c01' (w := w) 2 (by assumption) rfl | exact kp_c01' (w := w) 1 (Kp.alloc (by assumption) _) rfl | exact set_keep (kp_c01' (w := w) 2 (by assumption) rfl) (by omega) | exact set_keep (kp_c01' (w := w) 1 (by assumption) rfl) (by omega))
      (first | (go_at_call 39; refine (hFm.out _).mono ?_; rintro e wa ⟨rfl, hba⟩; (first | (have hka := Kp.next (w := w) (by assumption) hba) | (have hka := Kp.next (w := w) (Kp.new (by assumption) 24 [.bool false, .string ⟨#[]⟩]) hba)); (first | (have hza : g10 < wa.heap.size := kp_l 0 hka rfl) | (have hza : g10 < wa.heap.size := kp_l 1 hka rfl))) | (go_at_call 27; refine (hD.out _).mono ?_; rintro e wb ⟨rfl, hbb⟩; (first | (have hkb := Kp.next (w := w) (by assumption) hbb) | (have hkb := Kp.next (w := w) (Kp.new (by assumption) 24 [.bool false, .string ⟨#[]⟩]) hbb)); (try obtain ⟨p0, p1⟩ := kp_c01' 0 hkb rfl); (try obtain ⟨q0, q1⟩ := kp_f01' 0 hkb rfl)))
    · rename_i hHeld
      have hz5 : g10 < wb.heap.size := kp_l 0 hkb rfl
      go_wp2_with fail
      go_meet
      exact ⟨rfl, rfl, ⟨_, rfl, hz5, hkb.new 24 (azL q)⟩⟩
    · rename_i hHeld
      go_wp2_with fail
      go_meet
      exact ⟨rfl, rfl, ⟨_, rfl, hza, kp_set2 hkb (by omega) (by intro x' hx'; simp at hx'; rcases hx' with rfl | rfl | rfl | rfl <;> simp <;> omega) _ _⟩⟩
    · rename_i hHeld
      go_wp2_with fail
      go_meet
      exact ⟨rfl, rfl, ⟨_, rfl, hz3, kp_set2 hkb (by omega) (by intro x' hx'; simp at hx'; rcases hx' with rfl | rfl | rfl | rfl <;> simp <;> omega) _ _⟩⟩
  case rest =>
    obtain ⟨rfl, rfl, g17, rfl, hz17, hk6⟩ := hcut
    clear hkd hkn hk5 hz3
    have hz4 : g17 < wc.heap.size := kp_l 0 hk6 rfl
    have hkd := hk6.drew
    have hkn := (hk6.new 24 [.bool false, .string ⟨#[]⟩]).drew
    go_upto_region 9 with fail
    go_cut [20] (fun s20 wx => CutP w g17 (azL p) [(g17, 24, azL q), (g10, 24, azL y), (g9, 24, azL x), (w.heap.size + 1, 24, [.bool false, .string ⟨#[]⟩]), (w.heap.size, 24, [.bool false, .string ⟨#[]⟩])] s20 wx)
    case first =>
      clear hk6
      go_region_held3 (fun w' => w'.cell? ⟨g17, 0, none⟩ = some (.bool (decide (q < 0))) ∧ w'.cell? ⟨g17, 1, none⟩ = some (Sv (Dm.str (q).natAbs)))
        (first | exact kp_c01' (w := w) 0 (by assumption) rfl | exact kp_c01' (w := w) 1 (by assumption) rfl | exact kp_c01' (w := w) 0 (Kp.alloc (by assumption) _) rfl | exact set_keep (kp_c01' (w := w) 1 (by assumption) rfl) (by omega) | exact set_keep (kp_c01' (w := w) 0 (by assumption) rfl) (by omega))
        (first | (go_at_call 39; refine (hFk.out _).mono ?_; rintro e wa ⟨rfl, hba⟩; (first | (have hka := Kp.next (w := w) (by assumption) hba) | (have hka := Kp.next (w := w) (Kp.new (by assumption) 24 [.bool false, .string ⟨#[]⟩]) hba)); (first | (have hza : g17 < wa.heap.size := kp_l 0 hka rfl) | (have hza : g17 < wa.heap.size := kp_l 1 hka rfl))) | (go_at_call 19; refine (hP.out _).mono ?_; rintro e wb ⟨rfl, hbb⟩; (first | (have hkb := Kp.next (w := w) (by assumption) hbb) | (have hkb := Kp.next (w := w) (Kp.new (by assumption) 24 [.bool false, .string ⟨#[]⟩]) hbb)); (try obtain ⟨p0, p1⟩ := kp_c01' 0 hkb rfl); (try obtain ⟨q0, q1⟩ := kp_f01' 0 hkb rfl)))
      · rename_i hHeld
        have hz5 : g17 < wb.heap.size := kp_l 0 hkb rfl
        go_wp2_with fail
        go_meet
        exact ⟨_, rfl, hz5, hkb.new 24 (azL p)⟩
      · rename_i hHeld
        go_wp2_with fail
        go_meet
        exact ⟨_, rfl, hza, kp_set2 hkb (by omega) (by intro x' hx'; simp at hx'; rcases hx' with rfl | rfl | rfl | rfl | rfl <;> simp <;> omega) _ _⟩
      · rename_i hHeld
        go_wp2_with fail
        go_meet
        exact ⟨_, rfl, hz4, kp_set2 hkb (by omega) (by intro x' hx'; simp at hx'; rcases hx' with rfl | rfl | rfl | rfl | rfl <;> simp <;> omega) _ _⟩
    case rest =>
      obtain ⟨g20, rfl, hz20, hk7⟩ := hcut
      rename_i wd
      clear hkd hkn hk6 hz4
      obtain ⟨a0, a1⟩ := kp_c01' 0 hk7 rfl
      obtain ⟨b0, b1⟩ := kp_c01' 2 hk7 rfl
      go_wp2_with fail
      refine (hS.out _).mono ?_
      rintro e w8 ⟨rfl, hb8⟩
      have hk8 := Kp.next hk7 hb8
      clear hk7 hb8 a0 a1 b0 b1
      obtain ⟨f0, f1⟩ := kp_f01' 2 hk8 rfl
      obtain ⟨h0, h1⟩ := kp_c01' 2 hk8 rfl
      go_wp2_with fail
      have hk9 := kp_set2 (kp_sub hk8 (bl' := [(g10, 24, azL y), (w.heap.size + 1, 24, [.bool false, .string ⟨#[]⟩]), (w.heap.size, 24, [.bool false, .string ⟨#[]⟩])]) (by simp)) (by omega) (by intro x' hx'; simp at hx'; rcases hx' with rfl | rfl <;> simp <;> omega) (.bool (decide (z < 0))) (.string (bs (Dm.str z.natAbs)))
      clear hk8 f0 f1 h0 h1
      generalize (w8.setCell ⟨g10, 0, none⟩ (.bool (decide (z < 0)))).setCell ⟨g10, 1, none⟩ (.string (bs (Dm.str z.natAbs))) = W9 at *
      have hkd := hk9.drew
      clear hk9
      go_region_held3 (fun w' => w'.cell? ⟨g10, 0, none⟩ = some (.bool (decide (z < 0))) ∧ w'.cell? ⟨g10, 1, none⟩ = some (Sv (Dm.str z.natAbs)))
        (first | exact kp_c01' (w := w) 0 (by assumption) rfl | exact set_keep (kp_c01' (w := w) 0 (by assumption) rfl) (by omega) | exact set_keep (set_keep (kp_c01' (w := w) 0 (by assumption) rfl) (by omega)) (by omega))
        (first | (go_at_call 39; refine (hFr.out _).mono ?_; rintro e wa ⟨rfl, hba⟩; have hka := Kp.next (w := w) (by assumption) hba; obtain ⟨c0, c1⟩ := kp_c01' 1 hka rfl; obtain ⟨d0, d1⟩ := kp_c01' 2 hka rfl; obtain ⟨e0, e1⟩ := kp_f01' 1 hka rfl; obtain ⟨f0, f1⟩ := kp_f01' 2 hka rfl))
      all_goals
        go_wp2_with fail
        refine bodyPost_ret (v := .tuple #[Sv (Dm.str G), .agg #[.bool false, Sv (Dm.str r)], az z, .int .i64 0]) (by simp [results, Tryd.results21, go_sem, c0, c1, d0, d1]) rfl ⟨rfl, ?_⟩
        first | exact (((hka.below.setCell (by simp) _).setCell (by simp) _).setCell (by simp) _).setCell (by simp) _ | exact ((((hka.below.setCell (by simp) _).setCell (by simp) _).setCell (by simp) _).setCell (by simp) _).drew
theorem ediv_abs (x : Int) (m : Nat) : (x / (m : Int)).natAbs ≤ x.natAbs := Int.natAbs_ediv_le_natAbs x m
theorem p60 : (256 : Nat) ^ 60 * 256 ^ 60 + 256 ^ 60 + 1 < 256 ^ 128 := by decide +kernel
theorem p60' : (256 : Nat) ^ 60 < 256 ^ 128 := by decide +kernel
theorem p60'' : 1 < (256 : Nat) ^ 60 := by decide +kernel
theorem az_nn {x : Int} (h : 0 ≤ x) : az x = .agg #[.bool false, Sv (Dm.str x.toNat)] := by
  have h1 : decide (x < 0) = false := by simpa using h
  have h2 : x.natAbs = x.toNat := by omega
  rw [az, h1, h2]
set_option maxHeartbeats 1000000 in
theorem rExt_nm (a b : Nat) (ha : a < 256 ^ 60) (hb : b < 256 ^ 60) (hb0 : b ≠ 0) (x y : Int) (hE : EZ a b x y) (w : World) :
    Calls Tryd.prog 21 #[Sv (Dm.str a), Sv (Dm.str b)] w fun e w' => e = .returned (.tuple #[Sv (Dm.str (Nat.gcd a b)), az x, az y, .int .i64 0]) ∧ Below w.heap.size w w' := by
  have hp1 := p60
  have hp2 := p60'
  have hp3 := p60''
  have hsum := bz_sum (b + 1) a b (Nat.lt_succ_self b)
  have hbd := bz_bound (b + 1) a b (Nat.lt_succ_self b) hb0
  have hR := fun W : World => bezout_any (b + 1) a b W (Nat.lt_succ_self b) (Nat.lt_trans ha hp2) (Nat.lt_trans hb hp2)
  generalize (256 : Nat) ^ 60 = P at *
  generalize (bzF (b + 1) a b).1 = X at *
  generalize (bzF (b + 1) a b).2 = Y at *
  have hred := bz_reduced hb0 hsum
  obtain ⟨rfl, rfl⟩ := hE.unique hb0 hred
  have hG0 : 0 < Nat.gcd a b := Nat.gcd_pos_of_pos_right a (Nat.pos_of_ne_zero hb0)
  have hGb : Nat.gcd a b ≤ b := Nat.gcd_le_right a (Nat.pos_of_ne_zero hb0)
  have hm0 : 0 < b / Nat.gcd a b := Nat.div_pos hGb hG0
  have hmb : b / Nat.gcd a b ≤ b := Nat.div_le_self _ _
  have hka : a / Nat.gcd a b ≤ a := Nat.div_le_self _ _
  generalize Nat.gcd a b = G at *
  have ra := rDiv a G (by omega) (by omega) (by omega)
  have rb := rDiv b G (by omega) (by omega) (by omega)
  generalize a / G = k at *
  generalize b / G = m at *
  have hq := ediv_abs X m
  have hX : X.natAbs < P := by omega
  have hY : Y.natAbs ≤ P := by omega
  have hr : X % (m : Int) < m := Int.emod_lt_of_pos _ (by omega)
  have hr0 : 0 ≤ X % (m : Int) := Int.emod_nonneg _ (by omega)
  have fX : Fits X := by unfold Fits; omega
  have fY : Fits Y := by unfold Fits; omega
  have fq : Fits (X / (m : Int)) := by unfold Fits; omega
  have hpa : (X / (m : Int) * (k : Int)).natAbs ≤ P * P := by
    rw [Int.natAbs_mul, Int.natAbs_natCast]
    exact Nat.mul_le_mul (by omega) (by omega)
  have fp : Fits (X / (m : Int) * (k : Int)) := by unfold Fits; omega
  have fz : Fits (Y + X / (m : Int) * (k : Int)) := by unfold Fits; omega
  have nmm : Nm false m := ⟨(fun h => by cases h), by omega⟩
  have nmk : Nm false k := ⟨(fun h => by cases h), by omega⟩
  have hsa : (bs (Dm.str a)).size ≤ 128 := by rw [size_bs]; exact Dm.length_str_le.2 (by omega)
  have hsb : (bs (Dm.str b)).size ≤ 128 := by rw [size_bs]; exact Dm.length_str_le.2 (by omega)
  have vA : validB (tl (bs (Dm.str a))) = true := by rw [tl_bs]; exact validB_short' (Dm.length_str_le.2 (by omega))
  have vB : validB (tl (bs (Dm.str b))) = true := by rw [tl_bs]; exact validB_short' (Dm.length_str_le.2 (by omega))
  rw [az_nn hr0]
  refine rExt_gen a b m k G X Y (X / (m : Int)) (X / (m : Int) * (k : Int)) (Y + X / (m : Int) * (k : Int)) (X % (m : Int)).toNat hb0 (Lib.hid vA) (Lib.hid vB) hsa hsb (Lib.hid hR) (Lib.hid rb) (Lib.hid ra)
    (Lib.hid fun W => rfromN m nmm.lt W) (Lib.hid fun W => rfromN k nmk.lt W) (Lib.hid fun W => rfromN _ (by omega) W)
    (Lib.hid fun W => (rDivMod_nm (nm_of X fX) nmm W).mono fun e w' ⟨he, hb⟩ => ⟨?_, hb⟩)
    (Lib.hid fun W => rmulZ (nm_of _ fq) nmk _ (by rw [zz_of]; rfl) fp W)
    (Lib.hid fun W => raddZ (nm_of _ fY) (nm_of _ fp) _ (by rw [zz_of, zz_of]) fz W) w
  rw [he, zz_of]
  have : zz false m = (m : Int) := rfl
  rw [this, divI, if_neg (by omega)]
  rfl
end Go.Proofs.YtlagcdgfmgkooaaDoor
