/-
  dominoref02.bezout: one step. (under way)
-/
import Derived.Test.YtlagcdgfmgkooaaDoorIntH
import Derived.BigRegion
import Derived.RegionTactic
namespace Go.Proofs.YtlagcdgfmgkooaaDoor
open Go.RowKit
set_option linter.unusedVariables false

abbrev azL (z : Int) : List Value := [.bool (decide (z < 0)), Sv (Dm.str z.natAbs)]
theorem kp_c01' {w W : World} {g : Nat} {t : TypeId} {x y : Value} {bl : List (Nat × TypeId × List Value)} (i : Nat) (h : Kp w bl W) (hm : bl[i]? = some (g, t, [x, y])) : W.cell? ⟨g, 0, none⟩ = some x ∧ W.cell? ⟨g, 1, none⟩ = some y := kp_c01 h (List.mem_of_getElem? hm)
theorem kp_f01' {w W : World} {g : Nat} {t : TypeId} {x y : Value} {bl : List (Nat × TypeId × List Value)} (i : Nat) (h : Kp w bl W) (hm : bl[i]? = some (g, t, [x, y])) : W.frozen? ⟨g, 0, none⟩ = false ∧ W.frozen? ⟨g, 1, none⟩ = false := kp_f01 h (List.mem_of_getElem? hm)
theorem kp_l {w W : World} {g : Nat} {t : TypeId} {l : List Value} {bl : List (Nat × TypeId × List Value)} (i : Nat) (h : Kp w bl W) (hm : bl[i]? = some (g, t, l)) : g < W.heap.size := (h.blk _ (List.mem_of_getElem? hm)).lt
set_option maxHeartbeats 4000000 in
theorem bezout_step (a b : Nat) (ha : a < 256 ^ 128) (hb : b < 256 ^ 128) (hb0 : b ≠ 0) (G : Nat) (x y p z : Int)
    (hR : Hid (∀ W : World, Calls Tryd.prog 60 #[Sv (Dm.str b), Sv (Dm.str (a % b))] W fun e w' => e = .returned (.tuple #[Sv (Dm.str G), az x, az y]) ∧ Below W.heap.size W w'))
    (fx : Fits x) (fy : Fits y) (hp : ((a / b : Nat) : Int) * y = p) (hz : x - p = z) (fp : Fits p) (fz : Fits z) (w : World) :
    Calls Tryd.prog 60 #[Sv (Dm.str a), Sv (Dm.str b)] w fun e w' => e = .returned (.tuple #[Sv (Dm.str G), az y, az z]) ∧ Below w.heap.size w w' := by
  obtain ⟨l1, l2⟩ := str_pos hb0
  have hq : a / b < 256 ^ 128 := Nat.lt_of_le_of_lt (Nat.div_le_self a b) ha
  have HF := Lib.hid (fun W : World => rfromN (a / b) hq W)
  have HM := Lib.hid (fun W : World => rmulZ (n := false) (m := a / b) ⟨(fun h => by cases h), hq⟩ (nm_of y fy) p (by rw [zz_of]; exact hp) fp W)
  have HS := Lib.hid (fun W : World => rsubZ (nm_of x fx) (nm_of p fp) z (by rw [zz_of, zz_of]; exact hz) fz W)
  have HD := Lib.hid (fun W : World => rDiv a b ha hb hb0 W)
  have hk0 : Kp w [(w.heap.size + 1, 24, [.bool false, .string ⟨#[]⟩]), (w.heap.size, 24, [.bool false, .string ⟨#[]⟩])] ((w.alloc (.cells #[.bool false, .string ⟨#[]⟩] 24)).alloc (.cells #[.bool false, .string ⟨#[]⟩] 24)) := by
    have := ((Kp.start w).new 24 [.bool false, .string ⟨#[]⟩]).new 24 [.bool false, .string ⟨#[]⟩]
    simpa using this
  clear ha hb hq hp hz fp fz fx fy
  generalize a % b = r at *
  generalize a / b = q at *
  go_enter Tryd.func60, Tryd.ntmps60
  go_wp2_with fail
  refine (HD.out _).mono ?_
  rintro e w1 ⟨rfl, hb1⟩
  have hk1 := hk0.next hb1
  clear hk0 hb1
  go_wp2_with fail
  refine (hR.out _).mono ?_
  rintro e w2 ⟨rfl, hb2⟩
  have HZ2 : w.heap.size + 1 < w2.heap.size := kp_l 0 (hk1.next hb2) rfl
  have hk2 := (hk1.next hb2).new 24 (azL x)
  have hk3 := hk2.new 24 (azL y)
  have hsz : (w2.alloc (.cells (azL x).toArray 24)).heap.size = w2.heap.size + 1 := by simp
  rw [hsz] at hk3
  clear hk1 hb2 hk2 hsz
  have hz1 : w.heap.size + 1 < w2.heap.size := HZ2
  go_wp2_with fail
  have hz3 : w2.heap.size + 1 < ((w2.alloc (.cells #[.bool (decide (x < 0)), .string (bs (Dm.str x.natAbs))] 24)).alloc (.cells #[.bool (decide (y < 0)), .string (bs (Dm.str y.natAbs))] 24)).heap.size := by simp
  have hk4 : Kp w [(w2.heap.size + 1, 24, azL y), (w2.heap.size, 24, azL x), (w.heap.size + 1, 24, [.bool false, .string ⟨#[]⟩]), (w.heap.size, 24, [.bool false, .string ⟨#[]⟩])] ((w2.alloc (.cells #[.bool (decide (x < 0)), .string (bs (Dm.str x.natAbs))] 24)).alloc (.cells #[.bool (decide (y < 0)), .string (bs (Dm.str y.natAbs))] 24)) := hk3
  clear hk3
  generalize (w2.alloc (.cells #[.bool (decide (x < 0)), .string (bs (Dm.str x.natAbs))] 24)).alloc (.cells #[.bool (decide (y < 0)), .string (bs (Dm.str y.natAbs))] 24) = W3 at *
  have hz2 : w2.heap.size < w2.heap.size + 1 := Nat.lt_succ_self _
  generalize w2.heap.size + 1 = g12 at *
  generalize w2.heap.size = g11 at *
  have hkd := hk4.drew
  have hkn := (hk4.new 24 [.bool false, .string ⟨#[]⟩]).drew
  clear hk4
  go_region_held3 (fun w' => w'.cell? ⟨g12, 0, none⟩ = some (.bool (decide (y < 0))) ∧ w'.cell? ⟨g12, 1, none⟩ = some (Sv (Dm.str y.natAbs)))
    (first | exact kp_c01' (w := w) 0 (by assumption) rfl | exact kp_c01' (w := w) 1 (by assumption) rfl | exact kp_c01' (w := w) 0 (Kp.alloc (by assumption) _) rfl | exact set_keep (kp_c01' (w := w) 1 (by assumption) rfl) (by omega) | exact set_keep (kp_c01' (w := w) 0 (by assumption) rfl) (by omega))
    (first | (go_at_call 39; refine (HF.out _).mono ?_; rintro e wa ⟨rfl, hba⟩; (first | (have hka := Kp.next (w := w) (by assumption) hba) | (have hka := Kp.next (w := w) (Kp.new (by assumption) 24 [.bool false, .string ⟨#[]⟩]) hba)); (first | (have hza : g12 < wa.heap.size := kp_l 0 hka rfl) | (have hza : g12 < wa.heap.size := kp_l 1 hka rfl))) | (go_at_call 19; refine (HM.out _).mono ?_; rintro e wb ⟨rfl, hbb⟩; (first | (have hkb := Kp.next (w := w) (by assumption) hbb) | (have hkb := Kp.next (w := w) (Kp.new (by assumption) 24 [.bool false, .string ⟨#[]⟩]) hbb)); (try obtain ⟨p0, p1⟩ := kp_c01' 0 hkb rfl); (try obtain ⟨q0, q1⟩ := kp_f01' 0 hkb rfl)))
  · rename_i hHeld
    have hk5 : Kp w [(wb.heap.size, 24, azL p), (g12, 24, azL y), (g11, 24, azL x), (w.heap.size + 1, 24, [.bool false, .string ⟨#[]⟩]), (w.heap.size, 24, [.bool false, .string ⟨#[]⟩])] (wb.alloc (.cells #[.bool (decide (p < 0)), .string (bs (Dm.str p.natAbs))] 24)) := hkb.new 24 (azL p)
    have hz5 : g12 < wb.heap.size := kp_l 0 hkb rfl
    clear hkd hkn hka hkb hba hbb hza p0 p1 q0 q1
    generalize wb.alloc (.cells #[.bool (decide (p < 0)), .string (bs (Dm.str p.natAbs))] 24) = W4 at *
    generalize wb.heap.size = g13 at *
    clear hHeld HM HF hR HD
    obtain ⟨r0, r1⟩ := kp_c01' 0 hk5 rfl
    obtain ⟨s0, s1⟩ := kp_c01' 2 hk5 rfl
    go_wp2_with fail
    refine (HS.out _).mono ?_
    rintro e w5 ⟨rfl, hb5⟩
    have hzz : g13 < w5.heap.size := kp_l 0 (hk5.next hb5) rfl
    have hk6 := (hk5.next hb5).new 24 (azL z)
    clear r0 r1 s0 s1 hk5 hb5
    have hz6 : g13 < w5.heap.size := hzz
    go_wp2_with fail
    have hk7 : Kp w [(w5.heap.size, 24, azL z), (g13, 24, azL p), (g12, 24, azL y), (g11, 24, azL x), (w.heap.size + 1, 24, [.bool false, .string ⟨#[]⟩]), (w.heap.size, 24, [.bool false, .string ⟨#[]⟩])] (w5.alloc (.cells #[.bool (decide (z < 0)), .string (bs (Dm.str z.natAbs))] 24)) := hk6
    clear hk6
    generalize w5.alloc (.cells #[.bool (decide (z < 0)), .string (bs (Dm.str z.natAbs))] 24) = W6 at *
    generalize w5.heap.size = g15 at *
    have hkd := hk7.drew
    obtain ⟨a0, a1⟩ := kp_c01' 0 hk7 rfl
    obtain ⟨b0, b1⟩ := kp_c01' 2 hk7 rfl
    obtain ⟨c0, c1⟩ := kp_c01' 4 hk7 rfl
    obtain ⟨d0, d1⟩ := kp_c01' 5 hk7 rfl
    obtain ⟨e0, e1⟩ := kp_f01' 4 hk7 rfl
    obtain ⟨f0, f1⟩ := kp_f01' 5 hk7 rfl
    go_region
    go_wp2_with fail
    refine bodyPost_ret (v := .tuple #[Sv (Dm.str G), az y, az z]) (by simp [results, Tryd.results60, go_sem, c0, c1, d0, d1]) rfl ⟨rfl, ?_⟩
    exact ((((hk7.below.setCell (by simp) _).setCell (by simp) _).setCell (by simp) _).setCell (by simp) _).drew
  · rename_i hHeld
    have hk5 := kp_set2 hkb (by omega) (by intro x' hx'; simp at hx'; rcases hx' with rfl | rfl | rfl | rfl <;> simp <;> omega) (.bool (decide (p < 0))) (.string (bs (Dm.str p.natAbs)))
    have hz5 : g12 < wa.heap.size := hza
    clear hkd hkn hka hkb hba hbb hza p0 p1 q0 q1
    generalize ((wb.setCell ⟨wa.heap.size, 0, none⟩ (.bool (decide (p < 0)))).setCell ⟨wa.heap.size, 1, none⟩ (.string (bs (Dm.str p.natAbs)))) = W4 at *
    generalize wa.heap.size = g13 at *
    clear hHeld HM HF hR HD
    obtain ⟨r0, r1⟩ := kp_c01' 0 hk5 rfl
    obtain ⟨s0, s1⟩ := kp_c01' 2 hk5 rfl
    go_wp2_with fail
    refine (HS.out _).mono ?_
    rintro e w5 ⟨rfl, hb5⟩
    have hzz : g13 < w5.heap.size := kp_l 0 (hk5.next hb5) rfl
    have hk6 := (hk5.next hb5).new 24 (azL z)
    clear r0 r1 s0 s1 hk5 hb5
    have hz6 : g13 < w5.heap.size := hzz
    go_wp2_with fail
    have hk7 : Kp w [(w5.heap.size, 24, azL z), (g13, 24, azL p), (g12, 24, azL y), (g11, 24, azL x), (w.heap.size + 1, 24, [.bool false, .string ⟨#[]⟩]), (w.heap.size, 24, [.bool false, .string ⟨#[]⟩])] (w5.alloc (.cells #[.bool (decide (z < 0)), .string (bs (Dm.str z.natAbs))] 24)) := hk6
    clear hk6
    generalize w5.alloc (.cells #[.bool (decide (z < 0)), .string (bs (Dm.str z.natAbs))] 24) = W6 at *
    generalize w5.heap.size = g15 at *
    have hkd := hk7.drew
    obtain ⟨a0, a1⟩ := kp_c01' 0 hk7 rfl
    obtain ⟨b0, b1⟩ := kp_c01' 2 hk7 rfl
    obtain ⟨c0, c1⟩ := kp_c01' 4 hk7 rfl
    obtain ⟨d0, d1⟩ := kp_c01' 5 hk7 rfl
    obtain ⟨e0, e1⟩ := kp_f01' 4 hk7 rfl
    obtain ⟨f0, f1⟩ := kp_f01' 5 hk7 rfl
    go_region
    go_wp2_with fail
    refine bodyPost_ret (v := .tuple #[Sv (Dm.str G), az y, az z]) (by simp [results, Tryd.results60, go_sem, c0, c1, d0, d1]) rfl ⟨rfl, ?_⟩
    exact ((((hk7.below.setCell (by simp) _).setCell (by simp) _).setCell (by simp) _).setCell (by simp) _).drew
  · rename_i hHeld
    have hk5 := kp_set2 hkb (by omega) (by intro x' hx'; simp at hx'; rcases hx' with rfl | rfl | rfl | rfl <;> simp <;> omega) (.bool (decide (p < 0))) (.string (bs (Dm.str p.natAbs)))
    have hz5 : g12 < W3.heap.size := hz3
    clear hkd hkn hka hkb hba hbb hza p0 p1 q0 q1
    generalize ((wb.setCell ⟨W3.heap.size, 0, none⟩ (.bool (decide (p < 0)))).setCell ⟨W3.heap.size, 1, none⟩ (.string (bs (Dm.str p.natAbs)))) = W4 at *
    generalize W3.heap.size = g13 at *
    clear hHeld HM HF hR HD
    obtain ⟨r0, r1⟩ := kp_c01' 0 hk5 rfl
    obtain ⟨s0, s1⟩ := kp_c01' 2 hk5 rfl
    go_wp2_with fail
    refine (HS.out _).mono ?_
    rintro e w5 ⟨rfl, hb5⟩
    have hzz : g13 < w5.heap.size := kp_l 0 (hk5.next hb5) rfl
    have hk6 := (hk5.next hb5).new 24 (azL z)
    clear r0 r1 s0 s1 hk5 hb5
    have hz6 : g13 < w5.heap.size := hzz
    go_wp2_with fail
    have hk7 : Kp w [(w5.heap.size, 24, azL z), (g13, 24, azL p), (g12, 24, azL y), (g11, 24, azL x), (w.heap.size + 1, 24, [.bool false, .string ⟨#[]⟩]), (w.heap.size, 24, [.bool false, .string ⟨#[]⟩])] (w5.alloc (.cells #[.bool (decide (z < 0)), .string (bs (Dm.str z.natAbs))] 24)) := hk6
    clear hk6
    generalize w5.alloc (.cells #[.bool (decide (z < 0)), .string (bs (Dm.str z.natAbs))] 24) = W6 at *
    generalize w5.heap.size = g15 at *
    have hkd := hk7.drew
    obtain ⟨a0, a1⟩ := kp_c01' 0 hk7 rfl
    obtain ⟨b0, b1⟩ := kp_c01' 2 hk7 rfl
    obtain ⟨c0, c1⟩ := kp_c01' 4 hk7 rfl
    obtain ⟨d0, d1⟩ := kp_c01' 5 hk7 rfl
    obtain ⟨e0, e1⟩ := kp_f01' 4 hk7 rfl
    obtain ⟨f0, f1⟩ := kp_f01' 5 hk7 rfl
    go_region
    go_wp2_with fail
    refine bodyPost_ret (v := .tuple #[Sv (Dm.str G), az y, az z]) (by simp [results, Tryd.results60, go_sem, c0, c1, d0, d1]) rfl ⟨rfl, ?_⟩
    exact ((((hk7.below.setCell (by simp) _).setCell (by simp) _).setCell (by simp) _).setCell (by simp) _).drew
end Go.Proofs.YtlagcdgfmgkooaaDoor
