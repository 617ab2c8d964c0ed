/-
  dominoref02.Mod.
-/
import Derived.Test.YtlagcdgfmgkooaaDoorIntF
namespace Go.Proofs.YtlagcdgfmgkooaaDoor
open Go.RowKit
set_option linter.unusedVariables false

theorem kp_c01 {w W : World} {g : Nat} {t : TypeId} {x y : Value} {bl : List (Nat × TypeId × List Value)} (h : Kp w bl W) (hm : (g, t, [x, y]) ∈ bl) : W.cell? ⟨g, 0, none⟩ = some x ∧ W.cell? ⟨g, 1, none⟩ = some y := ⟨(h.blk _ hm).cell 0, (h.blk _ hm).cell 1⟩
theorem kp_f01 {w W : World} {g : Nat} {t : TypeId} {x y : Value} {bl : List (Nat × TypeId × List Value)} (h : Kp w bl W) (hm : (g, t, [x, y]) ∈ bl) : W.frozen? ⟨g, 0, none⟩ = false ∧ W.frozen? ⟨g, 1, none⟩ = false := ⟨(h.blk _ hm).frozen 0, (h.blk _ hm).frozen 1⟩
theorem set_keep {W : World} {g b : Nat} {u v x y : Value} (h : W.cell? ⟨b, 0, none⟩ = some x ∧ W.cell? ⟨b, 1, none⟩ = some y) (hne : b ≠ g) : ((W.setCell ⟨g, 0, none⟩ u).setCell ⟨g, 1, none⟩ v).cell? ⟨b, 0, none⟩ = some x ∧ ((W.setCell ⟨g, 0, none⟩ u).setCell ⟨g, 1, none⟩ v).cell? ⟨b, 1, none⟩ = some y := by
  have e : ∀ i, ((W.setCell ⟨g, 0, none⟩ u).setCell ⟨g, 1, none⟩ v).cell? ⟨b, i, none⟩ = W.cell? ⟨b, i, none⟩ := fun i => World.cell?_of_block ((Below.heap_setCell _ _ _ _ hne).trans (Below.heap_setCell _ _ _ _ hne))
  exact ⟨(e 0).trans h.1, (e 1).trans h.2⟩
theorem rfromN (m : Nat) (hm : m < 256 ^ 128) (w : World) :
    Calls Tryd.prog 39 #[Sv (Dm.str m)] w fun e w' => e = .returned (.agg #[.bool false, Sv (Dm.str m)]) ∧ Below w.heap.size w w' :=
  (rFrom_nm m hm w).mono fun e w' ⟨he, hw⟩ => ⟨by rw [he]; refine ret_val ?_; rw [show ((m : Nat) : Int) = zz false m from rfl, iV_zz (by intro h; cases h)], hw⟩
set_option maxHeartbeats 2000000 in
theorem rMod_gen {n : Bool} {m l : Nat} (h1 : Nm n m) (hl : l < 256 ^ 128) (x : Bool) (y r : ByteArray) (er : Int) (hD : Hid (∀ W : World, Calls Tryd.prog 27 #[.agg #[.bool n, Sv (Dm.str m)], .agg #[.bool false, Sv (Dm.str l)]] W fun e w' => e = .returned (.tuple #[.agg #[.bool x, .string y], .string r, .int .i64 er]) ∧ Below W.heap.size W w')) (w : World) :
    Calls Tryd.prog 29 #[.agg #[.bool n, Sv (Dm.str m)], Sv (Dm.str l)] w fun e w' => e = .returned (.tuple #[.string r, .int .i64 er]) ∧ Below w.heap.size w w' := by
  have hv : Nm false l := ⟨(fun h => by cases h), hl⟩
  have hsl : (bs (Dm.str l)).size ≤ 128 := hv.str
  have HVL := Lib.hid (show validB (tl (bs (Dm.str l))) = true by rw [tl_bs]; exact hv.vB)
  have HV := Lib.hid (fun W : World => rValid_nm h1 W)
  have HF := Lib.hid (fun W : World => rfromN l hl W)
  have hk := (Kp.start w).new 24 [.bool n, Sv (Dm.str m)]
  clear hl
  go_enter Tryd.func29, Tryd.ntmps29
  go_wp2_with fail
  refine (HV.out _).mono ?_
  rintro e w1 ⟨rfl, hb1⟩
  have hk1 := hk.next hb1
  clear hk hb1
  go_wp2_with fail
  refine (ref_valid_at _ true _ (by omega) HVL.out).mono ?_
  rintro e w2 ⟨rfl, rfl⟩
  go_wp2_with fail
  have hkd := hk1.drew
  have hkn := (hk1.new 24 [.bool false, .string ⟨#[]⟩]).drew
  have hz0 : w.heap.size < w1.heap.size := (hk1.blk _ (List.mem_cons_self ..)).lt
  clear hk1
  go_region_held3 (fun w' => w'.cell? ⟨w.heap.size, 0, none⟩ = some (.bool n) ∧ w'.cell? ⟨w.heap.size, 1, none⟩ = some (Sv (Dm.str m)))
    (first | exact kp_c01 (w := w) (by assumption) (List.mem_cons_self ..) | exact kp_c01 (w := w) (by assumption) (List.mem_cons_of_mem _ (List.mem_cons_self ..)) | exact kp_c01 (w := w) (Kp.alloc (by assumption) _) (List.mem_cons_self ..) | exact set_keep (kp_c01 (w := w) (by assumption) (List.mem_cons_of_mem _ (List.mem_cons_self ..))) (by omega) | exact set_keep (kp_c01 (w := w) (by assumption) (List.mem_cons_self ..)) (by omega))
    (first | (go_at_call 39; refine (HF.out _).mono ?_; rintro e wa ⟨rfl, hba⟩; (first | (have hka := Kp.next (w := w) (by assumption) hba) | (have hka := Kp.next (w := w) (Kp.new (by assumption) 24 [.bool false, .string ⟨#[]⟩]) hba)); (first | (have hza := (hka.blk _ (List.mem_cons_of_mem _ (List.mem_cons_self ..))).lt) | (have hza := (hka.blk _ (List.mem_cons_self ..)).lt))) | (go_at_call 27; refine (hD.out _).mono ?_; rintro e wb ⟨rfl, hbb⟩; (first | (have hkb := Kp.next (w := w) (by assumption) hbb) | (have hkb := Kp.next (w := w) (Kp.new (by assumption) 24 [.bool false, .string ⟨#[]⟩]) hbb)); (try obtain ⟨p0, p1⟩ := kp_c01 hkb (List.mem_cons_self ..)); (try obtain ⟨q0, q1⟩ := kp_f01 hkb (List.mem_cons_self ..))))
  all_goals
    go_wp2_with fail
    go_ret2
    refine ⟨rfl, ?_⟩
    first | exact (hkb.alloc _).below | exact (hkb.below.setCell (by simp; omega) _).setCell (by simp; omega) _
theorem rMod_nm {n : Bool} {m l : Nat} (h1 : Nm n m) (hl : l < 256 ^ 128) (h0 : l ≠ 0) (w : World) :
    Calls Tryd.prog 29 #[.agg #[.bool n, Sv (Dm.str m)], Sv (Dm.str l)] w fun e w' => e = .returned (.tuple #[Sv (Dm.str (rN n m l)), .int .i64 0]) ∧ Below w.heap.size w w' :=
  rMod_gen h1 hl _ _ _ 0 (Lib.hid fun W => (rDivMod_nm h1 ⟨(fun h => by cases h), hl⟩ W).mono fun e w' ⟨he, hw⟩ => ⟨by rw [he, divI_nm _ _ _ _ h0]; rfl, hw⟩) w
theorem rMod_zero {n : Bool} {m : Nat} (h1 : Nm n m) (w : World) :
    Calls Tryd.prog 29 #[.agg #[.bool n, Sv (Dm.str m)], Sv (Dm.str 0)] w fun e w' => e = .returned (.tuple #[.string ⟨#[]⟩, .int .i64 11]) ∧ Below w.heap.size w w' :=
  have hp : 0 < 256 ^ 128 := Nat.pos_of_ne_zero (by decide +kernel)
  rMod_gen h1 hp false ⟨#[]⟩ ⟨#[]⟩ 11 (Lib.hid fun W => (rDivMod_nm h1 ⟨(fun h => by cases h), hp⟩ W).mono fun e w' ⟨he, hw⟩ => ⟨by rw [he, divI_zero]; rfl, hw⟩) w
set_option maxHeartbeats 1000000 in
theorem rMod_bad (n : Bool) (s t : ByteArray) (w : World) (hl : s.size ≤ 1073741824) (hl2 : t.size ≤ 1073741824) (hv : (validI n (tl s) && validB (tl t)) = false) :
    Calls Tryd.prog 29 #[.agg #[.bool n, .string s], .string t] w fun e w' => e = .returned (.tuple #[.string ⟨#[]⟩, .int .i64 3]) ∧ Below w.heap.size w w' := by
  have hi := I1.start w (.bool n) (.string s)
  cases h1 : validI n (tl s) with
  | false =>
    have HV := Lib.hid h1
    clear h1 hv
    go_enter Tryd.func29, Tryd.ntmps29
    go_wp2_with fail
    refine (rValid_at n s false _ hl HV.out).mono ?_
    rintro e w1 ⟨rfl, hb1⟩
    go_wp2_with fail
    go_ret2
    exact ⟨rfl, (hi.next hb1).below⟩
  | true =>
    rw [h1, Bool.true_and] at hv
    have HV := Lib.hid h1
    have HW := Lib.hid hv
    clear h1 hv
    go_enter Tryd.func29, Tryd.ntmps29
    go_wp2_with fail
    refine (rValid_at n s true _ hl HV.out).mono ?_
    rintro e w1 ⟨rfl, hb1⟩
    go_wp2_with fail
    refine (ref_valid_at t false _ hl2 HW.out).mono ?_
    rintro e w2 ⟨rfl, rfl⟩
    go_wp2_with fail
    go_ret2
    exact ⟨rfl, (hi.next hb1).below⟩
end Go.Proofs.YtlagcdgfmgkooaaDoor
