/-
  dominoref02.bezout.
-/
import Derived.Test.YtlagcdgfmgkooaaDoorIntG
import Derived.Test.YtlagcdgfmgkooaaDoorBz
namespace Go.Proofs.YtlagcdgfmgkooaaDoor
open Go.RowKit
set_option linter.unusedVariables false

abbrev az (z : Int) : Value := .agg #[.bool (decide (z < 0)), Sv (Dm.str z.natAbs)]
theorem rofG (z : Int) (h1 : -9223372036854775808 ≤ z) (h2 : z ≤ 9223372036854775807) (w : World) :
    Calls Tryd.prog 38 #[.int .i64 z] w fun e w' => e = .returned (.agg #[.bool (decide (z < 0)), Sv (Dm.str z.natAbs)]) ∧ Below w.heap.size w w' := rOf_any z h1 h2 w
theorem kp_set2 {w W : World} {g : Nat} {t : TypeId} {u0 v0 : Value} {bl : List (Nat × TypeId × List Value)} (h : Kp w ((g, t, [u0, v0]) :: bl) W) (hg : w.heap.size ≤ g) (hd : ∀ x ∈ bl, x.1 ≠ g) (u v : Value) : Kp w ((g, t, [u, v]) :: bl) ((W.setCell ⟨g, 0, none⟩ u).setCell ⟨g, 1, none⟩ v) := by
  refine ⟨fun x hx => ?_, (h.below.setCell (by simpa using hg) _).setCell (by simpa using hg) _⟩
  rcases List.mem_cons.1 hx with rfl | hx'
  · exact ((h.blk _ (List.mem_cons_self ..)).set_ 0 u).set_ 1 v
  · have h1 := h.blk x (List.mem_cons_of_mem _ hx')
    have h2 := hd x hx'
    exact (h1.far (by simpa using h2) _).far (by simpa using h2) _
set_option maxHeartbeats 2000000 in
theorem bezout_zero (a : Nat) (w : World) :
    Calls Tryd.prog 60 #[Sv (Dm.str a), Sv (Dm.str 0)] w fun e w' => e = .returned (.tuple #[Sv (Dm.str a), az 1, az 0]) ∧ Below w.heap.size w w' := by
  obtain ⟨l1, l2⟩ := str_zero (n := 0) rfl
  have hu := U2.start w (.bool false) (.string ⟨#[]⟩) (.bool false) (.string ⟨#[]⟩)
  go_enter Tryd.func60, Tryd.ntmps60
  go_wp2_with fail
  refine (rofG 1 (by decide) (by decide) _).mono ?_
  rintro e w1 ⟨rfl, hb1⟩
  have hu1 := hu.next hb1
  go_wp2_with fail
  refine (rofG 0 (by decide) (by decide) _).mono ?_
  rintro e w2 ⟨rfl, hb2⟩
  have hu2 := hu1.next hb2
  obtain ⟨c0, c1, c2, c3⟩ := hu2.cells
  obtain ⟨f0, f1, f2, f3⟩ := hu2.free
  clear hu hu1 hb1 hb2
  go_wp2_with fail
  exact bodyPost_ret (v := .tuple #[Sv (Dm.str a), .agg #[.bool false, Sv (Dm.str 1)], .agg #[.bool false, Sv (Dm.str 0)]]) (by simp [results, Tryd.results60, go_sem, c0, c1, c2, c3]) rfl ⟨rfl, (hu2.set (.bool false) (Sv (Dm.str 1)) (.bool false) (Sv (Dm.str 0))).below⟩
theorem rmulZ {n k : Bool} {m l : Nat} (h1 : Nm n m) (h2 : Nm k l) (p : Int) (hp : zz n m * zz k l = p) (hf : Fits p) (w : World) :
    Calls Tryd.prog 19 #[.agg #[.bool n, Sv (Dm.str m)], .agg #[.bool k, Sv (Dm.str l)]] w fun e w' => e = .returned (.tuple #[.agg #[.bool (decide (p < 0)), Sv (Dm.str p.natAbs)], .int .i64 0]) ∧ Below w.heap.size w w' :=
  (rMul_nm h1 h2 w).mono fun e w' ⟨he, hw⟩ => ⟨by rw [he, hp, fitI_ok hf]; rfl, hw⟩
theorem rsubZ {n k : Bool} {m l : Nat} (h1 : Nm n m) (h2 : Nm k l) (p : Int) (hp : zz n m - zz k l = p) (hf : Fits p) (w : World) :
    Calls Tryd.prog 17 #[.agg #[.bool n, Sv (Dm.str m)], .agg #[.bool k, Sv (Dm.str l)]] w fun e w' => e = .returned (.tuple #[.agg #[.bool (decide (p < 0)), Sv (Dm.str p.natAbs)], .int .i64 0]) ∧ Below w.heap.size w w' :=
  (rSub_nm h1 h2 w).mono fun e w' ⟨he, hw⟩ => ⟨by rw [he, hp, fitI_ok hf]; rfl, hw⟩
theorem raddZ {n k : Bool} {m l : Nat} (h1 : Nm n m) (h2 : Nm k l) (p : Int) (hp : zz n m + zz k l = p) (hf : Fits p) (w : World) :
    Calls Tryd.prog 15 #[.agg #[.bool n, Sv (Dm.str m)], .agg #[.bool k, Sv (Dm.str l)]] w fun e w' => e = .returned (.tuple #[.agg #[.bool (decide (p < 0)), Sv (Dm.str p.natAbs)], .int .i64 0]) ∧ Below w.heap.size w w' :=
  (rAdd_nm h1 h2 w).mono fun e w' ⟨he, hw⟩ => ⟨by rw [he, hp, fitI_ok hf]; rfl, hw⟩
end Go.Proofs.YtlagcdgfmgkooaaDoor
