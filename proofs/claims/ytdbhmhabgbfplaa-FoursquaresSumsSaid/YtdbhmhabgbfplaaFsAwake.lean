/-
  The walk of awake, the chapter's examples: it returns true.
-/
import Derived.Test.YtdbhmhabgbfplaaFsWalk6
import Derived.Test.YtdbhmhabgbfplaaArr
namespace Go.Proofs.Ytdbhmhabgbfplaa
open Go.RowKit
set_option linter.unusedVariables false

theorem str_of {n : Nat} {l : List UInt8} (h : Dm.val l = n) (hc : Dm.canon l = true) : Dm.str n = l := by rw [← h, Dm.str_val_canon hc]
theorem four23 : FourW (Dm.str 23) = .tuple #[.agg #[Sv (Dm.str 3), Sv (Dm.str 3), Sv (Dm.str 2), Sv (Dm.str 1)], .int .i64 0] := by
  have h : Dm.four 23 = some (3, 3, 2, 1) := by decide
  have e : numOf (Dm.str 23) = 23 := by decide
  rw [FourW, if_pos (by decide), e, h]; rfl
theorem three27 : ThreeW (Dm.str 27) = .tuple #[.agg #[Sv (Dm.str 5), Sv (Dm.str 1), Sv (Dm.str 1)], .bool true, .int .i64 0] := by
  have h : threeOf (Dm.str 27) = some (5, 1, 1) := by decide
  rw [ThreeW, if_pos (by decide), h]; rfl
theorem three23 : ThreeW (Dm.str 23) = .tuple #[.agg #[Sv (Dm.str 0), Sv (Dm.str 0), Sv (Dm.str 0)], .bool false, .int .i64 0] := by
  have h : threeOf (Dm.str 23) = none := by decide
  rw [ThreeW, if_pos (by decide), h]; rfl
theorem two50 : TwoV .i64 (Dm.str 50) = .tuple #[.agg #[Sv (Dm.str 7), Sv (Dm.str 1)], .bool true, .int .i64 0] := by
  have h : Dm.two 50 50 = some (7, 1) := by decide +kernel
  have e : numOf (Dm.str 50) = 50 := by decide
  rw [TwoV, if_pos (by decide), e, h]; rfl
theorem four32 : FourW (Dm.str 4294967296) = .tuple #[.agg #[Sv (Dm.str 0), Sv (Dm.str 0), Sv (Dm.str 0), Sv (Dm.str 0)], .int .i64 5] := by
  rw [str_of (l := [1, 0, 0, 0, 0]) (by decide) (by decide), FourW, if_neg (by decide)]; rfl

theorem of_int (a : Int) (w : World) (h0 : 0 ≤ a) (h1 : a < 18446744073709551616) :
    Calls Try.prog 17 #[.int .u64 a] w fun e w' => e = .returned (Sv (Dm.str a.toNat)) ∧ Below w.heap.size w w' :=
  of_at a a.toNat w (by omega) (by omega)
theorem awake_cell {w : World} {bl : List (Nat × TypeId × List Value)} {W : World} (h : Kp w bl W) (i k : Nat) (hi : i < bl.length := by simp) {v : Value} (hv : (bl[i]).2.2[k]? = some v := by rfl) : W.cell? ⟨(bl[i]).1, k, none⟩ = some v := by
  rw [(h.blk _ (List.getElem_mem hi)).cell k, hv]
theorem awakeS {w : World} {g1 g2 g3 g4 g5 : Nat} {w' : World} (h : Kp w [(g5, 36, [Sv (Dm.str 0), Sv (Dm.str 0), Sv (Dm.str 0), Sv (Dm.str 0)]), (g4, 24, [Sv (Dm.str 7), Sv (Dm.str 1)]), (g3, 31, [Sv (Dm.str 0), Sv (Dm.str 0), Sv (Dm.str 0)]), (g2, 31, [Sv (Dm.str 5), Sv (Dm.str 1), Sv (Dm.str 1)]), (g1, 36, [Sv (Dm.str 3), Sv (Dm.str 3), Sv (Dm.str 2), Sv (Dm.str 1)])] w') :
    w'.cell? ⟨g1, 0, none⟩ = some (Sv (Dm.str 3)) ∧ w'.cell? ⟨g1, 1, none⟩ = some (Sv (Dm.str 3)) ∧ w'.cell? ⟨g1, 2, none⟩ = some (Sv (Dm.str 2)) ∧ w'.cell? ⟨g1, 3, none⟩ = some (Sv (Dm.str 1)) ∧ w'.cell? ⟨g2, 0, none⟩ = some (Sv (Dm.str 5)) ∧ w'.cell? ⟨g2, 1, none⟩ = some (Sv (Dm.str 1)) ∧ w'.cell? ⟨g2, 2, none⟩ = some (Sv (Dm.str 1)) ∧ w'.cell? ⟨g4, 0, none⟩ = some (Sv (Dm.str 7)) ∧ w'.cell? ⟨g4, 1, none⟩ = some (Sv (Dm.str 1)) :=
  ⟨awake_cell h 4 0, awake_cell h 4 1, awake_cell h 4 2, awake_cell h 4 3, awake_cell h 3 0, awake_cell h 3 1, awake_cell h 3 2, awake_cell h 1 0, awake_cell h 1 1⟩
set_option maxRecDepth 100000 in
set_option maxHeartbeats 4000000 in
theorem awake_any (w : World) :
    Calls Try.prog 10 #[] w fun e w' => e = .returned (.bool true) ∧ Below w.heap.size w w' := by
  go_enter Try.func10, Try.ntmps10
  have hk0 := Kp.start w
  go_wp2_with fail
  refine (of_any 23 _ (by decide)).mono ?_
  rintro e wa1 ⟨rfl, hb⟩
  have ha1 := hk0.next hb
  clear hb
  go_wp2_with fail
  refine (Four_any _ _ (by rw [size_bs]; decide)).mono ?_
  rintro e wb1 ⟨rfl, hb⟩
  have hb1 := ha1.next hb
  clear hb
  rw [tl_bs, four23]
  go_wp2_with fail
  have hk1 := hb1.new 36 [Sv (Dm.str 3), Sv (Dm.str 3), Sv (Dm.str 2), Sv (Dm.str 1)]
  clear ha1 hb1 hk0
  generalize wb1.heap.size = g1 at *
  generalize wb1.alloc (.cells #[Sv (Dm.str 3), Sv (Dm.str 3), Sv (Dm.str 2), Sv (Dm.str 1)] 36) = W1 at *
  refine (of_any 27 _ (by decide)).mono ?_
  rintro e wa2 ⟨rfl, hb⟩
  have ha2 := hk1.next hb
  clear hb
  go_wp2_with fail
  refine (Three_any _ _ (by rw [size_bs]; decide)).mono ?_
  rintro e wb2 ⟨rfl, hb⟩
  have hb2 := ha2.next hb
  clear hb
  rw [tl_bs, three27]
  go_wp2_with fail
  have hk2 := hb2.new 31 [Sv (Dm.str 5), Sv (Dm.str 1), Sv (Dm.str 1)]
  clear ha2 hb2 hk1
  generalize wb2.heap.size = g2 at *
  generalize wb2.alloc (.cells #[Sv (Dm.str 5), Sv (Dm.str 1), Sv (Dm.str 1)] 31) = W2 at *
  refine (of_any 23 _ (by decide)).mono ?_
  rintro e wa3 ⟨rfl, hb⟩
  have ha3 := hk2.next hb
  clear hb
  go_wp2_with fail
  refine (Three_any _ _ (by rw [size_bs]; decide)).mono ?_
  rintro e wb3 ⟨rfl, hb⟩
  have hb3 := ha3.next hb
  clear hb
  rw [tl_bs, three23]
  go_wp2_with fail
  have hk3 := hb3.new 31 [Sv (Dm.str 0), Sv (Dm.str 0), Sv (Dm.str 0)]
  clear ha3 hb3 hk2
  generalize wb3.heap.size = g3 at *
  generalize wb3.alloc (.cells #[Sv (Dm.str 0), Sv (Dm.str 0), Sv (Dm.str 0)] 31) = W3 at *
  refine (of_any 50 _ (by decide)).mono ?_
  rintro e wa4 ⟨rfl, hb⟩
  have ha4 := hk3.next hb
  clear hb
  go_wp2_with fail
  refine (Two_any _ _ (by rw [size_bs]; decide)).mono ?_
  rintro e wb4 ⟨rfl, hb⟩
  have hb4 := ha4.next hb
  clear hb
  rw [tl_bs, two50]
  go_wp2_with fail
  have hk4 := hb4.new 24 [Sv (Dm.str 7), Sv (Dm.str 1)]
  clear ha4 hb4 hk3
  generalize wb4.heap.size = g4 at *
  generalize wb4.alloc (.cells #[Sv (Dm.str 7), Sv (Dm.str 1)] 24) = W4 at *
  refine (of_any 4294967296 _ (by decide)).mono ?_
  rintro e wa5 ⟨rfl, hb⟩
  have ha5 := hk4.next hb
  clear hb
  go_wp2_with fail
  refine (Four_any _ _ (by rw [size_bs, str_of (l := [1, 0, 0, 0, 0]) (by decide) (by decide)]; decide)).mono ?_
  rintro e wb5 ⟨rfl, hb⟩
  have hb5 := ha5.next hb
  clear hb
  rw [tl_bs, four32]
  go_wp2_with fail
  have hk5 := hb5.new 36 [Sv (Dm.str 0), Sv (Dm.str 0), Sv (Dm.str 0), Sv (Dm.str 0)]
  clear ha5 hb5 hk4
  generalize wb5.heap.size = g5 at *
  generalize wb5.alloc (.cells #[Sv (Dm.str 0), Sv (Dm.str 0), Sv (Dm.str 0), Sv (Dm.str 0)] 36) = W5 at *
  have he4 : ∀ w, (binOp .eql 36 (.agg #[Sv (Dm.str 3), Sv (Dm.str 3), Sv (Dm.str 2), Sv (Dm.str 1)]) (.agg #[Sv (Dm.str 3), Sv (Dm.str 3), Sv (Dm.str 2), Sv (Dm.str 1)])).run Try.prog w = .ok (.bool true) w := fun w => by
    rw [show (Value.agg #[Sv (Dm.str 3), Sv (Dm.str 3), Sv (Dm.str 2), Sv (Dm.str 1)]) = .agg (([bs (Dm.str 3), bs (Dm.str 3), bs (Dm.str 2), bs (Dm.str 1)] : List ByteArray).map Value.string).toArray from rfl, run_eql_strs 4 _ 22 Try.underlying36 Try.underlying22 (by kernel_rfl) _ _ rfl rfl]; simp
  have he3 : ∀ w, (binOp .eql 31 (.agg #[Sv (Dm.str 5), Sv (Dm.str 1), Sv (Dm.str 1)]) (.agg #[Sv (Dm.str 5), Sv (Dm.str 1), Sv (Dm.str 1)])).run Try.prog w = .ok (.bool true) w := fun w => by
    rw [show (Value.agg #[Sv (Dm.str 5), Sv (Dm.str 1), Sv (Dm.str 1)]) = .agg (([bs (Dm.str 5), bs (Dm.str 1), bs (Dm.str 1)] : List ByteArray).map Value.string).toArray from rfl, run_eql_strs 3 _ 22 Try.underlying31 Try.underlying22 (by kernel_rfl) _ _ rfl rfl]; simp
  have he2 : ∀ w, (binOp .eql 24 (.agg #[Sv (Dm.str 7), Sv (Dm.str 1)]) (.agg #[Sv (Dm.str 7), Sv (Dm.str 1)])).run Try.prog w = .ok (.bool true) w := fun w => by
    rw [show (Value.agg #[Sv (Dm.str 7), Sv (Dm.str 1)]) = .agg (([bs (Dm.str 7), bs (Dm.str 1)] : List ByteArray).map Value.string).toArray from rfl, run_eql_strs 2 _ 22 Try.underlying24 Try.underlying22 (by kernel_rfl) _ _ rfl rfl]; simp
  have hkd := hk5.drew
  clear hk5
  go_region_held3 (fun w' => w'.cell? ⟨g1, 0, none⟩ = some (Sv (Dm.str 3)) ∧ w'.cell? ⟨g1, 1, none⟩ = some (Sv (Dm.str 3)) ∧ w'.cell? ⟨g1, 2, none⟩ = some (Sv (Dm.str 2)) ∧ w'.cell? ⟨g1, 3, none⟩ = some (Sv (Dm.str 1)) ∧ w'.cell? ⟨g2, 0, none⟩ = some (Sv (Dm.str 5)) ∧ w'.cell? ⟨g2, 1, none⟩ = some (Sv (Dm.str 1)) ∧ w'.cell? ⟨g2, 2, none⟩ = some (Sv (Dm.str 1)) ∧ w'.cell? ⟨g4, 0, none⟩ = some (Sv (Dm.str 7)) ∧ w'.cell? ⟨g4, 1, none⟩ = some (Sv (Dm.str 1))) (exact awakeS (w := w) (by assumption))
    (first | (go_at_call 17; refine (of_int _ _ (by decide) (by decide)).mono ?_; rintro e wa ⟨rfl, hba⟩; have hk1 := Kp.next (w := w) (bl := [(g5, 36, [Sv (Dm.str 0), Sv (Dm.str 0), Sv (Dm.str 0), Sv (Dm.str 0)]), (g4, 24, [Sv (Dm.str 7), Sv (Dm.str 1)]), (g3, 31, [Sv (Dm.str 0), Sv (Dm.str 0), Sv (Dm.str 0)]), (g2, 31, [Sv (Dm.str 5), Sv (Dm.str 1), Sv (Dm.str 1)]), (g1, 36, [Sv (Dm.str 3), Sv (Dm.str 3), Sv (Dm.str 2), Sv (Dm.str 1)])]) (by assumption) hba; simp only [Int.reduceToNat]))
  go_wp2
  go_ret
  exact ⟨rfl, Kp.below (by assumption)⟩
end Go.Proofs.Ytdbhmhabgbfplaa
