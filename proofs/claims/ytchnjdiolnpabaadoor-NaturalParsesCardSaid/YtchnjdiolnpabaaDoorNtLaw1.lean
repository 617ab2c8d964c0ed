/-
  The walk of the law NaturalWrites.
-/
import Derived.Test.YtchnjdiolnpabaaDoorNtAwake
namespace Go.Proofs.YtchnjdiolnpabaaDoor
open Go.RowKit
set_option linter.unusedVariables false

theorem length_str8 {n : Nat} (h : n < 18446744073709551616) : (Dm.str n).length ≤ 8 := Dm.length_str_le.2 (show n < 256 ^ 8 from h)
theorem toList_bs (l : List UInt8) : (bs l).toList = l := by rw [toList_tl, tl_bs]
theorem smallV_str8 {n : Nat} (h : n < 18446744073709551616) : smallV (Dm.str n) = .tuple #[.int .u64 (n : Int), .bool true] := by
  have := smallV_ok (s := bs (Dm.str n)) (by rw [tl_bs]; exact validB_short' (Nat.le_trans (length_str8 h) (by omega))) (by rw [size_bs]; exact length_str8 h)
  rw [tl_bs, Dm.val_str] at this
  exact this
theorem cmpV_str8 {n m : Nat} (h : n < 18446744073709551616) (h2 : m < 18446744073709551616) : cmpV (Dm.str n) (Dm.str m) = Dm.cmpN n m := by
  rw [cmpV, validB_short' (Nat.le_trans (length_str8 h) (by omega)), validB_short' (Nat.le_trans (length_str8 h2) (by omega)), if_pos (show (true && true) = true from rfl), Dm.val_str, Dm.val_str]
end Go.Proofs.YtchnjdiolnpabaaDoor
