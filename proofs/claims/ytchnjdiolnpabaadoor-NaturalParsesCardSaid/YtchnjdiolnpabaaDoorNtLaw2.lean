/-
  The walk of the law NaturalField. (printed by wip/mkf.py)
-/
import Derived.Test.YtchnjdiolnpabaaDoorNtLaw1
namespace Go.Proofs.YtchnjdiolnpabaaDoor
open Go.RowKit
set_option linter.unusedVariables false

theorem fit_of {n k : Nat} (hn : n < 256 ^ k) (hk : k ≤ 128) : fitV (Dm.str n) = .tuple #[Sv (Dm.str n), .int .i64 0] := by
  rw [fitV, if_pos (Nat.le_trans (Dm.length_str_le.2 hn) hk)]
theorem valid_of {n k : Nat} (hn : n < 256 ^ k) (hk : k ≤ 128) : validB (Dm.str n) = true := validB_short' (Nat.le_trans (Dm.length_str_le.2 hn) hk)
theorem addV_of {a b k : Nat} (h1 : validB (Dm.str a) = true) (h2 : validB (Dm.str b) = true) (hn : a + b < 256 ^ k) (hk : k ≤ 128) : addV (tl (bs (Dm.str a))) (tl (bs (Dm.str b))) = .tuple #[Sv (Dm.str (a + b)), .int .i64 0] := by
  rw [tl_bs, tl_bs, addV, h1, h2, if_pos (show (true && true) = true from rfl), Dm.val_str, Dm.val_str, fit_of hn hk]
theorem mulV_of {a b k : Nat} (h1 : validB (Dm.str a) = true) (h2 : validB (Dm.str b) = true) (hn : a * b < 256 ^ k) (hk : k ≤ 128) : mulV (tl (bs (Dm.str a))) (tl (bs (Dm.str b))) = .tuple #[Sv (Dm.str (a * b)), .int .i64 0] := by
  rw [tl_bs, tl_bs, mulV, h1, h2, if_pos (show (true && true) = true from rfl), Dm.val_str, Dm.val_str, fit_of hn hk]
theorem subV_of {a b : Nat} (h1 : validB (Dm.str a) = true) (h2 : validB (Dm.str b) = true) (hn : b ≤ a) : subV (tl (bs (Dm.str a))) (tl (bs (Dm.str b))) = .tuple #[Sv (Dm.str (a - b)), .int .i64 0] := by
  rw [tl_bs, tl_bs, subV, h1, h2, if_pos (show (true && true) = true from rfl), Dm.val_str, Dm.val_str, if_neg (by omega)]
theorem valid_sv (s : ByteArray) (h : validB (tl s) = true) : s = bs (Dm.str (Dm.val (tl s))) := by rw [Dm.str_val_canon (validB_canon h), bs_tl]

end Go.Proofs.YtchnjdiolnpabaaDoor
