/-
  & and | on ints that are small and not negative.
-/
import Derived.Test.YtlagcdgfmgkooaaDoorKit
namespace Go.Proofs.YtlagcdgfmgkooaaDoor
open Go.RowKit
theorem wraps_i64 (n : Int) (h0 : 0 ≤ n) (h1 : n < 2 ^ 31) : IntKind.i64.wrap n = n := by rw [IntKind.wrap_i64]; omega
theorem and_i64_1 (x : Int) (h0 : 0 ≤ x) (h1 : x < 2147483648) : bits .and .i64 x 1 = x % 2 := bits_mask .i64 31 (by decide) wraps_i64 1 (by decide) x h0 h1
theorem and_i64_255 (x : Int) (h0 : 0 ≤ x) (h1 : x < 2147483648) : bits .and .i64 x 255 = x % 256 := bits_mask .i64 31 (by decide) wraps_i64 8 (by decide) x h0 h1
theorem or_i64 (i : Nat) (x y : Int) (h0 : 0 ≤ x) (h1 : x < 2147483648) (hx : x % 2 ^ i = 0) (h2 : 0 ≤ y) (h3 : y < 2 ^ i) (h4 : y < 2147483648) : bits .or .i64 x y = x + y := bits_join .i64 31 (by decide) wraps_i64 i x y h0 hx h1 h2 h3 h4
end Go.Proofs.YtlagcdgfmgkooaaDoor
