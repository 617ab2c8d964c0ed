/-
  Computations on sets of numbers as bits: every number of a range is in a union of moved copies. Plain Lean: no program in sight.
-/
import Derived.Test.YtdbhmhabgbfplaaTri
namespace Dm
theorem good_a12 : chunks fS (TT 11 4961800) 2 32120 = true := by decide +kernel
theorem good_b0 : chk fP (TT 7 16640) 7 0 0 = true := by decide +kernel
theorem good_b1 : chunks fP (TT 11 1331800) 20 0 = true := by decide +kernel
theorem good_b2 : chunks fP (TT 11 2057800) 11 8800 = true := by decide +kernel
end Dm
