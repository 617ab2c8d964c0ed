/-
  Computations on sets of numbers as bits: every number of a range is in a union of moved copies. Plain Lean: no program in sight.
-/
import Derived.Test.YtdbhmhabgbfplaaTri
namespace Dm
theorem good_a0 : chk fS (TT 7 16640) 7 0 0 = true := by decide +kernel
theorem good_a1 : chunks fS (TT 11 1331800) 20 0 = true := by decide +kernel
theorem good_a2 : chunks fS (TT 11 2057800) 11 8800 = true := by decide +kernel
theorem good_a3 : chunks fS (TT 11 2585800) 8 13640 = true := by decide +kernel
end Dm
