/-
  Computations on sets of numbers as bits: every number of a range is in a union of moved copies. Plain Lean: no program in sight.
-/
import Derived.Test.YtdbhmhabgbfplaaTri
namespace Dm
theorem good_b11 : chunks fP (TT 11 4829800) 3 30800 = true := by decide +kernel
theorem good_b12 : chunks fP (TT 11 4961800) 2 32120 = true := by decide +kernel
theorem good_c0 : chk fT (TT 7 16640) 7 0 0 = true := by decide +kernel
theorem good_c1 : chunks fT (TT 10 996400) 30 0 = true := by decide +kernel
end Dm
