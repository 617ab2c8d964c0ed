/-
  Computations on sets of numbers as bits: every number of a range is in a union of moved copies. Plain Lean: no program in sight.
-/
import Derived.Test.YtdbhmhabgbfplaaTri
namespace Dm
theorem good_c2 : chunks fT (TT 11 1557400) 17 13200 = true := by decide +kernel
theorem good_c3 : chunks fT (TT 11 1953400) 12 20680 = true := by decide +kernel
theorem good_c4 : chunks fT (TT 11 2283400) 10 25960 = true := by decide +kernel
theorem good_c5 : chunks fT (TT 11 2481400) 6 30360 = true := by decide +kernel
end Dm
