/-
  Computations on sets of numbers as bits: every number of a range is in a union of moved copies. Plain Lean: no program in sight.
-/
import Derived.Test.YtdbhmhabgbfplaaTri
namespace Dm
theorem good_b7 : chunks fP (TT 11 3971800) 4 24640 = true := by decide +kernel
theorem good_b8 : chunks fP (TT 11 4235800) 4 26400 = true := by decide +kernel
theorem good_b9 : chunks fP (TT 11 4433800) 3 28160 = true := by decide +kernel
theorem good_b10 : chunks fP (TT 11 4631800) 3 29480 = true := by decide +kernel
end Dm
