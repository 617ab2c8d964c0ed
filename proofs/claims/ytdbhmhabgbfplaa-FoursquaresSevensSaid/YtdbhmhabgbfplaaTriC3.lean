/-
  Computations on sets of numbers as bits: every number of a range is in a union of moved copies. Plain Lean: no program in sight.
-/
import Derived.Test.YtdbhmhabgbfplaaTri
namespace Dm
theorem good_a8 : chunks fS (TT 11 4235800) 4 26400 = true := by decide +kernel
theorem good_a9 : chunks fS (TT 11 4433800) 3 28160 = true := by decide +kernel
theorem good_a10 : chunks fS (TT 11 4631800) 3 29480 = true := by decide +kernel
theorem good_a11 : chunks fS (TT 11 4829800) 3 30800 = true := by decide +kernel
end Dm
