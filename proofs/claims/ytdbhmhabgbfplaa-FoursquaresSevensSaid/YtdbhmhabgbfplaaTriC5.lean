/-
  Computations on sets of numbers as bits: every number of a range is in a union of moved copies. Plain Lean: no program in sight.
-/
import Derived.Test.YtdbhmhabgbfplaaTri
namespace Dm
theorem good_b3 : chunks fP (TT 11 2585800) 8 13640 = true := by decide +kernel
theorem good_b4 : chunks fP (TT 11 3047800) 7 17160 = true := by decide +kernel
theorem good_b5 : chunks fP (TT 11 3377800) 5 20240 = true := by decide +kernel
theorem good_b6 : chunks fP (TT 11 3707800) 5 22440 = true := by decide +kernel
end Dm
