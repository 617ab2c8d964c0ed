/-
  Computations on sets of numbers as bits: every number of a range is in a union of moved copies. Plain Lean: no program in sight.
-/
import Derived.Test.YtdbhmhabgbfplaaTri
namespace Dm
theorem good_a4 : chunks fS (TT 11 3047800) 7 17160 = true := by decide +kernel
theorem good_a5 : chunks fS (TT 11 3377800) 5 20240 = true := by decide +kernel
theorem good_a6 : chunks fS (TT 11 3707800) 5 22440 = true := by decide +kernel
theorem good_a7 : chunks fS (TT 11 3971800) 4 24640 = true := by decide +kernel
end Dm
