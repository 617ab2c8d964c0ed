/-
  Policies that are parsed keep the bounds. Plain.
-/
import Derived.Test.YtpfiggokicedbaaGreatDoorPqY
import Derived.Test.YtpfiggokicedbaaGreatDoorPcC
namespace Go.Proofs.YtpfiggokicedbaaGreatDoor
open Go.RowKit Go.Shelf
set_option linter.unusedVariables false

theorem zpo_bd : PBd zPo := ⟨by decide, by decide, by decide, by decide, by decide, by decide, fun x h => (List.not_mem_nil h).elim, fun x h => (List.not_mem_nil h).elim, fun x h => (List.not_mem_nil h).elim⟩
theorem parse_pbd (l : List UInt8) (hl : l.length ≤ 65536) : PBd (parseP l).1 := by
  unfold parseP
  cases hs : Lx.sc l with
  | err a e => exact zpo_bd
  | ok ts =>
    dsimp only
    have hS := Lx.sc_iff.1 hs
    have hn := toks_len hS
    unfold parseT
    cases hr : Pa.policyR ts with
    | mk o q =>
      cases o with
      | none => exact zpo_bd
      | some p =>
        dsimp only
        split
        · exact zpo_bd
        · exact pbd_of (Pa.policy_gd (Pa.sc_good hS) hr).1 (by omega)
end Go.Proofs.YtpfiggokicedbaaGreatDoor
