/-
  formula.Parse's deferred closure, and formula.Parse.
-/
import Derived.Test.YteaaeaimjbaomaaDoorFmR4
import Derived.Defers
import Derived.Recover
import Derived.Laws.Pointers
namespace Go.Proofs.YteaaeaimjbaomaaDoor
open Go.RowKit
set_option linter.unusedVariables false

set_option maxRecDepth 20000 in
set_option maxHeartbeats 2000000 in
theorem catch_pan (bp bf ba be gr : Nat) (p : Nat) (fv av ev : Value) (older : List PanicEntry) (w : World) (c0 : w.cell? ⟨bp, 0, none⟩ = some (ptr gr)) (c1 : w.cell? ⟨gr, 1, none⟩ = some (.int .i64 (p : Int))) (c2 : w.cell? ⟨bf, 0, none⟩ = some fv) (c3 : w.cell? ⟨ba, 0, none⟩ = some av) (c4 : w.cell? ⟨be, 0, none⟩ = some ev)
    (f2 : w.frozen? ⟨bf, 0, none⟩ = false) (f3 : w.frozen? ⟨ba, 0, none⟩ = false) (f4 : w.frozen? ⟨be, 0, none⟩ = false) (hne : bf ≠ ba ∧ bf ≠ be ∧ ba ≠ be) :
    CallsD Tryd.prog 45 #[ptr bp, ptr bf, ptr ba, ptr be] (.panicking ({ v := .iface 27 (.int .i64 4), recovered := false } :: older)) w fun e u' w' =>
      e = .returned (.tuple #[]) ∧ u' = .panicking ({ v := .iface 27 (.int .i64 4), recovered := true } :: older) ∧ w' = ((w.setCell ⟨bf, 0, none⟩ (.slice none 0 0)).setCell ⟨ba, 0, none⟩ (.int .i64 (p : Int))).setCell ⟨be, 0, none⟩ (.int .i64 4) := by
  have hta : ∀ w : World, (Instr.typeAssert (.iface 27 (.int .i64 4)) 20 27 true).run Tryd.prog w = .ok (.tuple #[.int .i64 4, .bool true]) w := fun w => by kernel_rfl
  have hnt : ∀ (x : Bool) (w : World), (Op.unary .not (.bool x)).run Tryd.prog w = .ok (.bool (!x)) w := fun _ _ => rfl
  refine callsD_of_wpS Tryd.func45 rfl fun c₀ cs hu => ?_
  apply wpS_seq
  apply wpS_region
  simp [wpOpsS, go_sem, recoverD, hu, Tryd.ntmps45, Exit.thenS]
  refine wpS_of_wp ?_
  have e : (#[ptr bp, ptr bf, ptr ba, ptr be] ++ ((Array.replicate 20 undef).setIfInBounds 3 (Value.iface 27 (Value.int IntKind.i64 4))).setIfInBounds 0 (Value.iface 27 (Value.int IntKind.i64 4)) : Array Value) =
      #[ptr bp, ptr bf, ptr ba, ptr be, .iface 27 (.int .i64 4), undef, undef, .iface 27 (.int .i64 4), undef, undef, undef, undef, undef, undef, undef, undef, undef, undef, undef, undef, undef, undef, undef, undef] := by kernel_rfl
  rw [e]
  generalize hQ : (fun (e : Exit) (a' : Act) (w' : World) => bodyPostS _ _ _ _ _ e a' _ w') = Q
  go_wp2_with fail
  subst hQ
  simp [bodyPostS, results, Tryd.results45]
set_option maxRecDepth 20000 in
set_option maxHeartbeats 2000000 in
theorem catch_idle (bp bf ba be : Nat) (w : World) :
    CallsD Tryd.prog 45 #[ptr bp, ptr bf, ptr ba, ptr be] .returning w fun e u' w' => e = .returned (.tuple #[]) ∧ u' = .returning ∧ w' = w := by
  refine callsD_of_wpS Tryd.func45 rfl fun c₀ cs hu => ?_
  apply wpS_seq
  apply wpS_region
  simp [wpOpsS, go_sem, recoverD, hu, Tryd.ntmps45, Exit.thenS]
  refine wpS_of_wp ?_
  have e : (#[ptr bp, ptr bf, ptr ba, ptr be] ++ ((Array.replicate 20 undef).setIfInBounds 3 Value.nilIface).setIfInBounds 0 Value.nilIface : Array Value) =
      #[ptr bp, ptr bf, ptr ba, ptr be, .nilIface, undef, undef, .nilIface, undef, undef, undef, undef, undef, undef, undef, undef, undef, undef, undef, undef, undef, undef, undef, undef] := by kernel_rfl
  rw [e]
  generalize hQ : (fun (e : Exit) (a' : Act) (w' : World) => bodyPostS _ _ _ _ _ e a' _ w') = Q
  go_wp2_with fail
  subst hQ
  cases c₀
  simp_all [bodyPostS, results, Tryd.results45]
end Go.Proofs.YteaaeaimjbaomaaDoor
