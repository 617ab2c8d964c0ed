/-
  schema.Parse's deferred closure.
-/
import Derived.Test.YtmdjhakamapngaaDoorScV
namespace Go.Proofs.YtmdjhakamapngaaDoor
open Go.RowKit Go.Shelf
set_option linter.unusedVariables false

/-- the pieces of a call of Parse -/
abbrev pits (bp gr bsh ba be : Nat) (s : ByteArray) (l : List UInt8) (sc : List Value) (av ev : Value) : List It := [iblk bp 87 [ptr gr], irdS gr s l, iblk bsh 24 sc, iblk ba 3 [av], iblk be 29 [ev]]
set_option maxRecDepth 20000 in
set_option maxHeartbeats 2000000 in
theorem catch_pan {o : List Nat} {w0 : World} {L : List It} (bp gr bsh ba be : Nat) (s : ByteArray) (l : List UInt8) (x y : Value) (av ev : Value) (older : List PanicEntry) (w : World) (hH : Hp o w0 (pits bp gr bsh ba be s l [x, y] av ev ++ L) w) :
    CallsD Tryd.prog 48 #[ptr bp, ptr bsh, ptr ba, ptr be] (.panicking ({ v := .iface 91 (.agg #[]), recovered := false } :: older)) w fun e u' w' =>
      e = .returned (.tuple #[]) ∧ u' = .panicking ({ v := .iface 91 (.agg #[]), recovered := true } :: older) ∧ Hp o w0 (pits bp gr bsh ba be s l zS (.int .i64 ((s.size - l.length : Nat) : Int)) (.int .i64 4) ++ L) w' := by
  have hta : ∀ w : World, (Instr.typeAssert (.iface 91 (.agg #[])) 20 91 true).run Tryd.prog w = .ok (.tuple #[.agg #[], .bool true]) w := fun w => by kernel_rfl
  have hnt : ∀ (x : Bool) (w : World), (Op.unary .not (.bool x)).run Tryd.prog w = .ok (.bool (!x)) w := fun _ _ => rfl
  refine callsD_of_wpS Tryd.func48 rfl fun c₀ cs hu => ?_
  apply wpS_seq
  apply wpS_region
  simp [wpOpsS, go_sem, recoverD, hu, Tryd.ntmps48, Exit.thenS]
  refine wpS_of_wp ?_
  have e : (#[ptr bp, ptr bsh, ptr ba, ptr be] ++ ((Array.replicate 19 undef).setIfInBounds 3 (Value.iface 91 (.agg #[]))).setIfInBounds 0 (Value.iface 91 (.agg #[])) : Array Value) =
      #[ptr bp, ptr bsh, ptr ba, ptr be, .iface 91 (.agg #[]), undef, undef, .iface 91 (.agg #[]), undef, undef, undef, undef, undef, undef, undef, undef, undef, undef, undef, undef, undef, undef, undef] := by kernel_rfl
  rw [e]
  generalize hQ : (fun (e : Exit) (a' : Act) (w' : World) => bodyPostS _ _ _ _ _ e a' _ w') = Q
  have hH := hH.alloc (.cells #[] 91)
  have c0 := (hH.blk 0 rfl).cell 0
  have c1 := (hH.blk 1 rfl).cell 1
  obtain ⟨c2, c3⟩ := (hH.blk 2 rfl).get2
  simp only [List.getElem?_cons_zero, List.getElem?_cons_succ] at c0 c1
  go_wp2_with (refine wpList_store_row rfl 24 (.tmp 1) (.tmp 18) rfl bsh zS.toArray rfl rfl 24 [x, y].toArray (hH.blk 2 rfl) (by kernel_rfl) (by kernel_rfl) (by kernel_rfl) ?_
               have hH2 := hH.rowAt 2 rfl zS
               have c4 := (hH2.blk 3 rfl).cell 0
               have f4 := (hH2.blk 3 rfl).frozen 0
               have hH3 := hH2.set 3 rfl 0 (.int .i64 ((s.size - l.length : Nat) : Int))
               have c5 := (hH3.blk 4 rfl).cell 0
               have f5 := (hH3.blk 4 rfl).frozen 0
               have hH4 := hH3.set 4 rfl 0 (.int .i64 4)
               simp only [List.getElem?_cons_zero] at c4 c5)
  subst hQ
  simp [bodyPostS, results, Tryd.results48]
  exact hH4
set_option maxRecDepth 20000 in
set_option maxHeartbeats 2000000 in
theorem catch_idle (bp bf ba be : Nat) (w : World) :
    CallsD Tryd.prog 48 #[ptr bp, ptr bf, ptr ba, ptr be] .returning w fun e u' w' => e = .returned (.tuple #[]) ∧ u' = .returning ∧ w' = w := by
  refine callsD_of_wpS Tryd.func48 rfl fun c₀ cs hu => ?_
  apply wpS_seq
  apply wpS_region
  simp [wpOpsS, go_sem, recoverD, hu, Tryd.ntmps48, Exit.thenS]
  refine wpS_of_wp ?_
  have e : (#[ptr bp, ptr bf, ptr ba, ptr be] ++ ((Array.replicate 19 undef).setIfInBounds 3 Value.nilIface).setIfInBounds 0 Value.nilIface : Array Value) =
      #[ptr bp, ptr bf, ptr ba, ptr be, .nilIface, undef, undef, .nilIface, undef, undef, undef, undef, undef, undef, undef, undef, undef, undef, undef, undef, undef, undef, undef] := by kernel_rfl
  rw [e]
  generalize hQ : (fun (e : Exit) (a' : Act) (w' : World) => bodyPostS _ _ _ _ _ e a' _ w') = Q
  go_wp2_with fail
  subst hQ
  cases c₀
  simp_all [bodyPostS, results, Tryd.results48]
end Go.Proofs.YtmdjhakamapngaaDoor
