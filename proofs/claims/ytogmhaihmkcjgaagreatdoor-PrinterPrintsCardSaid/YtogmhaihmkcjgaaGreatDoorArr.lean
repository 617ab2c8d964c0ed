/-
  == on arrays of strings; blocks that are kept. Over any program.
-/
import Derived.Test.YtogmhaihmkcjgaaGreatDoorKit
namespace Go.Proofs.YtogmhaihmkcjgaaGreatDoor
open Go.RowKit
set_option linter.unusedVariables false
theorem run_part_str {P : Program} (w : World) (e : TypeId) (he : P.underlying e = some .string) (i : TypeInfo) (hi : P.info? e = some i) (xs : List ByteArray) (k : Nat) (h : k < xs.length) :
    (part e (xs.map Value.string).toArray k).run P w = .ok (.string xs[k]) w := by
  have hag : (isAgg e).run P w = .ok false w := by simp [isAgg, run_underlying he]
  simp [part, hag, h]
theorem run_arr_loop {P : Program} (w : World) (D : Nat) (e : TypeId) (he : P.underlying e = some .string) (i : TypeInfo) (hi : P.info? e = some i) (xs ys : List ByteArray) (hl : xs.length = ys.length) :
    ∀ (m k : Nat), k + m ≤ xs.length → (forIn (List.range' k m) ((none, ()) : Option Bool × Unit) fun i (__s : Option Bool × Unit) => do
            let __do_lift ← part e (xs.map Value.string).toArray i
            let __do_lift_1 ← part e (ys.map Value.string).toArray i
            let __do_lift ← Op.equalIn (D + 1) e __do_lift __do_lift_1
            if __do_lift = false then pure (ForInStep.done (some false, ())) else pure (ForInStep.yield (none, ()))).run P w
      = .ok (if (xs.drop k).take m = (ys.drop k).take m then (none, ()) else (some false, ())) w := by
  intro m
  induction m with
  | zero => intro k _; simp
  | succ m ih =>
    intro k hk
    have hkx : k < xs.length := by omega
    have hky : k < ys.length := by omega
    have hx : (xs.drop k).take (m + 1) = xs[k] :: (xs.drop (k + 1)).take m := by rw [List.drop_eq_getElem_cons hkx]; rfl
    have hy : (ys.drop k).take (m + 1) = ys[k] :: (ys.drop (k + 1)).take m := by rw [List.drop_eq_getElem_cons hky]; rfl
    rw [List.range'_succ, List.forIn_cons]
    simp only [Sem.run_bind, run_part_str w e he i hi xs k hkx, run_part_str w e he i hi ys k hky, Result.andThen_ok, run_equalIn_string w D e _ _ he]
    by_cases hc : xs[k] = ys[k]
    · have h1 : (xs[k].toList == ys[k].toList) = true := by rw [hc]; simp
      rw [h1]
      simp only [Bool.true_eq_false, if_false, Sem.run_pure, Result.andThen_ok]
      rw [ih (k + 1) (by omega), hx, hy, hc]
      simp
    · have h1 : (xs[k].toList == ys[k].toList) = false := by
        rw [beq_eq_false_iff_ne]
        intro h2
        exact hc (eq_of_tl (by rw [← toList_tl, ← toList_tl, h2]))
      rw [h1]
      simp only [if_true, Sem.run_pure, Result.andThen_ok]
      rw [hx, hy, if_neg (by simp [hc])]
theorem run_equalIn_strs {P : Program} (w : World) (D n : Nat) (t e : TypeId) (ht : P.underlying t = some (.array n e)) (he : P.underlying e = some .string) (i : TypeInfo) (hi : P.info? e = some i) (hsz : i.size = 1) (xs ys : List ByteArray) (hx : xs.length = n) (hy : ys.length = n) :
    (Op.equalIn (D + 2) t (.agg (xs.map Value.string).toArray) (.agg (ys.map Value.string).toArray)).run P w = .ok (decide (xs = ys)) w := by
  rw [Op.equalIn]
  simp only [Sem.run_bind, run_underlying ht, Result.andThen_ok, sizeOf, typeInfo]
  have h := run_arr_loop (P := P) w D e he i hi xs ys (by omega) n 0 (by omega)
  simp only [List.drop_zero] at h
  rw [List.take_of_length_le (by omega), List.take_of_length_le (by omega)] at h
  simp [hi, hsz, h]
  by_cases hc : xs = ys <;> simp [hc]
theorem run_eql_strs {P : Program} (n : Nat) (t e : TypeId) (ht : P.underlying t = some (.array n e)) (he : P.underlying e = some .string) (hi : (P.info? e).map (fun i => i.size) = some 1) (xs ys : List ByteArray) (hx : xs.length = n) (hy : ys.length = n) (w : World) :
    (binOp .eql t (.agg (xs.map Value.string).toArray) (.agg (ys.map Value.string).toArray)).run P w = .ok (.bool (decide (xs = ys))) w := by
  obtain ⟨i, hi, hsz⟩ : ∃ i, P.info? e = some i ∧ i.size = 1 := by
    cases h : P.info? e with
    | none => rw [h] at hi; simp at hi
    | some i => rw [h] at hi; exact ⟨i, rfl, by simpa using hi⟩
  rw [run_eql_struct, run_equalIn_strs w 9998 n t e ht he i hi hsz xs ys hx hy]
  simp

/-- blocks of the call's own that hold what they held -/
structure Kp (w : World) (bl : List (Nat × TypeId × List Value)) (W : World) : Prop where
  blk : ∀ x ∈ bl, Blk W x.1 x.2.1 x.2.2
  below : Below w.heap.size w W
theorem Kp.start (w : World) : Kp w [] w := ⟨fun _ h => (List.not_mem_nil h).elim, Below.refl _ _⟩
theorem Kp.next {w W W' : World} {bl : List (Nat × TypeId × List Value)} (h : Kp w bl W) (hb : Below W.heap.size W W') : Kp w bl W' :=
  ⟨fun x hx => (h.blk x hx).below hb (h.blk x hx).lt, h.below.trans (hb.mono h.below.size)⟩
theorem Kp.drew {w W : World} {bl : List (Nat × TypeId × List Value)} (h : Kp w bl W) : Kp w bl W.drew := ⟨h.blk, h.below.drew⟩
theorem Kp.alloc {w W : World} {bl : List (Nat × TypeId × List Value)} (h : Kp w bl W) (o : Obj) : Kp w bl (W.alloc o) :=
  ⟨fun x hx => (h.blk x hx).alloc o, h.below.alloc h.below.size o⟩
theorem Kp.new {w W : World} {bl : List (Nat × TypeId × List Value)} (h : Kp w bl W) (t : TypeId) (cs : List Value) : Kp w ((W.heap.size, t, cs) :: bl) (W.alloc (.cells cs.toArray t)) :=
  ⟨fun x hx => by
    rcases List.mem_cons.1 hx with rfl | hx
    · exact Blk.new _ _ _
    · exact (h.blk x hx).alloc _, h.below.alloc h.below.size _⟩
end Go.Proofs.YtogmhaihmkcjgaaGreatDoor
