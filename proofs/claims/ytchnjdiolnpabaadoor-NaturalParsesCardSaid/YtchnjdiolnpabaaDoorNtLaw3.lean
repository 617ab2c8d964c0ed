/-
  dominolaw01.Few and the walk of the law NaturalAdds.
-/
import Derived.Test.YtchnjdiolnpabaaDoorNtLaw2
import Derived.Test.YtchnjdiolnpabaaDoorRef4
namespace Go.Proofs.YtchnjdiolnpabaaDoor
open Go.RowKit
set_option linter.unusedVariables false

def few (l : List ByteArray) : Bool := l.all fun s => decide (s.size ≤ 200)
def FewRel (l : List ByteArray) (i : Value) : Prop := ∃ k : Nat, k ≤ l.length ∧ i = .int .i64 (k : Int) ∧ few (l.take k) = true
theorem few_step {l : List ByteArray} {k : Nat} (h : k < l.length) (h1 : few (l.take k) = true) (h2 : l[k].size ≤ 200) : few (l.take (k + 1)) = true := by
  unfold few at *
  rw [List.take_succ_eq_append_getElem h, List.all_append, h1]
  simp [h2]
theorem few_no {l : List ByteArray} {k : Nat} (h : k < l.length) (h2 : ¬ l[k].size ≤ 200) : few l = false := by
  unfold few
  rw [List.all_eq_false]
  exact ⟨l[k], List.getElem_mem h, by simpa using h2⟩
set_option maxHeartbeats 1000000 in
theorem few_any (l : List ByteArray) (g : Nat) (t : TypeId) (w : World) (hl : l.length ≤ 10) (hb : Blk w g t (l.map Value.string)) (hsz : ∀ s ∈ l, s.size ≤ maxLen) :
    Calls Tryd.prog 5 #[.slice (some ⟨g, 0, none⟩) l.length l.length] w fun e w' => e = .returned (.bool (few l)) ∧ w = w' := by
  go_enter Tryd.func5, Tryd.ntmps5
  go_wp2_with fail
  go_loop [3] (FewRel l) (fun i => l.length - (intOf i).toNat)
  case atStart => exact ⟨0, by omega, rfl, rfl⟩
  case round =>
    obtain ⟨k, hk, rfl, hf⟩ := hrel
    have HF := Lib.hid hf
    clear hf
    by_cases hlt : k < l.length
    · have hc : w.cell? ⟨g, k, none⟩ = some (.string l[k]) := by rw [hb.cell]; simp [hlt]
      have hm := hsz _ (List.getElem_mem hlt)
      unfold maxLen at hm
      by_cases h2 : l[k].size ≤ 200
      · have HS := Lib.hid (few_step hlt HF.out h2)
        generalize l[k] = x at *
        go_wp2_with fail
        exact ⟨⟨k + 1, by omega, by go_num, HS.out⟩, by simp [intOf] <;> omega⟩
      · have HS := Lib.hid (few_no hlt h2)
        generalize l[k] = x at *
        go_wp2_with fail
        go_ret
        exact ⟨ret_bool HS.out.symm, rfl⟩
    · obtain rfl : k = l.length := by omega
      rw [List.take_length] at HF
      go_wp2_with fail
      go_ret
      exact ⟨ret_bool HF.out.symm, rfl⟩
theorem addV_form (l m : List UInt8) : ∃ r e, addV l m = .tuple #[.string r, .int .i64 e] := by
  unfold addV; split
  · exact fitV_form _
  · exact ⟨_, _, rfl⟩
theorem subV_form (l m : List UInt8) : ∃ r e, subV l m = .tuple #[.string r, .int .i64 e] := by
  unfold subV; split
  · split
    · exact ⟨_, _, rfl⟩
    · exact ⟨_, _, rfl⟩
  · exact ⟨_, _, rfl⟩
end Go.Proofs.YtchnjdiolnpabaaDoor
