/-
  dominolaw01.Few and the walk of the law NaturalAdds.
-/
import Derived.Test.YtchnjdiolnpabaaNtLaw2
import Derived.Test.YtchnjdiolnpabaaRef4
namespace Go.Proofs.Ytchnjdiolnpabaa
open Go.RowKit
set_option linter.unusedVariables false

def few (l : List ByteArray) : Bool := l.all fun s => decide (s.size ≤ 200)
def FewRel (l : List ByteArray) (i : Value) : Prop := ∃ k : Nat, k ≤ l.length ∧ i = .int .i64 (k : Int) ∧ few (l.take k) = true
theorem few_step {l : List ByteArray} {k : Nat} (h : k < l.length) (h1 : few (l.take k) = true) (h2 : l[k].size ≤ 200) : few (l.take (k + 1)) = true := by
  unfold few at *
  rw [List.take_succ_eq_append_getElem h, List.all_append, h1]
  simp [h2]
theorem few_no {l : List ByteArray} {k : Nat} (h : k < l.length) (h2 : ¬ l[k].size ≤ 200) : few l = false := by
  unfold few
  rw [List.all_eq_false]
  exact ⟨l[k], List.getElem_mem h, by simpa using h2⟩
set_option maxHeartbeats 1000000 in
theorem few_any (l : List ByteArray) (g : Nat) (t : TypeId) (w : World) (hl : l.length ≤ 10) (hb : Blk w g t (l.map Value.string)) (hsz : ∀ s ∈ l, s.size ≤ maxLen) :
    Calls Try.prog 10 #[.slice (some ⟨g, 0, none⟩) l.length l.length] w fun e w' => e = .returned (.bool (few l)) ∧ w = w' := by
  go_enter Try.func10, Try.ntmps10
  go_wp2_with fail
  go_loop [3] (FewRel l) (fun i => l.length - (intOf i).toNat)
  case atStart => exact ⟨0, by omega, rfl, rfl⟩
  case round =>
    obtain ⟨k, hk, rfl, hf⟩ := hrel
    have HF := Lib.hid hf
    clear hf
    by_cases hlt : k < l.length
    · have hc : w.cell? ⟨g, k, none⟩ = some (.string l[k]) := by rw [hb.cell]; simp [hlt]
      have hm := hsz _ (List.getElem_mem hlt)
      unfold maxLen at hm
      by_cases h2 : l[k].size ≤ 200
      · have HS := Lib.hid (few_step hlt HF.out h2)
        generalize l[k] = x at *
        go_wp2_with fail
        exact ⟨⟨k + 1, by omega, by go_num, HS.out⟩, by simp [intOf] <;> omega⟩
      · have HS := Lib.hid (few_no hlt h2)
        generalize l[k] = x at *
        go_wp2_with fail
        go_ret
        exact ⟨ret_bool HS.out.symm, rfl⟩
    · obtain rfl : k = l.length := by omega
      rw [List.take_length] at HF
      go_wp2_with fail
      go_ret
      exact ⟨ret_bool HF.out.symm, rfl⟩
theorem addV_form (l m : List UInt8) : ∃ r e, addV l m = .tuple #[.string r, .int .i64 e] := by
  unfold addV; split
  · exact fitV_form _
  · exact ⟨_, _, rfl⟩
theorem subV_form (l m : List UInt8) : ∃ r e, subV l m = .tuple #[.string r, .int .i64 e] := by
  unfold subV; split
  · split
    · exact ⟨_, _, rfl⟩
    · exact ⟨_, _, rfl⟩
  · exact ⟨_, _, rfl⟩
set_option maxHeartbeats 1000000 in
theorem adds_walk (s t : ByteArray) (h1 : s.size ≤ maxLen) (h2 : t.size ≤ maxLen) (w : World) :
    Calls Try.prog 8 #[.string s, .string t] w fun e w' => e = .returned (.bool true) ∧ Below w.heap.size w w' := by
  obtain ⟨r, er, hr⟩ := addV_form (tl s) (tl t)
  obtain ⟨d, ed, hd⟩ := subV_form (tl s) (tl t)
  have HR := Lib.hid hr
  have HD := Lib.hid hd
  clear hr hd
  have hin : ∀ x ∈ [s, t], x.size ≤ maxLen := by
    intro x hx
    rcases List.mem_cons.1 hx with h | h
    · rw [h]; exact h1
    · rw [List.mem_singleton.1 h]; exact h2
  have HFw := Lib.hid (few_any [s, t] w.heap.size 22 (w.alloc (.cells #[.string s, .string t] 22)) (by simp) (Blk.new w _ [.string s, .string t]) hin)
  clear hin
  have k0 := (Kp.start w).alloc (.cells #[.string s, .string t] 22)
  cases hf : few [s, t] with
  | false =>
    have HF := Lib.hid hf
    clear hf h1 h2
    go_enter Try.func8, Try.ntmps8
    go_wp2_with fail
    refine HFw.out.mono ?_
    rintro e w' ⟨rfl, rfl⟩
    rw [HF.out]
    go_wp2_with fail
    refine (awake_any _).mono ?_
    rintro e w8 ⟨rfl, hb⟩
    go_wp2_with fail
    go_ret
    exact ⟨rfl, (k0.next hb).below⟩
  | true =>
    have HF := Lib.hid hf
    have l1 : s.size ≤ 200 := by simp [few] at hf; exact hf.1
    have l2 : t.size ≤ 200 := by simp [few] at hf; exact hf.2
    clear hf h1 h2
    go_enter Try.func8, Try.ntmps8
    go_wp2_with fail
    refine HFw.out.mono ?_
    rintro e w' ⟨rfl, rfl⟩
    rw [HF.out]
    go_wp2_with fail
    refine (Add_any s t _ (by omega) (by omega)).mono ?_
    rintro e w1 ⟨rfl, hb⟩
    have k1 := k0.next hb
    clear hb k0
    rw [HR.out]
    go_wp2_with fail
    refine (ref_Add_any s t _ (by omega) (by omega)).mono ?_
    rintro e w2 ⟨rfl, hb⟩
    have k2 := k1.next hb
    clear hb k1
    rw [HR.out]
    go_wp2_with fail
    refine (Sub_any s t _ (by omega) (by omega)).mono ?_
    rintro e w3 ⟨rfl, hb⟩
    have k3 := k2.next hb
    clear hb k2
    rw [HD.out]
    go_wp2_with fail
    refine (ref_Sub_any s t _ (by omega) (by omega)).mono ?_
    rintro e w4 ⟨rfl, hb⟩
    have k4 := k3.next hb
    clear hb k3
    rw [HD.out]
    go_wp2_with fail
    refine (awake_any _).mono ?_
    rintro e w5 ⟨rfl, hb⟩
    have k5 := k4.next hb
    clear hb k4
    go_wp2_with fail
    refine (Cmp_any s t _ (by omega) (by omega)).mono ?_
    rintro e w6 ⟨rfl, rfl⟩
    go_wp2_with fail
    refine (ref_Cmp_any s t _ (by omega) (by omega)).mono ?_
    rintro e w7 ⟨rfl, hb⟩
    have k6 := k5.next hb
    clear hb k5
    go_wp2_with fail
    go_ret
    exact ⟨by first | rfl | (simp; done), k6.below⟩
end Go.Proofs.Ytchnjdiolnpabaa
