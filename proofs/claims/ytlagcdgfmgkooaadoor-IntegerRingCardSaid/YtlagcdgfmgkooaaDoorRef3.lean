/-
  Walks over dominoref01: Order.
-/
import Derived.Test.YtlagcdgfmgkooaaDoorRef2
import Derived.BigRegion
namespace Go.Proofs.YtlagcdgfmgkooaaDoor
open Go.RowKit
set_option linter.unusedVariables false

theorem drop_tl (s : ByteArray) (k : Nat) (h : k < s.size) : (tl s).drop k = s[k] :: (tl s).drop (k + 1) := by
  rw [List.drop_eq_getElem_cons (by rw [length_tl]; exact h), tl_getElem s k h]
def OrdRel (s t : ByteArray) (w : World) (i : Value) (wr : World) : Prop := ∃ k : Nat, k ≤ s.size ∧ i = .int .i64 (k : Int) ∧ Lib.compareBytes ((tl s).drop k) ((tl t).drop k) = Dm.cmpN (Dm.val (tl s)) (Dm.val (tl t)) ∧ Below w.heap.size w wr
set_option maxHeartbeats 1000000 in
theorem ref_Order_any (s t : ByteArray) (w : World) (hs : Dm.canon (tl s) = true) (ht : Dm.canon (tl t) = true) (h1 : s.size ≤ 1073741824) (h2 : t.size ≤ 1073741824) :
    Calls Tryd.prog 79 #[.string s, .string t] w fun e w' => e = .returned (.int .i64 (Dm.cmpN (Dm.val (tl s)) (Dm.val (tl t)))) ∧ Below w.heap.size w w' := by
  have HS := Lib.hid hs
  have HT := Lib.hid ht
  clear hs ht
  rcases Nat.lt_trichotomy s.size t.size with h | h | h
  · have HV := Lib.hid (Dm.cmpN_lt (Dm.val_lt_of_length (l := tl s) HT.out (by rw [length_tl, length_tl]; exact h)))
    go_enter Tryd.func79, Tryd.ntmps79
    go_wp2_with fail
    go_ret
    exact ⟨ret_int (by rw [HV.out]), Below.refl _ _⟩
  · have hc := compareBytes_val (l := tl s) (m := tl t) (by rw [length_tl, length_tl]; exact h)
    have HC := Lib.hid hc
    clear hc
    go_enter Tryd.func79, Tryd.ntmps79
    go_wp2_with fail
    go_loopw [5] (OrdRel s t w) (fun i _ => s.size - (intOf i).toNat)
    case atStart => exact ⟨0, by omega, rfl, HC.out, Below.refl _ _⟩
    case round =>
      obtain ⟨k, hk, rfl, hcb, hW⟩ := hrel
      by_cases hlt : k < s.size
      · rw [drop_tl s k hlt, drop_tl t k (by omega), Lib.compareBytes] at hcb
        have hlt2 : k < t.size := by omega
        have HCB := Lib.hid hcb
        clear hcb
        rcases Nat.lt_trichotomy s[k].toNat t[k].toNat with hd | hd | hd
        · have hne : ((s[k].toNat : Int) == (t[k].toNat : Int)) = false := by rw [beq_eq_false_iff_ne]; omega
          go_wp2_with fail
          go_region
          go_wp2_with fail
          go_region
          go_wp2_with fail
          go_ret
          exact ⟨ret_int (by rw [← HCB.out, if_pos (by exact UInt8.lt_iff_toNat_lt.2 hd)]), by first | exact hW | exact hW.drew | exact hW.drew.drew⟩
        · have heq : ((s[k].toNat : Int) == (t[k].toNat : Int)) = true := by rw [hd]; simp
          go_wp2_with fail
          go_region
          go_wp2_with fail
          go_roundw
          case rel =>
            refine ⟨k + 1, by omega, by go_num, ?_, by first | exact hW | exact hW.drew | exact hW.drew.drew⟩
            rw [← HCB.out, if_neg (by rw [UInt8.lt_iff_toNat_lt]; omega), if_neg (by rw [UInt8.lt_iff_toNat_lt]; omega)]
          case measure => simp [intOf] <;> omega
        · have hne : ((s[k].toNat : Int) == (t[k].toNat : Int)) = false := by rw [beq_eq_false_iff_ne]; omega
          go_wp2_with fail
          go_region
          go_wp2_with fail
          go_region
          go_wp2_with fail
          go_ret
          exact ⟨ret_int (by rw [← HCB.out, if_neg (by rw [UInt8.lt_iff_toNat_lt]; omega), if_pos (UInt8.lt_iff_toNat_lt.2 hd)]), by first | exact hW | exact hW.drew | exact hW.drew.drew⟩
      · obtain rfl : k = s.size := by omega
        have e1 : (tl s).drop s.size = [] := List.drop_eq_nil_of_le (by rw [length_tl]; exact Nat.le_refl _)
        have e2 : (tl t).drop s.size = [] := List.drop_eq_nil_of_le (by rw [length_tl]; omega)
        rw [e1, e2, Lib.compareBytes] at hcb
        have HCB := Lib.hid hcb
        clear hcb
        go_wp2_with fail
        go_ret
        exact ⟨ret_int HCB.out, hW⟩
  · have HV := Lib.hid (Dm.cmpN_gt (Dm.val_lt_of_length (l := tl t) HS.out (by rw [length_tl, length_tl]; exact h)))
    go_enter Tryd.func79, Tryd.ntmps79
    go_wp2_with fail
    go_ret
    exact ⟨ret_int (by rw [HV.out]), Below.refl _ _⟩
end Go.Proofs.YtlagcdgfmgkooaaDoor
