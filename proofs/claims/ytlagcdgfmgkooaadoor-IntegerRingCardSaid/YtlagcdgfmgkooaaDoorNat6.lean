/-
  Walks over natural: less, Sub.
-/
import Derived.Test.YtlagcdgfmgkooaaDoorNat3
import Derived.Test.YtlagcdgfmgkooaaDoorNum2
namespace Go.Proofs.YtlagcdgfmgkooaaDoor
open Go.RowKit
set_option linter.unusedVariables false

def digN (l : List UInt8) (k : Nat) : Nat := (Dm.dig l k).toNat
theorem digN_le (l : List UInt8) (k : Nat) : digN l k ≤ 255 := by have := (Dm.dig l k).toNat_lt; unfold digN; omega
theorem less_end (l m : List UInt8) (h : Dm.val m ≤ Dm.val l) (hl : m.length ≤ l.length) : Dm.trim (Dm.be (Dm.subC (digN l) (digN m)) l.length) = Dm.str (Dm.val l - Dm.val m) :=
  Dm.trim_subC (digN_le l) (digN_le m) (Dm.colsum_dig l _ (Nat.le_refl _)) (Dm.colsum_dig m _ hl) h (Dm.val_lt l)
def LessRel (l m : List UInt8) (n : Nat) (w : World) (c i : Value) (wr : World) : Prop := ∃ k : Nat, k ≤ n ∧ i = .int .i64 (k : Int) ∧ c = .int .i64 (Dm.borC (digN l) (digN m) k : Nat) ∧ Blk wr w.heap.size 5 (bvs (Dm.be (Dm.soFar (Dm.subC (digN l) (digN m)) k) n)) ∧ Below w.heap.size w wr

set_option maxHeartbeats 1000000 in
theorem less_any (s t : ByteArray) (w : World) (h1 : s.size ≤ 100000) (ht : t.size ≤ s.size) (hv : Dm.val (tl t) ≤ Dm.val (tl s)) :
    Calls Tryd.prog 76 #[.string s, .string t] w fun e w' => e = .returned (Sv (Dm.str (Dm.val (tl s) - Dm.val (tl t)))) ∧ Below w.heap.size w w' := by
  have HA := Lib.hid (less_end (tl s) (tl t) hv (by rw [length_tl, length_tl]; exact ht))
  rw [length_tl] at HA
  have HV := Lib.hid hv
  clear hv
  have hmk := make_bytes s.size (by omega)
  go_enter Tryd.func76, Tryd.ntmps76
  go_wp2_with fail
  clear hmk
  go_loopw [7, 15] (LessRel (tl s) (tl t) s.size w) (fun _ i _ => s.size - (intOf i).toNat)
  case atStart => exact ⟨0, by omega, rfl, rfl, by rw [Dm.soFar_zero, bvs_zero]; exact Blk.new _ _ _, (Below.refl _ _).alloc (Nat.le_refl _) _⟩
  case round =>
    obtain ⟨k, hk, rfl, rfl, hB, hW⟩ := hrel
    by_cases hlt : k < s.size
    · obtain ⟨v, hcell⟩ : ∃ v, wr.cell? ⟨w.heap.size, s.size - 1 - k, none⟩ = some v := ⟨_, (hB.cell _).trans (bvs_at (by rw [Dm.length_be]; omega))⟩
      have hfr := hB.frozen (s.size - 1 - k)
      have hc := Dm.borC_le (digN (tl s)) (digN (tl t)) k
      have hd1 : (Dm.dig (tl s) k).toNat ≤ 255 := digN_le _ _
      have hd2 : (Dm.dig (tl t) k).toNat ≤ 255 := digN_le _ _
      have HC : Hid (Dm.borC (digN (tl s)) (digN (tl t)) (k + 1) = if (Dm.dig (tl s) k).toNat < (Dm.dig (tl t) k).toNat + Dm.borC (digN (tl s)) (digN (tl t)) k then 1 else 0) := rfl
      have HO : Hid ((Dm.subC (digN (tl s)) (digN (tl t)) k).toNat = (256 + (Dm.dig (tl s) k).toNat - ((Dm.dig (tl t) k).toNat + Dm.borC (digN (tl s)) (digN (tl t)) k)) % 256) := Dm.subC_toNat _ _ _
      have hrel2 : ∀ (W : World) (u : Int) (c : Int), W = wr.setCell ⟨w.heap.size, s.size - 1 - k, none⟩ (.int .u8 u) → u = ((Dm.subC (digN (tl s)) (digN (tl t)) k).toNat : Int) → c = (Dm.borC (digN (tl s)) (digN (tl t)) (k + 1) : Nat) → LessRel (tl s) (tl t) s.size w (.int .i64 c) (.int .i64 ((k : Int) + 1)) W := by
        intro W u c hWe hu hce
        subst hWe hu hce
        refine ⟨k + 1, by omega, by go_num, rfl, ?_, hW.setCell (Nat.le_refl _) _⟩
        rw [← Dm.soFar_set _ s.size k hlt, ← bvs_set]
        exact hB.set_ _ _
      have HR := Lib.hid hrel2
      clear hrel2
      by_cases hneg : ((Dm.dig (tl s) k).toNat : Int) - ((Dm.dig (tl t) k).toNat : Int) - (Dm.borC (digN (tl s)) (digN (tl t)) k : Int) < 0
      · go_wp2_with fail
        refine (digit_at s _ k _ rfl (by omega) (by omega)).mono ?_
        rintro e w' ⟨rfl, rfl⟩
        go_wp2_with fail
        refine (digit_at t _ k _ rfl (by omega) (by omega)).mono ?_
        rintro e w' ⟨rfl, rfl⟩
        go_wp2_with fail
        go_roundw
        case rel => exact HR.out _ _ _ rfl (by rw [HO.out]; omega) (by rw [HC.out, if_pos (by omega)]; rfl)
        case measure => simp [intOf] <;> omega
      · go_wp2_with fail
        refine (digit_at s _ k _ rfl (by omega) (by omega)).mono ?_
        rintro e w' ⟨rfl, rfl⟩
        go_wp2_with fail
        refine (digit_at t _ k _ rfl (by omega) (by omega)).mono ?_
        rintro e w' ⟨rfl, rfl⟩
        go_wp2_with fail
        go_roundw
        case rel => exact HR.out _ _ _ rfl (by rw [HO.out]; omega) (by rw [HC.out, if_neg (by omega)]; rfl)
        case measure => simp [intOf] <;> omega
    · obtain rfl : k = s.size := by omega
      go_wp2_with fail
      refine (trimmed_at _ (Dm.be (Dm.soFar (Dm.subC (digN (tl s)) (digN (tl t))) s.size) s.size) s.size s.size _ (by rw [Dm.length_be]) (by omega) (by omega) hB.bytes).mono ?_
      rintro e w' ⟨rfl, rfl⟩
      rw [Dm.soFar_all, HA.out]
      go_wp2_with fail
      go_ret
      exact ⟨rfl, hW⟩

theorem length_le_of_val {l m : List UInt8} (hm : Dm.canon m = true) (h : Dm.val m ≤ Dm.val l) : m.length ≤ l.length := by
  rcases Nat.lt_or_ge l.length m.length with h1 | h1
  · have := Dm.val_lt_of_length hm h1; omega
  · exact h1
def subV (l m : List UInt8) : Value := if validB l && validB m then (if Dm.val l < Dm.val m then .tuple #[Sv [], .int .i64 2] else .tuple #[Sv (Dm.str (Dm.val l - Dm.val m)), .int .i64 0]) else .tuple #[Sv [], .int .i64 3]
set_option maxHeartbeats 1000000 in
theorem Sub_any (s t : ByteArray) (w : World) (h1 : s.size ≤ 1073741824) (h2 : t.size ≤ 1073741824) :
    Calls Tryd.prog 51 #[.string s, .string t] w fun e w' => e = .returned (subV (tl s) (tl t)) ∧ Below w.heap.size w w' := by
  cases hs : validB (tl s) with
  | false =>
    have HS := Lib.hid hs
    clear hs
    go_enter Tryd.func51, Tryd.ntmps51
    go_wp2_with (first | (go_at_call 22; refine (valid_at s false _ h1 HS.out).mono ?_; rintro e w' ⟨rfl, rfl⟩))
    go_ret2
    exact ⟨by rw [subV, HS.out]; rfl, Below.refl _ _⟩
  | true =>
    have HS := Lib.hid hs
    clear hs
    cases ht : validB (tl t) with
    | false =>
      have HT := Lib.hid ht
      clear ht
      go_enter Tryd.func51, Tryd.ntmps51
      go_wp2_with fail
      refine (valid_at s true _ h1 HS.out).mono ?_
      rintro e w' ⟨rfl, rfl⟩
      go_wp2_with fail
      refine (valid_at t false _ h2 HT.out).mono ?_
      rintro e w' ⟨rfl, rfl⟩
      go_wp2_with fail
      go_ret2
      exact ⟨by rw [subV, HS.out, HT.out]; rfl, Below.refl _ _⟩
    | true =>
      have HT := Lib.hid ht
      clear ht
      have hsz := validB_size HS.out
      by_cases hlt : Dm.val (tl s) < Dm.val (tl t)
      · have HV := Lib.hid (Dm.cmpN_lt hlt)
        have HL := Lib.hid hlt
        clear hlt
        go_enter Tryd.func51, Tryd.ntmps51
        go_wp2_with fail
        refine (valid_at s true _ h1 HS.out).mono ?_
        rintro e w' ⟨rfl, rfl⟩
        go_wp2_with fail
        refine (valid_at t true _ h2 HT.out).mono ?_
        rintro e w' ⟨rfl, rfl⟩
        go_wp2_with fail
        refine (compare_any s t _ (validB_canon HS.out) (validB_canon HT.out) h1 h2).mono ?_
        rintro e w' ⟨rfl, rfl⟩
        rw [HV.out]
        go_wp2_with fail
        go_ret2
        exact ⟨by rw [subV, HS.out, HT.out, if_pos (show (true && true) = true from rfl), if_pos HL.out]; rfl, Below.refl _ _⟩
      · have hge : ¬ Dm.cmpN (Dm.val (tl s)) (Dm.val (tl t)) < 0 := fun h => hlt (Dm.cmpN_neg.1 h)
        have HL := Lib.hid hlt
        clear hlt
        generalize hcv : Dm.cmpN (Dm.val (tl s)) (Dm.val (tl t)) = cv at *
        have HCV := Lib.hid hcv
        clear hcv
        go_enter Tryd.func51, Tryd.ntmps51
        go_wp2_with fail
        refine (valid_at s true _ h1 HS.out).mono ?_
        rintro e w' ⟨rfl, rfl⟩
        go_wp2_with fail
        refine (valid_at t true _ h2 HT.out).mono ?_
        rintro e w' ⟨rfl, rfl⟩
        go_wp2_with fail
        refine (compare_any s t _ (validB_canon HS.out) (validB_canon HT.out) h1 h2).mono ?_
        rintro e w' ⟨rfl, rfl⟩
        rw [HCV.out]
        go_wp2_with fail
        refine (less_any s t _ (by omega) (by have := length_le_of_val (validB_canon HT.out) (Nat.not_lt.1 HL.out); rwa [length_tl, length_tl] at this) (Nat.not_lt.1 HL.out)).mono ?_
        rintro e w1 ⟨rfl, hb1⟩
        go_wp2_with fail
        go_ret2
        exact ⟨by rw [subV, HS.out, HT.out, if_pos (show (true && true) = true from rfl), if_neg HL.out]; rfl, hb1⟩
end Go.Proofs.YtlagcdgfmgkooaaDoor
