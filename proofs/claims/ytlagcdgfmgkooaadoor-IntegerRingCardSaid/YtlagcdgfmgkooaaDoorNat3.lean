/-
  Walks over natural: Add.
-/
import Derived.Test.YtlagcdgfmgkooaaDoorNat2
import Derived.Laws.MakeOwn
namespace Go.Proofs.YtlagcdgfmgkooaaDoor
open Go.RowKit
set_option linter.unusedVariables false

theorem madeCells_one (v : Value) (n : Nat) : madeCells #[v] n = (List.replicate n v).toArray := by
  unfold madeCells
  apply Array.ext
  · simp
  · intro i h1 h2
    simp [Nat.mod_one]
/-- make([]T, n), an element of one cell -/
theorem run_make_one {P : Program} (t e : TypeId) (ht : P.underlying t = some (.slice e)) (v : Value) (hv : v.cells = #[v]) (b : Nat) (hi : (P.info? e).map (fun i => (i.zero, i.size, i.bytes)) = some (some v, 1, b)) (n : Nat) (hn : b * n ≤ 281474976710656) (hn2 : n ≤ 1073741824) (w : World) :
    (Instr.makeSlice t (.int .i64 (n : Int)) (.int .i64 (n : Int))).run P w = .ok (.slice (some ⟨w.heap.size, 0, none⟩) n n) (w.alloc (.cells (List.replicate n v).toArray e)) := by
  obtain ⟨i, hi', h1, h2, h3⟩ : ∃ i, P.info? e = some i ∧ i.zero = some v ∧ i.size = 1 ∧ i.bytes = b := by
    cases h : P.info? e with
    | none => rw [h] at hi; simp at hi
    | some i => rw [h] at hi; simp at hi; exact ⟨i, rfl, hi.1, hi.2.1, hi.2.2⟩
  have hby : (i.bytes : Int) * (n : Int) ≤ 281474976710656 := by
    rw [h3, ← Int.natCast_mul]; omega
  have hr := run_make (P := P) w t e i v ht hi' h1 .i64 .i64 n n (by omega) (by omega) hby (by omega)
  simp only [Int.toNat_natCast, hv, h2, Nat.mul_one, madeCells_one] at hr
  exact hr
/-- make([]byte, n) -/
theorem make_bytes (n : Nat) (hn : n ≤ 1000000) : ∀ w, (Instr.makeSlice 93 (.int .i64 (n : Int)) (.int .i64 (n : Int))).run Tryd.prog w = .ok (.slice (some ⟨w.heap.size, 0, none⟩) n n) (w.alloc (.cells (List.replicate n (.int .u8 0)).toArray 5)) :=
  run_make_one 93 5 Tryd.underlying93 (.int .u8 0) rfl 1 (by kernel_rfl) n (by omega) (by omega)
theorem bvs_zero (n : Nat) : bvs (List.replicate n 0) = List.replicate n (.int .u8 0) := by simp [bvs]

def addC (l m : List UInt8) (k : Nat) : Nat := (Dm.dig l k).toNat + (Dm.dig m k).toNat
theorem addC_le (l m : List UInt8) (k : Nat) : addC l m k ≤ 510 := by
  have h1 := (Dm.dig l k).toNat_lt
  have h2 := (Dm.dig m k).toNat_lt
  unfold addC; omega
theorem addC_sum (l m : List UInt8) (n : Nat) (h1 : l.length ≤ n) (h2 : m.length ≤ n) : Dm.colsum (addC l m) n = Dm.val l + Dm.val m := by
  rw [← Dm.colsum_dig l n h1, ← Dm.colsum_dig m n h2, ← Dm.colsum_add]; rfl
theorem add_end (l m : List UInt8) (n : Nat) (h : max l.length m.length + 1 = n) : Dm.trim (Dm.be (Dm.outC (addC l m)) n) = Dm.str (Dm.val l + Dm.val m) := by
  apply Dm.trim_outC (addC_sum l m n (by omega) (by omega))
  have h1 := Dm.val_lt l
  have h2 := Dm.val_lt m
  have h3 : (256 : Nat) ^ l.length ≤ 256 ^ (n - 1) := Nat.pow_le_pow_right (by omega) (by omega)
  have h4 : (256 : Nat) ^ m.length ≤ 256 ^ (n - 1) := Nat.pow_le_pow_right (by omega) (by omega)
  obtain ⟨k, rfl⟩ : ∃ k, n = k + 1 := ⟨n - 1, by omega⟩
  rw [Nat.pow_succ]
  simp only [Nat.add_sub_cancel] at h3 h4
  omega

theorem fitV_form (l : List UInt8) : ∃ r e, fitV l = .tuple #[.string r, .int .i64 e] := by
  unfold fitV; split
  · exact ⟨_, _, rfl⟩
  · exact ⟨_, _, rfl⟩
def addV (l m : List UInt8) : Value := if validB l && validB m then fitV (Dm.str (Dm.val l + Dm.val m)) else .tuple #[Sv [], .int .i64 3]
def AddRel (l m : List UInt8) (n : Nat) (w : World) (c i : Value) (wr : World) : Prop := ∃ k : Nat, k ≤ n ∧ i = .int .i64 (k : Int) ∧ c = .int .i64 (Dm.carryC (addC l m) k : Nat) ∧ Blk wr w.heap.size 5 (bvs (Dm.be (Dm.soFar (Dm.outC (addC l m)) k) n)) ∧ Below w.heap.size w wr

set_option maxHeartbeats 1000000 in
theorem Add_ok (s t : ByteArray) (w : World) (hs : validB (tl s) = true) (ht : validB (tl t) = true) :
    Calls Tryd.prog 49 #[.string s, .string t] w fun e w' => e = .returned (fitV (Dm.str (Dm.val (tl s) + Dm.val (tl t)))) ∧ Below w.heap.size w w' := by
  have h1 := validB_size hs
  have h2 := validB_size ht
  have HS := Lib.hid hs
  have HT := Lib.hid ht
  clear hs ht
  obtain ⟨n, hn⟩ : ∃ n, max s.size t.size + 1 = n := ⟨_, rfl⟩
  have HA := Lib.hid (add_end (tl s) (tl t) n (by rw [length_tl, length_tl]; exact hn))
  have hmk : ∀ w, (Instr.makeSlice 93 (.int .i64 (max (s.size : Int) (t.size : Int) + 1)) (.int .i64 (max (s.size : Int) (t.size : Int) + 1))).run Tryd.prog w = .ok (.slice (some ⟨w.heap.size, 0, none⟩) n n) (w.alloc (.cells (List.replicate n (.int .u8 0)).toArray 5)) := fun w => by
    rw [show max (s.size : Int) (t.size : Int) + 1 = (n : Int) from by omega]; exact make_bytes n (by omega) w
  have hnl : n ≤ 129 := by omega
  have hnp : 1 ≤ n := by omega
  have HN := Lib.hid hn
  clear hn
  go_enter Tryd.func49, Tryd.ntmps49
  go_wp2_with fail
  refine (valid_at s true _ (by omega) HS.out).mono ?_
  rintro e w' ⟨rfl, rfl⟩
  go_wp2_with fail
  refine (valid_at t true _ (by omega) HT.out).mono ?_
  rintro e w' ⟨rfl, rfl⟩
  go_wp2_with fail
  clear hmk
  rw [show max (s.size : Int) (t.size : Int) + 1 = (n : Int) from by have := HN.out; omega]
  go_loopw [8, 27] (AddRel (tl s) (tl t) n w) (fun _ i _ => n - (intOf i).toNat)
  case atStart => exact ⟨0, by omega, rfl, rfl, by rw [Dm.soFar_zero, bvs_zero]; exact Blk.new _ _ _, (Below.refl _ _).alloc (Nat.le_refl _) _⟩
  case round =>
    obtain ⟨k, hk, rfl, rfl, hB, hW⟩ := hrel
    by_cases hlt : k < n
    · obtain ⟨v, hcell⟩ : ∃ v, wr.cell? ⟨w.heap.size, n - 1 - k, none⟩ = some v := ⟨_, (hB.cell _).trans (bvs_at (by rw [Dm.length_be]; omega))⟩
      have hfr := hB.frozen (n - 1 - k)
      have hc := Dm.carryC_le (c := addC (tl s) (tl t)) (B := 2) (fun k => addC_le _ _ k) k
      have hd1 := (Dm.dig (tl s) k).toNat_lt
      have hd2 := (Dm.dig (tl t) k).toNat_lt
      have HC : Hid (Dm.carryC (addC (tl s) (tl t)) (k + 1) = (Dm.carryC (addC (tl s) (tl t)) k + ((Dm.dig (tl s) k).toNat + (Dm.dig (tl t) k).toNat)) / 256) := rfl
      have HO := Lib.hid (Dm.outC_toNat (addC (tl s) (tl t)) k)
      have HU : Hid (addC (tl s) (tl t) k = (Dm.dig (tl s) k).toNat + (Dm.dig (tl t) k).toNat) := rfl
      go_wp2_with fail
      refine (digit_at s _ k _ rfl (by omega) (by omega)).mono ?_
      rintro e w' ⟨rfl, rfl⟩
      go_wp2_with fail
      refine (digit_at t _ k _ rfl (by omega) (by omega)).mono ?_
      rintro e w' ⟨rfl, rfl⟩
      go_wp2_with fail
      go_roundw
      case rel =>
        refine ⟨k + 1, by omega, by go_num, val_int (by rw [HC.out]; omega), ?_, hW.setCell (Nat.le_refl _) _⟩
        have e : ((Dm.carryC (addC (tl s) (tl t)) k : Int) + (((Dm.dig (tl s) k).toNat : Int) + ((Dm.dig (tl t) k).toNat : Int))) % 256 = ((Dm.outC (addC (tl s) (tl t)) k).toNat : Int) := by rw [HO.out, HU.out]; omega
        rw [e, ← Dm.soFar_set _ n k hlt, ← bvs_set]
        exact hB.set_ _ _
      case measure => simp [intOf] <;> omega
    · obtain rfl : k = n := by omega
      go_wp2_with fail
      refine (trimmed_at _ (Dm.be (Dm.soFar (Dm.outC (addC (tl s) (tl t))) k) k) k k _ (by rw [Dm.length_be]) (by omega) (by omega) hB.bytes).mono ?_
      rintro e w' ⟨rfl, rfl⟩
      rw [Dm.soFar_all, HA.out]
      go_wp2_with fail
      refine (fitting_any _ _ (by rw [size_bs]; have := Dm.length_trim_le (Dm.be (Dm.outC (addC (tl s) (tl t))) k); rw [HA.out, Dm.length_be] at this; omega)).mono ?_
      rintro e w' ⟨rfl, rfl⟩
      rw [tl_bs]
      obtain ⟨r, er, hf⟩ := fitV_form (Dm.str (Dm.val (tl s) + Dm.val (tl t)))
      have HF := Lib.hid hf
      clear hf
      rw [HF.out]
      go_wp2_with fail
      go_ret2
      exact ⟨by rw [HF.out]; rfl, hW⟩

set_option maxHeartbeats 1000000 in
theorem Add_any (s t : ByteArray) (w : World) (h1 : s.size ≤ 1073741824) (h2 : t.size ≤ 1073741824) :
    Calls Tryd.prog 49 #[.string s, .string t] w fun e w' => e = .returned (addV (tl s) (tl t)) ∧ Below w.heap.size w w' := by
  cases hs : validB (tl s) with
  | false =>
    have HS := Lib.hid hs
    clear hs
    go_enter Tryd.func49, Tryd.ntmps49
    go_wp2_with (first | (go_at_call 22; refine (valid_at s false _ h1 HS.out).mono ?_; rintro e w' ⟨rfl, rfl⟩))
    go_ret2
    exact ⟨by rw [addV, HS.out]; rfl, Below.refl _ _⟩
  | true =>
    cases ht : validB (tl t) with
    | false =>
      have HS := Lib.hid hs
      have HT := Lib.hid ht
      clear hs ht
      go_enter Tryd.func49, Tryd.ntmps49
      go_wp2_with fail
      refine (valid_at s true _ h1 HS.out).mono ?_
      rintro e w' ⟨rfl, rfl⟩
      go_wp2_with fail
      refine (valid_at t false _ h2 HT.out).mono ?_
      rintro e w' ⟨rfl, rfl⟩
      go_wp2_with fail
      go_ret2
      exact ⟨by rw [addV, HS.out, HT.out]; rfl, Below.refl _ _⟩
    | true =>
      refine (Add_ok s t w hs ht).mono fun e w' ⟨he, hb⟩ => ⟨?_, hb⟩
      rw [he, addV, hs, ht]; rfl
end Go.Proofs.YtlagcdgfmgkooaaDoor
