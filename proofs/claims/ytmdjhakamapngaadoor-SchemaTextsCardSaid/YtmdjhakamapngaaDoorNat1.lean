/-
  Walks over natural: trimmed, Of, Valid, Small, and the reference's trim, Of, Valid, U64.
-/
import Derived.Test.YtmdjhakamapngaaDoorKit
import Derived.Lib.BufferRead
namespace Go.Proofs.YtmdjhakamapngaaDoor
open Go.RowKit
set_option linter.unusedVariables false

/-- a slice's bytes lie in memory -/
def BytesAt (w : World) (A : Option Addr) (l : List UInt8) : Prop :=
  l = [] ∨ ∃ g off, A = some ⟨g, off, none⟩ ∧ ∀ i (h : i < l.length), w.cell? ⟨g, off + i, none⟩ = some (.int .u8 (l[i].toNat : Int))
theorem addr_add (g off j : Nat) : (⟨g, off, none⟩ : Addr).add j = ⟨g, off + j, none⟩ := by unfold Addr.add; split <;> simp_all
/-- string(b) -/
theorem run_bytes_str {P : Program} (w : World) (src dst e : TypeId) (A : Option Addr) (l : List UInt8) (c : Nat) (hs : P.underlying src = some (.slice e)) (he : P.underlying e = some (.int .u8)) (hd : P.underlying dst = some .string)
    (hb : BytesAt w A l) : (convert src dst (.slice A l.length c)).run P w = .ok (Sv l) w := by
  rcases hb with rfl | ⟨g, off, rfl, hc⟩
  · cases A with
    | none => exact Lib.run_convert_nil_bytes w src dst e c hs he hd
    | some a => exact run_convert_bytes_back w src dst e a c [] hs he hd (fun j hj => by simp at hj)
  · exact run_convert_bytes_back w src dst e _ c l hs he hd (fun j hj => by rw [addr_add]; exact hc j hj)
theorem BytesAt.tail {w : World} {g off : Nat} {b : UInt8} {m : List UInt8} (h : ∀ i (h : i < (b :: m).length), w.cell? ⟨g, off + i, none⟩ = some (.int .u8 ((b :: m)[i].toNat : Int))) :
    BytesAt w (some ⟨g, off + 1, none⟩) m := by
  refine .inr ⟨g, off + 1, rfl, fun i hi => ?_⟩
  have := h (i + 1) (by simp; omega)
  rw [show off + 1 + i = off + (i + 1) from by omega, this]
  simp

def TrimRel (w : World) (l : List UInt8) (x : Value) : Prop := ∃ A l' c, x = .slice A l'.length c ∧ l'.length ≤ c ∧ l'.length ≤ l.length ∧ BytesAt w A l' ∧ Dm.trim l' = Dm.trim l

set_option maxHeartbeats 400000 in
theorem trimmed_any (A : Option Addr) (l : List UInt8) (c : Nat) (w : World) (hc : l.length ≤ c) (hl : l.length ≤ 1073741824) (hb : BytesAt w A l) :
    Calls Tryd.prog 63 #[.slice A l.length c] w fun e w' => e = .returned (Sv (Dm.trim l)) ∧ w = w' := by
  go_enter Tryd.func63, Tryd.ntmps63
  go_wp2
  go_loop [0] (TrimRel w l) (fun x => match x with | .slice _ n _ => n | _ => 0)
  case atStart => exact ⟨A, l, c, rfl, hc, Nat.le_refl _, hb, rfl⟩
  case round =>
    obtain ⟨A', l', c', rfl, hc', hl', hb', ht⟩ := hrel
    have HT := Lib.hid ht
    clear ht
    have hcv := run_bytes_str (P := Tryd.prog) w 80 54 5 A' l' c' Tryd.underlying80 Tryd.underlying5 Tryd.underlying54 hb'
    cases l' with
    | nil =>
      simp only [List.length_nil] at hcv hc' ⊢
      go_wp2
      go_ret
      exact ⟨ret_val (val_sv (by rw [← HT.out]; rfl)), rfl⟩
    | cons b m =>
      rcases hb' with h | ⟨g, off, rfl, hcell⟩
      · cases h
      have h0 : w.cell? ⟨g, off, none⟩ = some (.int .u8 (b.toNat : Int)) := hcell 0 (by simp)
      have hbt := BytesAt.tail hcell
      have HC := Lib.hid hbt
      clear hcell hbt
      simp only [List.length_cons] at hc' hl' hcv ⊢
      by_cases hb0 : b = 0
      · subst hb0
        have hz : ((((0 : UInt8)).toNat : Int) == 0) = true := by simp
        clear hcv
        go_wp2
        refine ⟨⟨_, m, c' - 1, rfl, by omega, by omega, ?_, by rw [← HT.out]; rfl⟩, by simp⟩
        by_cases h1 : c' = 1
        · exact .inl (List.eq_nil_of_length_eq_zero (by omega))
        · rw [if_neg h1]; exact HC.out
      · have hz : ((b.toNat : Int) == 0) = false := by
          simp
          intro e
          exact hb0 (UInt8.toNat_inj.1 (by simpa using e))
        go_wp2
        go_ret
        exact ⟨ret_val (val_sv (by rw [← HT.out, Dm.trim_of_ne _ hb0])), rfl⟩

theorem trimmed_at (A : Option Addr) (l : List UInt8) (n c : Nat) (w : World) (hn : l.length = n) (hc : n ≤ c) (hl : n ≤ 1073741824) (hb : BytesAt w A l) :
    Calls Tryd.prog 63 #[.slice A n c] w fun e w' => e = .returned (Sv (Dm.trim l)) ∧ w = w' := by
  subst hn
  exact trimmed_any A l c w hc hl hb
theorem Blk.bytes {w : World} {g : Nat} {t : TypeId} {l : List UInt8} (h : Blk w g t (bvs l)) : BytesAt w (some ⟨g, 0, none⟩) l :=
  .inr ⟨g, 0, rfl, fun i hi => by rw [Nat.zero_add, h.cell, bvs_at hi]⟩

def ofCells (n k : Nat) : List UInt8 := Dm.be (fun i => if i < k then Dm.byteAt n i else 0) 8
theorem ofCells_step (n k : Nat) (h : k < 8) : (ofCells n k).set (7 - k) (Dm.byteAt n k) = ofCells n (k + 1) := by
  have := Dm.be_set (fun i => if i < k then Dm.byteAt n i else 0) (fun i => if i < k + 1 then Dm.byteAt n i else 0) 8 k h (fun i _ hne => by
    by_cases h1 : i < k
    · simp [h1, Nat.lt_succ_of_lt h1]
    · simp [h1]; omega)
  simpa [ofCells] using this
theorem ofCells_end (n : Nat) (h : n < 18446744073709551616) : Dm.trim (ofCells n 8) = Dm.str n := by
  apply Dm.trim_eq_str
  unfold ofCells
  rw [Dm.be_congr (g := Dm.byteAt n) (fun i hi => by simp [hi]), Dm.val_be_byteAt, Nat.mod_eq_of_lt (by simpa using h)]
theorem byteAt_int (n k : Nat) : (n : Int) / 2 ^ (8 * k) % 256 = ((Dm.byteAt n k).toNat : Int) := by
  have h : (2 : Int) ^ (8 * k) = ((256 ^ k : Nat) : Int) := by
    rw [show (256 : Nat) = 2 ^ 8 from rfl, ← Nat.pow_mul, Int.natCast_pow]; rfl
  rw [h, Dm.byteAt_toNat]
  simp
def OfRel (n : Nat) (w : World) (i : Value) (wr : World) : Prop := ∃ k : Nat, k ≤ 8 ∧ i = .int .i64 (k : Int) ∧ Blk wr w.heap.size 101 (bvs (ofCells n k)) ∧ Below w.heap.size w wr

set_option maxHeartbeats 400000 in
theorem of_any (n : Nat) (w : World) (h1 : n < 18446744073709551616) :
    Calls Tryd.prog 41 #[.int .u64 n] w fun e w' => e = .returned (Sv (Dm.str n)) ∧ Below w.heap.size w w' := by
  go_enter Tryd.func41, Tryd.ntmps41
  go_wp2
  go_loopw [5] (OfRel n w) (fun i _ => 8 - (intOf i).toNat)
  case atStart => exact ⟨0, by omega, rfl, Blk.new _ _ _, (Below.refl _ _).alloc (Nat.le_refl _) _⟩
  case round =>
    obtain ⟨k, hk, rfl, hB, hW⟩ := hrel
    by_cases hlt : (k : Int) < 8
    · obtain ⟨v, hcell⟩ : ∃ v, wr.cell? ⟨w.heap.size, 7 - k, none⟩ = some v := ⟨_, (hB.cell (7 - k)).trans (bvs_at (by rw [ofCells, Dm.length_be]; omega))⟩
      have hfr := hB.frozen (7 - k)
      go_wp2
      go_roundw
      case rel => exact ⟨k + 1, by omega, by go_num, by rw [byteAt_int, ← ofCells_step n k (by omega), ← bvs_set]; exact hB.set_ _ _, hW.setCell (Nat.le_refl _) _⟩
      case measure => simp [intOf] <;> omega
    · obtain rfl : k = 8 := by omega
      have HV := Lib.hid (ofCells_end n h1)
      go_wp2_with fail
      refine (trimmed_at _ (ofCells n 8) 8 8 _ (by rw [ofCells, Dm.length_be]) (by omega) (by omega) hB.bytes).mono ?_
      rintro e w' ⟨rfl, rfl⟩
      go_wp2
      go_ret
      exact ⟨ret_val (val_sv HV.out), hW⟩
theorem of_at (a : Int) (n : Nat) (w : World) (ha : a = n) (h1 : n < 18446744073709551616) :
    Calls Tryd.prog 41 #[.int .u64 a] w fun e w' => e = .returned (Sv (Dm.str n)) ∧ Below w.heap.size w w' := by
  subst ha
  exact of_any n w h1


def validB (l : List UInt8) : Bool := decide (l.length ≤ 128) && Dm.canon l
theorem canon_tl (s : ByteArray) (h : 0 < s.size) : Dm.canon (tl s) = ((s[0].toNat : Int) != 0) := by
  rw [tl_cons s h, Dm.canon]
  rw [Bool.eq_iff_iff]
  simp only [bne_iff_ne, ne_eq]
  exact not_congr ⟨fun e => by rw [e]; rfl, fun e => UInt8.toNat_inj.1 (by simp at e ⊢; exact e)⟩
set_option maxHeartbeats 400000 in
theorem valid_any (s : ByteArray) (w : World) (hl : s.size ≤ 1073741824) :
    Calls Tryd.prog 45 #[.string s] w fun e w' => e = .returned (.bool (validB (tl s))) ∧ w = w' := by
  by_cases h : s.size ≤ 128
  · by_cases h0 : s.size = 0
    · have hne : ((s.size : Int) == 0) = true := by simp [h0]
      have H0 := Lib.hid h0
      clear h0
      go_enter Tryd.func45, Tryd.ntmps45
      go_wp2
      go_ret
      refine ⟨ret_bool ?_, rfl⟩
      have : tl s = [] := List.eq_nil_of_length_eq_zero (by rw [length_tl]; exact H0.out)
      rw [this]; rfl
    · have hne : ((s.size : Int) == 0) = false := by rw [beq_eq_false_iff_ne]; omega
      have hpos : 0 < s.size := by omega
      clear h0
      go_enter Tryd.func45, Tryd.ntmps45
      go_wp2
      go_ret
      exact ⟨ret_bool (by rw [validB, length_tl, canon_tl s hpos]; simp [h]), rfl⟩
  · go_enter Tryd.func45, Tryd.ntmps45
    go_wp2
    go_ret
    exact ⟨ret_bool (by rw [validB, length_tl]; simp [h]), rfl⟩
theorem valid_at (s : ByteArray) (v : Bool) (w : World) (hl : s.size ≤ 1073741824) (hv : validB (tl s) = v) :
    Calls Tryd.prog 45 #[.string s] w fun e w' => e = .returned (.bool v) ∧ w = w' := by
  subst hv
  exact valid_any s w hl

/-- the value of the first k bytes -/
def valTo (s : ByteArray) (k : Nat) : Nat := Dm.val ((tl s).take k)
theorem valTo_succ (s : ByteArray) (k : Nat) (h : k < s.size) : valTo s (k + 1) = valTo s k * 256 + s[k].toNat := by
  unfold valTo; rw [take_snoc s k h, Dm.val_snoc]
theorem valTo_lt (s : ByteArray) (k : Nat) : valTo s k < 256 ^ k := by
  have h1 := Dm.val_lt ((tl s).take k)
  exact Nat.lt_of_lt_of_le h1 (Nat.pow_le_pow_right (by omega) (List.length_take_le _ _))
theorem valTo_all (s : ByteArray) (k : Nat) (h : s.size ≤ k) : valTo s k = Dm.val (tl s) := by
  unfold valTo; rw [List.take_of_length_le (by rw [length_tl]; exact h)]
theorem small_or (s : ByteArray) (k : Nat) (hk : k ≤ 7) (h : k < s.size) :
    bits BinOp.or IntKind.u64 (IntKind.u64.wrap (↑(valTo s k) * 256)) (IntKind.u64.wrap ↑s[k].toNat) = ((valTo s k * 256 + s[k].toNat : Nat) : Int) := by
  have h1 := valTo_lt s k
  have h2 : (256 : Nat) ^ k ≤ 256 ^ 7 := Nat.pow_le_pow_right (by omega) hk
  have h3 : s[k].toNat < 256 := s[k].toNat_lt
  have h4 : valTo s k < 72057594037927936 := by have : (256 : Nat) ^ 7 = 72057594037927936 := rfl; omega
  have e1 : IntKind.u64.wrap (↑(valTo s k) * 256) = ((valTo s k * 256 : Nat) : Int) := by rw [IntKind.wrap_u64]; omega
  have e2 : IntKind.u64.wrap ↑s[k].toNat = ((s[k].toNat : Nat) : Int) := by rw [IntKind.wrap_u64]; omega
  rw [e1, e2, u64_or_nat _ _ (by omega) (by omega), nat_join 8 _ _ (by simp) (by simpa using h3)]
def SmallRel (s : ByteArray) (n i : Value) : Prop := ∃ k : Nat, k ≤ s.size ∧ i = .int .i64 (k : Int) ∧ n = .int .u64 (valTo s k : Nat)
def smallV (l : List UInt8) : Value := if validB l && decide (l.length ≤ 8) then .tuple #[.int .u64 (Dm.val l : Nat), .bool true] else .tuple #[.int .u64 0, .bool false]
set_option maxHeartbeats 400000 in
theorem small_any (s : ByteArray) (w : World) (hl : s.size ≤ 1073741824) :
    Calls Tryd.prog 46 #[.string s] w fun e w' => e = .returned (smallV (tl s)) ∧ w = w' := by
  cases hv : validB (tl s) with
  | false =>
    have HV := Lib.hid hv
    clear hv
    go_enter Tryd.func46, Tryd.ntmps46
    go_wp2_with (go_at_call 45; refine (valid_at s false _ hl HV.out).mono ?_; rintro e w' ⟨rfl, rfl⟩)
    go_ret2
    exact ⟨by rw [smallV, HV.out]; rfl, rfl⟩
  | true =>
    have HV := Lib.hid hv
    clear hv
    by_cases h8 : s.size ≤ 8
    · go_enter Tryd.func46, Tryd.ntmps46
      go_wp2_with (go_at_call 45; refine (valid_at s true _ hl HV.out).mono ?_; rintro e w' ⟨rfl, rfl⟩)
      go_loop [4, 16] (SmallRel s) (fun _ i => s.size - (intOf i).toNat)
      case atStart => exact ⟨0, by omega, rfl, rfl⟩
      case round =>
        obtain ⟨k, hk, rfl, rfl⟩ := hrel
        by_cases hlt : k < s.size
        · have hs := valTo_succ s k hlt
          have HS := Lib.hid hs
          clear hs
          go_wp2
          go_round
          case rel => exact ⟨k + 1, by omega, by go_num, val_int (by rw [HS.out]; exact small_or s k (by omega) hlt)⟩
          case measure => simp [intOf] <;> omega
        · go_wp2
          go_ret2
          exact ⟨by rw [smallV, HV.out, length_tl]; simp [h8]; rw [valTo_all s k (by omega)], rfl⟩
    · go_enter Tryd.func46, Tryd.ntmps46
      go_wp2_with (go_at_call 45; refine (valid_at s true _ hl HV.out).mono ?_; rintro e w' ⟨rfl, rfl⟩)
      go_ret2
      exact ⟨by rw [smallV, HV.out, length_tl]; simp [h8], rfl⟩

theorem ref_u64_step (s : ByteArray) (k : Nat) (hk : k ≤ 7) (h : k < s.size) : (valTo s k : Int) * 256 + (s[k].toNat : Int) = ((valTo s k * 256 + s[k].toNat : Nat) : Int) := by omega
theorem BytesAt.drop {w : World} {g off : Nat} {l : List UInt8} (h : ∀ i (h : i < l.length), w.cell? ⟨g, off + i, none⟩ = some (.int .u8 (l[i].toNat : Int))) (k : Nat) :
    BytesAt w (some ⟨g, off + k, none⟩) (l.drop k) := by
  refine .inr ⟨g, off + k, rfl, fun i hi => ?_⟩
  have hi' : i < l.length - k := by simpa using hi
  have := h (k + i) (by omega)
  rw [show off + k + i = off + (k + i) from by omega, this]
  simp
theorem drop_cons {l : List UInt8} {k : Nat} (h : k < l.length) : l.drop k = l[k] :: l.drop (k + 1) := List.drop_eq_getElem_cons h
def RefTrimRel (l : List UInt8) (x : Value) : Prop := ∃ k : Nat, k ≤ l.length ∧ x = .int .i64 (k : Int) ∧ Dm.trim (l.drop k) = Dm.trim l
set_option maxRecDepth 20000 in
set_option maxHeartbeats 400000 in
theorem ref_trim_any (g off : Nat) (l : List UInt8) (n c : Nat) (w : World) (hn : l.length = n) (hc : n ≤ c) (hl : n ≤ 1073741824) (hb : ∀ i (h : i < l.length), w.cell? ⟨g, off + i, none⟩ = some (.int .u8 (l[i].toNat : Int))) :
    Calls Tryd.prog 42 #[.slice (some ⟨g, off, none⟩) n c] w fun e w' => e = .returned (Sv (Dm.trim l)) ∧ w = w' := by
  have HN := Lib.hid hn
  have HB := Lib.hid hb
  clear hn hb
  go_enter Tryd.func42, Tryd.ntmps42
  go_wp2
  go_loop [3] (RefTrimRel l) (fun x => n - (intOf x).toNat)
  case atStart => exact ⟨0, by omega, rfl, rfl⟩
  case round =>
    obtain ⟨k, hk, rfl, ht⟩ := hrel
    have HT := Lib.hid ht
    clear ht
    have hk' : k ≤ n := by have := HN.out; omega
    by_cases hlt : k < n
    · have hlt' : k < l.length := by have := HN.out; omega
      have hcell : w.cell? ⟨g, off + k, none⟩ = some (.int .u8 (l[k].toNat : Int)) := HB.out k hlt'
      by_cases h0 : l[k] = 0
      · have hz : ((l[k].toNat : Int) == 0) = true := by rw [h0]; rfl
        have H0 := Lib.hid h0
        clear h0
        go_wp2
        go_round
        case rel => exact ⟨k + 1, by omega, by go_num, by rw [← HT.out, drop_cons hlt', H0.out]; rfl⟩
        case measure => simp [intOf] <;> omega
      · have hz : ((l[k].toNat : Int) == 0) = false := by
          rw [beq_eq_false_iff_ne]
          intro e
          exact h0 (UInt8.toNat_inj.1 (by simp at e ⊢; exact e))
        have H0 := Lib.hid h0
        clear h0
        have hcv := run_bytes_str (P := Tryd.prog) w 80 54 5 (some ⟨g, off + k, none⟩) (l.drop k) (c - k) Tryd.underlying80 Tryd.underlying5 Tryd.underlying54 (BytesAt.drop HB.out k)
        rw [List.length_drop, HN.out] at hcv
        go_wp2
        go_ret
        exact ⟨ret_val (val_sv (by rw [← HT.out, drop_cons hlt', Dm.trim_of_ne _ H0.out])), rfl⟩
    · obtain rfl : k = n := by omega
      have hd : l.drop k = [] := List.drop_eq_nil_of_le (by have := HN.out; omega)
      have HD := Lib.hid hd
      clear hd
      have hcv := run_bytes_str (P := Tryd.prog) w 80 54 5 (if c = k then some ⟨g, off, none⟩ else some ⟨g, off + k, none⟩) [] (c - k) Tryd.underlying80 Tryd.underlying5 Tryd.underlying54 (.inl rfl)
      rw [List.length_nil] at hcv
      go_wp2
      all_goals
        go_ret
        exact ⟨ret_val (val_sv (by rw [← HT.out, HD.out]; rfl)), rfl⟩

def RefOfRel (n : Nat) (w : World) (x i : Value) (wr : World) : Prop := ∃ k : Nat, k ≤ 8 ∧ i = .int .i64 (7 - (k : Int)) ∧ x = .int .u64 ((n / 256 ^ k : Nat) : Int) ∧ Blk wr w.heap.size 5 (bvs (ofCells n k)) ∧ Below w.heap.size w wr
theorem byteAt_int' (n k : Nat) : ((n / 256 ^ k : Nat) : Int) % 256 = ((Dm.byteAt n k).toNat : Int) := by
  rw [Dm.byteAt_toNat]; omega
set_option maxHeartbeats 400000 in
theorem ref_of_any (n : Nat) (w : World) (h1 : n < 18446744073709551616) :
    Calls Tryd.prog 20 #[.int .u64 n] w fun e w' => e = .returned (Sv (Dm.str n)) ∧ Below w.heap.size w w' := by
  have hmk : ∀ w : World, (Instr.makeSlice 80 (.int .i64 8) (.int .i64 8)).run Tryd.prog w = .ok (.slice (some ⟨w.heap.size, 0, none⟩) 8 8) (w.alloc (.cells #[.int .u8 0, .int .u8 0, .int .u8 0, .int .u8 0, .int .u8 0, .int .u8 0, .int .u8 0, .int .u8 0] 5)) := fun _ => by kernel_rfl
  go_enter Tryd.func20, Tryd.ntmps20
  go_wp2
  clear hmk
  go_loopw [0, 4] (RefOfRel n w) (fun _ i _ => (intOf i + 1).toNat)
  case atStart => exact ⟨0, by omega, rfl, by simp, Blk.new _ _ _, (Below.refl _ _).alloc (Nat.le_refl _) _⟩
  case round =>
    obtain ⟨k, hk, rfl, rfl, hB, hW⟩ := hrel
    have hq : n / 256 ^ k < 18446744073709551616 := Nat.lt_of_le_of_lt (Nat.div_le_self _ _) h1
    by_cases hlt : k < 8
    · obtain ⟨v, hcell⟩ : ∃ v, wr.cell? ⟨w.heap.size, 7 - k, none⟩ = some v := ⟨_, (hB.cell (7 - k)).trans (bvs_at (by rw [ofCells, Dm.length_be]; omega))⟩
      have hfr := hB.frozen (7 - k)
      have HQ : Hid (((n / 256 ^ k : Nat) : Int) / 256 = ((n / 256 ^ (k + 1) : Nat) : Int)) := by
        show _ = _
        rw [Nat.pow_succ, ← Nat.div_div_eq_div_mul]; omega
      have HY := Lib.hid (byteAt_int' n k)
      generalize n / 256 ^ k = q at *
      go_wp2
      go_roundw
      case rel => exact ⟨k + 1, by omega, val_int (by omega), val_int HQ.out, by rw [HY.out, ← ofCells_step n k (by omega), ← bvs_set]; exact hB.set_ _ _, hW.setCell (Nat.le_refl _) _⟩
      case measure => simp [intOf] <;> omega
    · obtain rfl : k = 8 := by omega
      have HV := Lib.hid (ofCells_end n h1)
      go_wp2_with fail
      refine (ref_trim_any w.heap.size 0 (ofCells n 8) 8 8 _ (by rw [ofCells, Dm.length_be]) (by omega) (by omega) (fun i hi => by rw [Nat.zero_add, hB.cell, bvs_at hi])).mono ?_
      rintro e w' ⟨rfl, rfl⟩
      go_wp2
      go_ret
      exact ⟨ret_val (val_sv HV.out), hW⟩
theorem ref_of_at (a : Int) (n : Nat) (w : World) (ha : a = n) (h1 : n < 18446744073709551616) :
    Calls Tryd.prog 20 #[.int .u64 a] w fun e w' => e = .returned (Sv (Dm.str n)) ∧ Below w.heap.size w w' := by
  subst ha
  exact ref_of_any n w h1
end Go.Proofs.YtmdjhakamapngaaDoor
