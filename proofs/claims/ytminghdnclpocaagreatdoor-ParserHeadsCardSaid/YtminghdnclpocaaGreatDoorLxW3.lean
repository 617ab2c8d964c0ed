/-
  The lexer: names, words, numbers and signs at the scanner's offset; skip.
-/
import Derived.Test.YtminghdnclpocaaGreatDoorLxW2
namespace Go.Proofs.YtminghdnclpocaaGreatDoor
open Go.RowKit
set_option linter.unusedVariables false

theorem tl_extract (s : ByteArray) (a b : Nat) : tl (s.extract a b) = ((tl s).drop a).take (b - a) := by
  exact Lib.extract_data s a b
theorem val_cast {i n : Nat} {x : Int} (hx : x = i) : (.int .i64 ((i + n : Nat) : Int) : Value) = .int .i64 (x + n) := by rw [hx]; simp
theorem while_nm_n (x : Int) (i n : Nat) (g : Nat) (s : ByteArray) (a : Nat) (w : World) (hx : x = i) (hn : Lx.sp Lx.isNm ((tl s).drop i) = n) (hS : Scn w g s a) (hs : s.size ≤ 65536) (hi : i ≤ s.size) :
    Calls Tryz.prog 73 #[.pointer (some ⟨g, 0, none⟩), .int .i64 x, .func (.func 74) #[] #[]] w fun e w' => e = .returned (.int .i64 (x + n)) ∧ Below w.heap.size w w' := by
  rw [← val_cast hx, ← hn, hx]; exact while_nm g s a i w hS hs hi
theorem while_wd_n (x : Int) (i n : Nat) (g : Nat) (s : ByteArray) (a : Nat) (w : World) (hx : x = i) (hn : Lx.sp Lx.isWd ((tl s).drop i) = n) (hS : Scn w g s a) (hs : s.size ≤ 65536) (hi : i ≤ s.size) :
    Calls Tryz.prog 73 #[.pointer (some ⟨g, 0, none⟩), .int .i64 x, .func (.func 76) #[] #[]] w fun e w' => e = .returned (.int .i64 (x + n)) ∧ Below w.heap.size w w' := by
  rw [← val_cast hx, ← hn, hx]; exact while_wd g s a i w hS hs hi
theorem while_dg_n (x : Int) (i n : Nat) (g : Nat) (s : ByteArray) (a : Nat) (w : World) (hx : x = i) (hn : Lx.sp Lx.isDig ((tl s).drop i) = n) (hS : Scn w g s a) (hs : s.size ≤ 65536) (hi : i ≤ s.size) :
    Calls Tryz.prog 73 #[.pointer (some ⟨g, 0, none⟩), .int .i64 x, .func (.func 77) #[] #[]] w fun e w' => e = .returned (.int .i64 (x + n)) ∧ Below w.heap.size w w' := by
  rw [← val_cast hx, ← hn, hx]; exact while_dg g s a i w hS hs hi
theorem while_sp_n (x : Int) (i n : Nat) (g : Nat) (s : ByteArray) (a : Nat) (w : World) (hx : x = i) (hn : Lx.sp Lx.isSp ((tl s).drop i) = n) (hS : Scn w g s a) (hs : s.size ≤ 65536) (hi : i ≤ s.size) :
    Calls Tryz.prog 73 #[.pointer (some ⟨g, 0, none⟩), .int .i64 x, .func (.func 80) #[] #[]] w fun e w' => e = .returned (.int .i64 (x + n)) ∧ Below w.heap.size w w' := by
  rw [← val_cast hx, ← hn, hx]; exact while_sp g s a i w hS hs hi
theorem Blk.drewN {w : World} {g : Nat} {t : TypeId} {cs : List Value} (h : Blk w g t cs) (n : Nat) : Blk (w.drewN n) g t cs := h
theorem sp_fit {p : UInt8 → Bool} {s : ByteArray} {a n : Nat} (h : Lx.sp p ((tl s).drop a) = n) (ha : a ≤ s.size) : a + n ≤ s.size := by
  have := Lx.sp_le p ((tl s).drop a)
  rw [h, List.length_drop, length_tl] at this
  omega
abbrev t3 (k e r : Int) : Value := .tuple #[.int .i64 k, .int .i64 e, .int .i64 r]
/-! walks -/
theorem ex_size (s : ByteArray) {a b : Nat} (h : b ≤ s.size) : (s.extract a b).size = b - a := by
  rw [ByteArray.size_extract]; omega
theorem ex_at (s : ByteArray) {a b k : Nat} (h : k < (s.extract a b).size) (h2 : a + k < s.size) : (s.extract a b)[k] = s[a + k] := by
  rw [ByteArray.getElem_extract]
theorem num_p_at (s : ByteArray) (a n : Nat) (v : Bool) (w : World) (hs : s.size ≤ 65536) (h0 : 0 < n) (hfit : a + n ≤ s.size) (hn : Lx.sp Lx.isDig ((tl s).drop a) = n) (hc : ((s[a].toNat : Int) == 45) = false) (hv : decide (Lx.dv (((tl s).drop a).take n) ≤ 2147483647) = v) :
    Calls Tryz.prog 78 #[.string (s.extract a (a + n))] w fun e w' => e = .returned (.bool v) ∧ Below w.heap.size w w' := by
  have hz := ex_size s (a := a) hfit
  have h1 : tl (s.extract a (a + n)) = ((tl s).drop a).take n := by rw [tl_extract, Nat.add_sub_cancel_left]
  refine (num_plain (s.extract a (a + n)) w (by omega) (by omega) ?_ ?_).mono fun e w' ⟨he, hw⟩ => ⟨by rw [he, h1, hv], hw⟩
  · rw [ex_at s (by omega) (by omega)]; simpa using hc
  · intro k hk
    rw [ex_at s hk (by omega)]
    have := Lx.sp_all (p := Lx.isDig) (l := (tl s).drop a) k (by omega) (by rw [List.length_drop, length_tl]; omega)
    rw [List.getElem_drop, tl_getElem s (a + k) (by omega)] at this
    exact this
theorem num_m_at (s : ByteArray) (a n : Nat) (v : Bool) (w : World) (hs : s.size ≤ 65536) (hfit : a + 1 + n ≤ s.size) (hn : Lx.sp Lx.isDig ((tl s).drop (a + 1)) = n) (hc : ((s[a].toNat : Int) == 45) = true) (hv : decide (Lx.dv (((tl s).drop (a + 1)).take n) ≤ 2147483648) = v) :
    Calls Tryz.prog 78 #[.string (s.extract a (a + 1 + n))] w fun e w' => e = .returned (.bool v) ∧ Below w.heap.size w w' := by
  have hz := ex_size s (a := a) hfit
  have hz1 := ex_size (s.extract a (a + 1 + n)) (a := 1) (Nat.le_refl _)
  have h1 : tl ((s.extract a (a + 1 + n)).extract 1 (s.extract a (a + 1 + n)).size) = ((tl s).drop (a + 1)).take n := by
    rw [tl_extract, tl_extract, hz, List.drop_take, List.drop_drop, List.take_take, show min (a + 1 + n - a - 1) (a + 1 + n - a - 1) = n by omega]
  refine (num_minus (s.extract a (a + 1 + n)) _ w (by omega) (by omega) rfl (by omega) ?_ ?_).mono fun e w' ⟨he, hw⟩ => ⟨by rw [he, h1, hv], hw⟩
  · rw [ex_at s (by omega) (by omega)]; simpa using hc
  · intro k hk
    rw [ex_at _ hk (by omega), ex_at s (by omega) (by omega)]
    have := Lx.sp_all (p := Lx.isDig) (l := (tl s).drop (a + 1)) k (by omega) (by rw [List.length_drop, length_tl]; omega)
    rw [List.getElem_drop, tl_getElem s (a + 1 + k) (by omega)] at this
    simp only [Nat.add_assoc] at this ⊢
    exact this
theorem sign_dr (s : ByteArray) (a n : Nat) (w : World) (hn : Lx.sg ((tl s).drop a) = n) : Calls Tryz.prog 79 #[.string (s.extract a s.size)] w fun e w' => e = .returned (.int .i64 (n : Int)) ∧ w' = w :=
  (sign_any _ w).mono fun e w' ⟨he, hw⟩ => ⟨by rw [he, tl_extract, List.take_of_length_le (by rw [List.length_drop, length_tl]; omega), hn], hw⟩
theorem keyword_at (s : ByteArray) (v : Bool) (w : World) (h : Lx.kw (tl s) = v) : Calls Tryz.prog 75 #[.string s] w fun e w' => e = .returned (.bool v) ∧ w = w' :=
  (keyword_any s w).mono fun e w' ⟨he, hw⟩ => ⟨by rw [he, h], hw.symm⟩
theorem name_no (g : Nat) (s : ByteArray) (a : Nat) (w : World) (hS : Scn w g s a) (hs : s.size ≤ 65536) (ha : a < s.size) (hc : Lx.isLet s[a] = false) : Calls Tryz.prog 27 #[.pointer (some ⟨g, 0, none⟩)] w fun e w' => e = .returned (t3 0 a 0) ∧ Below w.heap.size w w' := by
  have c0 : w.cell? ⟨g, 0, none⟩ = some (.string s) := hS.cell 0
  have c2 : w.cell? ⟨g, 257, none⟩ = some (.int .i64 (a : Int)) := (hS.cell _).trans (scnL_at s a)
  have c1 : w.cell? ⟨g, 1 + s[a].toNat, none⟩ = some (.int .u8 (clsN s[a].toNat : Int)) := (hS.cell _).trans (scnL_cls s a s[a])
  have h5 := clsN_le s[a].toNat
  have h6 := s[a].toNat_lt
  have h7 : ((clsN s[a].toNat : Int) != 2) = true := by rw [cls_let] at hc; simp at hc ⊢; omega
  clear hc
  go_enter Tryz.func27, Tryz.ntmps27
  go_wp2_with fail
  go_quiet (fail)
  go_wp2_with fail
  go_quiet (fail)
  go_wp2_with fail
  go_ret3
  exact ⟨rfl, bl_drewN (bl_drewN (Below.refl _ _) _) _⟩
theorem name_err (g : Nat) (s : ByteArray) (a : Nat) (w : World) (hS : Scn w g s a) (hs : s.size ≤ 65536) (ha : a < s.size) (hc : Lx.isLet s[a] = true) (n : Nat) (hn : Hid (Lx.sp Lx.isNm ((tl s).drop a) = n)) (h32 : 32 < n) : Calls Tryz.prog 27 #[.pointer (some ⟨g, 0, none⟩)] w fun e w' => e = .returned (t3 0 a 5) ∧ Below w.heap.size w w' := by
  have hfit := sp_fit hn.out (Nat.le_of_lt ha)
  have c0 : w.cell? ⟨g, 0, none⟩ = some (.string s) := hS.cell 0
  have c2 : w.cell? ⟨g, 257, none⟩ = some (.int .i64 (a : Int)) := (hS.cell _).trans (scnL_at s a)
  have c1 : w.cell? ⟨g, 1 + s[a].toNat, none⟩ = some (.int .u8 (clsN s[a].toNat : Int)) := (hS.cell _).trans (scnL_cls s a s[a])
  have h5 := clsN_le s[a].toNat
  have h6 := s[a].toNat_lt
  have h7 : ((clsN s[a].toNat : Int) != 2) = false := by rw [cls_let] at hc; simp at hc ⊢; omega
  clear hc
  go_enter Tryz.func27, Tryz.ntmps27
  go_wp2_with fail
  go_quiet (fail)
  go_wp2_with fail
  go_quiet (fail)
  go_wp2_with fail
  refine (while_nm_n _ a n g s a _ rfl hn.out (Blk.drewN hS _) hs (by omega)).mono ?_
  rintro e w1 ⟨rfl, hb1⟩
  go_wp2_with fail
  go_ret3
  exact ⟨rfl, (bl_drewN (Below.refl _ _) _).trans hb1⟩
theorem name_ok_true (g : Nat) (s : ByteArray) (a : Nat) (w : World) (hS : Scn w g s a) (hs : s.size ≤ 65536) (ha : a < s.size) (hc : Lx.isLet s[a] = true) (n : Nat) (hn : Hid (Lx.sp Lx.isNm ((tl s).drop a) = n)) (h32 : n ≤ 32) (hk : Hid (Lx.kw (((tl s).drop a).take n) = true)) : Calls Tryz.prog 27 #[.pointer (some ⟨g, 0, none⟩)] w fun e w' => e = .returned (t3 2 ((a : Int) + n) 0) ∧ Below w.heap.size w w' := by
  have hfit := sp_fit hn.out (Nat.le_of_lt ha)
  have c0 : w.cell? ⟨g, 0, none⟩ = some (.string s) := hS.cell 0
  have c2 : w.cell? ⟨g, 257, none⟩ = some (.int .i64 (a : Int)) := (hS.cell _).trans (scnL_at s a)
  have c1 : w.cell? ⟨g, 1 + s[a].toNat, none⟩ = some (.int .u8 (clsN s[a].toNat : Int)) := (hS.cell _).trans (scnL_cls s a s[a])
  have h5 := clsN_le s[a].toNat
  have h6 := s[a].toNat_lt
  have h7 : ((clsN s[a].toNat : Int) != 2) = false := by rw [cls_let] at hc; simp at hc ⊢; omega
  clear hc
  go_enter Tryz.func27, Tryz.ntmps27
  go_wp2_with fail
  go_quiet (fail)
  go_wp2_with fail
  go_quiet (fail)
  go_wp2_with fail
  refine (while_nm_n _ a n g s a _ rfl hn.out (Blk.drewN hS _) hs (by omega)).mono ?_
  rintro e w1 ⟨rfl, hb1⟩
  go_wp2_with fail
  refine (keyword_at _ true _ (by rw [tl_extract, Nat.add_sub_cancel_left]; exact hk.out)).mono ?_
  rintro e w2 ⟨rfl, rfl⟩
  go_wp2_with fail
  go_ret3
  exact ⟨rfl, (bl_drewN (Below.refl _ _) _).trans hb1⟩
theorem name_ok_false (g : Nat) (s : ByteArray) (a : Nat) (w : World) (hS : Scn w g s a) (hs : s.size ≤ 65536) (ha : a < s.size) (hc : Lx.isLet s[a] = true) (n : Nat) (hn : Hid (Lx.sp Lx.isNm ((tl s).drop a) = n)) (h32 : n ≤ 32) (hk : Hid (Lx.kw (((tl s).drop a).take n) = false)) : Calls Tryz.prog 27 #[.pointer (some ⟨g, 0, none⟩)] w fun e w' => e = .returned (t3 0 ((a : Int) + n) 0) ∧ Below w.heap.size w w' := by
  have hfit := sp_fit hn.out (Nat.le_of_lt ha)
  have c0 : w.cell? ⟨g, 0, none⟩ = some (.string s) := hS.cell 0
  have c2 : w.cell? ⟨g, 257, none⟩ = some (.int .i64 (a : Int)) := (hS.cell _).trans (scnL_at s a)
  have c1 : w.cell? ⟨g, 1 + s[a].toNat, none⟩ = some (.int .u8 (clsN s[a].toNat : Int)) := (hS.cell _).trans (scnL_cls s a s[a])
  have h5 := clsN_le s[a].toNat
  have h6 := s[a].toNat_lt
  have h7 : ((clsN s[a].toNat : Int) != 2) = false := by rw [cls_let] at hc; simp at hc ⊢; omega
  clear hc
  go_enter Tryz.func27, Tryz.ntmps27
  go_wp2_with fail
  go_quiet (fail)
  go_wp2_with fail
  go_quiet (fail)
  go_wp2_with fail
  refine (while_nm_n _ a n g s a _ rfl hn.out (Blk.drewN hS _) hs (by omega)).mono ?_
  rintro e w1 ⟨rfl, hb1⟩
  go_wp2_with fail
  refine (keyword_at _ false _ (by rw [tl_extract, Nat.add_sub_cancel_left]; exact hk.out)).mono ?_
  rintro e w2 ⟨rfl, rfl⟩
  go_wp2_with fail
  go_ret3
  exact ⟨rfl, (bl_drewN (Below.refl _ _) _).trans hb1⟩
theorem word_no (g : Nat) (s : ByteArray) (a : Nat) (w : World) (hS : Scn w g s a) (hs : s.size ≤ 65536) (ha : a < s.size) (hc : (s[a] == 39) = false) : Calls Tryz.prog 28 #[.pointer (some ⟨g, 0, none⟩)] w fun e w' => e = .returned (t3 0 a 0) ∧ Below w.heap.size w w' := by
  have c0 : w.cell? ⟨g, 0, none⟩ = some (.string s) := hS.cell 0
  have c2 : w.cell? ⟨g, 257, none⟩ = some (.int .i64 (a : Int)) := (hS.cell _).trans (scnL_at s a)
  have h6 := s[a].toNat_lt
  have h7 : ((s[a].toNat : Int) != 39) = true := by simp at hc ⊢; intro h8; exact hc (UInt8.toNat_inj.1 (by have h9 : (39 : UInt8).toNat = 39 := rfl; omega))
  clear hc
  go_enter Tryz.func28, Tryz.ntmps28
  go_wp2_with fail
  go_quiet (fail)
  go_wp2_with fail
  go_ret3
  exact ⟨rfl, bl_drewN (Below.refl _ _) _⟩
theorem word_long (g : Nat) (s : ByteArray) (a : Nat) (w : World) (hS : Scn w g s a) (hs : s.size ≤ 65536) (ha : a < s.size) (hc : (s[a] == 39) = true) (n : Nat) (hn : Hid (Lx.sp Lx.isWd ((tl s).drop (a + 1)) = n)) (h32 : 32 < n) : Calls Tryz.prog 28 #[.pointer (some ⟨g, 0, none⟩)] w fun e w' => e = .returned (t3 0 a 5) ∧ Below w.heap.size w w' := by
  have hfit := sp_fit hn.out (show a + 1 ≤ s.size by omega)
  have c0 : w.cell? ⟨g, 0, none⟩ = some (.string s) := hS.cell 0
  have c2 : w.cell? ⟨g, 257, none⟩ = some (.int .i64 (a : Int)) := (hS.cell _).trans (scnL_at s a)
  have h6 := s[a].toNat_lt
  have h7 : ((s[a].toNat : Int) != 39) = false := by simp at hc ⊢; rw [hc]; rfl
  clear hc
  go_enter Tryz.func28, Tryz.ntmps28
  go_wp2_with fail
  go_quiet (fail)
  go_wp2_with fail
  refine (while_wd_n _ (a + 1) n g s a _ (by simp) hn.out (Blk.drewN hS _) hs (by omega)).mono ?_
  rintro e w1 ⟨rfl, hb1⟩
  go_wp2_with fail
  go_ret3
  exact ⟨rfl, (bl_drewN (Below.refl _ _) _).trans hb1⟩
theorem word_empty (g : Nat) (s : ByteArray) (a : Nat) (w : World) (hS : Scn w g s a) (hs : s.size ≤ 65536) (ha : a < s.size) (hc : (s[a] == 39) = true) (n : Nat) (hn : Hid (Lx.sp Lx.isWd ((tl s).drop (a + 1)) = n)) (h0 : n = 0) : Calls Tryz.prog 28 #[.pointer (some ⟨g, 0, none⟩)] w fun e w' => e = .returned (t3 0 a 4) ∧ Below w.heap.size w w' := by
  have hfit := sp_fit hn.out (show a + 1 ≤ s.size by omega)
  have c0 : w.cell? ⟨g, 0, none⟩ = some (.string s) := hS.cell 0
  have c2 : w.cell? ⟨g, 257, none⟩ = some (.int .i64 (a : Int)) := (hS.cell _).trans (scnL_at s a)
  have h6 := s[a].toNat_lt
  have h7 : ((s[a].toNat : Int) != 39) = false := by simp at hc ⊢; rw [hc]; rfl
  clear hc
  subst h0
  go_enter Tryz.func28, Tryz.ntmps28
  go_wp2_with fail
  go_quiet (fail)
  go_wp2_with fail
  refine (while_wd_n _ (a + 1) 0 g s a _ (by simp) hn.out (Blk.drewN hS _) hs (by omega)).mono ?_
  rintro e w1 ⟨rfl, hb1⟩
  go_wp2_with fail
  go_ret3
  exact ⟨rfl, (bl_drewN (Below.refl _ _) _).trans hb1⟩
theorem word_end (g : Nat) (s : ByteArray) (a : Nat) (w : World) (hS : Scn w g s a) (hs : s.size ≤ 65536) (ha : a < s.size) (hc : (s[a] == 39) = true) (n : Nat) (hn : Hid (Lx.sp Lx.isWd ((tl s).drop (a + 1)) = n)) (h32 : n ≤ 32) (h0 : 0 < n) (he : a + 1 + n = s.size) : Calls Tryz.prog 28 #[.pointer (some ⟨g, 0, none⟩)] w fun e w' => e = .returned (t3 0 a 4) ∧ Below w.heap.size w w' := by
  have hfit := sp_fit hn.out (show a + 1 ≤ s.size by omega)
  have c0 : w.cell? ⟨g, 0, none⟩ = some (.string s) := hS.cell 0
  have c2 : w.cell? ⟨g, 257, none⟩ = some (.int .i64 (a : Int)) := (hS.cell _).trans (scnL_at s a)
  have h6 := s[a].toNat_lt
  have h7 : ((s[a].toNat : Int) != 39) = false := by simp at hc ⊢; rw [hc]; rfl
  clear hc
  have HE := Lib.hid he
  have he2 : (((a : Int) + 1 + n) == (s.size : Int)) = true := by simp; omega
  have he3 : decide ((a : Int) + 1 + n = (s.size : Int)) = true := by simp; omega
  clear he
  go_enter Tryz.func28, Tryz.ntmps28
  go_wp2_with fail
  go_quiet (fail)
  go_wp2_with fail
  refine (while_wd_n _ (a + 1) n g s a _ (by simp) hn.out (Blk.drewN hS _) hs (by omega)).mono ?_
  rintro e w1 ⟨rfl, hb1⟩
  go_wp2_with fail
  go_ret3
  exact ⟨rfl, (bl_drewN (Below.refl _ _) _).trans hb1⟩
theorem word_open (g : Nat) (s : ByteArray) (a : Nat) (w : World) (hS : Scn w g s a) (hs : s.size ≤ 65536) (ha : a < s.size) (hc : (s[a] == 39) = true) (n : Nat) (hn : Hid (Lx.sp Lx.isWd ((tl s).drop (a + 1)) = n)) (h32 : n ≤ 32) (h0 : 0 < n) (he : a + 1 + n < s.size) (hq : (s[a + 1 + n] == 39) = false) : Calls Tryz.prog 28 #[.pointer (some ⟨g, 0, none⟩)] w fun e w' => e = .returned (t3 0 a 4) ∧ Below w.heap.size w w' := by
  have hfit := sp_fit hn.out (show a + 1 ≤ s.size by omega)
  have c0 : w.cell? ⟨g, 0, none⟩ = some (.string s) := hS.cell 0
  have c2 : w.cell? ⟨g, 257, none⟩ = some (.int .i64 (a : Int)) := (hS.cell _).trans (scnL_at s a)
  have h6 := s[a].toNat_lt
  have h7 : ((s[a].toNat : Int) != 39) = false := by simp at hc ⊢; rw [hc]; rfl
  clear hc
  have e1 : (((a : Int) + 1 + n) == ((a : Int) + 1)) = false := by simp; omega
  have e2 : (((a : Int) + 1 + n) == (s.size : Int)) = false := by simp; omega
  have hq2 : ((s[a + 1 + n].toNat : Int) != 39) = true := by simp at hq ⊢; intro h8; exact hq (UInt8.toNat_inj.1 (by have h9 : (39 : UInt8).toNat = 39 := rfl; omega))
  have h6' := s[a + 1 + n].toNat_lt
  clear hq
  go_enter Tryz.func28, Tryz.ntmps28
  go_wp2_with fail
  go_quiet (fail)
  go_wp2_with fail
  refine (while_wd_n _ (a + 1) n g s a _ (by simp) hn.out (Blk.drewN hS _) hs (by omega)).mono ?_
  rintro e w1 ⟨rfl, hb1⟩
  go_wp2_with fail
  go_ret3
  exact ⟨rfl, (bl_drewN (Below.refl _ _) _).trans hb1⟩
theorem word_ok (g : Nat) (s : ByteArray) (a : Nat) (w : World) (hS : Scn w g s a) (hs : s.size ≤ 65536) (ha : a < s.size) (hc : (s[a] == 39) = true) (n : Nat) (hn : Hid (Lx.sp Lx.isWd ((tl s).drop (a + 1)) = n)) (h32 : n ≤ 32) (h0 : 0 < n) (he : a + 1 + n < s.size) (hq : (s[a + 1 + n] == 39) = true) : Calls Tryz.prog 28 #[.pointer (some ⟨g, 0, none⟩)] w fun e w' => e = .returned (t3 0 ((a : Int) + 1 + n + 1) 0) ∧ Below w.heap.size w w' := by
  have hfit := sp_fit hn.out (show a + 1 ≤ s.size by omega)
  have c0 : w.cell? ⟨g, 0, none⟩ = some (.string s) := hS.cell 0
  have c2 : w.cell? ⟨g, 257, none⟩ = some (.int .i64 (a : Int)) := (hS.cell _).trans (scnL_at s a)
  have h6 := s[a].toNat_lt
  have h7 : ((s[a].toNat : Int) != 39) = false := by simp at hc ⊢; rw [hc]; rfl
  clear hc
  have e1 : (((a : Int) + 1 + n) == ((a : Int) + 1)) = false := by simp; omega
  have e2 : (((a : Int) + 1 + n) == (s.size : Int)) = false := by simp; omega
  have hq2 : ((s[a + 1 + n].toNat : Int) != 39) = false := by simp at hq ⊢; rw [hq]; rfl
  have h6' := s[a + 1 + n].toNat_lt
  clear hq
  go_enter Tryz.func28, Tryz.ntmps28
  go_wp2_with fail
  go_quiet (fail)
  go_wp2_with fail
  refine (while_wd_n _ (a + 1) n g s a _ (by simp) hn.out (Blk.drewN hS _) hs (by omega)).mono ?_
  rintro e w1 ⟨rfl, hb1⟩
  go_wp2_with fail
  go_ret3
  exact ⟨rfl, (bl_drewN (Below.refl _ _) _).trans hb1⟩
theorem numb_no_p (g : Nat) (s : ByteArray) (a : Nat) (w : World) (hS : Scn w g s a) (hs : s.size ≤ 65536) (ha : a < s.size) (hc : (s[a] == 45) = false) (n : Nat) (hn : Hid (Lx.sp Lx.isDig ((tl s).drop a) = n)) (h0 : n = 0) : Calls Tryz.prog 29 #[.pointer (some ⟨g, 0, none⟩)] w fun e w' => e = .returned (t3 0 a 0) ∧ Below w.heap.size w w' := by
  have hfit := sp_fit hn.out (Nat.le_of_lt ha)
  have c0 : w.cell? ⟨g, 0, none⟩ = some (.string s) := hS.cell 0
  have c2 : w.cell? ⟨g, 257, none⟩ = some (.int .i64 (a : Int)) := (hS.cell _).trans (scnL_at s a)
  have h6 := s[a].toNat_lt
  have h7 : ((s[a].toNat : Int) == 45) = false := by simp at hc ⊢; intro h8; exact hc (UInt8.toNat_inj.1 (by have h9 : (45 : UInt8).toNat = 45 := rfl; omega))
  clear hc
  subst h0
  go_enter Tryz.func29, Tryz.ntmps29
  go_wp2_with fail
  go_quiet (fail)
  go_wp2_with fail
  refine (while_dg_n _ a 0 g s a _ rfl hn.out (Blk.drewN hS _) hs (by omega)).mono ?_
  rintro e w1 ⟨rfl, hb1⟩
  go_wp2_with fail
  go_ret3
  exact ⟨rfl, (bl_drewN (Below.refl _ _) _).trans hb1⟩
theorem numb_no_m (g : Nat) (s : ByteArray) (a : Nat) (w : World) (hS : Scn w g s a) (hs : s.size ≤ 65536) (ha : a < s.size) (hc : (s[a] == 45) = true) (n : Nat) (hn : Hid (Lx.sp Lx.isDig ((tl s).drop (a + 1)) = n)) (h0 : n = 0) : Calls Tryz.prog 29 #[.pointer (some ⟨g, 0, none⟩)] w fun e w' => e = .returned (t3 0 a 0) ∧ Below w.heap.size w w' := by
  have hfit := sp_fit hn.out (show a + 1 ≤ s.size by omega)
  have c0 : w.cell? ⟨g, 0, none⟩ = some (.string s) := hS.cell 0
  have c2 : w.cell? ⟨g, 257, none⟩ = some (.int .i64 (a : Int)) := (hS.cell _).trans (scnL_at s a)
  have h6 := s[a].toNat_lt
  have h7 : ((s[a].toNat : Int) == 45) = true := by simp at hc ⊢; rw [hc]; rfl
  clear hc
  subst h0
  go_enter Tryz.func29, Tryz.ntmps29
  go_wp2_with fail
  go_quiet (fail)
  go_wp2_with fail
  refine (while_dg_n _ (a + 1) 0 g s a _ (by simp) hn.out (Blk.drewN hS _) hs (by omega)).mono ?_
  rintro e w1 ⟨rfl, hb1⟩
  go_wp2_with fail
  go_ret3
  exact ⟨rfl, (bl_drewN (Below.refl _ _) _).trans hb1⟩
theorem numb_p_true (g : Nat) (s : ByteArray) (a : Nat) (w : World) (hS : Scn w g s a) (hs : s.size ≤ 65536) (ha : a < s.size) (hc : (s[a] == 45) = false) (n : Nat) (hn : Hid (Lx.sp Lx.isDig ((tl s).drop a) = n)) (h0 : 0 < n) (hv : decide (Lx.dv (((tl s).drop a).take n) ≤ 2147483647) = true) : Calls Tryz.prog 29 #[.pointer (some ⟨g, 0, none⟩)] w fun e w' => e = .returned (t3 1 ((a : Int) + n) 0) ∧ Below w.heap.size w w' := by
  have hfit := sp_fit hn.out (Nat.le_of_lt ha)
  have c0 : w.cell? ⟨g, 0, none⟩ = some (.string s) := hS.cell 0
  have c2 : w.cell? ⟨g, 257, none⟩ = some (.int .i64 (a : Int)) := (hS.cell _).trans (scnL_at s a)
  have h6 := s[a].toNat_lt
  have h7 : ((s[a].toNat : Int) == 45) = false := by simp at hc ⊢; intro h8; exact hc (UInt8.toNat_inj.1 (by have h9 : (45 : UInt8).toNat = 45 := rfl; omega))
  clear hc
  have HV := Lib.hid hv
  clear hv
  have e1 : (((a : Int) + n) == (a : Int)) = false := by simp; omega
  go_enter Tryz.func29, Tryz.ntmps29
  go_wp2_with fail
  go_quiet (fail)
  go_wp2_with fail
  refine (while_dg_n _ a n g s a _ rfl hn.out (Blk.drewN hS _) hs (by omega)).mono ?_
  rintro e w1 ⟨rfl, hb1⟩
  go_wp2_with fail
  refine (num_p_at s a n true _ hs h0 hfit hn.out h7 HV.out).mono ?_
  rintro e w2 ⟨rfl, hb2⟩
  go_wp2_with fail
  go_ret3
  exact ⟨rfl, ((bl_drewN (Below.refl _ _) _).trans hb1).trans (hb2.mono hb1.size)⟩
theorem numb_m_true (g : Nat) (s : ByteArray) (a : Nat) (w : World) (hS : Scn w g s a) (hs : s.size ≤ 65536) (ha : a < s.size) (hc : (s[a] == 45) = true) (n : Nat) (hn : Hid (Lx.sp Lx.isDig ((tl s).drop (a + 1)) = n)) (h0 : 0 < n) (hv : decide (Lx.dv (((tl s).drop (a + 1)).take n) ≤ 2147483648) = true) : Calls Tryz.prog 29 #[.pointer (some ⟨g, 0, none⟩)] w fun e w' => e = .returned (t3 1 ((a : Int) + 1 + n) 0) ∧ Below w.heap.size w w' := by
  have hfit := sp_fit hn.out (show a + 1 ≤ s.size by omega)
  have c0 : w.cell? ⟨g, 0, none⟩ = some (.string s) := hS.cell 0
  have c2 : w.cell? ⟨g, 257, none⟩ = some (.int .i64 (a : Int)) := (hS.cell _).trans (scnL_at s a)
  have h6 := s[a].toNat_lt
  have h7 : ((s[a].toNat : Int) == 45) = true := by simp at hc ⊢; rw [hc]; rfl
  clear hc
  have HV := Lib.hid hv
  clear hv
  have e1 : (((a : Int) + 1 + n) == ((a : Int) + 1)) = false := by simp; omega
  go_enter Tryz.func29, Tryz.ntmps29
  go_wp2_with fail
  go_quiet (fail)
  go_wp2_with fail
  refine (while_dg_n _ (a + 1) n g s a _ (by simp) hn.out (Blk.drewN hS _) hs (by omega)).mono ?_
  rintro e w1 ⟨rfl, hb1⟩
  go_wp2_with fail
  refine (num_m_at s a n true _ hs hfit hn.out h7 HV.out).mono ?_
  rintro e w2 ⟨rfl, hb2⟩
  go_wp2_with fail
  go_ret3
  exact ⟨rfl, ((bl_drewN (Below.refl _ _) _).trans hb1).trans (hb2.mono hb1.size)⟩
theorem numb_p_false (g : Nat) (s : ByteArray) (a : Nat) (w : World) (hS : Scn w g s a) (hs : s.size ≤ 65536) (ha : a < s.size) (hc : (s[a] == 45) = false) (n : Nat) (hn : Hid (Lx.sp Lx.isDig ((tl s).drop a) = n)) (h0 : 0 < n) (hv : decide (Lx.dv (((tl s).drop a).take n) ≤ 2147483647) = false) : Calls Tryz.prog 29 #[.pointer (some ⟨g, 0, none⟩)] w fun e w' => e = .returned (t3 0 a 2) ∧ Below w.heap.size w w' := by
  have hfit := sp_fit hn.out (Nat.le_of_lt ha)
  have c0 : w.cell? ⟨g, 0, none⟩ = some (.string s) := hS.cell 0
  have c2 : w.cell? ⟨g, 257, none⟩ = some (.int .i64 (a : Int)) := (hS.cell _).trans (scnL_at s a)
  have h6 := s[a].toNat_lt
  have h7 : ((s[a].toNat : Int) == 45) = false := by simp at hc ⊢; intro h8; exact hc (UInt8.toNat_inj.1 (by have h9 : (45 : UInt8).toNat = 45 := rfl; omega))
  clear hc
  have HV := Lib.hid hv
  clear hv
  have e1 : (((a : Int) + n) == (a : Int)) = false := by simp; omega
  go_enter Tryz.func29, Tryz.ntmps29
  go_wp2_with fail
  go_quiet (fail)
  go_wp2_with fail
  refine (while_dg_n _ a n g s a _ rfl hn.out (Blk.drewN hS _) hs (by omega)).mono ?_
  rintro e w1 ⟨rfl, hb1⟩
  go_wp2_with fail
  refine (num_p_at s a n false _ hs h0 hfit hn.out h7 HV.out).mono ?_
  rintro e w2 ⟨rfl, hb2⟩
  go_wp2_with fail
  go_ret3
  exact ⟨rfl, ((bl_drewN (Below.refl _ _) _).trans hb1).trans (hb2.mono hb1.size)⟩
theorem numb_m_false (g : Nat) (s : ByteArray) (a : Nat) (w : World) (hS : Scn w g s a) (hs : s.size ≤ 65536) (ha : a < s.size) (hc : (s[a] == 45) = true) (n : Nat) (hn : Hid (Lx.sp Lx.isDig ((tl s).drop (a + 1)) = n)) (h0 : 0 < n) (hv : decide (Lx.dv (((tl s).drop (a + 1)).take n) ≤ 2147483648) = false) : Calls Tryz.prog 29 #[.pointer (some ⟨g, 0, none⟩)] w fun e w' => e = .returned (t3 0 a 2) ∧ Below w.heap.size w w' := by
  have hfit := sp_fit hn.out (show a + 1 ≤ s.size by omega)
  have c0 : w.cell? ⟨g, 0, none⟩ = some (.string s) := hS.cell 0
  have c2 : w.cell? ⟨g, 257, none⟩ = some (.int .i64 (a : Int)) := (hS.cell _).trans (scnL_at s a)
  have h6 := s[a].toNat_lt
  have h7 : ((s[a].toNat : Int) == 45) = true := by simp at hc ⊢; rw [hc]; rfl
  clear hc
  have HV := Lib.hid hv
  clear hv
  have e1 : (((a : Int) + 1 + n) == ((a : Int) + 1)) = false := by simp; omega
  go_enter Tryz.func29, Tryz.ntmps29
  go_wp2_with fail
  go_quiet (fail)
  go_wp2_with fail
  refine (while_dg_n _ (a + 1) n g s a _ (by simp) hn.out (Blk.drewN hS _) hs (by omega)).mono ?_
  rintro e w1 ⟨rfl, hb1⟩
  go_wp2_with fail
  refine (num_m_at s a n false _ hs hfit hn.out h7 HV.out).mono ?_
  rintro e w2 ⟨rfl, hb2⟩
  go_wp2_with fail
  go_ret3
  exact ⟨rfl, ((bl_drewN (Below.refl _ _) _).trans hb1).trans (hb2.mono hb1.size)⟩
theorem sign_at (g : Nat) (s : ByteArray) (a : Nat) (w : World) (hS : Scn w g s a) (hs : s.size ≤ 65536) (ha : a < s.size) (n : Nat) (hn : Lx.sg ((tl s).drop a) = n) (hb : n ≤ 2) : Calls Tryz.prog 30 #[.pointer (some ⟨g, 0, none⟩)] w fun e w' => e = .returned (t3 2 ((a : Int) + n) 0) ∧ Below w.heap.size w w' := by
  have c0 : w.cell? ⟨g, 0, none⟩ = some (.string s) := hS.cell 0
  have c2 : w.cell? ⟨g, 257, none⟩ = some (.int .i64 (a : Int)) := (hS.cell _).trans (scnL_at s a)
  have HN := Lib.hid hn
  clear hn
  go_enter Tryz.func30, Tryz.ntmps30
  go_wp2_with fail
  go_quiet ((go_at_call 79; exact Calls.quiet_of_same (sign_dr s a n _ HN.out)))
  go_wp2_with fail
  go_ret3
  exact ⟨rfl, bl_drewN (Below.refl _ _) _⟩
end Go.Proofs.YtminghdnclpocaaGreatDoor
