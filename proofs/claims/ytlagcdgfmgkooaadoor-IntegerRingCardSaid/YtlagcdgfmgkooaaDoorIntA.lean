import Derived.Test.YtlagcdgfmgkooaaDoorRef10
import Derived.Test.YtlagcdgfmgkooaaDoorDiv1
import Derived.Deep.RegionHeld3
/-
  Integers as values; walks over integer: made, Valid, both, From, Of, Neg, and dominoref02: Make, Valid, From, Of, Neg.
-/
namespace Go.Proofs.YtlagcdgfmgkooaaDoor
open Go.RowKit
set_option linter.unusedVariables false

def iV (z : Int) : Value := .agg #[.bool (decide (z < 0)), Sv (Dm.str z.natAbs)]
theorem iV_form (z : Int) : ∃ x y, iV z = .agg #[.bool x, .string y] := ⟨_, _, rfl⟩
def iL (z : Int) : List Value := [.bool (decide (z < 0)), Sv (Dm.str z.natAbs)]
def zOf (n : Bool) (l : List UInt8) : Int := if n then -(Dm.val l : Int) else Dm.val l
def zz (n : Bool) (m : Nat) : Int := if n then -(m : Int) else m
def validI (n : Bool) (l : List UInt8) : Bool := validB l && !(n && l.isEmpty)
def Fits (z : Int) : Prop := z.natAbs < 256 ^ 128
theorem iV_of {n : Bool} {s : ByteArray} (h : validI n (tl s) = true) : Value.agg #[.bool n, .string s] = iV (zOf n (tl s)) := by
  unfold validI at h
  rw [Bool.and_eq_true] at h
  obtain ⟨h1, h2⟩ := h
  have hc := validB_canon h1
  unfold iV zOf
  cases n with
  | false =>
    have e1 : ((Dm.val (tl s) : Int)).natAbs = Dm.val (tl s) := Int.natAbs_natCast _
    simp only [Bool.false_eq_true, if_false]
    rw [e1, Dm.str_val_canon hc, Sv, bs_tl]
    simp
  | true =>
    have hne : tl s ≠ [] := by simpa using h2
    have hpos : 0 < Dm.val (tl s) := by
      refine val_pos hc ?_
      rcases Nat.eq_zero_or_pos s.size with e | e
      · exact absurd (tl_empty e) hne
      · exact e
    have e1 : (-(Dm.val (tl s) : Int)).natAbs = Dm.val (tl s) := by rw [Int.natAbs_neg, Int.natAbs_natCast]
    simp only [if_true]
    rw [e1, Dm.str_val_canon hc, Sv, bs_tl]
    have : decide (-(Dm.val (tl s) : Int) < 0) = true := by simp; omega
    rw [this]
theorem fits_of {n : Bool} {s : ByteArray} (h : validI n (tl s) = true) : Fits (zOf n (tl s)) := by
  unfold validI at h
  rw [Bool.and_eq_true] at h
  have h1 := validB_size h.1
  have h2 := Dm.val_lt (tl s)
  rw [length_tl] at h2
  have h3 : Dm.val (tl s) < 256 ^ 128 := Nat.lt_of_lt_of_le h2 (Nat.pow_le_pow_right (by omega) h1)
  unfold Fits zOf
  cases n
  · simpa using h3
  · simpa using h3
theorem len_of {z : Int} (h : Fits z) : (Dm.str z.natAbs).length ≤ 128 := Dm.length_str_le.2 h
theorem size_of {z : Int} (h : Fits z) : (bs (Dm.str z.natAbs)).size ≤ 128 := by rw [size_bs]; exact len_of h
theorem valid_of {z : Int} (h : Fits z) : validB (Dm.str z.natAbs) = true := validB_short' (len_of h)
theorem str_nil {n : Nat} : Dm.str n = [] ↔ n = 0 := ⟨fun h => by rw [← Dm.val_str n, h]; rfl, fun h => by rw [h]; rfl⟩
theorem str_list (n : Nat) : ((bs (Dm.str n)).toList = [] ↔ n = 0) ∧ ((bs (Dm.str n)).toList.isEmpty = decide (n = 0)) := by
  rw [toList_tl, tl_bs]
  refine ⟨str_nil, ?_⟩
  rw [Bool.eq_iff_iff]
  simp [str_nil]
theorem str_zero {n : Nat} (h : n = 0) : (bs (Dm.str n)).toList = [] ∧ (bs (Dm.str n)).toList.isEmpty = true := ⟨(str_list n).1.2 h, by rw [(str_list n).2]; simpa using h⟩
theorem str_pos {n : Nat} (h : n ≠ 0) : ¬ (bs (Dm.str n)).toList = [] ∧ (bs (Dm.str n)).toList.isEmpty = false := ⟨fun e => h ((str_list n).1.1 e), by rw [(str_list n).2]; simpa using h⟩

set_option maxHeartbeats 400000 in
theorem made_any (n : Bool) (m : Nat) (w : World) :
    Calls Tryd.prog 50 #[.bool n, Sv (Dm.str m)] w fun e w' => e = .returned (iV (zz n m)) ∧ Below w.heap.size w w' := by
  have hbw : Below w.heap.size w (w.alloc (.cells #[.bool false, .string ⟨#[]⟩] 24)) := (Below.refl _ _).alloc (Nat.le_refl _) _
  cases n with
  | false =>
    have HV : Hid (iV (zz false m) = .agg #[.bool false, Sv (Dm.str m)]) := by show _ = _; simp [iV, zz]
    go_enter Tryd.func50, Tryd.ntmps50
    go_wp2_with fail
    refine bodyPost_ret (v := .agg #[.bool false, Sv (Dm.str m)]) (by simp [results, Tryd.results50, go_sem]) rfl ⟨by rw [HV.out], ?_⟩
    exact (Below.refl _ _).alloc (Nat.le_refl _) _
  | true =>
    by_cases hm : m = 0
    · subst hm
      obtain ⟨h1, h2⟩ := str_zero (n := 0) rfl
      go_enter Tryd.func50, Tryd.ntmps50
      go_wp2_with fail
      refine bodyPost_ret (v := .agg #[.bool false, Sv (Dm.str 0)]) (by simp [results, Tryd.results50, go_sem]) rfl ⟨rfl, ?_⟩
      exact (Below.refl _ _).alloc (Nat.le_refl _) _
    · obtain ⟨h1, h2⟩ := str_pos hm
      have HV : Hid (iV (zz true m) = .agg #[.bool true, Sv (Dm.str m)]) := by
        show _ = _
        simp [iV, zz]
        omega
      go_enter Tryd.func50, Tryd.ntmps50
      go_wp2_with fail
      refine bodyPost_ret (v := .agg #[.bool true, Sv (Dm.str m)]) (by simp [results, Tryd.results50, go_sem]) rfl ⟨by rw [HV.out], ?_⟩
      exact (Below.refl _ _).alloc (Nat.le_refl _) _
theorem made_at (n : Bool) (m : Nat) (z : Int) (w : World) (hz : zz n m = z) :
    Calls Tryd.prog 50 #[.bool n, Sv (Dm.str m)] w fun e w' => e = .returned (iV z) ∧ Below w.heap.size w w' := by
  rw [← hz]; exact made_any n m w

/-- the boxes of one integer, and of a result -/
structure I2 (w : World) (a0 a1 c0 c1 : Value) (W : World) : Prop where
  A : Blk W w.heap.size 24 [a0, a1]
  C : Blk W (w.heap.size + 1) 24 [c0, c1]
  below : Below w.heap.size w W
theorem I2.start (w : World) (a0 a1 c0 c1 : Value) : I2 w a0 a1 c0 c1 ((w.alloc (.cells #[a0, a1] 24)).alloc (.cells #[c0, c1] 24)) := by
  refine ⟨(Blk.new w _ [a0, a1]).alloc _, ?_, ((Below.refl _ _).alloc (Nat.le_refl _) _).alloc (by simp) _⟩
  have := Blk.new (w.alloc (.cells #[a0, a1] 24)) 24 [c0, c1]
  simpa using this
theorem I2.next {w : World} {a0 a1 c0 c1 : Value} {W W' : World} (h : I2 w a0 a1 c0 c1 W) (hb : Below W.heap.size W W') : I2 w a0 a1 c0 c1 W' :=
  ⟨h.A.below hb h.A.lt, h.C.below hb h.C.lt, h.below.trans (hb.mono h.below.size)⟩
theorem I2.cells {w : World} {a0 a1 c0 c1 : Value} {W : World} (h : I2 w a0 a1 c0 c1 W) : W.cell? ⟨w.heap.size, 0, none⟩ = some a0 ∧ W.cell? ⟨w.heap.size, 1, none⟩ = some a1 ∧ W.cell? ⟨w.heap.size + 1, 0, none⟩ = some c0 ∧ W.cell? ⟨w.heap.size + 1, 1, none⟩ = some c1 ∧ W.frozen? ⟨w.heap.size + 1, 0, none⟩ = false ∧ W.frozen? ⟨w.heap.size + 1, 1, none⟩ = false :=
  ⟨h.A.cell 0, h.A.cell 1, h.C.cell 0, h.C.cell 1, h.C.frozen 0, h.C.frozen 1⟩
/-- the boxes of two integers, and of a result -/
structure I3 (w : World) (a0 a1 b0 b1 c0 c1 : Value) (W : World) : Prop where
  A : Blk W w.heap.size 24 [a0, a1]
  B : Blk W (w.heap.size + 1) 24 [b0, b1]
  C : Blk W (w.heap.size + 1 + 1) 24 [c0, c1]
  below : Below w.heap.size w W
theorem I3.start (w : World) (a0 a1 b0 b1 c0 c1 : Value) : I3 w a0 a1 b0 b1 c0 c1 (((w.alloc (.cells #[a0, a1] 24)).alloc (.cells #[b0, b1] 24)).alloc (.cells #[c0, c1] 24)) := by
  refine ⟨((Blk.new w _ [a0, a1]).alloc _).alloc _, ?_, ?_, (((Below.refl _ _).alloc (Nat.le_refl _) _).alloc (by simp) _).alloc (by simp; omega) _⟩
  · have := (Blk.new (w.alloc (.cells #[a0, a1] 24)) 24 [b0, b1]).alloc (.cells #[c0, c1] 24)
    simpa using this
  · have := Blk.new ((w.alloc (.cells #[a0, a1] 24)).alloc (.cells #[b0, b1] 24)) 24 [c0, c1]
    simpa using this
theorem I3.next {w : World} {a0 a1 b0 b1 c0 c1 : Value} {W W' : World} (h : I3 w a0 a1 b0 b1 c0 c1 W) (hb : Below W.heap.size W W') : I3 w a0 a1 b0 b1 c0 c1 W' :=
  ⟨h.A.below hb h.A.lt, h.B.below hb h.B.lt, h.C.below hb h.C.lt, h.below.trans (hb.mono h.below.size)⟩
theorem I3.cells {w : World} {a0 a1 b0 b1 c0 c1 : Value} {W : World} (h : I3 w a0 a1 b0 b1 c0 c1 W) : W.cell? ⟨w.heap.size, 0, none⟩ = some a0 ∧ W.cell? ⟨w.heap.size, 1, none⟩ = some a1 ∧ W.cell? ⟨w.heap.size + 1, 0, none⟩ = some b0 ∧ W.cell? ⟨w.heap.size + 1, 1, none⟩ = some b1 ∧ W.cell? ⟨w.heap.size + 1 + 1, 0, none⟩ = some c0 ∧ W.cell? ⟨w.heap.size + 1 + 1, 1, none⟩ = some c1 ∧ W.frozen? ⟨w.heap.size + 1 + 1, 0, none⟩ = false ∧ W.frozen? ⟨w.heap.size + 1 + 1, 1, none⟩ = false :=
  ⟨h.A.cell 0, h.A.cell 1, h.B.cell 0, h.B.cell 1, h.C.cell 0, h.C.cell 1, h.C.frozen 0, h.C.frozen 1⟩
theorem I3.free {w : World} {a0 a1 b0 b1 c0 c1 : Value} {W : World} (h : I3 w a0 a1 b0 b1 c0 c1 W) : W.frozen? ⟨w.heap.size, 0, none⟩ = false ∧ W.frozen? ⟨w.heap.size, 1, none⟩ = false ∧ W.frozen? ⟨w.heap.size + 1, 0, none⟩ = false ∧ W.frozen? ⟨w.heap.size + 1, 1, none⟩ = false :=
  ⟨h.A.frozen 0, h.A.frozen 1, h.B.frozen 0, h.B.frozen 1⟩
theorem I3.swap {w : World} {a0 a1 b0 b1 c0 c1 : Value} {W : World} (h : I3 w a0 a1 b0 b1 c0 c1 W) : I3 w b0 b1 a0 a1 c0 c1 ((((W.setCell ⟨w.heap.size, 0, none⟩ b0).setCell ⟨w.heap.size, 1, none⟩ b1).setCell ⟨w.heap.size + 1, 0, none⟩ a0).setCell ⟨w.heap.size + 1, 1, none⟩ a1) :=
  ⟨(((h.A.set_ 0 b0).set_ 1 b1).far (by simp) _).far (by simp) _, ((((h.B.far (by simp) _).far (by simp) _).set_ 0 a0).set_ 1 a1), (((h.C.far (by simp; omega) _).far (by simp; omega) _).far (by simp) _).far (by simp) _,
    (((h.below.setCell (Nat.le_refl _) _).setCell (Nat.le_refl _) _).setCell (by simp) _).setCell (by simp) _⟩
theorem isE {s : ByteArray} : s.toList.isEmpty = (tl s).isEmpty := by rw [toList_tl]
set_option maxHeartbeats 400000 in
theorem iValid_any (n : Bool) (s : ByteArray) (w : World) (hl : s.size ≤ 1073741824) :
    Calls Tryd.prog 32 #[.agg #[.bool n, .string s]] w fun e w' => e = .returned (.bool (validI n (tl s))) ∧ Below w.heap.size w w' := by
  cases hv : validB (tl s) with
  | false =>
    have HV := Lib.hid hv
    clear hv
    go_enter Tryd.func32, Tryd.ntmps32
    go_wp2_with fail
    refine (valid_at s false _ hl HV.out).mono ?_
    rintro e w1 ⟨rfl, rfl⟩
    go_wp2_with fail
    go_ret
    exact ⟨by rw [validI, HV.out]; rfl, (Below.refl _ _).alloc (Nat.le_refl _) _⟩
  | true =>
    have HV := Lib.hid hv
    clear hv
    have hcs : n = false ∨ (n = true ∧ s.size = 0) ∨ (n = true ∧ 0 < s.size) := by
      cases n
      · exact .inl rfl
      · rcases Nat.eq_zero_or_pos s.size with h | h
        · exact .inr (.inl ⟨rfl, h⟩)
        · exact .inr (.inr ⟨rfl, h⟩)
    rcases hcs with rfl | ⟨rfl, h⟩ | ⟨rfl, h⟩
    · go_enter Tryd.func32, Tryd.ntmps32
      go_wp2_with fail
      refine (valid_at s true _ hl HV.out).mono ?_
      rintro e w1 ⟨rfl, rfl⟩
      go_wp2_with fail
      go_ret
      exact ⟨by rw [validI, HV.out]; rfl, (Below.refl _ _).alloc (Nat.le_refl _) _⟩
    · obtain ⟨h1, h2⟩ := str_empty h
      have HE : Hid ((tl s).isEmpty = true) := by show _ = _; rw [tl_empty h]; rfl
      clear h
      go_enter Tryd.func32, Tryd.ntmps32
      go_wp2_with fail
      refine (valid_at s true _ hl HV.out).mono ?_
      rintro e w1 ⟨rfl, rfl⟩
      go_wp2_with fail
      go_ret
      exact ⟨by rw [validI, HV.out, HE.out]; rfl, (Below.refl _ _).alloc (Nat.le_refl _) _⟩
    · obtain ⟨h1, h2⟩ := str_full h
      have HE : Hid ((tl s).isEmpty = false) := by show _ = _; rw [← isE]; exact h1
      clear h
      go_enter Tryd.func32, Tryd.ntmps32
      go_wp2_with fail
      refine (valid_at s true _ hl HV.out).mono ?_
      rintro e w1 ⟨rfl, rfl⟩
      go_wp2_with fail
      go_ret
      exact ⟨by rw [validI, HV.out, HE.out]; rfl, (Below.refl _ _).alloc (Nat.le_refl _) _⟩
theorem iValid_at (n : Bool) (s : ByteArray) (v : Bool) (w : World) (hl : s.size ≤ 1073741824) (hv : validI n (tl s) = v) :
    Calls Tryd.prog 32 #[.agg #[.bool n, .string s]] w fun e w' => e = .returned (.bool v) ∧ Below w.heap.size w w' := by
  rw [← hv]; exact iValid_any n s w hl
set_option maxHeartbeats 400000 in
theorem both_at (n m : Bool) (s t : ByteArray) (v : Bool) (w : World) (hl : s.size ≤ 1073741824) (hl2 : t.size ≤ 1073741824) (hv : (validI n (tl s) && validI m (tl t)) = v) :
    Calls Tryd.prog 48 #[.agg #[.bool n, .string s], .agg #[.bool m, .string t]] w fun e w' => e = .returned (.bool v) ∧ Below w.heap.size w w' := by
  have hk := ((Kp.start w).new 24 [.bool n, .string s]).new 24 [.bool m, .string t]
  cases h1 : validI n (tl s) with
  | false =>
    have HV := Lib.hid h1
    rw [h1] at hv
    have hv2 : v = false := by rw [← hv]; rfl
    subst hv2
    clear h1 hv
    go_enter Tryd.func48, Tryd.ntmps48
    go_wp2_with fail
    refine (iValid_at n s false _ hl HV.out).mono ?_
    rintro e w1 ⟨rfl, hb1⟩
    have hk1 := hk.next hb1
    go_wp2_with fail
    go_ret
    exact ⟨rfl, hk1.below⟩
  | true =>
    have HV := Lib.hid h1
    rw [h1, Bool.true_and] at hv
    have HV2 := Lib.hid hv
    clear h1 hv
    go_enter Tryd.func48, Tryd.ntmps48
    go_wp2_with fail
    refine (iValid_at n s true _ hl HV.out).mono ?_
    rintro e w1 ⟨rfl, hb1⟩
    have hk1 := hk.next hb1
    have c0 : w1.cell? ⟨w.heap.size + 1, 0, none⟩ = some (.bool m) := by have := (hk1.blk _ (List.mem_cons_self ..)).cell 0; simpa using this
    have c1 : w1.cell? ⟨w.heap.size + 1, 1, none⟩ = some (.string t) := by have := (hk1.blk _ (List.mem_cons_self ..)).cell 1; simpa using this
    go_wp2_with fail
    refine (iValid_at m t v _ hl2 HV2.out).mono ?_
    rintro e w2 ⟨rfl, hb2⟩
    have hk2 := hk1.next hb2
    go_wp2_with fail
    go_ret
    exact ⟨rfl, hk2.below⟩
end Go.Proofs.YtlagcdgfmgkooaaDoor

/-
  Walks over integer: From, Of, Neg, Cmp, Add, Sub, Mul.
-/
namespace Go.Proofs.YtlagcdgfmgkooaaDoor
open Go.RowKit
set_option linter.unusedVariables false

def fitI (z : Int) : Value := if z.natAbs < 256 ^ 128 then .tuple #[iV z, .int .i64 0] else .tuple #[iV 0, .int .i64 5]
structure Nm (n : Bool) (m : Nat) : Prop where
  ne : n = true → m ≠ 0
  lt : m < 256 ^ 128
theorem Nm.str {n : Bool} {m : Nat} (h : Nm n m) : (bs (Dm.str m)).size ≤ 128 := by rw [size_bs]; exact Dm.length_str_le.2 h.lt
theorem Nm.vB {n : Bool} {m : Nat} (h : Nm n m) : validB (Dm.str m) = true := validB_short' (Dm.length_str_le.2 h.lt)
theorem Nm.vI {n : Bool} {m : Nat} (h : Nm n m) : validI n (tl (bs (Dm.str m))) = true := by
  rw [tl_bs, validI, h.vB]
  cases n
  · rfl
  · have := h.ne rfl
    have h2 : (Dm.str m).isEmpty = false := by
      have := (str_pos this).2
      rwa [isE, tl_bs] at this
    rw [h2]; rfl
theorem iV_zz {n : Bool} {m : Nat} (h : n = true → m ≠ 0) : iV (zz n m) = .agg #[.bool n, Sv (Dm.str m)] := by
  unfold iV zz
  cases n
  · simp
  · have := h rfl
    simp
    omega
theorem nm_of (z : Int) (h : Fits z) : Nm (decide (z < 0)) z.natAbs := ⟨fun h1 => by simp at h1; omega, h⟩
theorem zz_of (z : Int) : zz (decide (z < 0)) z.natAbs = z := by
  unfold zz
  by_cases h : z < 0
  · simp [h]; omega
  · simp [h]; omega
theorem both_nm {n k : Bool} {m l : Nat} (h1 : Nm n m) (h2 : Nm k l) (w : World) :
    Calls Tryd.prog 48 #[.agg #[.bool n, Sv (Dm.str m)], .agg #[.bool k, Sv (Dm.str l)]] w fun e w' => e = .returned (.bool true) ∧ Below w.heap.size w w' :=
  both_at n k (bs (Dm.str m)) (bs (Dm.str l)) true w (by have := h1.str; omega) (by have := h2.str; omega) (by rw [h1.vI, h2.vI]; rfl)
theorem iValid_nm {n : Bool} {m : Nat} (h1 : Nm n m) (w : World) :
    Calls Tryd.prog 32 #[.agg #[.bool n, Sv (Dm.str m)]] w fun e w' => e = .returned (.bool true) ∧ Below w.heap.size w w' :=
  iValid_at n (bs (Dm.str m)) true w (by have := h1.str; omega) h1.vI
/-- what natural.Add gives -/
theorem nAdd (m l : Nat) (hm : m < 256 ^ 128) (hl : l < 256 ^ 128) (w : World) :
    Calls Tryd.prog 49 #[Sv (Dm.str m), Sv (Dm.str l)] w fun e w' => e = .returned (if m + l < 256 ^ 128 then .tuple #[Sv (Dm.str (m + l)), .int .i64 0] else .tuple #[Sv (Dm.str 0), .int .i64 5]) ∧ Below w.heap.size w w' := by
  have s1 : (bs (Dm.str m)).size ≤ 128 := by rw [size_bs]; exact Dm.length_str_le.2 hm
  have s2 : (bs (Dm.str l)).size ≤ 128 := by rw [size_bs]; exact Dm.length_str_le.2 hl
  refine (Add_any _ _ w (by omega) (by omega)).mono fun e w' ⟨he, hw⟩ => ⟨?_, hw⟩
  rw [he, tl_bs, tl_bs, addV, validB_short' (Dm.length_str_le.2 hm), validB_short' (Dm.length_str_le.2 hl), if_pos (show (true && true) = true from rfl), Dm.val_str, Dm.val_str, fitV]
  by_cases h : m + l < 256 ^ 128
  · rw [if_pos h, if_pos (Dm.length_str_le.2 h)]
  · rw [if_neg h, if_neg (fun h2 => h (Dm.length_str_le.1 h2))]; rfl
theorem nMul (m l : Nat) (hm : m < 256 ^ 128) (hl : l < 256 ^ 128) (w : World) :
    Calls Tryd.prog 56 #[Sv (Dm.str m), Sv (Dm.str l)] w fun e w' => e = .returned (if m * l < 256 ^ 128 then .tuple #[Sv (Dm.str (m * l)), .int .i64 0] else .tuple #[Sv (Dm.str 0), .int .i64 5]) ∧ Below w.heap.size w w' := by
  have s1 : (bs (Dm.str m)).size ≤ 128 := by rw [size_bs]; exact Dm.length_str_le.2 hm
  have s2 : (bs (Dm.str l)).size ≤ 128 := by rw [size_bs]; exact Dm.length_str_le.2 hl
  refine (Mul_any _ _ w (by omega) (by omega)).mono fun e w' ⟨he, hw⟩ => ⟨?_, hw⟩
  rw [he, tl_bs, tl_bs, mulV, validB_short' (Dm.length_str_le.2 hm), validB_short' (Dm.length_str_le.2 hl), if_pos (show (true && true) = true from rfl), Dm.val_str, Dm.val_str, fitV]
  by_cases h : m * l < 256 ^ 128
  · rw [if_pos h, if_pos (Dm.length_str_le.2 h)]
  · rw [if_neg h, if_neg (fun h2 => h (Dm.length_str_le.1 h2))]; rfl
theorem nSub (m l : Nat) (hm : m < 256 ^ 128) (hl : l ≤ m) (w : World) :
    Calls Tryd.prog 51 #[Sv (Dm.str m), Sv (Dm.str l)] w fun e w' => e = .returned (.tuple #[Sv (Dm.str (m - l)), .int .i64 0]) ∧ Below w.heap.size w w' := by
  have hl2 : l < 256 ^ 128 := by omega
  have s1 : (bs (Dm.str m)).size ≤ 128 := by rw [size_bs]; exact Dm.length_str_le.2 hm
  have s2 : (bs (Dm.str l)).size ≤ 128 := by rw [size_bs]; exact Dm.length_str_le.2 hl2
  refine (Sub_any _ _ w (by omega) (by omega)).mono fun e w' ⟨he, hw⟩ => ⟨?_, hw⟩
  rw [he, tl_bs, tl_bs, subV, validB_short' (Dm.length_str_le.2 hm), validB_short' (Dm.length_str_le.2 hl2), if_pos (show (true && true) = true from rfl), Dm.val_str, Dm.val_str, if_neg (by omega)]
theorem nCmp (m l : Nat) (hm : m < 256 ^ 128) (hl : l < 256 ^ 128) (w : World) :
    Calls Tryd.prog 25 #[Sv (Dm.str m), Sv (Dm.str l)] w fun e w' => e = .returned (.int .i64 (Dm.cmpN m l)) ∧ w = w' := by
  have s1 : (bs (Dm.str m)).size ≤ 128 := by rw [size_bs]; exact Dm.length_str_le.2 hm
  have s2 : (bs (Dm.str l)).size ≤ 128 := by rw [size_bs]; exact Dm.length_str_le.2 hl
  refine (Cmp_any _ _ w (by omega) (by omega)).mono fun e w' ⟨he, hw⟩ => ⟨?_, hw⟩
  rw [he, tl_bs, tl_bs, cmpV, validB_short' (Dm.length_str_le.2 hm), validB_short' (Dm.length_str_le.2 hl), Dm.val_str, Dm.val_str]; rfl
theorem nDiv (m l : Nat) (hm : m < 256 ^ 128) (hl : l < 256 ^ 128) (h0 : l ≠ 0) (w : World) :
    Calls Tryd.prog 24 #[Sv (Dm.str m), Sv (Dm.str l)] w fun e w' => e = .returned (.tuple #[Sv (Dm.str (m / l)), Sv (Dm.str (m % l)), .int .i64 0]) ∧ Below w.heap.size w w' := by
  have s1 : (bs (Dm.str m)).size ≤ 128 := by rw [size_bs]; exact Dm.length_str_le.2 hm
  have s2 : (bs (Dm.str l)).size ≤ 128 := by rw [size_bs]; exact Dm.length_str_le.2 hl
  refine (DivMod_any 128 div128 _ _ w (by omega) (by omega) (.inl s1)).mono fun e w' ⟨he, hw⟩ => ⟨?_, hw⟩
  rw [he, tl_bs, tl_bs, dmV, validB_short' (Dm.length_str_le.2 hm), validB_short' (Dm.length_str_le.2 hl), if_pos (show (true && true) = true from rfl), Dm.val_str, Dm.val_str, if_neg h0]
def intE : Value := .agg #[.bool false, .string ⟨#[]⟩]
theorem intE_eq : iV 0 = intE := rfl
theorem fitI_form (z : Int) : ∃ x y e, fitI z = .tuple #[.agg #[.bool x, .string y], .int .i64 e] := by
  unfold fitI; split
  · exact ⟨_, _, _, rfl⟩
  · exact ⟨_, _, _, rfl⟩
theorem zz_abs (n : Bool) (m : Nat) : (zz n m).natAbs = m := by cases n <;> simp [zz]
theorem zz_mul (n k : Bool) (m l : Nat) : zz n m * zz k l = zz (n != k) (m * l) := by
  cases n <;> cases k <;> simp [zz, Int.natCast_mul, Int.mul_neg, Int.neg_mul]
theorem cmpN_ge2 {m l : Nat} (h : ¬ m < l) : ¬ Dm.cmpN m l < 0 := fun h2 => h (Dm.cmpN_neg.1 h2)
theorem I3.drew {w : World} {a0 a1 b0 b1 c0 c1 : Value} {W : World} (h : I3 w a0 a1 b0 b1 c0 c1 W) : I3 w a0 a1 b0 b1 c0 c1 W.drew := ⟨h.A.drew, h.B.drew, h.C.drew, h.below.drew⟩
theorem I3.ab {w : World} {a0 a1 b0 b1 c0 c1 : Value} {W : World} (h : I3 w a0 a1 b0 b1 c0 c1 W) : (W.cell? ⟨w.heap.size, 0, none⟩ = some a0 ∧ W.cell? ⟨w.heap.size, 1, none⟩ = some a1) ∧ W.cell? ⟨w.heap.size + 1, 0, none⟩ = some b0 ∧ W.cell? ⟨w.heap.size + 1, 1, none⟩ = some b1 := ⟨⟨h.A.cell 0, h.A.cell 1⟩, h.B.cell 0, h.B.cell 1⟩
theorem I3.ab' {w : World} {a0 a1 b0 b1 c0 c1 : Value} {W : World} {u v : Value} (h : I3 w a0 a1 b0 b1 c0 c1 W) : (((W.setCell ⟨w.heap.size + 1 + 1, 0, none⟩ u).setCell ⟨w.heap.size + 1 + 1, 1, none⟩ v).cell? ⟨w.heap.size, 0, none⟩ = some a0 ∧ ((W.setCell ⟨w.heap.size + 1 + 1, 0, none⟩ u).setCell ⟨w.heap.size + 1 + 1, 1, none⟩ v).cell? ⟨w.heap.size, 1, none⟩ = some a1) ∧ ((W.setCell ⟨w.heap.size + 1 + 1, 0, none⟩ u).setCell ⟨w.heap.size + 1 + 1, 1, none⟩ v).cell? ⟨w.heap.size + 1, 0, none⟩ = some b0 ∧ ((W.setCell ⟨w.heap.size + 1 + 1, 0, none⟩ u).setCell ⟨w.heap.size + 1 + 1, 1, none⟩ v).cell? ⟨w.heap.size + 1, 1, none⟩ = some b1 :=
  have hA := (h.A.far (p := ⟨w.heap.size + 1 + 1, 0, none⟩) (by simp; omega) u).far (p := ⟨w.heap.size + 1 + 1, 1, none⟩) (by simp; omega) v
  have hB := (h.B.far (p := ⟨w.heap.size + 1 + 1, 0, none⟩) (by simp) u).far (p := ⟨w.heap.size + 1 + 1, 1, none⟩) (by simp) v
  ⟨⟨hA.cell 0, hA.cell 1⟩, hB.cell 0, hB.cell 1⟩
set_option maxHeartbeats 1000000 in
theorem iAdd_nm {n k : Bool} {m l : Nat} (h1 : Nm n m) (h2 : Nm k l) (w : World) :
    Calls Tryd.prog 14 #[.agg #[.bool n, Sv (Dm.str m)], .agg #[.bool k, Sv (Dm.str l)]] w fun e w' => e = .returned (fitI (zz n m + zz k l)) ∧ Below w.heap.size w w' := by
  have hi := I3.start w (.bool n) (Sv (Dm.str m)) (.bool k) (Sv (Dm.str l)) (.bool false) (.string ⟨#[]⟩)
  by_cases hnk : n = k
  · subst hnk
    have hnn : (n == n) = true := by simp
    go_enter Tryd.func14, Tryd.ntmps14
    go_wp2_with fail
    refine (both_nm h1 h2 _).mono ?_
    rintro e w1 ⟨rfl, hb1⟩
    have hi1 := hi.next hb1
    obtain ⟨a0, a1, b0, b1, c0, c1, f0, f1⟩ := hi1.cells
    clear hi hb1
    go_wp2_with fail
    refine (nAdd m l h1.lt h2.lt _).mono ?_
    rintro e w2 ⟨rfl, hb2⟩
    have hi2 := hi1.next hb2
    clear a0 a1 b0 b1 c0 c1 f0 f1 hi1 hb2
    obtain ⟨a0, a1, b0, b1, c0, c1, f0, f1⟩ := hi2.cells
    by_cases hf : m + l < 256 ^ 128
    · rw [if_pos hf]
      have HV : Hid (fitI (zz n m + zz n l) = .tuple #[iV (zz n (m + l)), .int .i64 0]) := by
        show _ = _
        have e : zz n m + zz n l = zz n (m + l) := by cases n <;> simp [zz] <;> omega
        have e2 : (zz n (m + l)).natAbs = m + l := by cases n <;> simp [zz] <;> omega
        rw [e, fitI, if_pos (by rw [e2]; exact hf)]
      obtain ⟨x, y, hx⟩ := iV_form (zz n (m + l))
      have HX := Lib.hid hx
      clear hx
      go_wp2_with fail
      refine (made_at n (m + l) (zz n (m + l)) _ rfl).mono ?_
      rintro e w3 ⟨rfl, hb3⟩
      rw [HX.out]
      have hi3 := hi2.next hb3
      clear a0 a1 b0 b1 c0 c1 f0 f1 hi2 hb3
      obtain ⟨a0, a1, b0, b1, c0, c1, f0, f1⟩ := hi3.cells
      go_wp2_with fail
      refine bodyPost_ret (v := .tuple #[.agg #[.bool x, .string y], .int .i64 0]) (by simp [results, Tryd.results14, go_sem, c0, c1]) rfl ⟨by rw [HV.out, HX.out], ?_⟩
      exact (hi3.below.setCell (by simp; omega) _).setCell (by simp; omega) _
    · rw [if_neg hf]
      have HV : Hid (fitI (zz n m + zz n l) = .tuple #[iV (zz n 0), .int .i64 5]) := by
        show _ = _
        have e : zz n m + zz n l = zz n (m + l) := by cases n <;> simp [zz] <;> omega
        have e2 : (zz n (m + l)).natAbs = m + l := by cases n <;> simp [zz] <;> omega
        have e3 : zz n 0 = 0 := by cases n <;> rfl
        rw [e, fitI, if_neg (by rw [e2]; exact hf), e3]
      obtain ⟨x, y, hx⟩ := iV_form (zz n 0)
      have HX := Lib.hid hx
      clear hx
      go_wp2_with fail
      refine (made_at n 0 (zz n 0) _ rfl).mono ?_
      rintro e w3 ⟨rfl, hb3⟩
      rw [HX.out]
      have hi3 := hi2.next hb3
      clear a0 a1 b0 b1 c0 c1 f0 f1 hi2 hb3
      obtain ⟨a0, a1, b0, b1, c0, c1, f0, f1⟩ := hi3.cells
      go_wp2_with fail
      refine bodyPost_ret (v := .tuple #[.agg #[.bool x, .string y], .int .i64 5]) (by simp [results, Tryd.results14, go_sem, c0, c1]) rfl ⟨by rw [HV.out, HX.out], ?_⟩
      exact (hi3.below.setCell (by simp; omega) _).setCell (by simp; omega) _
  · have hnn : (n == k) = false := by simpa using hnk
    have hC := fun W : World => nCmp m l h1.lt h2.lt W
    by_cases hlt : m < l
    · have hcv := Dm.cmpN_lt hlt
      have HV : Hid (fitI (zz n m + zz k l) = .tuple #[iV (zz k (l - m)), .int .i64 0]) := by
        show _ = _
        have e : zz n m + zz k l = zz k (l - m) := by cases n <;> cases k <;> simp [zz] at hnk ⊢ <;> omega
        have e2 : (zz k (l - m)).natAbs = l - m := by cases k <;> simp [zz] <;> omega
        rw [e, fitI, if_pos (by rw [e2]; have := h2.lt; omega)]
      rw [hcv] at hC
      have HC := Lib.hid hC
      clear hC hcv
      go_enter Tryd.func14, Tryd.ntmps14
      go_wp2_with fail
      refine (both_nm h1 h2 _).mono ?_
      rintro e w1 ⟨rfl, hb1⟩
      have hi1 := hi.next hb1
      obtain ⟨a0, a1, b0, b1, c0, c1, f0, f1⟩ := hi1.cells
      clear hi hb1
      go_wp2_with fail
      refine (HC.out _).mono ?_
      rintro e w' ⟨rfl, rfl⟩
      obtain ⟨f2, f3, f4, f5⟩ := hi1.free
      go_wp2_with fail
      have hi2 := hi1.swap
      clear a0 a1 b0 b1 c0 c1 f0 f1 f2 f3 f4 f5 hi1
      generalize (((w1.setCell ⟨w.heap.size, 0, none⟩ (.bool k)).setCell ⟨w.heap.size, 1, none⟩ (Sv (Dm.str l))).setCell ⟨w.heap.size + 1, 0, none⟩ (.bool n)).setCell ⟨w.heap.size + 1, 1, none⟩ (Sv (Dm.str m)) = W2 at *
      refine (nSub l m h2.lt (by omega) _).mono ?_
      rintro e w3 ⟨rfl, hb3⟩
      have hi3 := hi2.next hb3
      clear hi2 hb3
      obtain ⟨a0, a1, b0, b1, c0, c1, f0, f1⟩ := hi3.cells
      obtain ⟨x, y, hx⟩ := iV_form (zz k (l - m))
      have HX := Lib.hid hx
      clear hx
      go_wp2_with fail
      refine (made_at k (l - m) (zz k (l - m)) _ rfl).mono ?_
      rintro e w4 ⟨rfl, hb4⟩
      rw [HX.out]
      have hi4 := hi3.next hb4
      clear a0 a1 b0 b1 c0 c1 f0 f1 hi3 hb4
      obtain ⟨a0, a1, b0, b1, c0, c1, f0, f1⟩ := hi4.cells
      go_wp2_with fail
      refine bodyPost_ret (v := .tuple #[.agg #[.bool x, .string y], .int .i64 0]) (by simp [results, Tryd.results14, go_sem, c0, c1]) rfl ⟨by rw [HV.out, HX.out], ?_⟩
      exact (hi4.below.setCell (by simp; omega) _).setCell (by simp; omega) _
    · have hcv := cmpN_ge2 hlt
      have HV : Hid (fitI (zz n m + zz k l) = .tuple #[iV (zz n (m - l)), .int .i64 0]) := by
        show _ = _
        have e : zz n m + zz k l = zz n (m - l) := by cases n <;> cases k <;> simp [zz] at hnk ⊢ <;> omega
        have e2 : (zz n (m - l)).natAbs = m - l := by cases n <;> simp [zz] <;> omega
        rw [e, fitI, if_pos (by rw [e2]; have := h1.lt; omega)]
      generalize Dm.cmpN m l = cv at *
      have HC := Lib.hid hC
      clear hC
      go_enter Tryd.func14, Tryd.ntmps14
      go_wp2_with fail
      refine (both_nm h1 h2 _).mono ?_
      rintro e w1 ⟨rfl, hb1⟩
      have hi1 := hi.next hb1
      obtain ⟨a0, a1, b0, b1, c0, c1, f0, f1⟩ := hi1.cells
      clear hi hb1
      go_wp2_with fail
      refine (HC.out _).mono ?_
      rintro e w' ⟨rfl, rfl⟩
      go_wp2_with fail
      have hi2 := hi1
      clear a0 a1 b0 b1 c0 c1 f0 f1 hi1
      refine (nSub m l h1.lt (by omega) _).mono ?_
      rintro e w3 ⟨rfl, hb3⟩
      have hi3 := hi2.next hb3
      clear hi2 hb3
      obtain ⟨a0, a1, b0, b1, c0, c1, f0, f1⟩ := hi3.cells
      obtain ⟨x, y, hx⟩ := iV_form (zz n (m - l))
      have HX := Lib.hid hx
      clear hx
      go_wp2_with fail
      refine (made_at n (m - l) (zz n (m - l)) _ rfl).mono ?_
      rintro e w4 ⟨rfl, hb4⟩
      rw [HX.out]
      have hi4 := hi3.next hb4
      clear a0 a1 b0 b1 c0 c1 f0 f1 hi3 hb4
      obtain ⟨a0, a1, b0, b1, c0, c1, f0, f1⟩ := hi4.cells
      go_wp2_with fail
      refine bodyPost_ret (v := .tuple #[.agg #[.bool x, .string y], .int .i64 0]) (by simp [results, Tryd.results14, go_sem, c0, c1]) rfl ⟨by rw [HV.out, HX.out], ?_⟩
      exact (hi4.below.setCell (by simp; omega) _).setCell (by simp; omega) _
set_option maxHeartbeats 1000000 in
theorem iAdd_bad (n k : Bool) (s t : ByteArray) (w : World) (hl : s.size ≤ 1073741824) (hl2 : t.size ≤ 1073741824) (hv : (validI n (tl s) && validI k (tl t)) = false) :
    Calls Tryd.prog 14 #[.agg #[.bool n, .string s], .agg #[.bool k, .string t]] w fun e w' => e = .returned (.tuple #[intE, .int .i64 3]) ∧ Below w.heap.size w w' := by
  have hi := I3.start w (.bool n) (.string s) (.bool k) (.string t) (.bool false) (.string ⟨#[]⟩)
  have HV := Lib.hid hv
  clear hv
  go_enter Tryd.func14, Tryd.ntmps14
  go_wp2_with fail
  refine (both_at n k s t false _ hl hl2 HV.out).mono ?_
  rintro e w1 ⟨rfl, hb1⟩
  have hi1 := hi.next hb1
  obtain ⟨a0, a1, b0, b1, c0, c1, f0, f1⟩ := hi1.cells
  clear hi hb1
  go_wp2_with fail
  refine bodyPost_ret (v := .tuple #[.agg #[.bool false, .string ⟨#[]⟩], .int .i64 3]) (by simp [results, Tryd.results14, go_sem, c0, c1]) rfl ⟨rfl, ?_⟩
  exact (hi1.below.setCell (by simp; omega) _).setCell (by simp; omega) _
set_option maxHeartbeats 1000000 in
theorem iMul_nm {n k : Bool} {m l : Nat} (h1 : Nm n m) (h2 : Nm k l) (w : World) :
    Calls Tryd.prog 18 #[.agg #[.bool n, Sv (Dm.str m)], .agg #[.bool k, Sv (Dm.str l)]] w fun e w' => e = .returned (fitI (zz n m * zz k l)) ∧ Below w.heap.size w w' := by
  have hi := I3.start w (.bool n) (Sv (Dm.str m)) (.bool k) (Sv (Dm.str l)) (.bool false) (.string ⟨#[]⟩)
  go_enter Tryd.func18, Tryd.ntmps18
  go_wp2_with fail
  refine (both_nm h1 h2 _).mono ?_
  rintro e w1 ⟨rfl, hb1⟩
  have hi1 := hi.next hb1
  obtain ⟨a0, a1, b0, b1, c0, c1, f0, f1⟩ := hi1.cells
  clear hi hb1
  go_wp2_with fail
  refine (nMul m l h1.lt h2.lt _).mono ?_
  rintro e w2 ⟨rfl, hb2⟩
  have hi2 := hi1.next hb2
  clear a0 a1 b0 b1 c0 c1 f0 f1 hi1 hb2
  obtain ⟨a0, a1, b0, b1, c0, c1, f0, f1⟩ := hi2.cells
  have e := zz_mul n k m l
  have e2 := zz_abs (n != k) (m * l)
  have HE := Lib.hid e
  have HE2 := Lib.hid e2
  clear e e2
  by_cases hf : m * l < 256 ^ 128
  · rw [if_pos hf]
    have HV : Hid (fitI (zz n m * zz k l) = .tuple #[iV (zz (n != k) (m * l)), .int .i64 0]) := by
      show _ = _
      rw [HE.out, fitI, if_pos (by rw [HE2.out]; exact hf)]
    obtain ⟨x, y, hx⟩ := iV_form (zz (n != k) (m * l))
    have HX := Lib.hid hx
    clear hx
    go_wp2_with fail
    refine (made_at (n != k) (m * l) (zz (n != k) (m * l)) _ rfl).mono ?_
    rintro e w3 ⟨rfl, hb3⟩
    rw [HX.out]
    have hi3 := hi2.next hb3
    clear a0 a1 b0 b1 c0 c1 f0 f1 hi2 hb3
    obtain ⟨a0, a1, b0, b1, c0, c1, f0, f1⟩ := hi3.cells
    go_wp2_with fail
    refine bodyPost_ret (v := .tuple #[.agg #[.bool x, .string y], .int .i64 0]) (by simp [results, Tryd.results18, go_sem, c0, c1]) rfl ⟨by rw [HV.out, HX.out], ?_⟩
    exact (hi3.below.setCell (by simp; omega) _).setCell (by simp; omega) _
  · rw [if_neg hf]
    have HV : Hid (fitI (zz n m * zz k l) = .tuple #[iV (zz (n != k) 0), .int .i64 5]) := by
      show _ = _
      have e3 : zz (n != k) 0 = 0 := by cases n <;> cases k <;> rfl
      rw [HE.out, fitI, if_neg (by rw [HE2.out]; exact hf), e3]
    obtain ⟨x, y, hx⟩ := iV_form (zz (n != k) 0)
    have HX := Lib.hid hx
    clear hx
    go_wp2_with fail
    refine (made_at (n != k) 0 (zz (n != k) 0) _ rfl).mono ?_
    rintro e w3 ⟨rfl, hb3⟩
    rw [HX.out]
    have hi3 := hi2.next hb3
    clear a0 a1 b0 b1 c0 c1 f0 f1 hi2 hb3
    obtain ⟨a0, a1, b0, b1, c0, c1, f0, f1⟩ := hi3.cells
    go_wp2_with fail
    refine bodyPost_ret (v := .tuple #[.agg #[.bool x, .string y], .int .i64 5]) (by simp [results, Tryd.results18, go_sem, c0, c1]) rfl ⟨by rw [HV.out, HX.out], ?_⟩
    exact (hi3.below.setCell (by simp; omega) _).setCell (by simp; omega) _
set_option maxHeartbeats 1000000 in
theorem iMul_bad (n k : Bool) (s t : ByteArray) (w : World) (hl : s.size ≤ 1073741824) (hl2 : t.size ≤ 1073741824) (hv : (validI n (tl s) && validI k (tl t)) = false) :
    Calls Tryd.prog 18 #[.agg #[.bool n, .string s], .agg #[.bool k, .string t]] w fun e w' => e = .returned (.tuple #[intE, .int .i64 3]) ∧ Below w.heap.size w w' := by
  have hi := I3.start w (.bool n) (.string s) (.bool k) (.string t) (.bool false) (.string ⟨#[]⟩)
  have HV := Lib.hid hv
  clear hv
  go_enter Tryd.func18, Tryd.ntmps18
  go_wp2_with fail
  refine (both_at n k s t false _ hl hl2 HV.out).mono ?_
  rintro e w1 ⟨rfl, hb1⟩
  have hi1 := hi.next hb1
  obtain ⟨a0, a1, b0, b1, c0, c1, f0, f1⟩ := hi1.cells
  clear hi hb1
  go_wp2_with fail
  refine bodyPost_ret (v := .tuple #[.agg #[.bool false, .string ⟨#[]⟩], .int .i64 3]) (by simp [results, Tryd.results18, go_sem, c0, c1]) rfl ⟨rfl, ?_⟩
  exact (hi1.below.setCell (by simp; omega) _).setCell (by simp; omega) _
set_option maxHeartbeats 1000000 in
theorem iNeg_nm {n : Bool} {m : Nat} (h1 : Nm n m) (w : World) :
    Calls Tryd.prog 40 #[.agg #[.bool n, Sv (Dm.str m)]] w fun e w' => e = .returned (iV (-(zz n m))) ∧ Below w.heap.size w w' := by
  have hi := I2.start w (.bool n) (Sv (Dm.str m)) (.bool false) (.string ⟨#[]⟩)
  have e : -(zz n m) = zz (!n) m := by cases n <;> simp [zz]
  rw [e]
  clear e
  obtain ⟨x, y, hx⟩ := iV_form (zz (!n) m)
  have HX := Lib.hid hx
  rw [hx]
  clear hx
  go_enter Tryd.func40, Tryd.ntmps40
  go_wp2_with fail
  refine (iValid_nm h1 _).mono ?_
  rintro e w1 ⟨rfl, hb1⟩
  have hi1 := hi.next hb1
  obtain ⟨a0, a1, c0, c1, f0, f1⟩ := hi1.cells
  clear hi hb1
  go_wp2_with fail
  refine (made_at (!n) m (zz (!n) m) _ rfl).mono ?_
  rintro e w2 ⟨rfl, hb2⟩
  rw [HX.out]
  have hi2 := hi1.next hb2
  clear a0 a1 c0 c1 f0 f1 hi1 hb2
  obtain ⟨a0, a1, c0, c1, f0, f1⟩ := hi2.cells
  go_wp2_with fail
  refine bodyPost_ret (v := .agg #[.bool x, .string y]) (by simp [results, Tryd.results40, go_sem, c0, c1]) rfl ⟨rfl, ?_⟩
  exact (hi2.below.setCell (by simp) _).setCell (by simp) _
set_option maxHeartbeats 1000000 in
theorem iNeg_bad (n : Bool) (s : ByteArray) (w : World) (hl : s.size ≤ 1073741824) (hv : validI n (tl s) = false) :
    Calls Tryd.prog 40 #[.agg #[.bool n, .string s]] w fun e w' => e = .returned intE ∧ Below w.heap.size w w' := by
  have hi := I2.start w (.bool n) (.string s) (.bool false) (.string ⟨#[]⟩)
  have HV := Lib.hid hv
  clear hv
  go_enter Tryd.func40, Tryd.ntmps40
  go_wp2_with fail
  refine (iValid_at n s false _ hl HV.out).mono ?_
  rintro e w1 ⟨rfl, hb1⟩
  have hi1 := hi.next hb1
  obtain ⟨a0, a1, c0, c1, f0, f1⟩ := hi1.cells
  clear hi hb1
  go_wp2_with fail
  refine bodyPost_ret (v := .agg #[.bool false, .string ⟨#[]⟩]) (by simp [results, Tryd.results40, go_sem, c0, c1]) rfl ⟨rfl, ?_⟩
  exact (hi1.below.setCell (by simp) _).setCell (by simp) _
set_option maxHeartbeats 1000000 in
theorem iSub_nm {n k : Bool} {m l : Nat} (h1 : Nm n m) (h2 : Nm k l) (w : World) :
    Calls Tryd.prog 16 #[.agg #[.bool n, Sv (Dm.str m)], .agg #[.bool k, Sv (Dm.str l)]] w fun e w' => e = .returned (fitI (zz n m - zz k l)) ∧ Below w.heap.size w w' := by
  have hi := I3.start w (.bool n) (Sv (Dm.str m)) (.bool k) (Sv (Dm.str l)) (.bool false) (.string ⟨#[]⟩)
  have h3 : Nm (decide (-(zz k l) < 0)) (-(zz k l)).natAbs := nm_of _ (by unfold Fits; rw [Int.natAbs_neg]; have := h2.lt; cases k <;> simpa [zz] using this)
  have hz : zz (decide (-(zz k l) < 0)) (-(zz k l)).natAbs = -(zz k l) := zz_of _
  obtain ⟨x, y, er, hx⟩ := fitI_form (zz n m - zz k l)
  have hN := fun W : World => (iNeg_nm h2 W)
  have hA := fun W : World => iAdd_nm h1 h3 W
  rw [hz, ← Int.sub_eq_add_neg, hx] at hA
  have HN := Lib.hid hN
  have HA := Lib.hid hA
  rw [hx]
  clear hN hA hx hz
  go_enter Tryd.func16, Tryd.ntmps16
  go_wp2_with fail
  refine (both_nm h1 h2 _).mono ?_
  rintro e w1 ⟨rfl, hb1⟩
  have hi1 := hi.next hb1
  obtain ⟨a0, a1, b0, b1, c0, c1, f0, f1⟩ := hi1.cells
  clear hi hb1
  go_wp2_with fail
  have hi2 : I3 w (.bool n) (Sv (Dm.str m)) (.bool k) (Sv (Dm.str l)) (.bool false) (.string ⟨#[]⟩) w1.drew := hi1.drew
  clear a0 a1 b0 b1 c0 c1 f0 f1 hi1
  go_region_held3 (fun w' => (w'.cell? ⟨w.heap.size, 0, none⟩ = some (.bool n) ∧ w'.cell? ⟨w.heap.size, 1, none⟩ = some (Sv (Dm.str m))) ∧ w'.cell? ⟨w.heap.size + 1, 0, none⟩ = some (.bool k) ∧ w'.cell? ⟨w.heap.size + 1, 1, none⟩ = some (Sv (Dm.str l))) (first | exact I3.ab (by assumption) | exact I3.ab' (by assumption))
    (first | (go_at_call 40; refine (HN.out _).mono ?_; rintro e wa ⟨rfl, hba⟩; have hi3 := I3.next (by assumption) hba) | (go_at_call 14; refine (HA.out _).mono ?_; rintro e wb ⟨rfl, hbb⟩; have hi4 := I3.next (by assumption) hbb; have c0 := hi4.cells.2.2.2.2.1; have c1 := hi4.cells.2.2.2.2.2.1; have f0 := hi4.cells.2.2.2.2.2.2.1; have f1 := hi4.cells.2.2.2.2.2.2.2))
  go_wp2_with fail
  refine bodyPost_ret (v := .tuple #[.agg #[.bool x, .string y], .int .i64 er]) (by simp [results, Tryd.results16, go_sem, c0, c1]) rfl ⟨rfl, ?_⟩
  exact (hi4.below.setCell (by simp; omega) _).setCell (by simp; omega) _
set_option maxHeartbeats 1000000 in
theorem iSub_bad (n k : Bool) (s t : ByteArray) (w : World) (hl : s.size ≤ 1073741824) (hl2 : t.size ≤ 1073741824) (hv : (validI n (tl s) && validI k (tl t)) = false) :
    Calls Tryd.prog 16 #[.agg #[.bool n, .string s], .agg #[.bool k, .string t]] w fun e w' => e = .returned (.tuple #[intE, .int .i64 3]) ∧ Below w.heap.size w w' := by
  have hi := I3.start w (.bool n) (.string s) (.bool k) (.string t) (.bool false) (.string ⟨#[]⟩)
  have HV := Lib.hid hv
  clear hv
  go_enter Tryd.func16, Tryd.ntmps16
  go_wp2_with fail
  refine (both_at n k s t false _ hl hl2 HV.out).mono ?_
  rintro e w1 ⟨rfl, hb1⟩
  have hi1 := hi.next hb1
  obtain ⟨a0, a1, b0, b1, c0, c1, f0, f1⟩ := hi1.cells
  clear hi hb1
  go_wp2_with fail
  refine bodyPost_ret (v := .tuple #[.agg #[.bool false, .string ⟨#[]⟩], .int .i64 3]) (by simp [results, Tryd.results16, go_sem, c0, c1]) rfl ⟨rfl, ?_⟩
  exact (hi1.below.setCell (by simp; omega) _).setCell (by simp; omega) _
end Go.Proofs.YtlagcdgfmgkooaaDoor

/-
  Walks over dominoref02: Make, Valid, Add, Sub, Mul, Neg. (printed by wip/mkint.py)
-/
namespace Go.Proofs.YtlagcdgfmgkooaaDoor
open Go.RowKit
set_option linter.unusedVariables false

set_option maxHeartbeats 400000 in
theorem rmake_any (n : Bool) (m : Nat) (w : World) :
    Calls Tryd.prog 53 #[.bool n, Sv (Dm.str m)] w fun e w' => e = .returned (iV (zz n m)) ∧ Below w.heap.size w w' := by
  have hbw : Below w.heap.size w (w.alloc (.cells #[.bool false, .string ⟨#[]⟩] 24)) := (Below.refl _ _).alloc (Nat.le_refl _) _
  cases n with
  | false =>
    have HV : Hid (iV (zz false m) = .agg #[.bool false, Sv (Dm.str m)]) := by show _ = _; simp [iV, zz]
    go_enter Tryd.func53, Tryd.ntmps53
    go_wp2_with fail
    refine bodyPost_ret (v := .agg #[.bool false, Sv (Dm.str m)]) (by simp [results, Tryd.results53, go_sem]) rfl ⟨by rw [HV.out], ?_⟩
    exact (Below.refl _ _).alloc (Nat.le_refl _) _
  | true =>
    by_cases hm : m = 0
    · subst hm
      obtain ⟨h1, h2⟩ := str_zero (n := 0) rfl
      go_enter Tryd.func53, Tryd.ntmps53
      go_wp2_with fail
      refine bodyPost_ret (v := .agg #[.bool false, Sv (Dm.str 0)]) (by simp [results, Tryd.results53, go_sem]) rfl ⟨rfl, ?_⟩
      exact (Below.refl _ _).alloc (Nat.le_refl _) _
    · obtain ⟨h1, h2⟩ := str_pos hm
      have HV : Hid (iV (zz true m) = .agg #[.bool true, Sv (Dm.str m)]) := by
        show _ = _
        simp [iV, zz]
        omega
      go_enter Tryd.func53, Tryd.ntmps53
      go_wp2_with fail
      refine bodyPost_ret (v := .agg #[.bool true, Sv (Dm.str m)]) (by simp [results, Tryd.results53, go_sem]) rfl ⟨by rw [HV.out], ?_⟩
      exact (Below.refl _ _).alloc (Nat.le_refl _) _
theorem rmake_at (n : Bool) (m : Nat) (z : Int) (w : World) (hz : zz n m = z) :
    Calls Tryd.prog 53 #[.bool n, Sv (Dm.str m)] w fun e w' => e = .returned (iV z) ∧ Below w.heap.size w w' := by
  rw [← hz]; exact rmake_any n m w
set_option maxHeartbeats 400000 in
theorem rValid_any (n : Bool) (s : ByteArray) (w : World) (hl : s.size ≤ 1073741824) :
    Calls Tryd.prog 37 #[.agg #[.bool n, .string s]] w fun e w' => e = .returned (.bool (validI n (tl s))) ∧ Below w.heap.size w w' := by
  cases hv : validB (tl s) with
  | false =>
    have HV := Lib.hid hv
    clear hv
    go_enter Tryd.func37, Tryd.ntmps37
    go_wp2_with fail
    refine (ref_valid_at s false _ hl HV.out).mono ?_
    rintro e w1 ⟨rfl, rfl⟩
    go_wp2_with fail
    go_ret
    exact ⟨by rw [validI, HV.out]; rfl, (Below.refl _ _).alloc (Nat.le_refl _) _⟩
  | true =>
    have HV := Lib.hid hv
    clear hv
    have hcs : n = false ∨ (n = true ∧ s.size = 0) ∨ (n = true ∧ 0 < s.size) := by
      cases n
      · exact .inl rfl
      · rcases Nat.eq_zero_or_pos s.size with h | h
        · exact .inr (.inl ⟨rfl, h⟩)
        · exact .inr (.inr ⟨rfl, h⟩)
    rcases hcs with rfl | ⟨rfl, h⟩ | ⟨rfl, h⟩
    · go_enter Tryd.func37, Tryd.ntmps37
      go_wp2_with fail
      refine (ref_valid_at s true _ hl HV.out).mono ?_
      rintro e w1 ⟨rfl, rfl⟩
      go_wp2_with fail
      go_ret
      exact ⟨by rw [validI, HV.out]; rfl, (Below.refl _ _).alloc (Nat.le_refl _) _⟩
    · obtain ⟨h1, h2⟩ := str_empty h
      have HE : Hid ((tl s).isEmpty = true) := by show _ = _; rw [tl_empty h]; rfl
      clear h
      go_enter Tryd.func37, Tryd.ntmps37
      go_wp2_with fail
      refine (ref_valid_at s true _ hl HV.out).mono ?_
      rintro e w1 ⟨rfl, rfl⟩
      go_wp2_with fail
      go_ret
      exact ⟨by rw [validI, HV.out, HE.out]; rfl, (Below.refl _ _).alloc (Nat.le_refl _) _⟩
    · obtain ⟨h1, h2⟩ := str_full h
      have HE : Hid ((tl s).isEmpty = false) := by show _ = _; rw [← isE]; exact h1
      clear h
      go_enter Tryd.func37, Tryd.ntmps37
      go_wp2_with fail
      refine (ref_valid_at s true _ hl HV.out).mono ?_
      rintro e w1 ⟨rfl, rfl⟩
      go_wp2_with fail
      go_ret
      exact ⟨by rw [validI, HV.out, HE.out]; rfl, (Below.refl _ _).alloc (Nat.le_refl _) _⟩
theorem rValid_at (n : Bool) (s : ByteArray) (v : Bool) (w : World) (hl : s.size ≤ 1073741824) (hv : validI n (tl s) = v) :
    Calls Tryd.prog 37 #[.agg #[.bool n, .string s]] w fun e w' => e = .returned (.bool v) ∧ Below w.heap.size w w' := by
  rw [← hv]; exact rValid_any n s w hl
theorem rValid_nm {n : Bool} {m : Nat} (h1 : Nm n m) (w : World) :
    Calls Tryd.prog 37 #[.agg #[.bool n, Sv (Dm.str m)]] w fun e w' => e = .returned (.bool true) ∧ Below w.heap.size w w' :=
  rValid_at n (bs (Dm.str m)) true w (by have := h1.str; omega) h1.vI
theorem rAdd (m l : Nat) (hm : m < 256 ^ 128) (hl : l < 256 ^ 128) (w : World) :
    Calls Tryd.prog 52 #[Sv (Dm.str m), Sv (Dm.str l)] w fun e w' => e = .returned (if m + l < 256 ^ 128 then .tuple #[Sv (Dm.str (m + l)), .int .i64 0] else .tuple #[Sv (Dm.str 0), .int .i64 5]) ∧ Below w.heap.size w w' := by
  have s1 : (bs (Dm.str m)).size ≤ 128 := by rw [size_bs]; exact Dm.length_str_le.2 hm
  have s2 : (bs (Dm.str l)).size ≤ 128 := by rw [size_bs]; exact Dm.length_str_le.2 hl
  refine (ref_Add_any _ _ w (by omega) (by omega)).mono fun e w' ⟨he, hw⟩ => ⟨?_, hw⟩
  rw [he, tl_bs, tl_bs, addV, validB_short' (Dm.length_str_le.2 hm), validB_short' (Dm.length_str_le.2 hl), if_pos (show (true && true) = true from rfl), Dm.val_str, Dm.val_str, fitV]
  by_cases h : m + l < 256 ^ 128
  · rw [if_pos h, if_pos (Dm.length_str_le.2 h)]
  · rw [if_neg h, if_neg (fun h2 => h (Dm.length_str_le.1 h2))]; rfl
theorem rMul (m l : Nat) (hm : m < 256 ^ 128) (hl : l < 256 ^ 128) (w : World) :
    Calls Tryd.prog 57 #[Sv (Dm.str m), Sv (Dm.str l)] w fun e w' => e = .returned (if m * l < 256 ^ 128 then .tuple #[Sv (Dm.str (m * l)), .int .i64 0] else .tuple #[Sv (Dm.str 0), .int .i64 5]) ∧ Below w.heap.size w w' := by
  have s1 : (bs (Dm.str m)).size ≤ 128 := by rw [size_bs]; exact Dm.length_str_le.2 hm
  have s2 : (bs (Dm.str l)).size ≤ 128 := by rw [size_bs]; exact Dm.length_str_le.2 hl
  refine (ref_Mul_any _ _ w (by omega) (by omega)).mono fun e w' ⟨he, hw⟩ => ⟨?_, hw⟩
  rw [he, tl_bs, tl_bs, mulV, validB_short' (Dm.length_str_le.2 hm), validB_short' (Dm.length_str_le.2 hl), if_pos (show (true && true) = true from rfl), Dm.val_str, Dm.val_str, fitV]
  by_cases h : m * l < 256 ^ 128
  · rw [if_pos h, if_pos (Dm.length_str_le.2 h)]
  · rw [if_neg h, if_neg (fun h2 => h (Dm.length_str_le.1 h2))]; rfl
theorem rSub (m l : Nat) (hm : m < 256 ^ 128) (hl : l ≤ m) (w : World) :
    Calls Tryd.prog 55 #[Sv (Dm.str m), Sv (Dm.str l)] w fun e w' => e = .returned (.tuple #[Sv (Dm.str (m - l)), .int .i64 0]) ∧ Below w.heap.size w w' := by
  have hl2 : l < 256 ^ 128 := by omega
  have s1 : (bs (Dm.str m)).size ≤ 128 := by rw [size_bs]; exact Dm.length_str_le.2 hm
  have s2 : (bs (Dm.str l)).size ≤ 128 := by rw [size_bs]; exact Dm.length_str_le.2 hl2
  refine (ref_Sub_any _ _ w (by omega) (by omega)).mono fun e w' ⟨he, hw⟩ => ⟨?_, hw⟩
  rw [he, tl_bs, tl_bs, subV, validB_short' (Dm.length_str_le.2 hm), validB_short' (Dm.length_str_le.2 hl2), if_pos (show (true && true) = true from rfl), Dm.val_str, Dm.val_str, if_neg (by omega)]
theorem rCmp (m l : Nat) (hm : m < 256 ^ 128) (hl : l < 256 ^ 128) (w : World) :
    Calls Tryd.prog 54 #[Sv (Dm.str m), Sv (Dm.str l)] w fun e w' => e = .returned (.int .i64 (Dm.cmpN m l)) ∧ Below w.heap.size w w' := by
  have s1 : (bs (Dm.str m)).size ≤ 128 := by rw [size_bs]; exact Dm.length_str_le.2 hm
  have s2 : (bs (Dm.str l)).size ≤ 128 := by rw [size_bs]; exact Dm.length_str_le.2 hl
  refine (ref_Cmp_any _ _ w (by omega) (by omega)).mono fun e w' ⟨he, hw⟩ => ⟨?_, hw⟩
  rw [he, tl_bs, tl_bs, cmpV, validB_short' (Dm.length_str_le.2 hm), validB_short' (Dm.length_str_le.2 hl), Dm.val_str, Dm.val_str]; rfl
theorem rDiv (m l : Nat) (hm : m < 256 ^ 128) (hl : l < 256 ^ 128) (h0 : l ≠ 0) (w : World) :
    Calls Tryd.prog 61 #[Sv (Dm.str m), Sv (Dm.str l)] w fun e w' => e = .returned (.tuple #[Sv (Dm.str (m / l)), Sv (Dm.str (m % l)), .int .i64 0]) ∧ Below w.heap.size w w' := by
  have s1 : (bs (Dm.str m)).size ≤ 128 := by rw [size_bs]; exact Dm.length_str_le.2 hm
  have s2 : (bs (Dm.str l)).size ≤ 128 := by rw [size_bs]; exact Dm.length_str_le.2 hl
  refine (ref_DivMod_any _ _ w (by omega) (by omega)).mono fun e w' ⟨he, hw⟩ => ⟨?_, hw⟩
  rw [he, tl_bs, tl_bs, dmV, validB_short' (Dm.length_str_le.2 hm), validB_short' (Dm.length_str_le.2 hl), if_pos (show (true && true) = true from rfl), Dm.val_str, Dm.val_str, if_neg h0]
set_option maxHeartbeats 1000000 in
theorem rAdd_nm {n k : Bool} {m l : Nat} (h1 : Nm n m) (h2 : Nm k l) (w : World) :
    Calls Tryd.prog 15 #[.agg #[.bool n, Sv (Dm.str m)], .agg #[.bool k, Sv (Dm.str l)]] w fun e w' => e = .returned (fitI (zz n m + zz k l)) ∧ Below w.heap.size w w' := by
  have hi := I3.start w (.bool n) (Sv (Dm.str m)) (.bool k) (Sv (Dm.str l)) (.bool false) (.string ⟨#[]⟩)
  by_cases hnk : n = k
  · subst hnk
    have hnn : (n == n) = true := by simp
    go_enter Tryd.func15, Tryd.ntmps15
    go_wp2_with fail
    refine (rValid_nm h1 _).mono ?_
    rintro e wv ⟨rfl, hbv⟩
    have hiv := hi.next hbv
    obtain ⟨a0, a1, b0, b1, c0, c1, f0, f1⟩ := hiv.cells
    clear hi hbv
    go_wp2_with fail
    refine (rValid_nm h2 _).mono ?_
    rintro e w1 ⟨rfl, hb1⟩
    have hi1 := hiv.next hb1
    clear a0 a1 b0 b1 c0 c1 f0 f1 hiv hb1
    obtain ⟨a0, a1, b0, b1, c0, c1, f0, f1⟩ := hi1.cells
    go_wp2_with fail
    refine (rAdd m l h1.lt h2.lt _).mono ?_
    rintro e w2 ⟨rfl, hb2⟩
    have hi2 := hi1.next hb2
    clear a0 a1 b0 b1 c0 c1 f0 f1 hi1 hb2
    obtain ⟨a0, a1, b0, b1, c0, c1, f0, f1⟩ := hi2.cells
    by_cases hf : m + l < 256 ^ 128
    · rw [if_pos hf]
      have HV : Hid (fitI (zz n m + zz n l) = .tuple #[iV (zz n (m + l)), .int .i64 0]) := by
        show _ = _
        have e : zz n m + zz n l = zz n (m + l) := by cases n <;> simp [zz] <;> omega
        have e2 : (zz n (m + l)).natAbs = m + l := by cases n <;> simp [zz] <;> omega
        rw [e, fitI, if_pos (by rw [e2]; exact hf)]
      obtain ⟨x, y, hx⟩ := iV_form (zz n (m + l))
      have HX := Lib.hid hx
      clear hx
      go_wp2_with fail
      refine (rmake_at n (m + l) (zz n (m + l)) _ rfl).mono ?_
      rintro e w3 ⟨rfl, hb3⟩
      rw [HX.out]
      have hi3 := hi2.next hb3
      clear a0 a1 b0 b1 c0 c1 f0 f1 hi2 hb3
      obtain ⟨a0, a1, b0, b1, c0, c1, f0, f1⟩ := hi3.cells
      go_wp2_with fail
      refine bodyPost_ret (v := .tuple #[.agg #[.bool x, .string y], .int .i64 0]) (by simp [results, Tryd.results15, go_sem, c0, c1]) rfl ⟨by rw [HV.out, HX.out], ?_⟩
      exact (hi3.below.setCell (by simp; omega) _).setCell (by simp; omega) _
    · rw [if_neg hf]
      have HV : Hid (fitI (zz n m + zz n l) = .tuple #[iV (zz n 0), .int .i64 5]) := by
        show _ = _
        have e : zz n m + zz n l = zz n (m + l) := by cases n <;> simp [zz] <;> omega
        have e2 : (zz n (m + l)).natAbs = m + l := by cases n <;> simp [zz] <;> omega
        have e3 : zz n 0 = 0 := by cases n <;> rfl
        rw [e, fitI, if_neg (by rw [e2]; exact hf), e3]
      obtain ⟨x, y, hx⟩ := iV_form (zz n 0)
      have HX := Lib.hid hx
      clear hx
      go_wp2_with fail
      refine (rmake_at n 0 (zz n 0) _ rfl).mono ?_
      rintro e w3 ⟨rfl, hb3⟩
      rw [HX.out]
      have hi3 := hi2.next hb3
      clear a0 a1 b0 b1 c0 c1 f0 f1 hi2 hb3
      obtain ⟨a0, a1, b0, b1, c0, c1, f0, f1⟩ := hi3.cells
      go_wp2_with fail
      refine bodyPost_ret (v := .tuple #[.agg #[.bool x, .string y], .int .i64 5]) (by simp [results, Tryd.results15, go_sem, c0, c1]) rfl ⟨by rw [HV.out, HX.out], ?_⟩
      exact (hi3.below.setCell (by simp; omega) _).setCell (by simp; omega) _
  · have hnn : (n == k) = false := by simpa using hnk
    have hC := fun W : World => rCmp m l h1.lt h2.lt W
    by_cases hlt : m < l
    · have hcv := Dm.cmpN_lt hlt
      have HV : Hid (fitI (zz n m + zz k l) = .tuple #[iV (zz k (l - m)), .int .i64 0]) := by
        show _ = _
        have e : zz n m + zz k l = zz k (l - m) := by cases n <;> cases k <;> simp [zz] at hnk ⊢ <;> omega
        have e2 : (zz k (l - m)).natAbs = l - m := by cases k <;> simp [zz] <;> omega
        rw [e, fitI, if_pos (by rw [e2]; have := h2.lt; omega)]
      rw [hcv] at hC
      have HC := Lib.hid hC
      clear hC hcv
      go_enter Tryd.func15, Tryd.ntmps15
      go_wp2_with fail
      refine (rValid_nm h1 _).mono ?_
      rintro e wv ⟨rfl, hbv⟩
      have hiv := hi.next hbv
      obtain ⟨a0, a1, b0, b1, c0, c1, f0, f1⟩ := hiv.cells
      clear hi hbv
      go_wp2_with fail
      refine (rValid_nm h2 _).mono ?_
      rintro e w1 ⟨rfl, hb1⟩
      have hi1 := hiv.next hb1
      clear a0 a1 b0 b1 c0 c1 f0 f1 hiv hb1
      obtain ⟨a0, a1, b0, b1, c0, c1, f0, f1⟩ := hi1.cells
      go_wp2_with fail
      refine (HC.out _).mono ?_
      rintro e w2 ⟨rfl, hb2⟩
      have hi2 := hi1.next hb2
      clear a0 a1 b0 b1 c0 c1 f0 f1 hi1 hb2
      obtain ⟨a0, a1, b0, b1, c0, c1, f0, f1⟩ := hi2.cells
      go_wp2_with fail
      refine (rSub l m h2.lt (by omega) _).mono ?_
      rintro e w3 ⟨rfl, hb3⟩
      have hi3 := hi2.next hb3
      clear a0 a1 b0 b1 c0 c1 f0 f1 hi2 hb3
      obtain ⟨a0, a1, b0, b1, c0, c1, f0, f1⟩ := hi3.cells
      obtain ⟨x, y, hx⟩ := iV_form (zz k (l - m))
      have HX := Lib.hid hx
      clear hx
      go_wp2_with fail
      refine (rmake_at k (l - m) (zz k (l - m)) _ rfl).mono ?_
      rintro e w4 ⟨rfl, hb4⟩
      rw [HX.out]
      have hi4 := hi3.next hb4
      clear a0 a1 b0 b1 c0 c1 f0 f1 hi3 hb4
      obtain ⟨a0, a1, b0, b1, c0, c1, f0, f1⟩ := hi4.cells
      go_wp2_with fail
      refine bodyPost_ret (v := .tuple #[.agg #[.bool x, .string y], .int .i64 0]) (by simp [results, Tryd.results15, go_sem, c0, c1]) rfl ⟨by rw [HV.out, HX.out], ?_⟩
      exact (hi4.below.setCell (by simp; omega) _).setCell (by simp; omega) _
    · have hcv := cmpN_ge2 hlt
      have HV : Hid (fitI (zz n m + zz k l) = .tuple #[iV (zz n (m - l)), .int .i64 0]) := by
        show _ = _
        have e : zz n m + zz k l = zz n (m - l) := by cases n <;> cases k <;> simp [zz] at hnk ⊢ <;> omega
        have e2 : (zz n (m - l)).natAbs = m - l := by cases n <;> simp [zz] <;> omega
        rw [e, fitI, if_pos (by rw [e2]; have := h1.lt; omega)]
      generalize Dm.cmpN m l = cv at *
      have HC := Lib.hid hC
      clear hC
      go_enter Tryd.func15, Tryd.ntmps15
      go_wp2_with fail
      refine (rValid_nm h1 _).mono ?_
      rintro e wv ⟨rfl, hbv⟩
      have hiv := hi.next hbv
      obtain ⟨a0, a1, b0, b1, c0, c1, f0, f1⟩ := hiv.cells
      clear hi hbv
      go_wp2_with fail
      refine (rValid_nm h2 _).mono ?_
      rintro e w1 ⟨rfl, hb1⟩
      have hi1 := hiv.next hb1
      clear a0 a1 b0 b1 c0 c1 f0 f1 hiv hb1
      obtain ⟨a0, a1, b0, b1, c0, c1, f0, f1⟩ := hi1.cells
      go_wp2_with fail
      refine (HC.out _).mono ?_
      rintro e w2 ⟨rfl, hb2⟩
      have hi2 := hi1.next hb2
      clear a0 a1 b0 b1 c0 c1 f0 f1 hi1 hb2
      obtain ⟨a0, a1, b0, b1, c0, c1, f0, f1⟩ := hi2.cells
      go_wp2_with fail
      refine (rSub m l h1.lt (by omega) _).mono ?_
      rintro e w3 ⟨rfl, hb3⟩
      have hi3 := hi2.next hb3
      clear a0 a1 b0 b1 c0 c1 f0 f1 hi2 hb3
      obtain ⟨a0, a1, b0, b1, c0, c1, f0, f1⟩ := hi3.cells
      obtain ⟨x, y, hx⟩ := iV_form (zz n (m - l))
      have HX := Lib.hid hx
      clear hx
      go_wp2_with fail
      refine (rmake_at n (m - l) (zz n (m - l)) _ rfl).mono ?_
      rintro e w4 ⟨rfl, hb4⟩
      rw [HX.out]
      have hi4 := hi3.next hb4
      clear a0 a1 b0 b1 c0 c1 f0 f1 hi3 hb4
      obtain ⟨a0, a1, b0, b1, c0, c1, f0, f1⟩ := hi4.cells
      go_wp2_with fail
      refine bodyPost_ret (v := .tuple #[.agg #[.bool x, .string y], .int .i64 0]) (by simp [results, Tryd.results15, go_sem, c0, c1]) rfl ⟨by rw [HV.out, HX.out], ?_⟩
      exact (hi4.below.setCell (by simp; omega) _).setCell (by simp; omega) _
set_option maxHeartbeats 1000000 in
theorem rAdd_bad (n k : Bool) (s t : ByteArray) (w : World) (hl : s.size ≤ 1073741824) (hl2 : t.size ≤ 1073741824) (hv : (validI n (tl s) && validI k (tl t)) = false) :
    Calls Tryd.prog 15 #[.agg #[.bool n, .string s], .agg #[.bool k, .string t]] w fun e w' => e = .returned (.tuple #[intE, .int .i64 3]) ∧ Below w.heap.size w w' := by
  have hi := I3.start w (.bool n) (.string s) (.bool k) (.string t) (.bool false) (.string ⟨#[]⟩)
  have HV := Lib.hid hv
  clear hv
  cases h1 : validI n (tl s) with
  | false =>
    have H1 := Lib.hid h1
    clear h1 HV
    go_enter Tryd.func15, Tryd.ntmps15
    go_wp2_with fail
    refine (rValid_at n s false _ hl H1.out).mono ?_
    rintro e w1 ⟨rfl, hb1⟩
    have hi1 := hi.next hb1
    obtain ⟨a0, a1, b0, b1, c0, c1, f0, f1⟩ := hi1.cells
    clear hi hb1
    go_wp2_with fail
    refine bodyPost_ret (v := .tuple #[.agg #[.bool false, .string ⟨#[]⟩], .int .i64 3]) (by simp [results, Tryd.results15, go_sem, c0, c1]) rfl ⟨rfl, ?_⟩
    exact (hi1.below.setCell (by simp; omega) _).setCell (by simp; omega) _
  | true =>
    have H1 := Lib.hid h1
    have h2 := HV.out
    rw [h1, Bool.true_and] at h2
    have H2 := Lib.hid h2
    clear h1 h2 HV
    go_enter Tryd.func15, Tryd.ntmps15
    go_wp2_with fail
    refine (rValid_at n s true _ hl H1.out).mono ?_
    rintro e w1 ⟨rfl, hb1⟩
    have hi1 := hi.next hb1
    obtain ⟨a0, a1, b0, b1, c0, c1, f0, f1⟩ := hi1.cells
    clear hi hb1
    go_wp2_with fail
    refine (rValid_at k t false _ hl2 H2.out).mono ?_
    rintro e w2 ⟨rfl, hb2⟩
    have hi2 := hi1.next hb2
    clear a0 a1 b0 b1 c0 c1 f0 f1 hi1 hb2
    obtain ⟨a0, a1, b0, b1, c0, c1, f0, f1⟩ := hi2.cells
    go_wp2_with fail
    refine bodyPost_ret (v := .tuple #[.agg #[.bool false, .string ⟨#[]⟩], .int .i64 3]) (by simp [results, Tryd.results15, go_sem, c0, c1]) rfl ⟨rfl, ?_⟩
    exact (hi2.below.setCell (by simp; omega) _).setCell (by simp; omega) _
set_option maxHeartbeats 1000000 in
theorem rMul_nm {n k : Bool} {m l : Nat} (h1 : Nm n m) (h2 : Nm k l) (w : World) :
    Calls Tryd.prog 19 #[.agg #[.bool n, Sv (Dm.str m)], .agg #[.bool k, Sv (Dm.str l)]] w fun e w' => e = .returned (fitI (zz n m * zz k l)) ∧ Below w.heap.size w w' := by
  have hi := I3.start w (.bool n) (Sv (Dm.str m)) (.bool k) (Sv (Dm.str l)) (.bool false) (.string ⟨#[]⟩)
  go_enter Tryd.func19, Tryd.ntmps19
  go_wp2_with fail
  refine (rValid_nm h1 _).mono ?_
  rintro e wv ⟨rfl, hbv⟩
  have hiv := hi.next hbv
  obtain ⟨a0, a1, b0, b1, c0, c1, f0, f1⟩ := hiv.cells
  clear hi hbv
  go_wp2_with fail
  refine (rValid_nm h2 _).mono ?_
  rintro e w1 ⟨rfl, hb1⟩
  have hi1 := hiv.next hb1
  clear a0 a1 b0 b1 c0 c1 f0 f1 hiv hb1
  obtain ⟨a0, a1, b0, b1, c0, c1, f0, f1⟩ := hi1.cells
  go_wp2_with fail
  refine (rMul m l h1.lt h2.lt _).mono ?_
  rintro e w2 ⟨rfl, hb2⟩
  have hi2 := hi1.next hb2
  clear a0 a1 b0 b1 c0 c1 f0 f1 hi1 hb2
  obtain ⟨a0, a1, b0, b1, c0, c1, f0, f1⟩ := hi2.cells
  have e := zz_mul n k m l
  have e2 := zz_abs (n != k) (m * l)
  have HE := Lib.hid e
  have HE2 := Lib.hid e2
  clear e e2
  by_cases hf : m * l < 256 ^ 128
  · rw [if_pos hf]
    have HV : Hid (fitI (zz n m * zz k l) = .tuple #[iV (zz (n != k) (m * l)), .int .i64 0]) := by
      show _ = _
      rw [HE.out, fitI, if_pos (by rw [HE2.out]; exact hf)]
    obtain ⟨x, y, hx⟩ := iV_form (zz (n != k) (m * l))
    have HX := Lib.hid hx
    clear hx
    go_wp2_with fail
    refine (rmake_at (n != k) (m * l) (zz (n != k) (m * l)) _ rfl).mono ?_
    rintro e w3 ⟨rfl, hb3⟩
    rw [HX.out]
    have hi3 := hi2.next hb3
    clear a0 a1 b0 b1 c0 c1 f0 f1 hi2 hb3
    obtain ⟨a0, a1, b0, b1, c0, c1, f0, f1⟩ := hi3.cells
    go_wp2_with fail
    refine bodyPost_ret (v := .tuple #[.agg #[.bool x, .string y], .int .i64 0]) (by simp [results, Tryd.results19, go_sem, c0, c1]) rfl ⟨by rw [HV.out, HX.out], ?_⟩
    exact (hi3.below.setCell (by simp; omega) _).setCell (by simp; omega) _
  · rw [if_neg hf]
    have HV : Hid (fitI (zz n m * zz k l) = .tuple #[iV (zz (n != k) 0), .int .i64 5]) := by
      show _ = _
      have e3 : zz (n != k) 0 = 0 := by cases n <;> cases k <;> rfl
      rw [HE.out, fitI, if_neg (by rw [HE2.out]; exact hf), e3]
    obtain ⟨x, y, hx⟩ := iV_form (zz (n != k) 0)
    have HX := Lib.hid hx
    clear hx
    go_wp2_with fail
    refine (rmake_at (n != k) 0 (zz (n != k) 0) _ rfl).mono ?_
    rintro e w3 ⟨rfl, hb3⟩
    rw [HX.out]
    have hi3 := hi2.next hb3
    clear a0 a1 b0 b1 c0 c1 f0 f1 hi2 hb3
    obtain ⟨a0, a1, b0, b1, c0, c1, f0, f1⟩ := hi3.cells
    go_wp2_with fail
    refine bodyPost_ret (v := .tuple #[.agg #[.bool x, .string y], .int .i64 5]) (by simp [results, Tryd.results19, go_sem, c0, c1]) rfl ⟨by rw [HV.out, HX.out], ?_⟩
    exact (hi3.below.setCell (by simp; omega) _).setCell (by simp; omega) _
set_option maxHeartbeats 1000000 in
theorem rMul_bad (n k : Bool) (s t : ByteArray) (w : World) (hl : s.size ≤ 1073741824) (hl2 : t.size ≤ 1073741824) (hv : (validI n (tl s) && validI k (tl t)) = false) :
    Calls Tryd.prog 19 #[.agg #[.bool n, .string s], .agg #[.bool k, .string t]] w fun e w' => e = .returned (.tuple #[intE, .int .i64 3]) ∧ Below w.heap.size w w' := by
  have hi := I3.start w (.bool n) (.string s) (.bool k) (.string t) (.bool false) (.string ⟨#[]⟩)
  have HV := Lib.hid hv
  clear hv
  cases h1 : validI n (tl s) with
  | false =>
    have H1 := Lib.hid h1
    clear h1 HV
    go_enter Tryd.func19, Tryd.ntmps19
    go_wp2_with fail
    refine (rValid_at n s false _ hl H1.out).mono ?_
    rintro e w1 ⟨rfl, hb1⟩
    have hi1 := hi.next hb1
    obtain ⟨a0, a1, b0, b1, c0, c1, f0, f1⟩ := hi1.cells
    clear hi hb1
    go_wp2_with fail
    refine bodyPost_ret (v := .tuple #[.agg #[.bool false, .string ⟨#[]⟩], .int .i64 3]) (by simp [results, Tryd.results19, go_sem, c0, c1]) rfl ⟨rfl, ?_⟩
    exact (hi1.below.setCell (by simp; omega) _).setCell (by simp; omega) _
  | true =>
    have H1 := Lib.hid h1
    have h2 := HV.out
    rw [h1, Bool.true_and] at h2
    have H2 := Lib.hid h2
    clear h1 h2 HV
    go_enter Tryd.func19, Tryd.ntmps19
    go_wp2_with fail
    refine (rValid_at n s true _ hl H1.out).mono ?_
    rintro e w1 ⟨rfl, hb1⟩
    have hi1 := hi.next hb1
    obtain ⟨a0, a1, b0, b1, c0, c1, f0, f1⟩ := hi1.cells
    clear hi hb1
    go_wp2_with fail
    refine (rValid_at k t false _ hl2 H2.out).mono ?_
    rintro e w2 ⟨rfl, hb2⟩
    have hi2 := hi1.next hb2
    clear a0 a1 b0 b1 c0 c1 f0 f1 hi1 hb2
    obtain ⟨a0, a1, b0, b1, c0, c1, f0, f1⟩ := hi2.cells
    go_wp2_with fail
    refine bodyPost_ret (v := .tuple #[.agg #[.bool false, .string ⟨#[]⟩], .int .i64 3]) (by simp [results, Tryd.results19, go_sem, c0, c1]) rfl ⟨rfl, ?_⟩
    exact (hi2.below.setCell (by simp; omega) _).setCell (by simp; omega) _
set_option maxHeartbeats 1000000 in
theorem rNeg_nm {n : Bool} {m : Nat} (h1 : Nm n m) (w : World) :
    Calls Tryd.prog 41 #[.agg #[.bool n, Sv (Dm.str m)]] w fun e w' => e = .returned (iV (-(zz n m))) ∧ Below w.heap.size w w' := by
  have hi := I2.start w (.bool n) (Sv (Dm.str m)) (.bool false) (.string ⟨#[]⟩)
  have e : -(zz n m) = zz (!n) m := by cases n <;> simp [zz]
  rw [e]
  clear e
  obtain ⟨x, y, hx⟩ := iV_form (zz (!n) m)
  have HX := Lib.hid hx
  rw [hx]
  clear hx
  go_enter Tryd.func41, Tryd.ntmps41
  go_wp2_with fail
  refine (rValid_nm h1 _).mono ?_
  rintro e w1 ⟨rfl, hb1⟩
  have hi1 := hi.next hb1
  obtain ⟨a0, a1, c0, c1, f0, f1⟩ := hi1.cells
  clear hi hb1
  go_wp2_with fail
  refine (rmake_at (!n) m (zz (!n) m) _ rfl).mono ?_
  rintro e w2 ⟨rfl, hb2⟩
  rw [HX.out]
  have hi2 := hi1.next hb2
  clear a0 a1 c0 c1 f0 f1 hi1 hb2
  obtain ⟨a0, a1, c0, c1, f0, f1⟩ := hi2.cells
  go_wp2_with fail
  refine bodyPost_ret (v := .agg #[.bool x, .string y]) (by simp [results, Tryd.results41, go_sem, c0, c1]) rfl ⟨rfl, ?_⟩
  exact (hi2.below.setCell (by simp) _).setCell (by simp) _
set_option maxHeartbeats 1000000 in
theorem rNeg_bad (n : Bool) (s : ByteArray) (w : World) (hl : s.size ≤ 1073741824) (hv : validI n (tl s) = false) :
    Calls Tryd.prog 41 #[.agg #[.bool n, .string s]] w fun e w' => e = .returned intE ∧ Below w.heap.size w w' := by
  have hi := I2.start w (.bool n) (.string s) (.bool false) (.string ⟨#[]⟩)
  have HV := Lib.hid hv
  clear hv
  go_enter Tryd.func41, Tryd.ntmps41
  go_wp2_with fail
  refine (rValid_at n s false _ hl HV.out).mono ?_
  rintro e w1 ⟨rfl, hb1⟩
  have hi1 := hi.next hb1
  obtain ⟨a0, a1, c0, c1, f0, f1⟩ := hi1.cells
  clear hi hb1
  go_wp2_with fail
  refine bodyPost_ret (v := .agg #[.bool false, .string ⟨#[]⟩]) (by simp [results, Tryd.results41, go_sem, c0, c1]) rfl ⟨rfl, ?_⟩
  exact (hi1.below.setCell (by simp) _).setCell (by simp) _
set_option maxHeartbeats 1000000 in
theorem rSub_nm {n k : Bool} {m l : Nat} (h1 : Nm n m) (h2 : Nm k l) (w : World) :
    Calls Tryd.prog 17 #[.agg #[.bool n, Sv (Dm.str m)], .agg #[.bool k, Sv (Dm.str l)]] w fun e w' => e = .returned (fitI (zz n m - zz k l)) ∧ Below w.heap.size w w' := by
  have hi := I3.start w (.bool n) (Sv (Dm.str m)) (.bool k) (Sv (Dm.str l)) (.bool false) (.string ⟨#[]⟩)
  have h3 : Nm (decide (-(zz k l) < 0)) (-(zz k l)).natAbs := nm_of _ (by unfold Fits; rw [Int.natAbs_neg]; have := h2.lt; cases k <;> simpa [zz] using this)
  have hz : zz (decide (-(zz k l) < 0)) (-(zz k l)).natAbs = -(zz k l) := zz_of _
  obtain ⟨x, y, er, hx⟩ := fitI_form (zz n m - zz k l)
  have hN := fun W : World => (rNeg_nm h2 W)
  have hA := fun W : World => rAdd_nm h1 h3 W
  rw [hz, ← Int.sub_eq_add_neg, hx] at hA
  have HN := Lib.hid hN
  have HA := Lib.hid hA
  rw [hx]
  clear hN hA hx hz
  go_enter Tryd.func17, Tryd.ntmps17
  go_wp2_with fail
  refine (rValid_nm h1 _).mono ?_
  rintro e wv ⟨rfl, hbv⟩
  have hiv := hi.next hbv
  obtain ⟨a0, a1, b0, b1, c0, c1, f0, f1⟩ := hiv.cells
  clear hi hbv
  go_wp2_with fail
  refine (rValid_nm h2 _).mono ?_
  rintro e w1 ⟨rfl, hb1⟩
  have hi1 := hiv.next hb1
  clear a0 a1 b0 b1 c0 c1 f0 f1 hiv hb1
  obtain ⟨a0, a1, b0, b1, c0, c1, f0, f1⟩ := hi1.cells
  go_wp2_with fail
  have hi2 : I3 w (.bool n) (Sv (Dm.str m)) (.bool k) (Sv (Dm.str l)) (.bool false) (.string ⟨#[]⟩) w1.drew := hi1.drew
  clear a0 a1 b0 b1 c0 c1 f0 f1 hi1
  go_region_held3 (fun w' => (w'.cell? ⟨w.heap.size, 0, none⟩ = some (.bool n) ∧ w'.cell? ⟨w.heap.size, 1, none⟩ = some (Sv (Dm.str m))) ∧ w'.cell? ⟨w.heap.size + 1, 0, none⟩ = some (.bool k) ∧ w'.cell? ⟨w.heap.size + 1, 1, none⟩ = some (Sv (Dm.str l))) (first | exact I3.ab (by assumption) | exact I3.ab' (by assumption))
    (first | (go_at_call 41; refine (HN.out _).mono ?_; rintro e wa ⟨rfl, hba⟩; have hi3 := I3.next (by assumption) hba) | (go_at_call 15; refine (HA.out _).mono ?_; rintro e wb ⟨rfl, hbb⟩; have hi4 := I3.next (by assumption) hbb; have c0 := hi4.cells.2.2.2.2.1; have c1 := hi4.cells.2.2.2.2.2.1; have f0 := hi4.cells.2.2.2.2.2.2.1; have f1 := hi4.cells.2.2.2.2.2.2.2))
  go_wp2_with fail
  refine bodyPost_ret (v := .tuple #[.agg #[.bool x, .string y], .int .i64 er]) (by simp [results, Tryd.results17, go_sem, c0, c1]) rfl ⟨rfl, ?_⟩
  exact (hi4.below.setCell (by simp; omega) _).setCell (by simp; omega) _
set_option maxHeartbeats 1000000 in
theorem rSub_bad (n k : Bool) (s t : ByteArray) (w : World) (hl : s.size ≤ 1073741824) (hl2 : t.size ≤ 1073741824) (hv : (validI n (tl s) && validI k (tl t)) = false) :
    Calls Tryd.prog 17 #[.agg #[.bool n, .string s], .agg #[.bool k, .string t]] w fun e w' => e = .returned (.tuple #[intE, .int .i64 3]) ∧ Below w.heap.size w w' := by
  have hi := I3.start w (.bool n) (.string s) (.bool k) (.string t) (.bool false) (.string ⟨#[]⟩)
  have HV := Lib.hid hv
  clear hv
  cases h1 : validI n (tl s) with
  | false =>
    have H1 := Lib.hid h1
    clear h1 HV
    go_enter Tryd.func17, Tryd.ntmps17
    go_wp2_with fail
    refine (rValid_at n s false _ hl H1.out).mono ?_
    rintro e w1 ⟨rfl, hb1⟩
    have hi1 := hi.next hb1
    obtain ⟨a0, a1, b0, b1, c0, c1, f0, f1⟩ := hi1.cells
    clear hi hb1
    go_wp2_with fail
    refine bodyPost_ret (v := .tuple #[.agg #[.bool false, .string ⟨#[]⟩], .int .i64 3]) (by simp [results, Tryd.results17, go_sem, c0, c1]) rfl ⟨rfl, ?_⟩
    exact (hi1.below.setCell (by simp; omega) _).setCell (by simp; omega) _
  | true =>
    have H1 := Lib.hid h1
    have h2 := HV.out
    rw [h1, Bool.true_and] at h2
    have H2 := Lib.hid h2
    clear h1 h2 HV
    go_enter Tryd.func17, Tryd.ntmps17
    go_wp2_with fail
    refine (rValid_at n s true _ hl H1.out).mono ?_
    rintro e w1 ⟨rfl, hb1⟩
    have hi1 := hi.next hb1
    obtain ⟨a0, a1, b0, b1, c0, c1, f0, f1⟩ := hi1.cells
    clear hi hb1
    go_wp2_with fail
    refine (rValid_at k t false _ hl2 H2.out).mono ?_
    rintro e w2 ⟨rfl, hb2⟩
    have hi2 := hi1.next hb2
    clear a0 a1 b0 b1 c0 c1 f0 f1 hi1 hb2
    obtain ⟨a0, a1, b0, b1, c0, c1, f0, f1⟩ := hi2.cells
    go_wp2_with fail
    refine bodyPost_ret (v := .tuple #[.agg #[.bool false, .string ⟨#[]⟩], .int .i64 3]) (by simp [results, Tryd.results17, go_sem, c0, c1]) rfl ⟨rfl, ?_⟩
    exact (hi2.below.setCell (by simp; omega) _).setCell (by simp; omega) _
end Go.Proofs.YtlagcdgfmgkooaaDoor

/-
  Walks over integer.DivMod and dominoref02.DivMod.
-/
namespace Go.Proofs.YtlagcdgfmgkooaaDoor
open Go.RowKit
set_option linter.unusedVariables false

def qN (n : Bool) (m l : Nat) : Nat := if n = true ∧ m % l ≠ 0 then m / l + 1 else m / l
def rN (n : Bool) (m l : Nat) : Nat := if n = true ∧ m % l ≠ 0 then l - m % l else m % l
theorem ediv_pos (n : Bool) (m l : Nat) (hl : l ≠ 0) : zz n m / (l : Int) = zz n (qN n m l) ∧ zz n m % (l : Int) = (rN n m l : Nat) := by
  have h1 := Nat.div_add_mod m l
  have h2 := Nat.mod_lt m (Nat.pos_of_ne_zero hl)
  refine (Int.ediv_emod_unique (by omega)).2 ?_
  unfold qN rN zz
  generalize m / l = q at *
  generalize m % l = r at *
  cases n with
  | false =>
    simp
    refine ⟨?_, by omega⟩
    have : ((l * q + r : Nat) : Int) = m := by rw [h1]
    rw [Int.natCast_add, Int.natCast_mul] at this
    omega
  | true =>
    have h3 : ((l * q + r : Nat) : Int) = m := by rw [h1]
    rw [Int.natCast_add, Int.natCast_mul] at h3
    by_cases hr : r = 0
    · simp [hr]
      subst hr
      simp at h3
      refine ⟨?_, by omega⟩
      rw [Int.mul_neg]; omega
    · simp [hr]
      refine ⟨?_, by omega⟩
      have : (l : Int) * (-1 + -(q : Int)) = -((l : Int) * q) - l := by grind
      have e : -((q : Int) + 1) = -1 + -(q : Int) := by omega
      first | (rw [e, this]; omega) | (rw [this]; omega) | grind
theorem zz_not (k : Bool) (m : Nat) : zz (!k) m = -(zz k m) := by cases k <;> simp [zz]
theorem ediv_nm (n k : Bool) (m l : Nat) (hl : l ≠ 0) : zz n m / zz k l = zz (n != k) (qN n m l) ∧ zz n m % zz k l = (rN n m l : Nat) := by
  obtain ⟨h1, h2⟩ := ediv_pos n m l hl
  cases k with
  | false =>
    have e : zz false l = (l : Int) := rfl
    rw [e, h1, h2]
    cases n <;> exact ⟨rfl, rfl⟩
  | true =>
    have e : zz true l = -(l : Int) := rfl
    rw [e, Int.ediv_neg, Int.emod_neg, h1, h2]
    refine ⟨?_, rfl⟩
    cases n
    · rfl
    · simp [zz]
theorem qN_lt {n : Bool} {m l : Nat} (hm : m < 256 ^ 128) (hl : l ≠ 0) : qN n m l < 256 ^ 128 := by
  have h2 := Nat.mod_lt m (Nat.pos_of_ne_zero hl)
  have h3 := Nat.div_add_mod m l
  unfold qN
  split
  · rename_i h
    have : 2 ≤ l := by
      rcases Nat.lt_or_ge l 2 with h4 | h4
      · have : l = 1 := by omega
        subst this
        rw [Nat.mod_one] at h
        exact absurd rfl h.2
      · exact h4
    have h5 : 2 * (m / l) ≤ l * (m / l) := Nat.mul_le_mul_right _ this
    omega
  · exact Nat.lt_of_le_of_lt (Nat.div_le_self _ _) hm
theorem rN_lt {n : Bool} {m l : Nat} (hl : l ≠ 0) : rN n m l < l := by
  have h2 := Nat.mod_lt m (Nat.pos_of_ne_zero hl)
  unfold rN
  split
  · rename_i h; omega
  · exact h2
def divI (z y : Int) : Value := if y = 0 then .tuple #[intE, .string ⟨#[]⟩, .int .i64 11] else .tuple #[iV (z / y), Sv (Dm.str (z % y).toNat), .int .i64 0]
theorem divI_zero (n k : Bool) (m : Nat) : divI (zz n m) (zz k 0) = .tuple #[intE, .string ⟨#[]⟩, .int .i64 11] := by
  rw [divI, if_pos (by cases k <;> rfl)]
theorem divI_nm (n k : Bool) (m l : Nat) (hl : l ≠ 0) : divI (zz n m) (zz k l) = .tuple #[iV (zz (n != k) (qN n m l)), Sv (Dm.str (rN n m l)), .int .i64 0] := by
  obtain ⟨h1, h2⟩ := ediv_nm n k m l hl
  rw [divI, if_neg (by cases k <;> simp [zz] <;> omega), h1, h2, Int.toNat_natCast]
theorem one_of (w : World) : Calls Tryd.prog 47 #[.int .u64 1] w fun e w' => e = .returned (Sv (Dm.str 1)) ∧ Below w.heap.size w w' := of_at 1 1 w rfl (by omega)
theorem r_one_of (w : World) : Calls Tryd.prog 65 #[.int .u64 1] w fun e w' => e = .returned (Sv (Dm.str 1)) ∧ Below w.heap.size w w' := ref_of_at 1 1 w rfl (by omega)
theorem pos_lt {l : Nat} {k : Bool} (h : Nm k l) : 1 < 256 ^ 128 := by decide +kernel
set_option maxHeartbeats 1000000 in
theorem rDivMod_nm {n k : Bool} {m l : Nat} (h1 : Nm n m) (h2 : Nm k l) (w : World) :
    Calls Tryd.prog 27 #[.agg #[.bool n, Sv (Dm.str m)], .agg #[.bool k, Sv (Dm.str l)]] w fun e w' => e = .returned (divI (zz n m) (zz k l)) ∧ Below w.heap.size w w' := by
  have hi := I3.start w (.bool n) (Sv (Dm.str m)) (.bool k) (Sv (Dm.str l)) (.bool false) (.string ⟨#[]⟩)
  by_cases hl0 : l = 0
  · subst hl0
    obtain ⟨e1, e2⟩ := str_zero (n := 0) rfl
    have HV := Lib.hid (divI_zero n k m)
    go_enter Tryd.func27, Tryd.ntmps27
    go_wp2_with fail
    refine (rValid_nm h1 _).mono ?_
    rintro e wv ⟨rfl, hbv⟩
    have hiv := hi.next hbv
    obtain ⟨a0, a1, b0, b1, c0, c1, f0, f1⟩ := hiv.cells
    clear hi hbv
    go_wp2_with fail
    refine (rValid_nm h2 _).mono ?_
    rintro e w1 ⟨rfl, hb1⟩
    have hi1 := hiv.next hb1
    clear a0 a1 b0 b1 c0 c1 f0 f1 hiv hb1
    obtain ⟨a0, a1, b0, b1, c0, c1, f0, f1⟩ := hi1.cells
    go_wp2_with fail
    refine bodyPost_ret (v := .tuple #[.agg #[.bool false, .string ⟨#[]⟩], .string ⟨#[]⟩, .int .i64 11]) (by simp [results, Tryd.results27, go_sem, c0, c1]) rfl ⟨by rw [HV.out]; rfl, ?_⟩
    exact (hi1.below.setCell (by simp; omega) _).setCell (by simp; omega) _
  · obtain ⟨e1, e2⟩ := str_pos hl0
    have HV := Lib.hid (divI_nm n k m l hl0)
    have hq0 : m / l < 256 ^ 128 := Nat.lt_of_le_of_lt (Nat.div_le_self _ _) h1.lt
    have hqn := qN_lt (n := n) (m := m) (l := l) h1.lt hl0
    have hD := fun W : World => rDiv m l h1.lt h2.lt hl0 W
    have HD := Lib.hid hD
    have hrl := Nat.mod_lt m (Nat.pos_of_ne_zero hl0)
    clear hD
    by_cases hnr : n = true ∧ m % l ≠ 0
    · have hq : qN n m l = m / l + 1 := by rw [qN, if_pos hnr]
      have hr : rN n m l = l - m % l := by rw [rN, if_pos hnr]
      rw [hq, hr] at HV
      rw [hq] at hqn
      obtain ⟨hn, hr0⟩ := hnr
      obtain ⟨e3, e4⟩ := str_pos hr0
      have hA := fun W : World => rAdd (m / l) 1 hq0 (pos_lt h2) W
      rw [if_pos hqn] at hA
      have HA := Lib.hid hA
      have hS := fun W : World => rSub l (m % l) h2.lt (by omega) W
      have HS := Lib.hid hS
      clear hA hS hq hr
      subst hn
      obtain ⟨x, y, hx⟩ := iV_form (zz (true != k) (m / l + 1))
      have HX := Lib.hid hx
      clear hx
      go_enter Tryd.func27, Tryd.ntmps27
      go_wp2_with fail
      refine (rValid_nm h1 _).mono ?_
      rintro e wv ⟨rfl, hbv⟩
      have hiv := hi.next hbv
      obtain ⟨a0, a1, b0, b1, c0, c1, f0, f1⟩ := hiv.cells
      clear hi hbv
      go_wp2_with fail
      refine (rValid_nm h2 _).mono ?_
      rintro e w1 ⟨rfl, hb1⟩
      have hi1 := hiv.next hb1
      clear a0 a1 b0 b1 c0 c1 f0 f1 hiv hb1
      obtain ⟨a0, a1, b0, b1, c0, c1, f0, f1⟩ := hi1.cells
      go_wp2_with fail
      refine (HD.out _).mono ?_
      rintro e w2 ⟨rfl, hb2⟩
      have hi2 := hi1.next hb2
      clear a0 a1 b0 b1 c0 c1 f0 f1 hi1 hb2
      obtain ⟨a0, a1, b0, b1, c0, c1, f0, f1⟩ := hi2.cells
      go_wp2_with fail
      refine (r_one_of _).mono ?_
      rintro e w3 ⟨rfl, hb3⟩
      have hi3 := hi2.next hb3
      clear a0 a1 b0 b1 c0 c1 f0 f1 hi2 hb3
      obtain ⟨a0, a1, b0, b1, c0, c1, f0, f1⟩ := hi3.cells
      go_wp2_with fail
      refine (HA.out _).mono ?_
      rintro e w4 ⟨rfl, hb4⟩
      have hi4 := hi3.next hb4
      clear a0 a1 b0 b1 c0 c1 f0 f1 hi3 hb4
      obtain ⟨a0, a1, b0, b1, c0, c1, f0, f1⟩ := hi4.cells
      go_wp2_with fail
      refine (HS.out _).mono ?_
      rintro e w5 ⟨rfl, hb5⟩
      have hi5 := hi4.next hb5
      clear a0 a1 b0 b1 c0 c1 f0 f1 hi4 hb5
      obtain ⟨a0, a1, b0, b1, c0, c1, f0, f1⟩ := hi5.cells
      go_wp2_with fail
      refine (rmake_at _ (m / l + 1) (zz (true != k) (m / l + 1)) _ (by cases k <;> rfl)).mono ?_
      rintro e w6 ⟨rfl, hb6⟩
      rw [HX.out]
      have hi6 := hi5.next hb6
      clear a0 a1 b0 b1 c0 c1 f0 f1 hi5 hb6
      obtain ⟨a0, a1, b0, b1, c0, c1, f0, f1⟩ := hi6.cells
      go_wp2_with fail
      refine bodyPost_ret (v := .tuple #[.agg #[.bool x, .string y], Sv (Dm.str (l - m % l)), .int .i64 0]) (by simp [results, Tryd.results27, go_sem, c0, c1]) rfl ⟨by rw [HV.out, HX.out], ?_⟩
      exact (hi6.below.setCell (by simp; omega) _).setCell (by simp; omega) _
    · have hq : qN n m l = m / l := by rw [qN, if_neg hnr]
      have hr : rN n m l = m % l := by rw [rN, if_neg hnr]
      rw [hq, hr] at HV
      have hcs : n = false ∨ (n = true ∧ m % l = 0) := by
        cases n
        · exact .inl rfl
        · exact .inr ⟨rfl, by simpa using hnr⟩
      clear hq hr hqn
      obtain ⟨x, y, hx⟩ := iV_form (zz (n != k) (m / l))
      have HX := Lib.hid hx
      clear hx hnr
      rcases hcs with rfl | ⟨rfl, hr0⟩
      · go_enter Tryd.func27, Tryd.ntmps27
        go_wp2_with fail
        refine (rValid_nm h1 _).mono ?_
        rintro e wv ⟨rfl, hbv⟩
        have hiv := hi.next hbv
        obtain ⟨a0, a1, b0, b1, c0, c1, f0, f1⟩ := hiv.cells
        clear hi hbv
        go_wp2_with fail
        refine (rValid_nm h2 _).mono ?_
        rintro e w1 ⟨rfl, hb1⟩
        have hi1 := hiv.next hb1
        clear a0 a1 b0 b1 c0 c1 f0 f1 hiv hb1
        obtain ⟨a0, a1, b0, b1, c0, c1, f0, f1⟩ := hi1.cells
        go_wp2_with fail
        refine (HD.out _).mono ?_
        rintro e w2 ⟨rfl, hb2⟩
        have hi2 := hi1.next hb2
        clear a0 a1 b0 b1 c0 c1 f0 f1 hi1 hb2
        obtain ⟨a0, a1, b0, b1, c0, c1, f0, f1⟩ := hi2.cells
        go_wp2_with fail
        refine (rmake_at _ (m / l) (zz (false != k) (m / l)) _ (by cases k <;> rfl)).mono ?_
        rintro e w6 ⟨rfl, hb6⟩
        rw [HX.out]
        have hi6 := hi2.next hb6
        clear a0 a1 b0 b1 c0 c1 f0 f1 hi2 hb6
        obtain ⟨a0, a1, b0, b1, c0, c1, f0, f1⟩ := hi6.cells
        go_wp2_with fail
        refine bodyPost_ret (v := .tuple #[.agg #[.bool x, .string y], Sv (Dm.str (m % l)), .int .i64 0]) (by simp [results, Tryd.results27, go_sem, c0, c1]) rfl ⟨by rw [HV.out, HX.out], ?_⟩
        exact (hi6.below.setCell (by simp; omega) _).setCell (by simp; omega) _
      · obtain ⟨e3, e4⟩ := str_zero hr0
        have HR0 := Lib.hid hr0
        clear hr0
        go_enter Tryd.func27, Tryd.ntmps27
        go_wp2_with fail
        refine (rValid_nm h1 _).mono ?_
        rintro e wv ⟨rfl, hbv⟩
        have hiv := hi.next hbv
        obtain ⟨a0, a1, b0, b1, c0, c1, f0, f1⟩ := hiv.cells
        clear hi hbv
        go_wp2_with fail
        refine (rValid_nm h2 _).mono ?_
        rintro e w1 ⟨rfl, hb1⟩
        have hi1 := hiv.next hb1
        clear a0 a1 b0 b1 c0 c1 f0 f1 hiv hb1
        obtain ⟨a0, a1, b0, b1, c0, c1, f0, f1⟩ := hi1.cells
        go_wp2_with fail
        refine (HD.out _).mono ?_
        rintro e w2 ⟨rfl, hb2⟩
        have hi2 := hi1.next hb2
        clear a0 a1 b0 b1 c0 c1 f0 f1 hi1 hb2
        obtain ⟨a0, a1, b0, b1, c0, c1, f0, f1⟩ := hi2.cells
        go_wp2_with fail
        refine (rmake_at _ (m / l) (zz (true != k) (m / l)) _ (by cases k <;> rfl)).mono ?_
        rintro e w6 ⟨rfl, hb6⟩
        rw [HX.out]
        have hi6 := hi2.next hb6
        clear a0 a1 b0 b1 c0 c1 f0 f1 hi2 hb6
        obtain ⟨a0, a1, b0, b1, c0, c1, f0, f1⟩ := hi6.cells
        go_wp2_with fail
        refine bodyPost_ret (v := .tuple #[.agg #[.bool x, .string y], Sv (Dm.str (m % l)), .int .i64 0]) (by simp [results, Tryd.results27, go_sem, c0, c1]) rfl ⟨by rw [HV.out, HX.out], ?_⟩
        exact (hi6.below.setCell (by simp; omega) _).setCell (by simp; omega) _
end Go.Proofs.YtlagcdgfmgkooaaDoor
