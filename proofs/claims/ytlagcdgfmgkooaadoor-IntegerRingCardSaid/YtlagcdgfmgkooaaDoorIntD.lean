import Derived.Test.YtlagcdgfmgkooaaDoorShelf2
import Derived.Test.YtlagcdgfmgkooaaDoorIntC
import Derived.Test.YtlagcdgfmgkooaaDoorRef10
import Derived.Test.YtlagcdgfmgkooaaDoorInt11
import Derived.Test.YtlagcdgfmgkooaaDoorIntA
/-
  Walk over integer.Parse.
-/
namespace Go.Proofs.YtlagcdgfmgkooaaDoor
open Go.RowKit
set_option linter.unusedVariables false

def negL (l : List UInt8) : Bool := Lib.hasPrefix l [45]
def digL (l : List UInt8) : List UInt8 := Lib.trimPrefix l [45]
def parseI (l : List UInt8) : Value :=
  if Dm.okDec (digL l) then
    if (Dm.str (Dm.dv (digL l))).length ≤ 128 then
      if negL l = true ∧ Dm.dv (digL l) = 0 then .tuple #[iV 0, .int .i64 4] else .tuple #[iV (zz (negL l) (Dm.dv (digL l))), .int .i64 0]
    else .tuple #[iV 0, .int .i64 5]
  else .tuple #[iV 0, .int .i64 4]
theorem cut_any (s : ByteArray) (w : World) :
    Calls Tryd.prog 70 #[.string s, .string ⟨#[45]⟩] w fun e w' => e = .returned (.tuple #[Sv (digL (tl s)), .bool (negL (tl s))]) ∧ w = w' :=
  (Tryd.strings_CutPrefix s ⟨#[45]⟩ w).mono fun e w' ⟨he, hw⟩ => ⟨he, hw.symm⟩
theorem digL_len (l : List UInt8) : (digL l).length ≤ l.length := by
  unfold digL Lib.trimPrefix
  split
  · simp
  · exact Nat.le_refl _
set_option maxHeartbeats 1000000 in
theorem iParse_err (e : Int) (he : e = 4 ∨ e = 5) (s : ByteArray) (w : World) (dl : List UInt8) (ng : Bool)
    (hC : ∀ W : World, Calls Tryd.prog 70 #[.string s, .string ⟨#[45]⟩] W fun e w' => e = .returned (.tuple #[Sv dl, .bool ng]) ∧ W = w')
    (hP : ∀ W : World, Calls Tryd.prog 71 #[Sv dl] W fun r w' => r = .returned (.tuple #[Sv [], .int .i64 e]) ∧ Below W.heap.size W w') :
    Calls Tryd.prog 45 #[.string s] w fun r w' => r = .returned (.tuple #[iV 0, .int .i64 e]) ∧ Below w.heap.size w w' := by
  have HC := Lib.hid hC
  have HP := Lib.hid hP
  clear hC hP
  have hi := I1.start w (.bool false) (.string ⟨#[]⟩)
  rcases he with rfl | rfl
  all_goals
    go_enter Tryd.func45, Tryd.ntmps45
    go_wp2_with fail
    refine (HC.out _).mono ?_
    rintro r w1 ⟨rfl, rfl⟩
    go_wp2_with fail
    refine (HP.out _).mono ?_
    rintro r w2 ⟨rfl, hb2⟩
    have hi2 := hi.next hb2
    obtain ⟨c0, c1, f0, f1⟩ := hi2.cells
    clear hi hb2
    go_wp2_with fail
    refine bodyPost_ret (v := .tuple #[.agg #[.bool false, .string ⟨#[]⟩], .int .i64 _]) (by simp [results, Tryd.results45, go_sem, c0, c1]) rfl ⟨rfl, ?_⟩
    exact (hi2.below.setCell (by simp) _).setCell (by simp) _
set_option maxHeartbeats 1000000 in
theorem iParse_zero (s : ByteArray) (w : World) (dl : List UInt8)
    (hC : ∀ W : World, Calls Tryd.prog 70 #[.string s, .string ⟨#[45]⟩] W fun e w' => e = .returned (.tuple #[Sv dl, .bool true]) ∧ W = w')
    (hP : ∀ W : World, Calls Tryd.prog 71 #[Sv dl] W fun r w' => r = .returned (.tuple #[Sv (Dm.str 0), .int .i64 0]) ∧ Below W.heap.size W w') :
    Calls Tryd.prog 45 #[.string s] w fun r w' => r = .returned (.tuple #[iV 0, .int .i64 4]) ∧ Below w.heap.size w w' := by
  have HC := Lib.hid hC
  have HP := Lib.hid hP
  clear hC hP
  have hi := I1.start w (.bool false) (.string ⟨#[]⟩)
  obtain ⟨z1, z2⟩ := str_zero (n := 0) rfl
  go_enter Tryd.func45, Tryd.ntmps45
  go_wp2_with fail
  refine (HC.out _).mono ?_
  rintro r w1 ⟨rfl, rfl⟩
  go_wp2_with fail
  refine (HP.out _).mono ?_
  rintro r w2 ⟨rfl, hb2⟩
  have hi2 := hi.next hb2
  obtain ⟨c0, c1, f0, f1⟩ := hi2.cells
  clear hi hb2
  go_wp2_with fail
  refine bodyPost_ret (v := .tuple #[.agg #[.bool false, .string ⟨#[]⟩], .int .i64 4]) (by simp [results, Tryd.results45, go_sem, c0, c1]) rfl ⟨rfl, ?_⟩
  exact (hi2.below.setCell (by simp) _).setCell (by simp) _
set_option maxHeartbeats 1000000 in
theorem iParse_ok (s : ByteArray) (w : World) (dl : List UInt8) (ng : Bool) (n : Nat) (hn : ng = true → n ≠ 0)
    (hC : ∀ W : World, Calls Tryd.prog 70 #[.string s, .string ⟨#[45]⟩] W fun e w' => e = .returned (.tuple #[Sv dl, .bool ng]) ∧ W = w')
    (hP : ∀ W : World, Calls Tryd.prog 71 #[Sv dl] W fun r w' => r = .returned (.tuple #[Sv (Dm.str n), .int .i64 0]) ∧ Below W.heap.size W w') :
    Calls Tryd.prog 45 #[.string s] w fun r w' => r = .returned (.tuple #[iV (zz ng n), .int .i64 0]) ∧ Below w.heap.size w w' := by
  have HC := Lib.hid hC
  have HP := Lib.hid hP
  clear hC hP
  have hi := I1.start w (.bool false) (.string ⟨#[]⟩)
  have hM := fun W : World => made_any ng n W
  have hv : iV (zz ng n) = .agg #[.bool ng, Sv (Dm.str n)] := iV_zz hn
  rw [hv] at hM
  have HV := Lib.hid hv
  have HM := Lib.hid hM
  clear hM hv
  have hc : ng = false ∨ (ng = true ∧ n ≠ 0) := by
    cases ng
    · exact .inl rfl
    · exact .inr ⟨rfl, hn rfl⟩
  clear hn
  rcases hc with rfl | ⟨rfl, hn⟩
  · go_enter Tryd.func45, Tryd.ntmps45
    go_wp2_with fail
    refine (HC.out _).mono ?_
    rintro r w1 ⟨rfl, rfl⟩
    go_wp2_with fail
    refine (HP.out _).mono ?_
    rintro r w2 ⟨rfl, hb2⟩
    have hi2 := hi.next hb2
    clear hi hb2
    go_wp2_with fail
    refine (HM.out _).mono ?_
    rintro r w3 ⟨rfl, hb3⟩
    have hi3 := hi2.next hb3
    obtain ⟨c0, c1, f0, f1⟩ := hi3.cells
    clear hi2 hb3
    go_wp2_with fail
    refine bodyPost_ret (v := .tuple #[.agg #[.bool false, Sv (Dm.str n)], .int .i64 0]) (by simp [results, Tryd.results45, go_sem, c0, c1]) rfl ⟨by rw [HV.out], ?_⟩
    exact (hi3.below.setCell (by simp) _).setCell (by simp) _
  · obtain ⟨z1, z2⟩ := str_pos hn
    go_enter Tryd.func45, Tryd.ntmps45
    go_wp2_with fail
    refine (HC.out _).mono ?_
    rintro r w1 ⟨rfl, rfl⟩
    go_wp2_with fail
    refine (HP.out _).mono ?_
    rintro r w2 ⟨rfl, hb2⟩
    have hi2 := hi.next hb2
    clear hi hb2
    go_wp2_with fail
    refine (HM.out _).mono ?_
    rintro r w3 ⟨rfl, hb3⟩
    have hi3 := hi2.next hb3
    obtain ⟨c0, c1, f0, f1⟩ := hi3.cells
    clear hi2 hb3
    go_wp2_with fail
    refine bodyPost_ret (v := .tuple #[.agg #[.bool true, Sv (Dm.str n)], .int .i64 0]) (by simp [results, Tryd.results45, go_sem, c0, c1]) rfl ⟨by rw [HV.out], ?_⟩
    exact (hi3.below.setCell (by simp) _).setCell (by simp) _
theorem iParse_any (s : ByteArray) (w : World) (hs : s.size ≤ 1000000) :
    Calls Tryd.prog 45 #[.string s] w fun r w' => r = .returned (parseI (tl s)) ∧ Below w.heap.size w w' := by
  have hC := cut_any s
  have hP := fun W : World => Parse_any (bs (digL (tl s))) W (by rw [size_bs]; have := digL_len (tl s); rw [length_tl] at this; omega)
  rw [tl_bs] at hP
  unfold parseI
  unfold parseV fitV at hP
  by_cases h1 : Dm.okDec (digL (tl s)) = true
  · rw [if_pos h1] at hP
    rw [if_pos h1]
    by_cases h2 : (Dm.str (Dm.dv (digL (tl s)))).length ≤ 128
    · rw [if_pos h2] at hP
      rw [if_pos h2]
      by_cases h3 : negL (tl s) = true ∧ Dm.dv (digL (tl s)) = 0
      · rw [if_pos h3]
        rw [h3.1] at hC
        rw [h3.2] at hP
        exact iParse_zero s w _ hC hP
      · rw [if_neg h3]
        exact iParse_ok s w _ _ _ (fun h4 h5 => h3 ⟨h4, h5⟩) hC hP
    · rw [if_neg h2] at hP
      rw [if_neg h2]
      exact iParse_err 5 (.inr rfl) s w _ _ hC hP
  · rw [if_neg h1] at hP
    rw [if_neg h1]
    exact iParse_err 4 (.inl rfl) s w _ _ hC hP
end Go.Proofs.YtlagcdgfmgkooaaDoor

/-
  integer.Extended where the second number is 0, or an argument is not valid.
-/
namespace Go.Proofs.YtlagcdgfmgkooaaDoor
open Go.RowKit
set_option linter.unusedVariables false

/-- two blocks of results -/
structure U2 (w : World) (u0 u1 v0 v1 : Value) (W : World) : Prop where
  U : Blk W w.heap.size 24 [u0, u1]
  V : Blk W (w.heap.size + 1) 24 [v0, v1]
  below : Below w.heap.size w W
theorem U2.start (w : World) (u0 u1 v0 v1 : Value) : U2 w u0 u1 v0 v1 ((w.alloc (.cells #[u0, u1] 24)).alloc (.cells #[v0, v1] 24)) := by
  refine ⟨(Blk.new w 24 [u0, u1]).alloc _, ?_, ((Below.refl _ w).alloc (Nat.le_refl _) _).alloc (by simp) _⟩
  have := Blk.new (w.alloc (.cells #[u0, u1] 24)) 24 [v0, v1]
  simpa using this
theorem U2.next {w : World} {u0 u1 v0 v1 : Value} {W W' : World} (h : U2 w u0 u1 v0 v1 W) (hb : Below W.heap.size W W') : U2 w u0 u1 v0 v1 W' :=
  ⟨h.U.below hb h.U.lt, h.V.below hb h.V.lt, h.below.trans (hb.mono h.below.size)⟩
theorem U2.drew {w : World} {u0 u1 v0 v1 : Value} {W : World} (h : U2 w u0 u1 v0 v1 W) : U2 w u0 u1 v0 v1 W.drew := ⟨h.U.drew, h.V.drew, h.below.drew⟩
theorem U2.set {w : World} {u0 u1 v0 v1 : Value} {W : World} (h : U2 w u0 u1 v0 v1 W) (a0 a1 b0 b1 : Value) : U2 w a0 a1 b0 b1 ((((W.setCell ⟨w.heap.size, 0, none⟩ a0).setCell ⟨w.heap.size, 1, none⟩ a1).setCell ⟨w.heap.size + 1, 0, none⟩ b0).setCell ⟨w.heap.size + 1, 1, none⟩ b1) :=
  ⟨(((h.U.set_ 0 a0).set_ 1 a1).far (by simp) b0).far (by simp) b1, (((h.V.far (by simp) a0).far (by simp) a1).set_ 0 b0).set_ 1 b1, (((h.below.setCell (by simp) a0).setCell (by simp) a1).setCell (by simp) b0).setCell (by simp) b1⟩
theorem U2.cells {w : World} {u0 u1 v0 v1 : Value} {W : World} (h : U2 w u0 u1 v0 v1 W) : W.cell? ⟨w.heap.size, 0, none⟩ = some u0 ∧ W.cell? ⟨w.heap.size, 1, none⟩ = some u1 ∧ W.cell? ⟨w.heap.size + 1, 0, none⟩ = some v0 ∧ W.cell? ⟨w.heap.size + 1, 1, none⟩ = some v1 := ⟨h.U.cell 0, h.U.cell 1, h.V.cell 0, h.V.cell 1⟩
theorem U2.free {w : World} {u0 u1 v0 v1 : Value} {W : World} (h : U2 w u0 u1 v0 v1 W) : W.frozen? ⟨w.heap.size, 0, none⟩ = false ∧ W.frozen? ⟨w.heap.size, 1, none⟩ = false ∧ W.frozen? ⟨w.heap.size + 1, 0, none⟩ = false ∧ W.frozen? ⟨w.heap.size + 1, 1, none⟩ = false := ⟨h.U.frozen 0, h.U.frozen 1, h.V.frozen 0, h.V.frozen 1⟩
set_option maxHeartbeats 1000000 in
theorem Ext_zero (a : Nat) (ha : a < 256 ^ 128) (w : World) :
    Calls Tryd.prog 20 #[Sv (Dm.str a), Sv (Dm.str 0)] w fun e w' => e = .returned (.tuple #[Sv (Dm.str a), iV 1, iV 0, .int .i64 0]) ∧ Below w.heap.size w w' := by
  have sa : (bs (Dm.str a)).size ≤ 1073741824 := by
    have : (bs (Dm.str a)).size ≤ 128 := by rw [size_bs]; exact Dm.length_str_le.2 ha
    omega
  have sb : (bs (Dm.str 0)).size ≤ 1073741824 := by rw [size_bs]; decide
  have va : validB (tl (bs (Dm.str a))) = true := by rw [tl_bs]; exact validB_short' (Dm.length_str_le.2 ha)
  have vb : validB (tl (bs (Dm.str 0))) = true := by decide
  have HA := Lib.hid va
  have HB := Lib.hid vb
  clear va vb
  obtain ⟨e1, e2⟩ := str_zero (n := 0) rfl
  have hO1 := fun W : World => iOf_any 1 (by omega) (by omega) W
  have hO0 := fun W : World => iOf_any 0 (by omega) (by omega) W
  have hv1 : iV 1 = .agg #[.bool false, Sv (Dm.str 1)] := by simp [iV]
  have hv0 : iV 0 = .agg #[.bool false, Sv (Dm.str 0)] := by simp [iV]
  rw [hv1] at hO1
  rw [hv0] at hO0
  rw [hv1, hv0]
  have O1 := Lib.hid hO1
  have O0 := Lib.hid hO0
  clear hO1 hO0 hv1 hv0
  have hu := U2.start w (.bool false) (.string ⟨#[]⟩) (.bool false) (.string ⟨#[]⟩)
  go_enter Tryd.func20, Tryd.ntmps20
  go_wp2_with fail
  refine (valid_at _ true _ sa HA.out).mono ?_
  rintro e w' ⟨rfl, rfl⟩
  go_wp2_with fail
  refine (valid_at _ true _ sb HB.out).mono ?_
  rintro e w' ⟨rfl, rfl⟩
  go_wp2_with fail
  refine (O1.out _).mono ?_
  rintro e wa ⟨rfl, hba⟩
  have hu1 := hu.next hba
  clear hu hba
  go_wp2_with fail
  refine (O0.out _).mono ?_
  rintro e wb ⟨rfl, hbb⟩
  have hu2 := hu1.next hbb
  clear hu1 hbb
  obtain ⟨c0, c1, c2, c3⟩ := hu2.cells
  obtain ⟨f0, f1, f2, f3⟩ := hu2.free
  go_wp2_with fail
  have hu3 := hu2.set (.bool false) (Sv (Dm.str 1)) (.bool false) (Sv (Dm.str 0))
  obtain ⟨d0, d1, d2, d3⟩ := hu3.cells
  exact bodyPost_ret (v := .tuple #[Sv (Dm.str a), .agg #[.bool false, Sv (Dm.str 1)], .agg #[.bool false, Sv (Dm.str 0)], .int .i64 0]) (by simp [results, Tryd.results20, go_sem, d0, d1, d2, d3]) rfl ⟨rfl, hu3.below⟩
end Go.Proofs.YtlagcdgfmgkooaaDoor

/-
  Text of both packages at valid integers. Printed by mkint7.py.
-/
namespace Go.Proofs.YtlagcdgfmgkooaaDoor
open Go.RowKit
set_option linter.unusedVariables false

def textL (n : Bool) (m : Nat) : List UInt8 := if n = true then 45 :: Dm.dec m else Dm.dec m
theorem dec_len {n : Nat} (h : n < 256 ^ 128) : (Dm.dec n).length ≤ 400 := by
  have h1 := Dm.okDec_dec n
  by_cases h2 : (Dm.dec n).length ≤ 1
  · omega
  · have h3 := Dm.okDec_long h1 (by omega)
    rw [Dm.dv_dec] at h3
    have := digits_bound h3 h
    omega
set_option maxHeartbeats 1000000 in
theorem iText_nm {n : Bool} {m : Nat} (h1 : Nm n m) (w : World) :
    Calls Tryd.prog 43 #[.agg #[.bool n, Sv (Dm.str m)]] w fun e w' => e = .returned (.tuple #[Sv (textL n m), .int .i64 0]) ∧ Below w.heap.size w w' := by
  have hi := I1.start w (.bool n) (Sv (Dm.str m))
  have hT := fun W : World => Text_any 128 div128 (bs (Dm.str m)) W (by have := h1.str; omega) (fun h => validB_size h)
  rw [tl_bs, textV, if_pos h1.vB, Dm.val_str] at hT
  have hdl := dec_len h1.lt
  have hds : (bs (Dm.dec m)).size ≤ 400 := by rw [size_bs]; exact hdl
  have HT := Lib.hid hT
  clear hT hdl
  cases n with
  | false =>
    go_enter Tryd.func43, Tryd.ntmps43
    go_wp2_with fail
    refine (iValid_nm h1 _).mono ?_
    rintro e w1 ⟨rfl, hb1⟩
    have hi1 := hi.next hb1
    obtain ⟨c0, c1, f0, f1⟩ := hi1.cells
    clear hi hb1
    go_wp2_with fail
    refine (HT.out _).mono ?_
    rintro e w2 ⟨rfl, hb2⟩
    have hi2 := hi1.next hb2
    clear c0 c1 f0 f1
    obtain ⟨c0, c1, f0, f1⟩ := hi2.cells
    clear hi1 hb2
    go_wp2_with fail
    go_ret2
    exact ⟨rfl, hi2.below⟩
  | true =>
    have hcat : (⟨#[45]⟩ : ByteArray) ++ bs (Dm.dec m) = bs (45 :: Dm.dec m) := by
      apply eq_of_tl
      rw [tl_bs]
      simp [tl, bs]
    go_enter Tryd.func43, Tryd.ntmps43
    go_wp2_with fail
    refine (iValid_nm h1 _).mono ?_
    rintro e w1 ⟨rfl, hb1⟩
    have hi1 := hi.next hb1
    obtain ⟨c0, c1, f0, f1⟩ := hi1.cells
    clear hi hb1
    go_wp2_with fail
    refine (HT.out _).mono ?_
    rintro e w2 ⟨rfl, hb2⟩
    have hi2 := hi1.next hb2
    clear c0 c1 f0 f1
    obtain ⟨c0, c1, f0, f1⟩ := hi2.cells
    clear hi1 hb2
    go_wp2_with fail
    go_ret2
    exact ⟨by show Ending.returned (.tuple #[.string (⟨#[45]⟩ ++ bs (Dm.dec m)), .int .i64 0]) = _; rw [hcat]; rfl, hi2.below⟩
set_option maxHeartbeats 1000000 in
theorem rText_nm {n : Bool} {m : Nat} (h1 : Nm n m) (w : World) :
    Calls Tryd.prog 44 #[.agg #[.bool n, Sv (Dm.str m)]] w fun e w' => e = .returned (.tuple #[Sv (textL n m), .int .i64 0]) ∧ Below w.heap.size w w' := by
  have hi := I1.start w (.bool n) (Sv (Dm.str m))
  have hT := fun W : World => ref_Text_any (bs (Dm.str m)) W (by have := h1.str; omega)
  rw [tl_bs, textV, if_pos h1.vB, Dm.val_str] at hT
  have hdl := dec_len h1.lt
  have hds : (bs (Dm.dec m)).size ≤ 400 := by rw [size_bs]; exact hdl
  have HT := Lib.hid hT
  clear hT hdl
  cases n with
  | false =>
    go_enter Tryd.func44, Tryd.ntmps44
    go_wp2_with fail
    refine (rValid_nm h1 _).mono ?_
    rintro e w1 ⟨rfl, hb1⟩
    have hi1 := hi.next hb1
    obtain ⟨c0, c1, f0, f1⟩ := hi1.cells
    clear hi hb1
    go_wp2_with fail
    refine (HT.out _).mono ?_
    rintro e w2 ⟨rfl, hb2⟩
    have hi2 := hi1.next hb2
    clear c0 c1 f0 f1
    obtain ⟨c0, c1, f0, f1⟩ := hi2.cells
    clear hi1 hb2
    go_wp2_with fail
    go_ret2
    exact ⟨rfl, hi2.below⟩
  | true =>
    have hcat : (⟨#[45]⟩ : ByteArray) ++ bs (Dm.dec m) = bs (45 :: Dm.dec m) := by
      apply eq_of_tl
      rw [tl_bs]
      simp [tl, bs]
    go_enter Tryd.func44, Tryd.ntmps44
    go_wp2_with fail
    refine (rValid_nm h1 _).mono ?_
    rintro e w1 ⟨rfl, hb1⟩
    have hi1 := hi.next hb1
    obtain ⟨c0, c1, f0, f1⟩ := hi1.cells
    clear hi hb1
    go_wp2_with fail
    refine (HT.out _).mono ?_
    rintro e w2 ⟨rfl, hb2⟩
    have hi2 := hi1.next hb2
    clear c0 c1 f0 f1
    obtain ⟨c0, c1, f0, f1⟩ := hi2.cells
    clear hi1 hb2
    go_wp2_with fail
    go_ret2
    exact ⟨by show Ending.returned (.tuple #[.string (⟨#[45]⟩ ++ bs (Dm.dec m)), .int .i64 0]) = _; rw [hcat]; rfl, hi2.below⟩
theorem negL_iff (s : ByteArray) (h : 0 < s.size) : negL (tl s) = decide ((s[0].toNat : Int) = 45) := by
  have h1 := tl_cons s h
  unfold negL Lib.hasPrefix
  rw [h1]
  show ((45 : UInt8) == s[0] && true) = _
  rw [Bool.and_true, Bool.eq_iff_iff, beq_iff_eq, decide_eq_true_iff]
  constructor
  · intro h2
    rw [← h2]
    rfl
  · intro h2
    apply UInt8.toNat_inj.1
    show 45 = _
    omega
theorem digL_cut (s : ByteArray) (h : negL (tl s) = true) : tl (s.extract 1 s.size) = digL (tl s) := by
  unfold digL Lib.trimPrefix
  unfold negL at h
  rw [if_pos h]
  simp [tl]
  apply List.take_of_length_le
  simp
end Go.Proofs.YtlagcdgfmgkooaaDoor

/-
  Walk over dominoref02.Parse. Printed by mkint8.py.
-/
namespace Go.Proofs.YtlagcdgfmgkooaaDoor
open Go.RowKit
set_option linter.unusedVariables false

set_option maxHeartbeats 1000000 in
theorem rParse_err_empty (e : Int) (he : e = 4 ∨ e = 5) (s : ByteArray) (w : World) (hs : s.size ≤ 1000000) (h0 : s.size = 0) (hP : ∀ W : World, Calls Tryd.prog 72 #[.string s] W fun r w' => r = .returned (.tuple #[Sv [], .int .i64 e]) ∧ Below W.heap.size W w') :
    Calls Tryd.prog 46 #[.string s] w fun r w' => r = .returned (.tuple #[iV 0, .int .i64 e]) ∧ Below w.heap.size w w' := by
  have HP := Lib.hid hP
  clear hP
  have hi := I1.start w (.bool false) (.string ⟨#[]⟩)
  obtain ⟨z3, z4⟩ := str_empty h0
  rcases he with rfl | rfl
  all_goals
    go_enter Tryd.func46, Tryd.ntmps46
    go_wp2_with fail
    refine (HP.out _).mono ?_
    rintro r w2 ⟨rfl, hb2⟩
    have hi2 := hi.next hb2
    obtain ⟨c0, c1, f0, f1⟩ := hi2.cells
    clear hi hb2
    go_wp2_with fail
    refine bodyPost_ret (v := .tuple #[.agg #[.bool false, .string ⟨#[]⟩], .int .i64 _]) (by simp [results, Tryd.results46, go_sem, c0, c1]) rfl ⟨rfl, ?_⟩
    exact (hi2.below.setCell (by simp) _).setCell (by simp) _
set_option maxHeartbeats 1000000 in
theorem rParse_ok_empty (n : Nat) (s : ByteArray) (w : World) (hs : s.size ≤ 1000000) (h0 : s.size = 0) (hP : ∀ W : World, Calls Tryd.prog 72 #[.string s] W fun r w' => r = .returned (.tuple #[Sv (Dm.str n), .int .i64 0]) ∧ Below W.heap.size W w') :
    Calls Tryd.prog 46 #[.string s] w fun r w' => r = .returned (.tuple #[iV (zz false n), .int .i64 0]) ∧ Below w.heap.size w w' := by
  have HP := Lib.hid hP
  clear hP
  have hi := I1.start w (.bool false) (.string ⟨#[]⟩)
  have hM := fun W : World => rmake_any false n W
  have hv : iV (zz false n) = .agg #[.bool false, Sv (Dm.str n)] := iV_zz (fun h => by cases h)
  rw [hv] at hM
  have HV := Lib.hid hv
  have HM := Lib.hid hM
  clear hM hv
  obtain ⟨z3, z4⟩ := str_empty h0
  · skip
    go_enter Tryd.func46, Tryd.ntmps46
    go_wp2_with fail
    refine (HP.out _).mono ?_
    rintro r w2 ⟨rfl, hb2⟩
    have hi2 := hi.next hb2
    clear hi hb2
    go_wp2_with fail
    refine (HM.out _).mono ?_
    rintro r w3 ⟨rfl, hb3⟩
    have hi3 := hi2.next hb3
    obtain ⟨c0, c1, f0, f1⟩ := hi3.cells
    clear hi2 hb3
    go_wp2_with fail
    refine bodyPost_ret (v := .tuple #[.agg #[.bool false, Sv (Dm.str n)], .int .i64 0]) (by simp [results, Tryd.results46, go_sem, c0, c1]) rfl ⟨by rw [HV.out], ?_⟩
    exact (hi3.below.setCell (by simp) _).setCell (by simp) _
set_option maxHeartbeats 1000000 in
theorem rParse_err_plain (e : Int) (he : e = 4 ∨ e = 5) (s : ByteArray) (w : World) (hs : s.size ≤ 1000000) (h0 : 0 < s.size) (hc : decide ((s[0].toNat : Int) = 45) = false) (hP : ∀ W : World, Calls Tryd.prog 72 #[.string s] W fun r w' => r = .returned (.tuple #[Sv [], .int .i64 e]) ∧ Below W.heap.size W w') :
    Calls Tryd.prog 46 #[.string s] w fun r w' => r = .returned (.tuple #[iV 0, .int .i64 e]) ∧ Below w.heap.size w w' := by
  have HP := Lib.hid hP
  clear hP
  have hi := I1.start w (.bool false) (.string ⟨#[]⟩)
  have hc' : ¬ (s[0].toNat : Int) = 45 := by simpa using hc
  rcases he with rfl | rfl
  all_goals
    go_enter Tryd.func46, Tryd.ntmps46
    go_wp2_with fail
    refine (HP.out _).mono ?_
    rintro r w2 ⟨rfl, hb2⟩
    have hi2 := hi.next hb2
    obtain ⟨c0, c1, f0, f1⟩ := hi2.cells
    clear hi hb2
    go_wp2_with fail
    refine bodyPost_ret (v := .tuple #[.agg #[.bool false, .string ⟨#[]⟩], .int .i64 _]) (by simp [results, Tryd.results46, go_sem, c0, c1]) rfl ⟨rfl, ?_⟩
    exact (hi2.below.setCell (by simp) _).setCell (by simp) _
set_option maxHeartbeats 1000000 in
theorem rParse_ok_plain (n : Nat) (s : ByteArray) (w : World) (hs : s.size ≤ 1000000) (h0 : 0 < s.size) (hc : decide ((s[0].toNat : Int) = 45) = false) (hP : ∀ W : World, Calls Tryd.prog 72 #[.string s] W fun r w' => r = .returned (.tuple #[Sv (Dm.str n), .int .i64 0]) ∧ Below W.heap.size W w') :
    Calls Tryd.prog 46 #[.string s] w fun r w' => r = .returned (.tuple #[iV (zz false n), .int .i64 0]) ∧ Below w.heap.size w w' := by
  have HP := Lib.hid hP
  clear hP
  have hi := I1.start w (.bool false) (.string ⟨#[]⟩)
  have hM := fun W : World => rmake_any false n W
  have hv : iV (zz false n) = .agg #[.bool false, Sv (Dm.str n)] := iV_zz (fun h => by cases h)
  rw [hv] at hM
  have HV := Lib.hid hv
  have HM := Lib.hid hM
  clear hM hv
  have hc' : ¬ (s[0].toNat : Int) = 45 := by simpa using hc
  · skip
    go_enter Tryd.func46, Tryd.ntmps46
    go_wp2_with fail
    refine (HP.out _).mono ?_
    rintro r w2 ⟨rfl, hb2⟩
    have hi2 := hi.next hb2
    clear hi hb2
    go_wp2_with fail
    refine (HM.out _).mono ?_
    rintro r w3 ⟨rfl, hb3⟩
    have hi3 := hi2.next hb3
    obtain ⟨c0, c1, f0, f1⟩ := hi3.cells
    clear hi2 hb3
    go_wp2_with fail
    refine bodyPost_ret (v := .tuple #[.agg #[.bool false, Sv (Dm.str n)], .int .i64 0]) (by simp [results, Tryd.results46, go_sem, c0, c1]) rfl ⟨by rw [HV.out], ?_⟩
    exact (hi3.below.setCell (by simp) _).setCell (by simp) _
set_option maxHeartbeats 1000000 in
theorem rParse_err_sign (e : Int) (he : e = 4 ∨ e = 5) (s : ByteArray) (w : World) (hs : s.size ≤ 1000000) (h0 : 0 < s.size) (hc : decide ((s[0].toNat : Int) = 45) = true) (hP : ∀ W : World, Calls Tryd.prog 72 #[.string (s.extract 1 s.size)] W fun r w' => r = .returned (.tuple #[Sv [], .int .i64 e]) ∧ Below W.heap.size W w') :
    Calls Tryd.prog 46 #[.string s] w fun r w' => r = .returned (.tuple #[iV 0, .int .i64 e]) ∧ Below w.heap.size w w' := by
  have HP := Lib.hid hP
  clear hP
  have hi := I1.start w (.bool false) (.string ⟨#[]⟩)
  have hc' : (s[0].toNat : Int) = 45 := by simpa using hc
  have hsl : 1 ≤ s.size := h0
  rcases he with rfl | rfl
  all_goals
    go_enter Tryd.func46, Tryd.ntmps46
    go_wp2_with fail
    refine (HP.out _).mono ?_
    rintro r w2 ⟨rfl, hb2⟩
    have hi2 := hi.next hb2
    obtain ⟨c0, c1, f0, f1⟩ := hi2.cells
    clear hi hb2
    go_wp2_with fail
    refine bodyPost_ret (v := .tuple #[.agg #[.bool false, .string ⟨#[]⟩], .int .i64 _]) (by simp [results, Tryd.results46, go_sem, c0, c1]) rfl ⟨rfl, ?_⟩
    exact (hi2.below.setCell (by simp) _).setCell (by simp) _
set_option maxHeartbeats 1000000 in
theorem rParse_zero (s : ByteArray) (w : World) (hs : s.size ≤ 1000000) (h0 : 0 < s.size) (hc : decide ((s[0].toNat : Int) = 45) = true) (hP : ∀ W : World, Calls Tryd.prog 72 #[.string (s.extract 1 s.size)] W fun r w' => r = .returned (.tuple #[Sv (Dm.str 0), .int .i64 0]) ∧ Below W.heap.size W w') :
    Calls Tryd.prog 46 #[.string s] w fun r w' => r = .returned (.tuple #[iV 0, .int .i64 4]) ∧ Below w.heap.size w w' := by
  have HP := Lib.hid hP
  clear hP
  have hi := I1.start w (.bool false) (.string ⟨#[]⟩)
  obtain ⟨z1, z2⟩ := str_zero (n := 0) rfl
  have hc' : (s[0].toNat : Int) = 45 := by simpa using hc
  have hsl : 1 ≤ s.size := h0
  · skip
    go_enter Tryd.func46, Tryd.ntmps46
    go_wp2_with fail
    refine (HP.out _).mono ?_
    rintro r w2 ⟨rfl, hb2⟩
    have hi2 := hi.next hb2
    obtain ⟨c0, c1, f0, f1⟩ := hi2.cells
    clear hi hb2
    go_wp2_with fail
    refine bodyPost_ret (v := .tuple #[.agg #[.bool false, .string ⟨#[]⟩], .int .i64 4]) (by simp [results, Tryd.results46, go_sem, c0, c1]) rfl ⟨rfl, ?_⟩
    exact (hi2.below.setCell (by simp) _).setCell (by simp) _
set_option maxHeartbeats 1000000 in
theorem rParse_ok_sign (n : Nat) (hn : n ≠ 0) (s : ByteArray) (w : World) (hs : s.size ≤ 1000000) (h0 : 0 < s.size) (hc : decide ((s[0].toNat : Int) = 45) = true) (hP : ∀ W : World, Calls Tryd.prog 72 #[.string (s.extract 1 s.size)] W fun r w' => r = .returned (.tuple #[Sv (Dm.str n), .int .i64 0]) ∧ Below W.heap.size W w') :
    Calls Tryd.prog 46 #[.string s] w fun r w' => r = .returned (.tuple #[iV (zz true n), .int .i64 0]) ∧ Below w.heap.size w w' := by
  have HP := Lib.hid hP
  clear hP
  have hi := I1.start w (.bool false) (.string ⟨#[]⟩)
  have hM := fun W : World => rmake_any true n W
  have hv : iV (zz true n) = .agg #[.bool true, Sv (Dm.str n)] := iV_zz (fun h => by exact hn)
  rw [hv] at hM
  have HV := Lib.hid hv
  have HM := Lib.hid hM
  clear hM hv
  obtain ⟨z1, z2⟩ := str_pos hn
  have hc' : (s[0].toNat : Int) = 45 := by simpa using hc
  have hsl : 1 ≤ s.size := h0
  · skip
    go_enter Tryd.func46, Tryd.ntmps46
    go_wp2_with fail
    refine (HP.out _).mono ?_
    rintro r w2 ⟨rfl, hb2⟩
    have hi2 := hi.next hb2
    clear hi hb2
    go_wp2_with fail
    refine (HM.out _).mono ?_
    rintro r w3 ⟨rfl, hb3⟩
    have hi3 := hi2.next hb3
    obtain ⟨c0, c1, f0, f1⟩ := hi3.cells
    clear hi2 hb3
    go_wp2_with fail
    refine bodyPost_ret (v := .tuple #[.agg #[.bool true, Sv (Dm.str n)], .int .i64 0]) (by simp [results, Tryd.results46, go_sem, c0, c1]) rfl ⟨by rw [HV.out], ?_⟩
    exact (hi3.below.setCell (by simp) _).setCell (by simp) _
theorem rParse_any (s : ByteArray) (w : World) (hs : s.size ≤ 1000000) :
    Calls Tryd.prog 46 #[.string s] w fun r w' => r = .returned (parseI (tl s)) ∧ Below w.heap.size w w' := by
  rcases Nat.eq_zero_or_pos s.size with h0 | h0
  · have hP := fun W : World => ref_Parse_any s W hs
    have e1 : tl s = [] := tl_empty h0
    rw [e1] at hP ⊢
    have e2 : parseV [] = .tuple #[Sv [], .int .i64 4] := by rfl
    have e3 : parseI [] = .tuple #[iV 0, .int .i64 4] := by rfl
    rw [e3]
    rw [e2] at hP
    exact rParse_err_empty 4 (.inl rfl) s w hs h0 hP
  · have hn := negL_iff s h0
    cases hc : decide ((s[0].toNat : Int) = 45) with
    | false =>
      rw [hc] at hn
      have hP := fun W : World => ref_Parse_any s W hs
      have hd : digL (tl s) = tl s := by
        unfold digL Lib.trimPrefix
        unfold negL at hn
        rw [if_neg (by rw [hn]; decide)]
      unfold parseI
      rw [hd, hn]
      unfold parseV fitV at hP
      by_cases h1 : Dm.okDec (tl s) = true
      · rw [if_pos h1] at hP
        rw [if_pos h1]
        by_cases h2 : (Dm.str (Dm.dv (tl s))).length ≤ 128
        · rw [if_pos h2] at hP
          rw [if_pos h2, if_neg (by rintro ⟨h, -⟩; cases h)]
          exact rParse_ok_plain _ s w hs h0 hc hP
        · rw [if_neg h2] at hP
          rw [if_neg h2]
          exact rParse_err_plain 5 (.inr rfl) s w hs h0 hc hP
      · rw [if_neg h1] at hP
        rw [if_neg h1]
        exact rParse_err_plain 4 (.inl rfl) s w hs h0 hc hP
    | true =>
      rw [hc] at hn
      have hx : (s.extract 1 s.size).size ≤ 1000000 := by
        have h5 := digL_len (tl s)
        rw [← digL_cut s hn, length_tl, length_tl] at h5
        omega
      have hP := fun W : World => ref_Parse_any (s.extract 1 s.size) W hx
      rw [digL_cut s hn] at hP
      unfold parseI
      rw [hn]
      unfold parseV fitV at hP
      by_cases h1 : Dm.okDec (digL (tl s)) = true
      · rw [if_pos h1] at hP
        rw [if_pos h1]
        by_cases h2 : (Dm.str (Dm.dv (digL (tl s)))).length ≤ 128
        · rw [if_pos h2] at hP
          rw [if_pos h2]
          by_cases h3 : Dm.dv (digL (tl s)) = 0
          · rw [if_pos ⟨rfl, h3⟩]
            rw [h3] at hP
            exact rParse_zero s w hs h0 hc hP
          · rw [if_neg (fun h => h3 h.2)]
            exact rParse_ok_sign _ h3 s w hs h0 hc hP
        · rw [if_neg h2] at hP
          rw [if_neg h2]
          exact rParse_err_sign 5 (.inr rfl) s w hs h0 hc hP
      · rw [if_neg h1] at hP
        rw [if_neg h1]
        exact rParse_err_sign 4 (.inl rfl) s w hs h0 hc hP
end Go.Proofs.YtlagcdgfmgkooaaDoor
