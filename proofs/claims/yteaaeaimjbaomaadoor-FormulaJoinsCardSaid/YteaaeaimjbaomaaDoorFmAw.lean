/-
  dominolaw20.awake: the examples of the chapter.
-/
import Derived.Test.YteaaeaimjbaomaaDoorFmN9
import Derived.Test.YteaaeaimjbaomaaDoorFmE1
import Derived.Test.YteaaeaimjbaomaaDoorFmT
import Derived.Test.YteaaeaimjbaomaaDoorFmC
namespace Go.Proofs.YteaaeaimjbaomaaDoor
open Go.RowKit
set_option linter.unusedVariables false

def exF : List Gt := [⟨2, [1, 2], 0⟩, ⟨0, [], 0⟩, ⟨1, [3, 4], 0⟩, ⟨0, [], 1⟩, ⟨0, [], 2⟩]
def exS : ByteArray := ⟨#[50, 40, 48, 44, 49, 40, 49, 44, 50, 41, 41]⟩
theorem ex1 : parseP (tl exS) = (exF, 0, 0) := by decide +kernel
theorem ex2 : parseP (tl ⟨#[50, 40, 48, 44, 49]⟩) = ([], 5, 4) := by decide +kernel
theorem ex3 : parseP (tl ⟨#[51, 40, 48, 44, 49, 41]⟩) = ([], 0, 3) := by decide +kernel
theorem ex4 : parseP (tl ⟨#[49, 40, 49, 44, 48, 41]⟩) = ([], 0, 3) := by decide +kernel
theorem ex5 : textR exF = ([50, 40, 48, 44, 49, 40, 49, 44, 50, 41, 41], 0) := by decide +kernel
theorem ex6 : minsP exF 3 = [[0, 1], [0, 2]] := by decide +kernel
theorem ex7 : checkP exF 3 = 0 := by decide +kernel
theorem ex8 : honestL exF [true, true, true] = [true, true, true, true, false] := by decide +kernel
theorem Blk.ints {W : World} {g : Nat} {l : List Int} (h : Blk W g 3 (ivals l)) : Ints W W.heap.size (some ⟨g, 0, none⟩) l :=
  ⟨fun _ => ⟨_, rfl, h.lt, fun i v hv => by
    have e : (⟨g, 0, none⟩ : Addr).add i = ⟨g, i, none⟩ := by unfold Addr.add; split <;> simp_all
    rw [e, h.cell i]; exact hv⟩⟩
theorem row_ints {W : World} {A : Option Addr} {n c : Nat} {l : List Int} (h : W.ownsRow 0 3 1 (.slice A n c) l.length (ivals l)) : Ints W W.heap.size A l := by
  refine ⟨fun hl => ?_⟩
  obtain ⟨g, cap, hv2, -⟩ := row_form h (List.length_pos_iff.2 hl)
  injection hv2 with hA _ _
  subst hA
  exact ⟨_, rfl, (h.lt g rfl).2, fun j u hu => h.cells (g := g) rfl j u hu⟩
theorem Ints.up' {W W' : World} {A : Option Addr} {l : List Int} (h : Ints W W.heap.size A l) (hb : Below W.heap.size W W') : Ints W' W'.heap.size A l := h.up hb hb.size
theorem collect_ex (A : Option Addr) (c : Nat) (F : List Gt) (hF : F.length ≤ 40) (hK : ∀ g ∈ F, g.kids.length ≤ 40) (h6 : minsP F 3 = [[0, 1], [0, 2]]) (w : World) (hG : Gates w w.heap.size A F) :
    Calls Tryd.prog 21 #[.agg #[.slice A F.length c], .int .i64 3, .int .i64 10] w fun e w' => ∃ g k A0 k0 A1 k1, e = .returned (.tuple #[.slice (some ⟨g, 0, none⟩) 2 k, .bool true]) ∧
      Hp [] w [irow 38 1 (.slice (some ⟨g, 0, none⟩) 2 k) 2 [.slice A0 2 k0, .slice A1 2 k1], irow 3 1 (.slice A0 2 k0) 2 (ivals [0, 1]), irow 3 1 (.slice A1 2 k1) 2 (ivals [0, 2])] w' := by
  refine (collect_any A c F 3 10 (by omega) (fun g hg => by have := hK g hg; omega) (by omega) w hG).mono ?_
  rintro e w' ⟨v, L, rfl, hL, hh⟩
  rw [h6] at hL ⊢
  obtain ⟨⟨l0, v0⟩, ⟨l1, v1⟩, rfl⟩ : ∃ a b, L = [a, b] := by
    match L, congrArg List.length hL with
    | [a, b], _ => exact ⟨a, b, rfl⟩
    | [], h => cases h
    | [_], h => cases h
    | _ :: _ :: _ :: _, h => simp at h
  simp only [List.map_cons, List.map_nil, List.take_succ_cons, List.take_nil, List.cons.injEq, and_true] at hL
  obtain ⟨rfl, rfl⟩ := hL
  have hh : Hp [] w [irow 38 1 v 2 [v0, v1], irow 3 1 v0 2 (ivals [0, 1]), irow 3 1 v1 2 (ivals [0, 2])] w' := hh
  obtain ⟨g, k, rfl, -⟩ := row_form (hh.row 0 rfl) (by omega)
  obtain ⟨A0, k0, rfl⟩ := row_forms (hh.row 1 rfl)
  obtain ⟨A1, k1, rfl⟩ := row_forms (hh.row 2 rfl)
  exact ⟨g, k, A0, k0, A1, k1, rfl, hh⟩
set_option maxRecDepth 20000 in
set_option maxHeartbeats 8000000 in
theorem awake_any (w : World) : Calls Tryd.prog 13 #[] w fun e w' => e = .returned (.bool true) ∧ Below w.heap.size w w' := by
  have P2 : ∀ w, Calls Tryd.prog 24 #[.string ⟨#[50, 40, 48, 44, 49]⟩] w fun e w' => ParseOut ([], 5, 4) e w' ∧ Below w.heap.size w w' := fun w => ex2 ▸ Parse_any ⟨#[50, 40, 48, 44, 49]⟩ (by decide) w
  have P3 : ∀ w, Calls Tryd.prog 24 #[.string ⟨#[51, 40, 48, 44, 49, 41]⟩] w fun e w' => ParseOut ([], 0, 3) e w' ∧ Below w.heap.size w w' := fun w => ex3 ▸ Parse_any ⟨#[51, 40, 48, 44, 49, 41]⟩ (by decide) w
  have P4 : ∀ w, Calls Tryd.prog 24 #[.string ⟨#[49, 40, 49, 44, 48, 41]⟩] w fun e w' => ParseOut ([], 0, 3) e w' ∧ Below w.heap.size w w' := fun w => ex4 ▸ Parse_any ⟨#[49, 40, 49, 44, 48, 41]⟩ (by decide) w
  have P1 : ∀ w, Calls Tryd.prog 24 #[.string exS] w fun e w' => ParseOut (exF, 0, 0) e w' ∧ Below w.heap.size w w' := fun w => ex1 ▸ Parse_any exS (by decide) w
  have h5 := ex5
  have h6 := ex6
  have h7 := ex7
  have h8 := ex8
  have hF : exF.length ≤ 40 := by decide
  have hK : ∀ g ∈ exF, g.kids.length ≤ 40 := by decide
  generalize exF = F at *
  have H5 := Lib.hid h5
  have H6 := Lib.hid h6
  have H7 := Lib.hid h7
  have H8 := Lib.hid h8
  have HP1 := Lib.hid P1
  have HP2 := Lib.hid P2
  have HP3 := Lib.hid P3
  have HP4 := Lib.hid P4
  clear h5 h6 h7 h8 P1 P2 P3 P4
  go_enter Tryd.func13, Tryd.ntmps13
  go_wp2_with fail
  refine (HP1.out w).mono ?_
  rintro e w1 ⟨⟨A, c, rfl, hG⟩, hb1⟩
  go_upto_region 2 with fail
  have hk := ((Hp.start w).next hb1).new 24 [.slice A F.length c]
  have hG1 := hG.keep' ((Below.refl w1.heap.size w1).alloc (Nat.le_refl _) (.cells #[.slice A F.length c] 24))
  clear hG hb1
  generalize w1.alloc (.cells #[.slice A F.length c] 24) = W1 at *
  generalize w1.heap.size = g1 at *
  have c1 : W1.cell? ⟨g1, 0, none⟩ = some (.slice A F.length c) := (hk.blk 0 rfl).cell 0
  have HT := Text_any A c F hF hK W1 hG1
  rw [H5.out] at HT
  have HT := Lib.hid HT
  go_wp2_with fail
  refine HT.out.mono ?_
  rintro e w2 ⟨rfl, hb2⟩
  have hk2 := hk.next hb2
  have hG2 := hG1.keep' hb2
  clear HT hk hG1 hb2 c1
  have c1 : w2.cell? ⟨g1, 0, none⟩ = some (.slice A F.length c) := (hk2.blk 0 rfl).cell 0
  have HC := Lib.hid (collect_ex A c F hF hK H6.out w2 hG2)
  go_wp2_with fail
  refine HC.out.mono ?_
  rintro e w3 ⟨gl, kl, A0, k0, A1, k1, rfl, hC⟩
  have hk3 := Hp.call (a := []) hk2 hC
  have hG3 := hG2.keep' hC.below0
  clear HC hk2 hG2 hC c1
  have c1 : w3.cell? ⟨g1, 0, none⟩ = some (.slice A F.length c) := (hk3.blk 3 rfl).cell 0
  have HH := Honest_any A (some ⟨w3.heap.size, 0, none⟩) c 3 F [true, true, true] (by omega) (fun g hg => by have := hK g hg; omega) (w3.alloc (.cells #[.bool true, .bool true, .bool true] 4)) (hG3.keep' ((Below.refl _ _).alloc (Nat.le_refl _) _)) (Blk.bools (l := [true, true, true]) (Blk.new w3 4 [.bool true, .bool true, .bool true])) (by decide)
  rw [H8.out, show ((([true, true, true] : List Bool).length : Nat) : Int) = 3 from rfl, H7.out] at HH
  have HH := Lib.hid HH
  go_wp2_with fail
  refine HH.out.mono ?_
  rintro e w4 ⟨⟨HA, hc, rfl, hB4⟩, hb4⟩
  have hk4 := (hk3.alloc (.cells #[.bool true, .bool true, .bool true] 4)).next hb4
  clear HH hk3 hG3 c1 hb4
  go_wp2_with fail
  refine (HP2.out w4).mono ?_
  rintro e w5 ⟨⟨FA2, fc2, rfl, -⟩, hb5⟩
  have hk5 := hk4.next hb5
  have hB5 := hB4.up hb5
  clear hk4 hB4 hb5
  go_upto_region 6 with fail
  have hk6 := hk5.alloc (.cells #[.slice FA2 0 fc2] 24)
  have hB6 := hB5.up ((Below.refl _ _).alloc (Nat.le_refl _) (.cells #[.slice FA2 0 fc2] 24))
  clear hk5 hB5
  generalize w5.alloc (.cells #[.slice FA2 0 fc2] 24) = W6 at *
  generalize w5.heap.size = g6 at *
  go_wp2_with fail
  refine (HP3.out W6).mono ?_
  rintro e w7 ⟨⟨FA3, fc3, rfl, -⟩, hb7⟩
  have hk7 := (hk6.next hb7).alloc (.cells #[.slice FA3 0 fc3] 24)
  have hB7 := (hB6.up hb7).up ((Below.refl _ _).alloc (Nat.le_refl _) (.cells #[.slice FA3 0 fc3] 24))
  clear hk6 hB6 hb7
  go_upto_region 7 with fail
  generalize w7.alloc (.cells #[.slice FA3 0 fc3] 24) = W7 at *
  generalize w7.heap.size = g7 at *
  go_wp2_with fail
  refine (HP4.out W7).mono ?_
  rintro e w8 ⟨⟨FA4, fc4, rfl, -⟩, hb8⟩
  have hk8 := (hk7.next hb8).alloc (.cells #[.slice FA4 0 fc4] 24)
  have hB8 := (hB7.up hb8).up ((Below.refl _ _).alloc (Nat.le_refl _) (.cells #[.slice FA4 0 fc4] 24))
  clear hk7 hB7 hb8
  go_upto_region 8 with fail
  generalize w8.alloc (.cells #[.slice FA4 0 fc4] 24) = W8 at *
  generalize w8.heap.size = g8 at *
  have l0 : W8.cell? ⟨gl, 0, none⟩ = some (.slice A0 2 k0) := row_cell (hk8.row 0 rfl) rfl
  have hk9 := hk8.alloc (.cells #[.int .i64 0, .int .i64 1] 3)
  have hB9 := hB8.up ((Below.refl _ _).alloc (Nat.le_refl _) (.cells #[.int .i64 0, .int .i64 1] 3))
  have HE1 : Hid (Calls Tryd.prog 28 #[.slice A0 2 k0, .slice (some ⟨W8.heap.size, 0, none⟩) 2 2] (W8.alloc (.cells #[.int .i64 0, .int .i64 1] 3)) fun e w' => e = .returned (.bool true) ∧ Below (W8.alloc (.cells #[.int .i64 0, .int .i64 1] 3)).heap.size (W8.alloc (.cells #[.int .i64 0, .int .i64 1] 3)) w') :=
    Lib.hid (equal_ints A0 (some ⟨W8.heap.size, 0, none⟩) k0 2 [0, 1] [0, 1] _ (row_ints (hk9.row 1 rfl)) (Blk.ints (Blk.new W8 3 (ivals [0, 1]))) (by decide) (by decide))
  clear hk8 hB8
  go_wp2_with fail
  refine HE1.out.mono ?_
  rintro e w9 ⟨rfl, hb9⟩
  have hk10 := hk9.next hb9
  have hB10 := hB9.up hb9
  clear hk9 hB9 hb9 HE1 l0
  have l1 : w9.cell? ⟨gl, 1, none⟩ = some (.slice A1 2 k1) := row_cell (hk10.row 0 rfl) rfl
  have hk11 := hk10.alloc (.cells #[.int .i64 0, .int .i64 2] 3)
  have hB11 := hB10.up ((Below.refl _ _).alloc (Nat.le_refl _) (.cells #[.int .i64 0, .int .i64 2] 3))
  have HE2 : Hid (Calls Tryd.prog 28 #[.slice A1 2 k1, .slice (some ⟨w9.heap.size, 0, none⟩) 2 2] (w9.alloc (.cells #[.int .i64 0, .int .i64 2] 3)) fun e w' => e = .returned (.bool true) ∧ Below (w9.alloc (.cells #[.int .i64 0, .int .i64 2] 3)).heap.size (w9.alloc (.cells #[.int .i64 0, .int .i64 2] 3)) w') :=
    Lib.hid (equal_ints A1 (some ⟨w9.heap.size, 0, none⟩) k1 2 [0, 2] [0, 2] _ (row_ints (hk11.row 2 rfl)) (Blk.ints (Blk.new w9 3 (ivals [0, 2]))) (by decide) (by decide))
  clear hk10 hB10
  go_wp2_with fail
  refine HE2.out.mono ?_
  rintro e w10 ⟨rfl, hb10⟩
  have hk12 := hk11.next hb10
  have hB12 := hB11.up hb10
  clear hk11 hB11 hb10 HE2 l1
  have hk13 := hk12.alloc (.cells #[.bool true, .bool true, .bool true, .bool true, .bool false] 4)
  have HE3 : Hid (Calls Tryd.prog 20 #[.slice HA 5 hc, .slice (some ⟨w10.heap.size, 0, none⟩) 5 5] (w10.alloc (.cells #[.bool true, .bool true, .bool true, .bool true, .bool false] 4)) fun e w' => e = .returned (.bool true) ∧ Below (w10.alloc (.cells #[.bool true, .bool true, .bool true, .bool true, .bool false] 4)).heap.size (w10.alloc (.cells #[.bool true, .bool true, .bool true, .bool true, .bool false] 4)) w') :=
    Lib.hid (equal_bools HA (some ⟨w10.heap.size, 0, none⟩) hc 5 [true, true, true, true, false] [true, true, true, true, false] _ (hB12.up ((Below.refl _ _).alloc (Nat.le_refl _) _)) (Blk.bools (Blk.new w10 4 (blv [true, true, true, true, false]))) (by decide) (by decide))
  clear hk12 hB12
  go_wp2_with fail
  refine HE3.out.mono ?_
  rintro e w11 ⟨rfl, hb11⟩
  have HK := Lib.hid (hk13.next hb11)
  clear hk13 hb11 HE3
  go_wp2_with fail
  go_ret
  exact ⟨rfl, HK.out.below0⟩
end Go.Proofs.YteaaeaimjbaomaaDoor
