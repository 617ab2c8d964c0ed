/-
  formula.Text.
-/
import Derived.Test.YteaaeaimjbaomaaDoorFmT2
namespace Go.Proofs.YteaaeaimjbaomaaDoor
open Go.RowKit
set_option linter.unusedVariables false

def textR (F : List Gt) : List UInt8 × Int := if (leavesP F).2 = false then ([], 3) else if F = [] then ([], 0) else (textP F (F.length + 1) 0, 0)
theorem leaves_le {F : List Gt} : 0 ≤ (leavesP F).1 ∧ (leavesP F).1 ≤ F.length := by
  unfold leavesP
  split
  · rename_i h; subst h; simp
  · have := visitP_bd F (F.length + 1) 0 (0, 0) (Int.le_refl _) (Int.le_refl _) (by show 0 ≤ _; omega)
    exact ⟨this.2.2.1, Int.le_trans this.2.2.2 this.2.1⟩
theorem text_len {F : List Gt} (hF : F.length ≤ 40) (hK : ∀ g ∈ F, g.kids.length ≤ 40) (h : (leavesP F).2 = true) (hne : F ≠ []) : (textP F (F.length + 1) 0).length ≤ 160 := by
  unfold leavesP at h
  rw [if_neg hne] at h
  simp only [Bool.and_eq_true] at h
  obtain ⟨⟨h1, _⟩, _⟩ := h
  have hbd := visitP_bd F (F.length + 1) 0 (0, 0) (Int.le_refl _) (Int.le_refl _) (by show 0 ≤ _; omega)
  have := textP_len hF hK (F.length + 1) 0 (0, 0) _ (Prod.ext h1 rfl) (Int.le_refl _) (Int.le_refl _) (Int.le_refl _)
  simp only at this hbd
  generalize visitP F (F.length + 1) 0 (0, 0) = r at *
  obtain ⟨b, nx, ct⟩ := r
  simp only at *
  omega
theorem isB_new (w : World) (B : Nat) (hB : B ≤ w.heap.size) : IsB B w.heap.size [] (w.alloc (.cells #[.pointer none, .slice none 0 0] 76)) :=
  .inl ⟨hB, .slice none 0 0, heap_alloc_new w _, World.ownsRowF_nil _ _ _ _, by simp [Value.ownBlock]⟩
set_option maxHeartbeats 2000000 in
theorem Text_any (A : Option Addr) (c : Nat) (F : List Gt) (hF : F.length ≤ 40) (hK : ∀ g ∈ F, g.kids.length ≤ 40) (w : World) (hG : Gates w w.heap.size A F) :
    Calls Tryd.prog 22 #[.agg #[.slice A F.length c]] w fun e w' => e = .returned (.tuple #[.string ⟨(textR F).1.toArray⟩, .int .i64 (textR F).2]) ∧ Below w.heap.size w w' := by
  have hk := (Kp.start w).new 24 [.slice A F.length c]
  have HC := Lib.hid (leaves_any A c F (by omega) (fun g hg => by have := hK g hg; omega) (w.alloc (.cells #[.slice A F.length c] 24)) (hG.keep' hk.below))
  by_cases hv : (leavesP F).2 = true
  · by_cases hz : F = []
    · have HR : Hid (textR F = ([], 0)) := by refine Lib.hid ?_; rw [textR, if_neg (by simp [hv]), if_pos hz]
      have h0 : ((F.length : Int) == 0) = true := by rw [hz]; rfl
      rw [hv] at HC
      have H0 := Lib.hid hz
      clear hv hz hG hK
      go_enter Tryd.func22, Tryd.ntmps22
      go_wp2_with fail
      refine HC.out.mono ?_
      rintro e w1 ⟨rfl, hb1⟩
      have hk1 := hk.next hb1
      have b0 := (hk1.at_ 0 rfl).cell 0
      simp only [List.getElem?_cons_zero] at b0
      go_wp2_with fail
      go_ret2
      rw [HR.out]
      exact ⟨rfl, hk1.below⟩
    · have HR : Hid (textR F = (textP F (F.length + 1) 0, 0)) := by refine Lib.hid ?_; rw [textR, if_neg (by simp [hv]), if_neg hz]
      have h0 : ((F.length : Int) == 0) = false := by
        rw [beq_eq_false_iff_ne]
        intro h9
        exact hz (List.eq_nil_of_length_eq_zero (by omega))
      have hpos : 0 < F.length := by
        rcases Nat.eq_zero_or_pos F.length with h | h
        · exact absurd (List.eq_nil_of_length_eq_zero h) hz
        · exact h
      have hlen := text_len hF hK hv hz
      have hV := valid_gates (F := F) (n := (leavesP F).1) (Prod.ext rfl hv)
      have hle := leaves_le (F := F)
      rw [hv] at HC
      clear hz hv
      generalize (leavesP F).1 = n at *
      have HS := Lib.hid (run_store_func Tryd.prog)
      go_enter Tryd.func22, Tryd.ntmps22
      go_wp2_with fail
      refine HC.out.mono ?_
      rintro e w1 ⟨rfl, hb1⟩
      have hk1 := hk.next hb1
      clear hk HC hb1
      have b0 := (hk1.at_ 0 rfl).cell 0
      simp only [List.getElem?_cons_zero] at b0
      go_upto_region 8 with fail
      clear b0
      have hD : w.heap.size < w1.heap.size := (hk1.at_ 0 rfl).lt
      have hk2 : Kp w [(w1.heap.size + 1, 77, [.nilFunc]), (w.heap.size, 24, [.slice A F.length c])] ((w1.alloc (.cells #[.pointer none, .slice none 0 0] 76)).alloc (.cells #[.nilFunc] 77)) := by
        have := (hk1.alloc (.cells #[.pointer none, .slice none 0 0] 76)).new 77 [.nilFunc]
        simpa using this
      have hB2 : IsB w.heap.size w1.heap.size [] ((w1.alloc (.cells #[.pointer none, .slice none 0 0] 76)).alloc (.cells #[.nilFunc] 77)) := Lib.IsBuilderF.alloc (isB_new w1 _ hk1.below.size) _
      clear hk1
      generalize (w1.alloc (.cells #[.pointer none, .slice none 0 0] 76)).alloc (.cells #[.nilFunc] 77) = W4 at *
      have hgw : w1.heap.size < w1.heap.size + 1 := by omega
      generalize w1.heap.size + 1 = gw at *
      generalize w1.heap.size = b at *
      have bV := hk2.at_ 0 rfl
      have hst := fun x y => HS.out W4 ⟨gw, 0, none⟩ .plain (Fn.func 39) x y _ (bV.cell 0) (bV.frozen 0)
      go_upto_region 9 with fail
      clear hst
      have hT : TS w w.heap.size b gw A F.length c [] (W4.setCell ⟨gw, 0, none⟩ (.func (Fn.func 39) #[] #[pt w.heap.size, pt b, pt gw])) := by
        exact ⟨(hk2.at_ 1 rfl).far (by simp; omega) _, bV.set_ 0 _, hB2.far bV (by decide) (by omega) _ _, by omega, hk2.below.setCell (by simp; omega) _⟩
      clear hk2 hB2 bV
      generalize W4.setCell ⟨gw, 0, none⟩ (.func (Fn.func 39) #[] #[pt w.heap.size, pt b, pt gw]) = W5 at *
      have cw := hT.V.cell 0
      simp only [List.getElem?_cons_zero] at cw
      go_wp2_with fail
      refine (write_any w w.heap.size b gw A c F n hF hK (by omega) hV hG (F.length + 1) 0 W5 [] (Int.le_refl _) (by omega) (by omega) hT (by simp; omega)).mono ?_
      rintro e w6 ⟨rfl, hT6, _⟩
      clear hT cw
      go_wp2_with fail
      refine (builderString_at w.heap.size b _ w6 hT6.B hT6.below.size).mono ?_
      rintro e w7 ⟨rfl, _, hb7, _⟩
      go_wp2_with fail
      go_ret2
      rw [HR.out]
      exact ⟨rfl, hT6.below.trans hb7⟩
  · have hv0 : (leavesP F).2 = false := by simpa using hv
    have HR : Hid (textR F = ([], 3)) := by refine Lib.hid ?_; rw [textR, if_pos hv0]
    rw [hv0] at HC
    clear hv hv0 hG hK
    go_enter Tryd.func22, Tryd.ntmps22
    go_wp2_with fail
    refine HC.out.mono ?_
    rintro e w1 ⟨rfl, hb1⟩
    have hk1 := hk.next hb1
    go_wp2_with fail
    go_ret2
    rw [HR.out]
    exact ⟨rfl, hk1.below⟩
end Go.Proofs.YteaaeaimjbaomaaDoor
