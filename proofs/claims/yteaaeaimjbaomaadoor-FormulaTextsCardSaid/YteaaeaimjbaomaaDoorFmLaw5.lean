/-
  dominolaw20.FormulaTexts.
-/
import Derived.Test.YteaaeaimjbaomaaDoorFmLaw1
import Derived.Test.YteaaeaimjbaomaaDoorFmT4
import Derived.Test.YteaaeaimjbaomaaDoorFmT5
import Derived.Test.YteaaeaimjbaomaaDoorFmF2
namespace Go.Proofs.YteaaeaimjbaomaaDoor
open Go.RowKit
set_option linter.unusedVariables false

set_option maxRecDepth 20000 in
set_option maxHeartbeats 8000000 in
theorem fmtexts_walk (A : Option Addr) (c : Nat) (F : List Gt) (w : World) (hG : Gates w w.heap.size A F) :
    Calls Tryd.prog 8 #[.agg #[.slice A F.length c]] w fun e w' => e = .returned (.bool true) ∧ Below w.heap.size w w' := by
  have hL0 := Lw.box w A c F hG
  go_enter Tryd.func8, Tryd.ntmps8
  go_upto_region 1 with fail
  generalize w.alloc (.cells #[.slice A F.length c] 24) = W at *
  obtain ⟨g, hg⟩ : ∃ g, w.heap.size = g := ⟨_, rfl⟩
  have hL : Lw w g A c F W := hg ▸ hL0
  clear hL0
  have c0 := hL.cell
  simp only [hg]
  go_wp2_with fail
  refine hL.few.mono ?_
  rintro e w1 ⟨rfl, hL1⟩
  clear hL c0
  cases hf : fewP F with
  | false =>
    clear hf
    go_wp2_with fail
    refine hL1.awake.mono ?_
    rintro e w2 ⟨rfl, hL2⟩
    go_wp2_with fail
    go_ret
    exact ⟨rfl, hL2.below⟩
  | true =>
    obtain ⟨hF, hK⟩ := fewP_iff.1 hf
    clear hf
    have c1 := hL1.cell
    have HT := Lib.hid (Text_any A c F hF hK w1 hL1.gates)
    go_wp2_with fail
    refine HT.out.mono ?_
    rintro e w2 ⟨rfl, hb2⟩
    have hL2 := hL1.next hb2
    clear HT hL1 hb2 c1
    have c1 := hL2.cell
    have HT := Lib.hid (rText_any A c F hF hK w2 hL2.gates)
    go_wp2_with fail
    refine HT.out.mono ?_
    rintro e w3 ⟨rfl, hb3⟩
    have hL3 := hL2.next hb3
    clear HT hL2 hb3 c1
    by_cases h0 : (textR F).2 = 0
    · have hP := parse_text hF hK h0
      have hsz : (textR F).1.length ≤ 2000 := by
        unfold textR
        split
        · simp
        · rename_i hv
          split
          · simp
          · rename_i hz
            have := text_len hF hK (by simpa using hv) hz
            simp only
            omega
      have HPa := Parse_any ⟨(textR F).1.toArray⟩ (by show (textR F).1.toArray.size ≤ 2000; simpa using hsz) w3
      have e1 : tl ⟨(textR F).1.toArray⟩ = (textR F).1 := tl_bs _
      rw [e1, hP] at HPa
      have HPa := Lib.hid HPa
      have hn0 : ((textR F).2 != 0) = false := by rw [h0]; rfl
      clear hP hsz e1 h0
      have HK := Lib.hid hK
      clear hK
      generalize (textR F).2 = no at *
      generalize (⟨(textR F).1.toArray⟩ : ByteArray) = s at *
      go_wp2_with fail
      refine HPa.out.mono ?_
      rintro e w4 ⟨⟨GA, gc, rfl, hGG⟩, hb4⟩
      have hL4 := (hL3.next hb4).next ((Below.refl _ _).alloc (Nat.le_refl _) (.cells #[.slice GA F.length gc] 24))
      have hG4 := hGG.keep' ((Below.refl w4.heap.size w4).alloc (Nat.le_refl _) (.cells #[.slice GA F.length gc] 24))
      have c2 : (w4.alloc (.cells #[.slice GA F.length gc] 24)).cell? ⟨w4.heap.size, 0, none⟩ = some (.slice GA F.length gc) := (show Blk _ w4.heap.size 24 [.slice GA F.length gc] from Blk.new w4 _ _).cell 0
      clear hL3 HPa hGG hb4
      go_upto_region 10 with fail
      generalize w4.alloc (.cells #[.slice GA F.length gc] 24) = W4 at *
      generalize w4.heap.size = g4 at *
      have c1 := hL4.cell
      have HS := same_any A GA c gc F F (by omega) (fun g hg => by have := HK.out g hg; omega) (by omega) (fun g hg => by have := HK.out g hg; omega) W4 hL4.gates hG4
      rw [decide_eq_true rfl] at HS
      have HS := Lib.hid HS
      go_wp2_with fail
      refine HS.out.mono ?_
      rintro e w5 ⟨rfl, hb5⟩
      have hL5 := hL4.next hb5
      clear hL4 HS hG4 hb5 c1 c2
      go_wp2_with fail
      refine hL5.awake.mono ?_
      rintro e w6 ⟨rfl, hL6⟩
      go_wp2_with fail
      go_ret
      exact ⟨rfl, hL6.below⟩
    · have hn0 : ((textR F).2 != 0) = true := by rw [bne_iff_ne]; exact h0
      clear h0
      generalize (textR F).2 = no at *
      generalize (⟨(textR F).1.toArray⟩ : ByteArray) = s at *
      go_wp2_with fail
      refine hL3.awake.mono ?_
      rintro e w4 ⟨rfl, hL4⟩
      go_wp2_with fail
      go_ret
      exact ⟨rfl, hL4.below⟩
end Go.Proofs.YteaaeaimjbaomaaDoor
