/-
  dominoref20.Parse.
-/
import Derived.Test.YteaaeaimjbaomaaDoorFmR7
import Derived.Test.YteaaeaimjbaomaaDoorFmR
import Derived.Test.YteaaeaimjbaomaaDoorFmB
namespace Go.Proofs.YteaaeaimjbaomaaDoor
open Go.RowKit
set_option linter.unusedVariables false

theorem okL_eq (F : List Gt) : okL F = (decide (F.length ≤ 512) && (leavesP F).2) := rfl
set_option maxRecDepth 20000 in
set_option maxHeartbeats 4000000 in
theorem rParse_any (s : ByteArray) (hs : s.size ≤ 2000) (w : World) : Calls Tryd.prog 26 #[.string s] w fun e w' => ParseOut (parseP (tl s)) e w' ∧ Below w.heap.size w w' := by
  have hlt : ¬ (65536 : Int) < (s.size : Int) := by omega
  have hk : Hp [] w [iblk w.heap.size 24 [.slice none 0 0]] (w.alloc (.cells #[.slice none 0 0] 24)) := (Hp.start w).new 24 [.slice none 0 0]
  by_cases hz : s.size = 0
  · have HV : Hid (parseP (tl s) = ([], 0, 0)) := by refine Lib.hid ?_; rw [parseP, if_pos (tl_empty hz)]
    obtain ⟨e1, e2⟩ := str_empty hz
    go_enter Tryd.func26, Tryd.ntmps26
    go_wp2_with fail
    have b0 := (hk.blk 0 rfl).cell 0
    simp only [List.getElem?_cons_zero] at b0
    refine bodyPost_ret (v := .tuple #[.agg #[.slice none 0 0], .int .i64 0, .int .i64 0]) (by simp [results, Tryd.results26, go_sem, b0]) rfl ?_
    refine ⟨⟨none, 0, ?_, ?_⟩, hk.below0⟩
    · rw [HV.out]; rfl
    · rw [HV.out]; exact ⟨fun h9 => absurd rfl h9⟩
  · obtain ⟨e1, e2⟩ := str_full (s := s) (by omega)
    have hlen : (tl s).length = s.size := length_tl s
    have hPne : tl s ≠ [] := by intro h9; rw [h9] at hlen; simp at hlen; omega
    have hh : Hp [] w (r4 (w.heap.size + 1) s 0 (.slice none 0 0) false [] ++ [iblk w.heap.size 24 [.slice none 0 0]]) ((w.alloc (.cells #[.slice none 0 0] 24)).alloc (.cells #[.string s, .slice none 0 0, .int .i64 0, .bool false] 93)) := by
      have := (hk.new 93 [.string s, .slice none 0 0, .int .i64 0, .bool false]).nilrow 40 3
      have hsz : ∀ (w : World) (o : Obj), (w.alloc o).heap.size = w.heap.size + 1 := fun w o => by simp
      rw [hsz] at this
      exact this.perm (List.Perm.swap _ _ _)
    go_enter Tryd.func26, Tryd.ntmps26
    go_wp2_with fail
    clear hk
    generalize (w.alloc (.cells #[.slice none 0 0] 24)).alloc (.cells #[.string s, .slice none 0 0, .int .i64 0, .bool false] 93) = W5 at *
    generalize w.heap.size + 1 = gr at *
    generalize hbf : w.heap.size = bf at *
    refine (rgate_any gr s hs (s.size + 1) 0 (.slice none 0 0) [] W5 (Nat.zero_le _) (by omega) (by simpa using hs) hh.sub.sep).mono ?_
    rintro e w6 ⟨rfl, p', vg', its, bad, hp', hrest, hH, hbad, hgood⟩
    have hS : Hp [] w (iblk bf 24 [.slice none 0 0] :: ird4 gr s p' vg' bad :: its) w6 := (Hp.call hh hH).perm List.perm_append_comm
    clear hh hH
    rw [List.drop_zero] at hrest hbad hgood
    have HV0 : Hid (parseP (tl s) = if (gateP (s.size + 1) (tl s) []).1 = false ∨ (gateP (s.size + 1) (tl s) []).2.1 ≠ [] then ([], s.size - (gateP (s.size + 1) (tl s) []).2.1.length, 4)
        else if (leavesP (gateP (s.size + 1) (tl s) []).2.2).2 = false ∨ 512 < (gateP (s.size + 1) (tl s) []).2.2.length then ([], 0, 3)
        else ((gateP (s.size + 1) (tl s) []).2.2, 0, 0)) := by
      refine Lib.hid ?_
      rw [parseP, if_neg hPne, hlen]
    have hkids := gate_kids (s.size + 1) 2000 (tl s) [] (by omega)
    have hout := gate_out (s.size + 1) (tl s) []
    have hgts : gts [] = [] := rfl
    rw [hgts] at hrest hbad hgood
    generalize gateP (s.size + 1) (tl s) [] = r at *
    have hrl := size_drop hp' hrest
    have c0 := (hS.blk 0 rfl).cell 0
    have f0 := (hS.blk 0 rfl).frozen 0
    have c2 := (hS.blk 1 rfl).cell 2
    have c3 := (hS.blk 1 rfl).cell 3
    simp only [List.getElem?_cons_zero, List.getElem?_cons_succ] at c0 c2 c3
    by_cases hcond : bad = true ∨ p' < s.size
    · have HV : Hid (parseP (tl s) = ([], p', 4)) := by
        refine Lib.hid ?_
        have h9 : r.1 = false ∨ r.2.1 ≠ [] := by
          rcases hcond with h9 | h9
          · exact .inl (hbad h9)
          · exact .inr (by intro h8; rw [h8] at hrl; simp at hrl; omega)
        rw [HV0.out, if_pos h9, hrl, show s.size - (s.size - p') = p' by omega]
      have hD := hS.drew
      have hS2 := (hS.set 0 rfl 0 (.slice none 0 0)).drew
      have d0 := (hS2.blk 0 rfl).cell 0
      have k1 := (hD.blk 1 rfl).cell 2
      have k2 := (hS2.blk 1 rfl).cell 2
      simp only [List.getElem?_cons_zero, List.getElem?_cons_succ, List.set_cons_zero] at d0 k1 k2
      have f1 := (hD.blk 0 rfl).frozen 0
      have HS2 := Lib.hid hS2.below0
      have HC := Lib.hid hcond
      clear hS hS2 hD HV0 hkids hout hgood hbad hcond
      cases bad with
      | true =>
        clear HC
        go_upto_region 8 with fail
        first | go_region_held3 (fun w' => w'.cell? ⟨gr, 2, none⟩ = some (.int .i64 (p' : Int))) (first | exact k1 | exact k2) (fail) | fail
        go_wp2_with fail
        refine bodyPost_ret (v := .tuple #[.agg #[.slice none 0 0], .int .i64 (p' : Int), .int .i64 4]) (by simp [results, Tryd.results26, go_sem, d0]) rfl ?_
        refine ⟨⟨none, 0, ?_, ?_⟩, HS2.out⟩
        · rw [HV.out]; rfl
        · rw [HV.out]; exact ⟨fun h9 => absurd rfl h9⟩
      | false =>
        have hpi : (p' : Int) < (s.size : Int) := by
          rcases HC.out with h9 | h9
          · cases h9
          · omega
        clear HC
        go_upto_region 8 with fail
        first | go_region_held3 (fun w' => w'.cell? ⟨gr, 2, none⟩ = some (.int .i64 (p' : Int))) (first | exact k1 | exact k2) (fail) | fail
        go_wp2_with fail
        refine bodyPost_ret (v := .tuple #[.agg #[.slice none 0 0], .int .i64 (p' : Int), .int .i64 4]) (by simp [results, Tryd.results26, go_sem, d0]) rfl ?_
        refine ⟨⟨none, 0, ?_, ?_⟩, HS2.out⟩
        · rw [HV.out]; rfl
        · rw [HV.out]; exact ⟨fun h9 => absurd rfl h9⟩
    · obtain ⟨hbf0, hpe0⟩ := not_or.1 hcond
      have hpe : p' = s.size := by omega
      have hpi : ¬ (p' : Int) < (s.size : Int) := by omega
      cases bad with
      | true => exact absurd rfl hbf0
      | false =>
        have hnil : r.2.1 = [] := by rw [hrest, List.drop_eq_nil_of_le (by rw [length_tl]; omega)]
        obtain ⟨hor, Pn, rfl, hg9, -⟩ := hgood rfl
        have hb : r.1 = true := by
          rcases hor with h9 | h9
          · exact h9
          · rw [hnil] at h9; cases h9
        have hg9 := hg9 hb
        simp only [List.nil_append] at hS hg9
        have hcn := hout.cnt hb
        rw [List.length_nil, Nat.zero_add, hlen] at hcn
        have hgl : (gts Pn).length = Pn.length := by simp
        have hrg : r.2.2.length = Pn.length := by rw [← hg9, hgl]
        obtain ⟨A, c, rfl⟩ := row_forms (hS.row 2 rfl)
        have hkk := hkids hb
        have HV1 : Hid (parseP (tl s) = if okL (gts Pn) = false then ([], 0, 3) else (gts Pn, 0, 0)) := by
          refine Lib.hid ?_
          rw [HV0.out, if_neg (by rw [hb, hnil]; simp), okL_eq, hg9, hrg]
          by_cases h5 : 512 < Pn.length
          · rw [if_pos (.inr h5), decide_eq_false (by omega)]; rfl
          · rw [decide_eq_true (by omega)]
            by_cases h6 : (leavesP r.2.2).2 = false
            · rw [if_pos (.inl h6), h6]; rfl
            · rw [if_neg (fun h => h.elim h6 h5), if_neg (by simpa using h6)]
        have hF : (gts Pn).length ≤ 1000000 := by omega
        have hK : ∀ x ∈ gts Pn, x.kids.length ≤ 1000000 := fun x hx => by
          rw [hg9] at hx
          rcases hkk x hx with h9 | h9
          · cases h9
          · omega
        clear hbad hgood hkids hout HV0 hkk hg9 hrg hrest hnil hor
        have c1 := (hS.blk 1 rfl).cell 1
        simp only [List.getElem?_cons_zero, List.getElem?_cons_succ] at c1
        have hS5 : Hp [] w (r4 gr s p' (.slice A Pn.length c) false Pn ++ [iblk bf 24 [.slice none 0 0]]) w6 := hS.perm (List.perm_append_comm (l₁ := [iblk bf 24 [.slice none 0 0]]))
        have hG6 := gates_of hS5
        have HC := Lib.hid (rleaves_any A c (gts Pn) hF hK w6 hG6)
        rw [hgl] at HC
        have HGL := Lib.hid hgl
        clear hgl hS5
        go_wp2_with fail
        refine HC.out.mono ?_
        rintro e w8 ⟨⟨y, rfl, -⟩, hb8⟩
        have hS8 := hS.next hb8
        clear HC hS hb8 c0 c2 c3 f0 c1 hG6
        have c0 := (hS8.blk 0 rfl).cell 0
        have c1 := (hS8.blk 1 rfl).cell 1
        have f0 := (hS8.blk 0 rfl).frozen 0
        simp only [List.getElem?_cons_zero, List.getElem?_cons_succ] at c0 c1
        cases hok : okL (gts Pn) with
        | false =>
          have HV : Hid (parseP (tl s) = ([], 0, 3)) := by refine Lib.hid ?_; rw [HV1.out, if_pos hok]
          clear HV1 hok
          have hS9 := hS8.set 0 rfl 0 (.slice none 0 0)
          have d0 := (hS9.blk 0 rfl).cell 0
          simp only [List.getElem?_cons_zero, List.set_cons_zero] at d0
          have HS9 := Lib.hid hS9.below0
          clear hS8 hS9
          go_wp2_with fail
          refine bodyPost_ret (v := .tuple #[.agg #[.slice none 0 0], .int .i64 0, .int .i64 3]) (by simp [results, Tryd.results26, go_sem, d0]) rfl ?_
          refine ⟨⟨none, 0, ?_, ?_⟩, HS9.out⟩
          · rw [HV.out]; rfl
          · rw [HV.out]; exact ⟨fun h9 => absurd rfl h9⟩
        | true =>
          have HV : Hid (parseP (tl s) = (gts Pn, 0, 0)) := by refine Lib.hid ?_; rw [HV1.out, if_neg (by rw [hok]; simp)]
          clear HV1 hok
          have hS9 := hS8.set 0 rfl 0 (.slice A Pn.length c)
          have d0 := (hS9.blk 0 rfl).cell 0
          simp only [List.getElem?_cons_zero, List.set_cons_zero] at d0
          have HS9 := Lib.hid hS9
          clear hS8 hS9
          go_wp2_with fail
          refine bodyPost_ret (v := .tuple #[.agg #[.slice A Pn.length c], .int .i64 0, .int .i64 0]) (by simp [results, Tryd.results26, go_sem, d0]) rfl ?_
          refine ⟨⟨A, c, ?_, ?_⟩, HS9.out.below0⟩
          · rw [HV.out, HGL.out]; rfl
          · rw [HV.out]
            have h9 : Hp [] w (r4 gr s p' (.slice A Pn.length c) false Pn ++ [iblk bf 24 [.slice A Pn.length c]]) _ := HS9.out.perm (List.perm_append_comm (l₁ := [iblk bf 24 [.slice A Pn.length c]]))
            exact gates_of h9
end Go.Proofs.YteaaeaimjbaomaaDoor
