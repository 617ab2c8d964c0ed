/-
  dominoref42: expr. Printed by mkqrh.py.
-/
import Derived.Test.YtogmhaihmkcjgaaGreatDoorQrG
namespace Go.Proofs.YtogmhaihmkcjgaaGreatDoor
open Go.RowKit Go.Shelf
set_option linter.unusedVariables false

/-- an expression that has begun as a node -/
def exprB (f n : Nat) (p : Pa.QS) : Pa.QS :=
  if p.isS Pa.kTrue then p.step
  else if p.isS Pa.kFalse then p.step.upd n (Pa.sKind 1)
  else if p.isS Pa.kNot then (Pa.exprS f (p.step.upd n (Pa.sKind 2))).upd n (Pa.sKids [Pa.exprX f (p.step.upd n (Pa.sKind 2))])
  else if p.isS Pa.kAll then Pa.exprsS (Pa.exprX f) (Pa.exprS f) n (p.ts.length + 1) (p.step.upd n (Pa.sKind 3))
  else if p.isS Pa.kAny then Pa.exprsS (Pa.exprX f) (Pa.exprS f) n (p.ts.length + 1) (p.step.upd n (Pa.sKind 4))
  else if p.isS Pa.kAtleast then Pa.exprsS (Pa.exprX f) (Pa.exprS f) n (p.ts.length + 1) ((Pa.numS (p.step.upd n (Pa.sKind 5))).upd n (Pa.sNum (Pa.numX (p.step.upd n (Pa.sKind 5)))))
  else Pa.relS n (p.ts.length + 1) p
theorem exprS_B {f : Nat} {q : Pa.QS} (hb : q.bad = false) (ho : q.isS Pa.sOpen = false) : Pa.exprS (f + 1) q = exprB f q.ns.length (Pa.beginS 0 q) ∧ Pa.exprX (f + 1) q = q.ns.length := by
  refine ⟨?_, ?_⟩
  · rw [Pa.exprS, if_neg (by rw [hb]; exact Bool.false_ne_true), if_neg (by rw [ho]; exact Bool.false_ne_true)]
    rfl
  · rw [Pa.exprX, if_neg (by rw [hb]; exact Bool.false_ne_true), if_neg (by rw [ho]; exact Bool.false_ne_true)]
theorem exprS_O {f : Nat} {q : Pa.QS} (hb : q.bad = false) (ho : q.isS Pa.sOpen = true) : Pa.exprS (f + 1) q = Pa.takeS Pa.sClose (Pa.exprS f q.step) ∧ Pa.exprX (f + 1) q = Pa.exprX f q.step := by
  refine ⟨?_, ?_⟩
  · rw [Pa.exprS, if_neg (by rw [hb]; exact Bool.false_ne_true), if_pos ho]
  · rw [Pa.exprX, if_neg (by rw [hb]; exact Bool.false_ne_true), if_pos ho]
theorem skip_yes {s : Pa.Tx} {q : Pa.QS} (h : q.isS s = true) : Pa.skipS s q = q.step := by unfold Pa.skipS; rw [h]; rfl
theorem skip_no {s : Pa.Tx} {q : Pa.QS} (h : q.isS s = false) : Pa.skipS s q = q := by unfold Pa.skipS; rw [h]; rfl
set_option maxRecDepth 20000 in
set_option maxHeartbeats 32000000 in
theorem qexpr_step (f : Nat) (hE : ExprOk f) : ExprOk (f + 1) := by
  intro o w R D r q W hw hf h
  obtain ⟨nv, P, h⟩ := h
  have cb := h.ok.cbad
  have HE := Lib.hid hE
  cases hbad : q.bad with
  | true =>
    rw [hbad] at cb
    have HR : Hid (Pa.exprX (f + 1) q = 0 ∧ Pa.exprS (f + 1) q = q) := Lib.hid ⟨by rw [Pa.exprX, if_pos hbad], Pa.expr_bad hbad _⟩
    have HX := Lib.hid h
    clear h hbad hE
    go_enter Tryz.func160, Tryz.ntmps160
    go_wp2_with fail
    go_ret
    rw [HR.out.1, HR.out.2]
    exact ⟨rfl, HX.out.qh⟩
  | false =>
    rw [hbad] at cb
    have HS := Lib.hid (qskip Pa.sOpen h)
    cases hO : q.isS Pa.sOpen with
    | true =>
      have HR := Lib.hid (exprS_O (f := f) hbad hO)
      rw [hO, skip_yes hO] at HS
      have hsl := Pa.isS_len hO
      have hsw := Pa.isS_wt hO
      have hw1 : q.step.wt ≤ 500000 := by omega
      have hf1 : q.step.ts.length < f := by omega
      clear h hbad hO hE hsl hsw hw hf
      generalize q.step = q1 at *
      generalize Pa.exprX (f + 1) q = XF at *
      generalize Pa.exprS (f + 1) q = QF at *
      go_enter Tryz.func160, Tryz.ntmps160
      go_wp2_with fail
      refine HS.out.mono ?_
      rintro e w1 ⟨rfl, hX1⟩
      have HC := Lib.hid (HE.out o w R D r q1 w1 hw1 hf1 hX1.qh)
      clear HS hX1 HE
      generalize Pa.exprX f q1 = x1 at *
      generalize Pa.exprS f q1 = q2 at *
      go_wp2_with fail
      refine HC.out.mono ?_
      rintro e w2 ⟨rfl, hQ2⟩
      obtain ⟨nv2, P2, hX2⟩ := hQ2
      have HT := Lib.hid (qtake Pa.sClose hX2)
      clear HC hX2
      go_wp2_with fail
      refine HT.out.mono ?_
      rintro e w3 ⟨rfl, hX3⟩
      go_wp2_with fail
      go_ret
      rw [HR.out.1, HR.out.2]
      exact ⟨rfl, hX3.qh⟩
    | false =>
      have HR := Lib.hid (exprS_B (f := f) hbad hO)
      rw [hO, skip_no hO] at HS
      have hbw := (Pa.begin_fw 0 q).wt
      have hpt : (Pa.beginS 0 q).ts.length < f + 1 := hf
      have hpn : (Pa.beginS 0 q).ns.length = q.ns.length + 1 := by simp [Pa.beginS]
      have hpb : (Pa.beginS 0 q).bad = false := hbad
      have HB9 := Lib.hid (fun V (h : QX o w R D nv P q r V) => qbegin 0 (by omega) h)
      clear h hO hE
      generalize Pa.exprX (f + 1) q = XF at *
      generalize Pa.exprS (f + 1) q = QF at *
      go_enter Tryz.func160, Tryz.ntmps160
      go_wp2_with fail
      refine HS.out.mono ?_
      rintro e w1 ⟨rfl, hX1⟩
      have HB := Lib.hid (HB9.out w1 hX1)
      clear HS hX1 HB9 hbad
      generalize Pa.beginS 0 q = p at *
      generalize q.ns.length = n at *
      have hn0 : (0 : Int) ≤ (n : Int) := by omega
      go_wp2_with fail
      refine HB.out.mono ?_
      rintro e w2 ⟨rfl, hQ⟩
      obtain ⟨g, c, P1, hX⟩ := hQ.open (by omega)
      obtain ⟨x, hx⟩ := hX.get (n := n) (by omega)
      have hnP : (n : Int) < (P1.length : Int) := by have := (List.getElem?_eq_some_iff.1 hx).1; omega
      clear HB hQ cb
      have HS := Lib.hid (qskip Pa.kTrue hX)
      cases hTrue : p.isS Pa.kTrue with
      | true =>
        rw [hTrue, skip_yes hTrue] at HS
        have hsl := Pa.isS_len hTrue
        have hsw := Pa.isS_wt hTrue
        have HQ : Hid (QF = p.step) := Lib.hid (by rw [HR.out.1]; unfold exprB; rw [if_pos hTrue])
        clear hX hTrue
        go_wp2_with fail
        refine HS.out.mono ?_
        rintro e w3 ⟨rfl, hX2⟩
        clear HS
        go_wp2_with fail
        go_ret
        rw [HR.out.2, HQ.out]
        exact ⟨rfl, hX2.qh⟩
      | false =>
        rw [hTrue, skip_no hTrue] at HS
        clear hX
        go_wp2_with fail
        refine HS.out.mono ?_
        rintro e wv0 ⟨rfl, hXv0⟩
        clear HS
        have HS := Lib.hid (qskip Pa.kFalse hXv0)
        cases hFalse : p.isS Pa.kFalse with
        | true =>
          rw [hFalse, skip_yes hFalse] at HS
          have hsl := Pa.isS_len hFalse
          have hsw := Pa.isS_wt hFalse
          have HQ : Hid (QF = p.step.upd n (Pa.sKind 1)) := Lib.hid (by rw [HR.out.1]; unfold exprB; rw [if_neg (by rw [hTrue]; exact Bool.false_ne_true), if_pos hFalse])
          clear hXv0 hTrue hFalse
          go_wp2_with fail
          refine HS.out.mono ?_
          rintro e w3 ⟨rfl, hX2⟩
          clear HS
          have y0 : w3.cell? ⟨g, n * 6, none⟩ = some (.int .i64 (x.1.1.kind : Int)) := hX2.fcell hx 0 (by decide)
          have f0 := hX2.ffroz (n * 6)
          have k5 := hX2.cell5
          have HK : Hid (QX o w R D (.slice (some ⟨g, 0, none⟩) P1.length c) (P1.modify n fun y => (Pa.sKind 1 y.1, y.2)) (p.step.upd n (Pa.sKind 1)) r (w3.setCell ⟨g, n * 6, none⟩ (.int .i64 1))) := Lib.hid (hX2.put hx (Pa.sKind 1) 0 (by decide) (.int .i64 1) rfl (fun _ => rfl))
          clear hX2
          go_wp2_with fail
          go_ret
          rw [HR.out.2, HQ.out]
          exact ⟨rfl, HK.out.qh⟩
        | false =>
          rw [hFalse, skip_no hFalse] at HS
          clear hXv0
          go_wp2_with fail
          refine HS.out.mono ?_
          rintro e wv1 ⟨rfl, hXv1⟩
          clear HS
          have HS := Lib.hid (qskip Pa.kNot hXv1)
          cases hNot : p.isS Pa.kNot with
          | true =>
            rw [hNot, skip_yes hNot] at HS
            have hsl := Pa.isS_len hNot
            have hsw := Pa.isS_wt hNot
            have HQ : Hid (QF = (Pa.exprS f (p.step.upd n (Pa.sKind 2))).upd n (Pa.sKids [Pa.exprX f (p.step.upd n (Pa.sKind 2))])) := Lib.hid (by rw [HR.out.1]; unfold exprB; rw [if_neg (by rw [hTrue]; exact Bool.false_ne_true), if_neg (by rw [hFalse]; exact Bool.false_ne_true), if_pos hNot])
            clear hXv1 hTrue hFalse hNot
            go_wp2_with fail
            refine HS.out.mono ?_
            rintro e w3 ⟨rfl, hX2⟩
            clear HS
            have y0 : w3.cell? ⟨g, n * 6, none⟩ = some (.int .i64 (x.1.1.kind : Int)) := hX2.fcell hx 0 (by decide)
            have f0 := hX2.ffroz (n * 6)
            have k5 := hX2.cell5
            have HK : Hid (QX o w R D (.slice (some ⟨g, 0, none⟩) P1.length c) (P1.modify n fun y => (Pa.sKind 2 y.1, y.2)) (p.step.upd n (Pa.sKind 2)) r (w3.setCell ⟨g, n * 6, none⟩ (.int .i64 2))) := Lib.hid (hX2.put hx (Pa.sKind 2) 0 (by decide) (.int .i64 2) rfl (fun _ => rfl))
            clear hX2
            go_upto_region 14 with fail
            have hX4 := HK.out
            generalize w3.setCell ⟨g, n * 6, none⟩ (.int .i64 2) = w4 at *
            clear HK y0 f0 k5
            have hq4w : (p.step.upd n (Pa.sKind 2)).wt ≤ 499997 := by have := (Pa.kind_fw n 2 p.step).wt; omega
            have hq4n : n < (p.step.upd n (Pa.sKind 2)).ns.length := by rw [Pa.upd_len]; show n < p.ns.length; omega
            have hq4t : (p.step.upd n (Pa.sKind 2)).ts.length + 1 = p.ts.length := hsl
            clear hsl hsw
            generalize p.step.upd n (Pa.sKind 2) = q4 at *
            have HC := Lib.hid (HE.out o w R D r q4 w4 (by omega) (by omega) hX4.qh)
            have hF := (Pa.expr_fw f q4).len
            clear HE hX4 hx
            generalize Pa.exprX f q4 = x5 at *
            generalize Pa.exprS f q4 = q5 at *
            go_wp2_with fail
            refine HC.out.mono ?_
            rintro e w5 ⟨rfl, hQ5⟩
            clear hnP
            obtain ⟨g5, c5, P5, hX5⟩ := hQ5.open (by omega)
            obtain ⟨x6, hx6⟩ := hX5.get (n := n) (by omega)
            have hnP : (n : Int) < (P5.length : Int) := by have := (List.getElem?_eq_some_iff.1 hx6).1; omega
            have hX6 := hX5.newrow 3 (.int .i64 (x5 : Int))
            have HK : Hid (QX o w R D (.slice (some ⟨g5, 0, none⟩) P5.length c5) _ (q5.upd n (Pa.sKids [x5])) r ((w5.alloc (.cells #[.int .i64 (x5 : Int)] 3)).setCell ⟨g5, n * 6 + 4, none⟩ (.slice (some ⟨w5.heap.size, 0, none⟩) 1 1))) := Lib.hid (QX.adopt (l := [x5]) hX6 hx6)
            have k5 := hX5.cell5
            have y4 : (w5.alloc (.cells #[.int .i64 (x5 : Int)] 3)).cell? ⟨g5, n * 6 + 4, none⟩ = some (.slice x6.2.1 x6.1.2.length x6.2.2) := hX6.fcell hx6 4 (by decide)
            have f4 := hX6.ffroz (n * 6 + 4)
            clear hQ5 hX5 hX6 HC
            go_wp2_with fail
            go_ret
            rw [HR.out.2, HQ.out]
            exact ⟨rfl, HK.out.qh⟩
          | false =>
            rw [hNot, skip_no hNot] at HS
            clear hXv1
            go_wp2_with fail
            refine HS.out.mono ?_
            rintro e wv2 ⟨rfl, hXv2⟩
            clear HS
            have HS := Lib.hid (qskip Pa.kAll hXv2)
            cases hAll : p.isS Pa.kAll with
            | true =>
              rw [hAll, skip_yes hAll] at HS
              have hsl := Pa.isS_len hAll
              have hsw := Pa.isS_wt hAll
              have HQ : Hid (QF = Pa.exprsS (Pa.exprX f) (Pa.exprS f) n (p.ts.length + 1) (p.step.upd n (Pa.sKind 3))) := Lib.hid (by rw [HR.out.1]; unfold exprB; rw [if_neg (by rw [hTrue]; exact Bool.false_ne_true), if_neg (by rw [hFalse]; exact Bool.false_ne_true), if_neg (by rw [hNot]; exact Bool.false_ne_true), if_pos hAll])
              clear hXv2 hTrue hFalse hNot hAll
              go_wp2_with fail
              refine HS.out.mono ?_
              rintro e w3 ⟨rfl, hX2⟩
              clear HS
              have y0 : w3.cell? ⟨g, n * 6, none⟩ = some (.int .i64 (x.1.1.kind : Int)) := hX2.fcell hx 0 (by decide)
              have f0 := hX2.ffroz (n * 6)
              have k5 := hX2.cell5
              have HK : Hid (QX o w R D (.slice (some ⟨g, 0, none⟩) P1.length c) (P1.modify n fun y => (Pa.sKind 3 y.1, y.2)) (p.step.upd n (Pa.sKind 3)) r (w3.setCell ⟨g, n * 6, none⟩ (.int .i64 3))) := Lib.hid (hX2.put hx (Pa.sKind 3) 0 (by decide) (.int .i64 3) rfl (fun _ => rfl))
              clear hX2
              go_upto_region 18 with fail
              have hX4 := HK.out
              generalize w3.setCell ⟨g, n * 6, none⟩ (.int .i64 3) = w4 at *
              clear HK y0 f0 k5
              have hq4w : (p.step.upd n (Pa.sKind 3)).wt ≤ 499997 := by have := (Pa.kind_fw n 3 p.step).wt; omega
              have hq4n : n < (p.step.upd n (Pa.sKind 3)).ns.length := by rw [Pa.upd_len]; show n < p.ns.length; omega
              have hq4t : (p.step.upd n (Pa.sKind 3)).ts.length + 1 = p.ts.length := hsl
              have HC := Lib.hid (qexprs f HE.out n (p.ts.length + 1) (by omega) hq4n (by omega) (by omega) hX4.qh)
              clear hX4
              go_wp2_with fail
              refine HC.out.mono ?_
              rintro e w5 ⟨rfl, hQ5⟩
              go_wp2_with fail
              go_ret
              rw [HR.out.2, HQ.out]
              exact ⟨rfl, hQ5⟩
            | false =>
              rw [hAll, skip_no hAll] at HS
              clear hXv2
              go_wp2_with fail
              refine HS.out.mono ?_
              rintro e wv3 ⟨rfl, hXv3⟩
              clear HS
              have HS := Lib.hid (qskip Pa.kAny hXv3)
              cases hAny : p.isS Pa.kAny with
              | true =>
                rw [hAny, skip_yes hAny] at HS
                have hsl := Pa.isS_len hAny
                have hsw := Pa.isS_wt hAny
                have HQ : Hid (QF = Pa.exprsS (Pa.exprX f) (Pa.exprS f) n (p.ts.length + 1) (p.step.upd n (Pa.sKind 4))) := Lib.hid (by rw [HR.out.1]; unfold exprB; rw [if_neg (by rw [hTrue]; exact Bool.false_ne_true), if_neg (by rw [hFalse]; exact Bool.false_ne_true), if_neg (by rw [hNot]; exact Bool.false_ne_true), if_neg (by rw [hAll]; exact Bool.false_ne_true), if_pos hAny])
                clear hXv3 hTrue hFalse hNot hAll hAny
                go_wp2_with fail
                refine HS.out.mono ?_
                rintro e w3 ⟨rfl, hX2⟩
                clear HS
                have y0 : w3.cell? ⟨g, n * 6, none⟩ = some (.int .i64 (x.1.1.kind : Int)) := hX2.fcell hx 0 (by decide)
                have f0 := hX2.ffroz (n * 6)
                have k5 := hX2.cell5
                have HK : Hid (QX o w R D (.slice (some ⟨g, 0, none⟩) P1.length c) (P1.modify n fun y => (Pa.sKind 4 y.1, y.2)) (p.step.upd n (Pa.sKind 4)) r (w3.setCell ⟨g, n * 6, none⟩ (.int .i64 4))) := Lib.hid (hX2.put hx (Pa.sKind 4) 0 (by decide) (.int .i64 4) rfl (fun _ => rfl))
                clear hX2
                go_upto_region 21 with fail
                have hX4 := HK.out
                generalize w3.setCell ⟨g, n * 6, none⟩ (.int .i64 4) = w4 at *
                clear HK y0 f0 k5
                have hq4w : (p.step.upd n (Pa.sKind 4)).wt ≤ 499997 := by have := (Pa.kind_fw n 4 p.step).wt; omega
                have hq4n : n < (p.step.upd n (Pa.sKind 4)).ns.length := by rw [Pa.upd_len]; show n < p.ns.length; omega
                have hq4t : (p.step.upd n (Pa.sKind 4)).ts.length + 1 = p.ts.length := hsl
                have HC := Lib.hid (qexprs f HE.out n (p.ts.length + 1) (by omega) hq4n (by omega) (by omega) hX4.qh)
                clear hX4
                go_wp2_with fail
                refine HC.out.mono ?_
                rintro e w5 ⟨rfl, hQ5⟩
                go_wp2_with fail
                go_ret
                rw [HR.out.2, HQ.out]
                exact ⟨rfl, hQ5⟩
              | false =>
                rw [hAny, skip_no hAny] at HS
                clear hXv3
                go_wp2_with fail
                refine HS.out.mono ?_
                rintro e wv4 ⟨rfl, hXv4⟩
                clear HS
                have HS := Lib.hid (qskip Pa.kAtleast hXv4)
                cases hAtleast : p.isS Pa.kAtleast with
                | true =>
                  rw [hAtleast, skip_yes hAtleast] at HS
                  have hsl := Pa.isS_len hAtleast
                  have hsw := Pa.isS_wt hAtleast
                  have HQ : Hid (QF = Pa.exprsS (Pa.exprX f) (Pa.exprS f) n (p.ts.length + 1) ((Pa.numS (p.step.upd n (Pa.sKind 5))).upd n (Pa.sNum (Pa.numX (p.step.upd n (Pa.sKind 5)))))) := Lib.hid (by rw [HR.out.1]; unfold exprB; rw [if_neg (by rw [hTrue]; exact Bool.false_ne_true), if_neg (by rw [hFalse]; exact Bool.false_ne_true), if_neg (by rw [hNot]; exact Bool.false_ne_true), if_neg (by rw [hAll]; exact Bool.false_ne_true), if_neg (by rw [hAny]; exact Bool.false_ne_true), if_pos hAtleast])
                  clear hXv4 hTrue hFalse hNot hAll hAny hAtleast
                  go_wp2_with fail
                  refine HS.out.mono ?_
                  rintro e w3 ⟨rfl, hX2⟩
                  clear HS
                  have y0 : w3.cell? ⟨g, n * 6, none⟩ = some (.int .i64 (x.1.1.kind : Int)) := hX2.fcell hx 0 (by decide)
                  have f0 := hX2.ffroz (n * 6)
                  have k5 := hX2.cell5
                  have HK : Hid (QX o w R D (.slice (some ⟨g, 0, none⟩) P1.length c) (P1.modify n fun y => (Pa.sKind 5 y.1, y.2)) (p.step.upd n (Pa.sKind 5)) r (w3.setCell ⟨g, n * 6, none⟩ (.int .i64 5))) := Lib.hid (hX2.put hx (Pa.sKind 5) 0 (by decide) (.int .i64 5) rfl (fun _ => rfl))
                  clear hX2
                  go_upto_region 24 with fail
                  have hX4 := HK.out
                  generalize w3.setCell ⟨g, n * 6, none⟩ (.int .i64 5) = w4 at *
                  clear HK y0 f0 k5
                  have hq4w : (p.step.upd n (Pa.sKind 5)).wt ≤ 499997 := by have := (Pa.kind_fw n 5 p.step).wt; omega
                  have hq4n : n < (p.step.upd n (Pa.sKind 5)).ns.length := by rw [Pa.upd_len]; show n < p.ns.length; omega
                  have hq4t : (p.step.upd n (Pa.sKind 5)).ts.length + 1 = p.ts.length := hsl
                  clear hsl
                  have hl6 : (P1.modify n fun y => (Pa.sKind 5 y.1, y.2)).length = P1.length := by simp
                  rw [← hl6] at hX4 hnP
                  have hX := hX4
                  clear hX4 hx
                  obtain ⟨x, hx⟩ := hX.get (n := n) hq4n
                  generalize (P1.modify n fun y => (Pa.sKind 5 y.1, y.2)) = P2 at *
                  clear hl6
                  generalize p.step.upd n (Pa.sKind 5) = q4 at *
                  have k5 := hX.cell5
                  refine wp_region_held_drew (S := (fun w' => w'.cell? ⟨R.gp, 5, none⟩ = some (.slice (some ⟨g, 0, none⟩) P2.length c))) (by kernel_rfl) ?_ (fun hHeld => ?_)
                  · exact k5
                  refine wpAnyH_take (i := 0) (v := ?_) rfl (by kernel_rfl) (by kernel_rfl) (by kernel_rfl) (fun _ _ _ h => h) (Or.inl ⟨by rfl, ?_⟩) (by assumption) ?_
                  rotate_left
                  · (intro w hSw; (try dsimp only at hSw); (try obtain ⟨hSw1, hSw2⟩ := hSw); go_simp; (try with_reducible rfl))
                  try simp only [Act.put, List.getElem_toArray, List.getElem_cons_zero, List.setIfInBounds_toArray, List.set_cons_zero, List.set_cons_succ]
                  refine wpAnyH_take (i := 1) (v := ?_) rfl (by kernel_rfl) (by kernel_rfl) (by kernel_rfl) (fun _ _ _ h => h) (Or.inl ⟨by rfl, ?_⟩) (by assumption) ?_
                  rotate_left
                  · (intro w hSw; (try dsimp only at hSw); (try obtain ⟨hSw1, hSw2⟩ := hSw); go_simp; (try with_reducible rfl))
                  try simp only [Act.put, List.getElem_toArray, List.getElem_cons_zero, List.getElem_cons_succ, List.setIfInBounds_toArray, List.set_cons_zero, List.set_cons_succ]
                  refine wpAnyH_take (i := 2) (v := ?_) rfl (by kernel_rfl) (by kernel_rfl) (by kernel_rfl) (fun _ _ _ h => h) (Or.inl ⟨by rfl, ?_⟩) (by assumption) ?_
                  rotate_left
                  · (intro w hSw; (try dsimp only at hSw); (try obtain ⟨hSw1, hSw2⟩ := hSw); go_simp; (try with_reducible rfl))
                  try simp only [Act.put, List.getElem_toArray, List.getElem_cons_zero, List.getElem_cons_succ, List.setIfInBounds_toArray, List.set_cons_zero, List.set_cons_succ]
                  refine wpAnyH_take (i := 3) (v := ?_) rfl (by kernel_rfl) (by kernel_rfl) (by kernel_rfl) (fun _ _ _ h => h) (Or.inl ⟨by rfl, ?_⟩) (by assumption) ?_
                  rotate_left
                  · (intro w hSw; (try dsimp only at hSw); (try obtain ⟨hSw1, hSw2⟩ := hSw); go_simp; (try with_reducible rfl))
                  try simp only [Act.put, List.getElem_toArray, List.getElem_cons_zero, List.getElem_cons_succ, List.setIfInBounds_toArray, List.set_cons_zero, List.set_cons_succ]
                  refine wpAnyH_take (i := 4) (v := ?_) rfl (by kernel_rfl) (by kernel_rfl) (by kernel_rfl) (fun _ _ _ h => h) (Or.inl ⟨by rfl, ?_⟩) (by assumption) ?_
                  rotate_left
                  · (intro w hSw; (try dsimp only at hSw); (try obtain ⟨hSw1, hSw2⟩ := hSw); go_simp; (try with_reducible rfl))
                  try simp only [Act.put, List.getElem_toArray, List.getElem_cons_zero, List.getElem_cons_succ, List.setIfInBounds_toArray, List.set_cons_zero, List.set_cons_succ]
                  refine wpAnyH_take (i := 5) (v := ?_) rfl (by kernel_rfl) (by kernel_rfl) (by kernel_rfl) (fun _ _ _ h => h) (Or.inl ⟨by rfl, ?_⟩) (by assumption) ?_
                  rotate_left
                  · (intro w hSw; (try dsimp only at hSw); (try obtain ⟨hSw1, hSw2⟩ := hSw); go_simp; (try with_reducible rfl))
                  try simp only [Act.put, List.getElem_toArray, List.getElem_cons_zero, List.getElem_cons_succ, List.setIfInBounds_toArray, List.set_cons_zero, List.set_cons_succ]
                  refine wpAnyH_take (i := 6) (v := ?_) rfl (by kernel_rfl) (by kernel_rfl) (by kernel_rfl) (fun _ _ _ h => h) (Or.inl ⟨by rfl, ?_⟩) (by assumption) ?_
                  rotate_left
                  · (intro w hSw; (try dsimp only at hSw); (try obtain ⟨hSw1, hSw2⟩ := hSw); go_simp; (try with_reducible rfl))
                  try simp only [Act.put, List.getElem_toArray, List.getElem_cons_zero, List.getElem_cons_succ, List.setIfInBounds_toArray, List.set_cons_zero, List.set_cons_succ]
                  refine wpAnyH_ready (rs := [7]) (by kernel_rfl) (by simp) ?_
                  refine AllReadyH.cons rfl (fun K hK => ?_) ?_
                  · go_simp
                    refine (qnumber hX.drew).mono ?_
                    rintro e w3 ⟨rfl, hX3⟩
                    have k6 := hX3.cell5
                    have y1 : w3.cell? ⟨g, n * 6 + 1, none⟩ = some _ := hX3.fcell hx 1 (by decide)
                    have fy := hX3.ffroz (n * 6 + 1)
                    have HX4 := Lib.hid (hX3.put hx (Pa.sNum (Pa.numX q4)) 1 (by decide) (.int .i64 (Pa.numX q4)) rfl (fun _ => rfl))
                    have k7 := HX4.out.cell5
                    refine hK.out _ _ ?_ (fun hHeld => ?_)
                    · exact k6
                    clear hK K
                    refine wpAnyH_take (i := 8) (v := ?_) rfl (by kernel_rfl) (by kernel_rfl) (by kernel_rfl) (fun _ _ _ h => h) (Or.inl ⟨by rfl, ?_⟩) (by assumption) ?_
                    rotate_left
                    · (intro w hSw; (try dsimp only at hSw); (try obtain ⟨hSw1, hSw2⟩ := hSw); go_simp; (try with_reducible rfl))
                    try simp only [Act.put, List.getElem_toArray, List.getElem_cons_zero, List.getElem_cons_succ, List.setIfInBounds_toArray, List.set_cons_zero, List.set_cons_succ]
                    refine wpAnyH_take (i := 9) (v := ?_) rfl (by kernel_rfl) (by kernel_rfl) (by kernel_rfl) (fun _ _ _ h => h) (Or.inl ⟨by rfl, ?_⟩) (by assumption) ?_
                    rotate_left
                    · (intro w hSw; (try dsimp only at hSw); (try obtain ⟨hSw1, hSw2⟩ := hSw); go_simp; (try with_reducible rfl))
                    try simp only [Act.put, List.getElem_toArray, List.getElem_cons_zero, List.getElem_cons_succ, List.setIfInBounds_toArray, List.set_cons_zero, List.set_cons_succ]
                    refine wpAnyH_ready (rs := [10]) (by kernel_rfl) (by simp) ?_
                    refine AllReadyH.cons rfl (fun K hK => ?_) ?_
                    · go_simp
                      refine hK.out _ _ ?_ (fun hHeld => ?_)
                      · exact k7
                      clear hK K
                      refine wpAnyH_done (by kernel_rfl) ?_ _
                      clear k7 k6 y1 fy k5
                      have hX5 := HX4.out
                      clear HX4 hX3
                      generalize w3.setCell _ _ = w5 at *
                      have hF1 := Pa.num_fw q4
                      have hF2 := Pa.snum_fw n (Pa.numX q4) (Pa.numS q4)
                      have HC := Lib.hid (qexprs f HE.out n (p.ts.length + 1) (by have := hF1.wt; have := hF2.wt; omega) (by have := hF1.len; have := hF2.len; omega) (by have := hF1.tok; have := hF2.tok; omega) (by have := hF1.tok; have := hF2.tok; omega) hX5.qh)
                      clear hX5 hF1 hF2
                      go_wp2_with fail
                      refine HC.out.mono ?_
                      rintro e w6 ⟨rfl, hQ6⟩
                      go_wp2_with fail
                      go_ret
                      rw [HR.out.2, HQ.out]
                      exact ⟨rfl, hQ6⟩
                    exact AllReadyH.nil
                  exact AllReadyH.nil
                | false =>
                  rw [hAtleast, skip_no hAtleast] at HS
                  clear hXv4
                  go_wp2_with fail
                  refine HS.out.mono ?_
                  rintro e wv5 ⟨rfl, hXv5⟩
                  clear HS
                  have HQ : Hid (QF = Pa.relS n (p.ts.length + 1) p) := Lib.hid (by rw [HR.out.1]; unfold exprB; rw [if_neg (by rw [hTrue]; exact Bool.false_ne_true), if_neg (by rw [hFalse]; exact Bool.false_ne_true), if_neg (by rw [hNot]; exact Bool.false_ne_true), if_neg (by rw [hAll]; exact Bool.false_ne_true), if_neg (by rw [hAny]; exact Bool.false_ne_true), if_neg (by rw [hAtleast]; exact Bool.false_ne_true)])
                  have HC := Lib.hid (qrel n (p.ts.length + 1) (by omega) (by omega) (by omega) hXv5.qh)
                  clear hXv5 hTrue hFalse hNot hAll hAny hAtleast
                  go_wp2_with fail
                  refine HC.out.mono ?_
                  rintro e w5 ⟨rfl, hQ5⟩
                  go_wp2_with fail
                  go_ret
                  rw [HR.out.2, HQ.out]
                  exact ⟨rfl, hQ5⟩
theorem qexpr : ∀ f, ExprOk f
  | 0 => fun _ _ _ _ _ q _ _ h => absurd h (Nat.not_lt_zero _)
  | f + 1 => qexpr_step f (qexpr f)
end Go.Proofs.YtogmhaihmkcjgaaGreatDoor
