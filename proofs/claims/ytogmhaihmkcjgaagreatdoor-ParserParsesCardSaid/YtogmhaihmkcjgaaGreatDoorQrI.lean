/-
  dominoref42: policy. Printed by mkqri.py.
-/
import Derived.Test.YtogmhaihmkcjgaaGreatDoorQrH
namespace Go.Proofs.YtogmhaihmkcjgaaGreatDoor
open Go.RowKit Go.Shelf
set_option linter.unusedVariables false

theorem pairS_fw (s : Pa.Tx) (q : Pa.QS) : Pa.Fw 0 q (Pa.pairS s q).2 := ((Pa.name_fw q).trans (Pa.take_fw s _)).trans (Pa.name_fw _)
theorem pairsS_fw (s : Pa.Tx) : ∀ (k : Nat) (l : List (Pa.Tx × Pa.Tx)) (q : Pa.QS), Pa.Fw 0 q (Pa.pairsS s k l q).2
  | 0, l, q => Pa.Fw.refl q
  | k + 1, l, q => by
    rw [Pa.pairsS]
    split
    · exact ((pairS_fw s q).trans (Pa.step_fw _)).trans (pairsS_fw s k _ _)
    · exact pairS_fw s q
theorem qnew2 (w : World) (t : TypeId) (a b : Value) : ∀ (j : Nat) u, [a, b][j]? = some u → (w.alloc (.cells #[a, b] t)).drew.cell? ((⟨w.heap.size, 0, none⟩ : Addr).add j) = some u := by
  intro j u hu
  have e : (⟨w.heap.size, 0, none⟩ : Addr).add j = ⟨w.heap.size, j, none⟩ := paddr0 _ _
  rw [e]
  exact ((show Blk (w.alloc (.cells #[a, b] t)) w.heap.size t [a, b] from Blk.new w t [a, b]).cell j).trans hu
section
variable {o : List Nat} {w W W' : World} {R : PR} {D D' : QD} {P : List NV} {q : Pa.QS} {r : List It} {nv : Value}
theorem QX.fld (h : QX o w R D nv P q r W) (i : Nat) (u : Value) (hc : (qcells R D nv (R.all.length - q.ts.length) q.bad).set i u = qcells R D' nv (R.all.length - q.ts.length) q.bad) : QX o w R D' nv P q r (W.setCell ⟨R.gp, i, none⟩ u) := by
  have hp := h.ok
  refine ⟨h.ns, ?_⟩
  refine h.hp.upd 0 rfl (x := iqr R D nv q.ts q.bad) (x' := iqr R D' nv q.ts q.bad) ?_ ⟨(Below.refl _ _).setCell (Nat.zero_le _) _, fun k hk ho => Below.heap_setCell _ _ _ _ (by simp [iqr] at ho; exact ho.1), fun b hb => .inl hb⟩ (by simp [iqr, hp.ne])
  exact ⟨hc ▸ hp.blk.set_ i u, tokin_same hp.tok (Below.heap_setCell _ _ _ _ (fun e => hp.ne e.symm)), hp.suf, hp.good, hp.len, hp.le, hp.ne, hp.tx⟩
theorem QX.rcell {g : Nat} {t : TypeId} {cs : List Value} (h : QX o w R D nv P q (iblk g t cs :: r) W) (j : Nat) (u : Value) : QX o w R D nv P q (iblk g t (cs.set j u) :: r) (W.setCell ⟨g, j, none⟩ u) := by
  refine ⟨h.ns, ?_⟩
  have h1 := h.hp.set ((krows P).length + 2) (get_mid _ _ _ _ _) j u
  rw [set_mid] at h1
  exact h1
end
theorem quse_info : (Tryz.prog.info? 50).map (fun i => (i.zero, i.size, i.bytes)) = some (some (.agg #[.string ⟨#[]⟩, .string ⟨#[]⟩]), 2, 32) := by kernel_rfl
theorem qref_info : (Tryz.prog.info? 97).map (fun i => (i.zero, i.size, i.bytes)) = some (some (.agg #[.string ⟨#[]⟩, .string ⟨#[]⟩]), 2, 32) := by kernel_rfl
/-- many pairs -/
abbrev ipr2 (t : TypeId) (v : Value) (n : Nat) (l : List (Pa.Tx × Pa.Tx)) : It := irow t 2 v n (pcells l)
section
variable {o : List Nat} {w W W' : World} {R : PR} {nv : Value}
set_option maxRecDepth 20000 in
set_option maxHeartbeats 64000000 in
theorem qpolicy (ts : List Lx.Tok) (hts : ts.length ≤ 65537) (h : QX o w R ⟨[], .slice none 0 0, .slice none 0 0, [], 0, []⟩ (.slice none 0 0) [] ⟨ts, [], false⟩ [ipr2 50 (.slice none 0 0) 0 [], ipr2 97 (.slice none 0 0) 0 []] W) :
    Calls Tryz.prog 77 #[ptr R.gp] W fun e w' => e = .returned (.tuple #[]) ∧ ∃ UA uc RA rc, QH o w R ⟨Pa.nameX (Pa.p1S ts), .slice UA (Pa.usesS ts).1.length uc, .slice RA (Pa.revS ts).1.length rc, (Pa.scopeS (Pa.q3S ts)).1.1, (Pa.scopeS (Pa.q3S ts)).1.2, (Pa.escS (Pa.q4S ts)).1⟩ (Pa.q6S ts) [ipr2 50 (.slice UA (Pa.usesS ts).1.length uc) (Pa.usesS ts).1.length (Pa.usesS ts).1, ipr2 97 (.slice RA (Pa.revS ts).1.length rc) (Pa.revS ts).1.length (Pa.revS ts).1] w' := by
  have HT := Lib.hid (qtake Pa.kPolicy h)
  have e1 : Pa.takeS Pa.kPolicy ⟨ts, [], false⟩ = Pa.p1S ts := rfl
  have e2 : Pa.takeS Pa.kUses (Pa.nameS (Pa.p1S ts)) = Pa.p2S ts := rfl
  have e3 : Pa.usesS ts = Pa.pairsS Pa.sColon (ts.length + 1) [] (Pa.p2S ts) := rfl
  have e4 : Pa.revS ts = if (Pa.usesS ts).2.isS Pa.kReveal then Pa.pairsS Pa.sDot (ts.length + 1) [] (Pa.usesS ts).2.step else ([], (Pa.usesS ts).2) := rfl
  have e5 : Pa.q3S ts = Pa.proveS (Pa.revS ts).2 := rfl
  have e6 : Pa.q4S ts = (Pa.scopeS (Pa.q3S ts)).2 := rfl
  have e7 : Pa.q5S ts = (Pa.escS (Pa.q4S ts)).2 := rfl
  have e8 : Pa.q6S ts = Pa.endS (Pa.q5S ts) := rfl
  have hw0 : (Pa.QS.mk ts [] false).wt ≤ 300000 := by
    unfold Pa.QS.wt
    have : Pa.nsW [] = 0 := rfl
    simp only [this, Bool.false_eq_true, if_false]
    omega
  have hF1 := Pa.take_fw Pa.kPolicy ⟨ts, [], false⟩
  have hF2 := Pa.name_fw (Pa.p1S ts)
  have hF3 := Pa.take_fw Pa.kUses (Pa.nameS (Pa.p1S ts))
  rw [e1] at HT hF1
  rw [e2] at hF3
  have hw2 : (Pa.p2S ts).wt ≤ 300000 := by have := hF1.wt; have := hF2.wt; have := hF3.wt; omega
  have ht2 : (Pa.p2S ts).ts.length ≤ ts.length := by have h0 : (Pa.QS.mk ts [] false).ts.length = ts.length := rfl; have := hF1.tok; have := hF2.tok; have := hF3.tok; omega
  have HU := Lib.hid e3
  have HRV := Lib.hid e4
  have HQ3 := Lib.hid e5
  have HQ4 := Lib.hid e6
  have HQ5 := Lib.hid e7
  have HQ6 := Lib.hid e8
  have HE2 := Lib.hid e2
  obtain ⟨i0, hi0, hz0, hz1, hz2⟩ := info_parts quse_info
  obtain ⟨KF, hKF9⟩ : ∃ k, ts.length + 1 = k := ⟨_, rfl⟩
  rw [hKF9] at HU HRV
  have hKF : (Pa.p2S ts).ts.length < KF := by omega
  have hKF2 : ts.length < KF := by omega
  clear h e1 e2 e3 e4 e5 e6 e7 e8 hF1 hF2 hF3 hw0 hKF9
  generalize Pa.usesS ts = US at *
  generalize Pa.revS ts = RV at *
  generalize Pa.q3S ts = q3 at *
  generalize Pa.q4S ts = q4 at *
  generalize Pa.q5S ts = q5 at *
  generalize Pa.q6S ts = q6 at *
  generalize Pa.p2S ts = qs at *
  generalize Pa.p1S ts = qp at *
  have HSC : Hid (Pa.scopeS q3 = if q3.isS Pa.kScope then (if (Pa.wordS q3.step).isS Pa.kLimit then ((Pa.wordX q3.step, Pa.numX (Pa.wordS q3.step).step), Pa.numS (Pa.wordS q3.step).step) else ((Pa.wordX q3.step, 0), Pa.wordS q3.step)) else (([], 0), q3)) := Lib.hid rfl
  have HEC : Hid (Pa.escS q4 = if q4.isS Pa.kEscrow then (Pa.nameX q4.step, Pa.nameS q4.step) else ([], q4)) := Lib.hid rfl
  obtain ⟨nm, hnm⟩ : ∃ n, Pa.nameX qp = n := ⟨_, rfl⟩
  have HNM := Lib.hid hnm
  rw [hnm]
  clear hnm
  generalize Pa.scopeS q3 = SC at *
  generalize Pa.escS q4 = EC at *
  go_enter Tryz.func77, Tryz.ntmps77
  go_wp2_with fail
  refine HT.out.mono ?_
  rintro e w1 ⟨rfl, hX1⟩
  have HN := Lib.hid (qname hX1)
  rw [HNM.out] at HN
  clear HT hX1 HNM
  generalize Pa.nameS qp = qn at *
  go_wp2_with fail
  refine HN.out.mono ?_
  rintro e w2 ⟨rfl, hX2⟩
  have y2 : w2.cell? ⟨R.gp, 2, none⟩ = some (Sv []) := hX2.ok.blk.cell 2
  have f2 := hX2.ok.blk.frozen 2
  have hX3 := hX2.fld (D' := ⟨nm, .slice none 0 0, .slice none 0 0, [], 0, []⟩) 2 (Sv nm) rfl
  clear HN hX2
  go_upto_region 2 with fail
  clear y2 f2
  generalize w2.setCell _ _ = w3 at *
  have HT := Lib.hid (qtake Pa.kUses hX3)
  rw [HE2.out] at HT
  clear hX3 HE2
  go_wp2_with fail
  refine HT.out.mono ?_
  rintro e w4 ⟨rfl, hXs⟩
  clear HT
  obtain ⟨r2, hr2⟩ : ∃ r2, r2 = [ipr2 97 (.slice none 0 0) 0 []] := ⟨_, rfl⟩
  rw [← hr2] at hXs
  go_upto_region 4 with fail
  go_loopg [2] (qs.ts.length + 1) (fun m sm wx => ∃ (b : Bool) (us : List (Pa.Tx × Pa.Tx)) (qu : Pa.QS) (j : Nat) (UA : Option Addr) (uc : Nat), m = (if b then qu.ts.length + 1 else 0) ∧ sm = .bool b ∧ QH o w R ⟨nm, .slice UA us.length uc, .slice none 0 0, [], 0, []⟩ qu (ipr2 50 (.slice UA us.length uc) us.length us :: r2) wx ∧ Hid (if b then Pa.pairsS Pa.sColon KF [] qs = Pa.pairsS Pa.sColon j us qu ∧ qu.ts.length < j else Pa.pairsS Pa.sColon KF [] qs = (us, qu)) ∧ us.length + qu.ts.length ≤ qs.ts.length + (if b then 0 else 1) ∧ qu.wt ≤ qs.wt)
  case atStart => exact ⟨true, [], qs, KF, none, 0, rfl, rfl, hXs.qh, Lib.hid ⟨rfl, hKF⟩, by simp, Nat.le_refl _⟩
  case round =>
    obtain ⟨b, us, qu, j, UA, uc, rfl, rfl, hQi, HM, hli, hwi⟩ := hrel
    clear hXs
    cases b with
    | true =>
      obtain ⟨nv2, P2, hX⟩ := hQi
      have HM2 : Hid (∃ j', j = j' + 1 ∧ Pa.pairsS Pa.sColon KF [] qs = (if (Pa.pairS Pa.sColon qu).2.isS Pa.sComma then Pa.pairsS Pa.sColon j' (us ++ [(Pa.pairS Pa.sColon qu).1]) (Pa.pairS Pa.sColon qu).2.step else (us ++ [(Pa.pairS Pa.sColon qu).1], (Pa.pairS Pa.sColon qu).2)) ∧ qu.ts.length < j) := Lib.hid (by
        obtain ⟨h1, h2⟩ := (by simpa using HM.out : _ ∧ _)
        obtain ⟨j', rfl⟩ : ∃ j', j = j' + 1 := ⟨j - 1, by omega⟩
        exact ⟨j', rfl, by rw [h1, Pa.pairsS], h2⟩)
      have e9 : Pa.pairS Pa.sColon qu = ((Pa.nameX qu, Pa.nameX (Pa.takeS Pa.sColon (Pa.nameS qu))), Pa.nameS (Pa.takeS Pa.sColon (Pa.nameS qu))) := rfl
      rw [e9] at HM2
      have hF1 := Pa.name_fw qu
      have hF2 := Pa.take_fw Pa.sColon (Pa.nameS qu)
      have hF3 := Pa.name_fw (Pa.takeS Pa.sColon (Pa.nameS qu))
      have t1 := hF1.tok
      have t2 := hF2.tok
      have t3 := hF3.tok
      have u1 := hF1.wt
      have u2 := hF2.wt
      have u3 := hF3.wt
      have HN := Lib.hid (qname hX)
      simp only [if_true] at hli
      clear hX HM hF1 hF2 hF3 e9
      generalize Pa.nameX qu = a at *
      generalize Pa.nameS qu = q3 at *
      go_wp2_with fail
      refine HN.out.mono ?_
      rintro e w5 ⟨rfl, hX5⟩
      have hB5 : Blk (w5.alloc (.cells #[.string ⟨#[]⟩, .string ⟨#[]⟩] 50)) w5.heap.size 50 [.string ⟨#[]⟩, .string ⟨#[]⟩] := Blk.new _ _ _
      have hX6 := (hX5.new 50 [.string ⟨#[]⟩, .string ⟨#[]⟩]).rset [Sv a, .string ⟨#[]⟩]
      clear HN hX5
      go_upto_region 6 with (refine wpList_store_row rfl 50 (.tmp 3) (.tmp 19) rfl w5.heap.size ([Sv a, .string ⟨#[]⟩] : List Value).toArray rfl rfl 50 ([.string ⟨#[]⟩, .string ⟨#[]⟩] : List Value).toArray hB5 (by kernel_rfl) (by kernel_rfl) (by kernel_rfl) ?_)
      clear hB5
      generalize (w5.alloc _).setRow _ _ = w6 at *
      generalize w5.heap.size = gu at *
      have HT := Lib.hid (qtake Pa.sColon hX6)
      clear hX6
      generalize Pa.takeS Pa.sColon q3 = q4 at *
      go_wp2_with fail
      refine HT.out.mono ?_
      rintro e w7 ⟨rfl, hX7⟩
      have HN := Lib.hid (qname hX7)
      clear HT hX7
      generalize Pa.nameX q4 = b at *
      generalize Pa.nameS q4 = q5 at *
      go_wp2_with fail
      refine HN.out.mono ?_
      rintro e w8 ⟨rfl, hX8⟩
      have y1 : w8.cell? ⟨gu, 1, none⟩ = some (.string ⟨#[]⟩) := hX8.rblk.cell 1
      have f1 := hX8.rblk.frozen 1
      have hX9 : QX o w R ⟨nm, .slice UA us.length uc, .slice none 0 0, [], 0, []⟩ nv2 P2 q5 (iblk gu 50 [Sv a, Sv b] :: ipr2 50 (.slice UA us.length uc) us.length us :: r2) (w8.setCell ⟨gu, 1, none⟩ (Sv b)) := hX8.rcell 1 (Sv b)
      clear HN hX8
      go_upto_region 8 with fail
      clear y1 f1
      generalize w8.setCell _ _ = w9 at *
      have d0 : w9.cell? ⟨gu, 0, none⟩ = some (Sv a) := hX9.rblk.cell 0
      have d1 : w9.cell? ⟨gu, 1, none⟩ = some (Sv b) := hX9.rblk.cell 1
      have d5 : w9.cell? ⟨R.gp, 3, none⟩ = some (.slice UA us.length uc) := hX9.ok.blk.cell 3
      have HX2 : Hid (QX o w R ⟨nm, .slice UA us.length uc, .slice none 0 0, [], 0, []⟩ nv2 P2 q5 (ipr2 50 (.slice UA us.length uc) us.length us :: iblk gu 50 [Sv a, Sv b] :: r2) (w9.alloc (.cells #[.string (bs a), .string (bs b)] 50)).drew) := Lib.hid ((hX9.swap).next (((Below.refl _ _).alloc (Nat.le_refl _) _).drew))
      clear hX9
      refine wp_region_held_drew (S := (fun w' => w'.cell? ⟨gu, 0, none⟩ = some (Sv a) ∧ w'.cell? ⟨gu, 1, none⟩ = some (Sv b))) (by kernel_rfl) ?_ (fun hHeld => ?_)
      · exact ⟨d0, d1⟩
      refine wpAnyH_take (i := 0) (v := ?_) rfl (by kernel_rfl) (by kernel_rfl) (by kernel_rfl) (fun _ _ _ h => h) (Or.inl ⟨by rfl, ?_⟩) (by assumption) ?_
      rotate_left
      · (intro w hSw; (try dsimp only at hSw); (try obtain ⟨hSw1, hSw2⟩ := hSw); go_simp; (try with_reducible rfl))
      try simp only [Act.put, List.getElem_toArray, List.getElem_cons_zero, List.setIfInBounds_toArray, List.set_cons_zero, List.set_cons_succ]
      refine wpAnyH_take (i := 1) (v := ?_) rfl (by kernel_rfl) (by kernel_rfl) (by kernel_rfl) (fun _ _ _ h => h) (Or.inl ⟨by rfl, ?_⟩) (by assumption) ?_
      rotate_left
      · (intro w hSw; (try dsimp only at hSw); (try obtain ⟨hSw1, hSw2⟩ := hSw); go_simp; (try with_reducible rfl))
      try simp only [Act.put, List.getElem_toArray, List.getElem_cons_zero, List.getElem_cons_succ, List.setIfInBounds_toArray, List.set_cons_zero, List.set_cons_succ]
      refine wpAnyH_take (i := 2) (v := ?_) rfl (by kernel_rfl) (by kernel_rfl) (by kernel_rfl) (fun _ _ _ h => h) (Or.inl ⟨by rfl, ?_⟩) (by assumption) ?_
      rotate_left
      · (intro w hSw; (try dsimp only at hSw); (try obtain ⟨hSw1, hSw2⟩ := hSw); go_simp; (try with_reducible rfl))
      try simp only [Act.put, List.getElem_toArray, List.getElem_cons_zero, List.getElem_cons_succ, List.setIfInBounds_toArray, List.set_cons_zero, List.set_cons_succ]
      refine wpAnyH_take (i := 3) (v := ?_) rfl (by kernel_rfl) (by kernel_rfl) (by kernel_rfl) (fun _ _ _ h => h) (Or.inl ⟨by rfl, ?_⟩) (by assumption) ?_
      rotate_left
      · (intro w hSw; (try dsimp only at hSw); (try obtain ⟨hSw1, hSw2⟩ := hSw); go_simp; (try with_reducible rfl))
      try simp only [Act.put, List.getElem_toArray, List.getElem_cons_zero, List.getElem_cons_succ, List.setIfInBounds_toArray, List.set_cons_zero, List.set_cons_succ]
      refine wpAnyH_take (i := 4) (v := ?_) rfl (by kernel_rfl) (by kernel_rfl) (by kernel_rfl) (fun _ _ _ h => h) (Or.inl ⟨by rfl, ?_⟩) (by assumption) ?_
      rotate_left
      · (intro w hSw; (try dsimp only at hSw); (try obtain ⟨hSw1, hSw2⟩ := hSw); go_simp; (try with_reducible rfl))
      try simp only [Act.put, List.getElem_toArray, List.getElem_cons_zero, List.getElem_cons_succ, List.setIfInBounds_toArray, List.set_cons_zero, List.set_cons_succ]
      refine wpAnyH_take (i := 6) (v := ?_) rfl (by kernel_rfl) (by kernel_rfl) (by kernel_rfl) (fun _ _ _ h => h) (Or.inl ⟨by rfl, ?_⟩) (by assumption) ?_
      rotate_left
      · (intro w hSw; (try dsimp only at hSw); (try obtain ⟨hSw1, hSw2⟩ := hSw); go_simp; (try with_reducible rfl))
      try simp only [Act.put, List.getElem_toArray, List.getElem_cons_zero, List.getElem_cons_succ, List.setIfInBounds_toArray, List.set_cons_zero, List.set_cons_succ]
      refine wpAnyH_ready (rs := [5, 7]) (by kernel_rfl) (by simp) ?_
      refine AllReadyH.cons rfl (fun K hK => ?_) ?_
      · go_simp
        refine hK.out _ _ ?_ (fun hHeld => ?_)
        · exact ⟨d0, d1⟩
        clear hK K
        refine wpAnyH_ready (rs := [7]) (by kernel_rfl) (by simp) ?_
        refine AllReadyH.cons rfl (fun K hK => ?_) ?_
        · go_simp
          have e5 : (w9.alloc (.cells #[.string (bs a), .string (bs b)] 50)).drew.cell? ⟨R.gp, 3, none⟩ = some (.slice UA us.length uc) := HX2.out.ok.blk.cell 3
          have e0 := HX2.out.swap.rblk.cell 0
          have e1 := HX2.out.swap.rblk.cell 1
          simp only [List.getElem?_cons_zero, List.getElem?_cons_succ] at e0 e1
          refine hK.out _ _ ?_ (fun hHeld => ?_)
          · exact ⟨e0, e1⟩
          clear hK K
          refine wpAnyH_ready (rs := [8]) (by kernel_rfl) (by simp) ?_
          refine AllReadyH.cons rfl (fun K hK => ?_) ?_
          · refine step_append_lies _ (by rfl) (.tmp 30) (.tmp 32) 25 (by rfl) 0 50 i0 _ 2 32 Tryz.underlying25 hi0 hz0 hz1 hz2 rfl (by decide) (.slice UA us.length uc) us.length (pcells us) (by rfl) ?o1 _ 1 1 [Sv a, Sv b] (by rfl) (by rfl) ?nw ?oc (by decide) ?l1 ?l2 ?l3 _ (by rfl) ?_
            case o1 => exact HX2.out.rrow
            case nw => exact qnew2 _ _ _ _
            case oc => (intro u hu; simp at hu; rcases hu with rfl | rfl <;> rfl)
            case l1 => (unfold maxLen; omega)
            case l2 => omega
            case l3 => exact Nat.zero_le _
            intro gn cn w10 hownn hgrow hat hltn
            have hX10 := HX2.out.rgrow hownn hgrow (at_of hat)
            have m0 := hX10.swap.rblk.cell 0
            have m1 := hX10.swap.rblk.cell 1
            simp only [List.getElem?_cons_zero, List.getElem?_cons_succ] at m0 m1
            have m5 : w10.cell? ⟨R.gp, 3, none⟩ = some (.slice UA us.length uc) := hX10.ok.blk.cell 3
            have mf := hX10.ok.blk.frozen 3
            have hX11 := hX10.fld (D' := ⟨nm, .slice (some ⟨gn, 0, none⟩) (us.length + 1) cn, .slice none 0 0, [], 0, []⟩) 3 (.slice (some ⟨gn, 0, none⟩) (us.length + 1) cn) rfl
            have n0 := hX11.swap.rblk.cell 0
            have n1 := hX11.swap.rblk.cell 1
            simp only [List.getElem?_cons_zero, List.getElem?_cons_succ] at n0 n1
            have HX11 := Lib.hid hX11.swap.drop
            clear hownn hgrow hat hltn hX10 hX11
            refine hK.out _ _ ?_ (fun hHeld => ?_)
            · exact ⟨m0, m1⟩
            clear hK K
            refine wpAnyH_take (i := 9) (v := ?_) rfl (by kernel_rfl) (by kernel_rfl) (by kernel_rfl) (fun _ _ _ h => h) (Or.inl ⟨by rfl, ?_⟩) (by assumption) ?_
            rotate_left
            · (intro w hSw; (try dsimp only at hSw); (try obtain ⟨hSw1, hSw2⟩ := hSw); go_simp; (try with_reducible rfl))
            try simp only [Act.put, List.getElem_toArray, List.getElem_cons_zero, List.getElem_cons_succ, List.setIfInBounds_toArray, List.set_cons_zero, List.set_cons_succ]
            refine wpAnyH_take (i := 10) (v := ?_) rfl (by kernel_rfl) (by kernel_rfl) (by kernel_rfl) (fun _ _ _ h => h) (Or.inl ⟨by rfl, ?_⟩) (by assumption) ?_
            rotate_left
            · (intro w hSw; (try dsimp only at hSw); (try obtain ⟨hSw1, hSw2⟩ := hSw); go_simp; (try with_reducible rfl))
            try simp only [Act.put, List.getElem_toArray, List.getElem_cons_zero, List.getElem_cons_succ, List.setIfInBounds_toArray, List.set_cons_zero, List.set_cons_succ]
            refine wpAnyH_take (i := 11) (v := ?_) rfl (by kernel_rfl) (by kernel_rfl) (by kernel_rfl) (fun _ _ _ h => h) (Or.inl ⟨by rfl, ?_⟩) (by assumption) ?_
            rotate_left
            · (intro w hSw; (try dsimp only at hSw); (try obtain ⟨hSw1, hSw2⟩ := hSw); go_simp; (try with_reducible rfl))
            try simp only [Act.put, List.getElem_toArray, List.getElem_cons_zero, List.getElem_cons_succ, List.setIfInBounds_toArray, List.set_cons_zero, List.set_cons_succ]
            refine wpAnyH_ready (rs := [12]) (by kernel_rfl) (by simp) ?_
            refine AllReadyH.cons rfl (fun K hK => ?_) ?_
            · go_simp
              refine hK.out _ _ ?_ (fun hHeld => ?_)
              · exact ⟨n0, n1⟩
              clear hK K
              refine wpAnyH_done (by kernel_rfl) ?_ _
              clear m0 m1 m5 mf n0 n1 e0 e1 d0 d1 d5 HX2
              try clear e5
              have hX12 := HX11.out
              clear HX11
              generalize w10.setCell _ _ = w12 at *
              have hpc : pcells us ++ [Sv a, Sv b] = pcells (us ++ [(a, b)]) := (pcells_snoc us (a, b)).symm
              rw [hpc] at hX12
              clear hpc
              have HS := Lib.hid (qskip Pa.sComma hX12)
              clear hX12
              cases hc : q5.isS Pa.sComma with
              | true =>
                rw [hc] at HS HM2
                have hsl := Pa.isS_len hc
                have hsw := Pa.isS_wt hc
                rw [skip_yes hc] at HS
                clear hc
                generalize q5.step = q6 at *
                go_wp2_with fail
                refine HS.out.mono ?_
                rintro e w13 ⟨rfl, hX13⟩
                go_wp2_with fail
                go_roundg (q6.ts.length + 1)
                case measure => (try simp only [if_true]); omega
                case rel =>
                  obtain ⟨j', e1, e2, e3⟩ := HM2.out
                  exact ⟨true, us ++ [(a, b)], q6, j', some ⟨gn, 0, none⟩, cn, rfl, rfl, by first | exact hX13.qh | (rw [List.length_append, List.length_singleton]; exact hX13.qh), Lib.hid (by simp only [if_true]; exact ⟨by rw [e2]; simp, by omega⟩), by simp only [if_true, List.length_append, List.length_singleton]; omega, by omega⟩
              | false =>
                rw [hc] at HS HM2
                rw [skip_no hc] at HS
                clear hc
                go_wp2_with fail
                refine HS.out.mono ?_
                rintro e w13 ⟨rfl, hX13⟩
                go_wp2_with fail
                go_roundg 0
                case measure => (try simp only [if_true]); omega
                case rel =>
                  obtain ⟨j', e1, e2, e3⟩ := HM2.out
                  exact ⟨false, us ++ [(a, b)], q5, 0, some ⟨gn, 0, none⟩, cn, rfl, rfl, by first | exact hX13.qh | (rw [List.length_append, List.length_singleton]; exact hX13.qh), Lib.hid (by simp only [Bool.false_eq_true, if_false]; rw [e2]; simp), by simp only [Bool.false_eq_true, if_false, List.length_append, List.length_singleton]; omega, by omega⟩
            exact AllReadyH.nil
          exact AllReadyH.nil
        exact AllReadyH.nil
      refine AllReadyH.cons rfl (fun K hK => ?_) ?_
      · go_simp
        have e5 : (w9.alloc (.cells #[.string (bs a), .string (bs b)] 50)).drew.cell? ⟨R.gp, 3, none⟩ = some (.slice UA us.length uc) := HX2.out.ok.blk.cell 3
        have e0 := HX2.out.swap.rblk.cell 0
        have e1 := HX2.out.swap.rblk.cell 1
        simp only [List.getElem?_cons_zero, List.getElem?_cons_succ] at e0 e1
        refine hK.out _ _ ?_ (fun hHeld => ?_)
        · exact ⟨e0, e1⟩
        clear hK K
        refine wpAnyH_ready (rs := [5]) (by kernel_rfl) (by simp) ?_
        refine AllReadyH.cons rfl (fun K hK => ?_) ?_
        · go_simp
          refine hK.out _ _ ?_ (fun hHeld => ?_)
          · exact ⟨e0, e1⟩
          clear hK K
          refine wpAnyH_ready (rs := [8]) (by kernel_rfl) (by simp) ?_
          refine AllReadyH.cons rfl (fun K hK => ?_) ?_
          · refine step_append_lies _ (by rfl) (.tmp 30) (.tmp 32) 25 (by rfl) 0 50 i0 _ 2 32 Tryz.underlying25 hi0 hz0 hz1 hz2 rfl (by decide) (.slice UA us.length uc) us.length (pcells us) (by rfl) ?o1 _ 1 1 [Sv a, Sv b] (by rfl) (by rfl) ?nw ?oc (by decide) ?l1 ?l2 ?l3 _ (by rfl) ?_
            case o1 => exact HX2.out.rrow
            case nw => exact qnew2 _ _ _ _
            case oc => (intro u hu; simp at hu; rcases hu with rfl | rfl <;> rfl)
            case l1 => (unfold maxLen; omega)
            case l2 => omega
            case l3 => exact Nat.zero_le _
            intro gn cn w10 hownn hgrow hat hltn
            have hX10 := HX2.out.rgrow hownn hgrow (at_of hat)
            have m0 := hX10.swap.rblk.cell 0
            have m1 := hX10.swap.rblk.cell 1
            simp only [List.getElem?_cons_zero, List.getElem?_cons_succ] at m0 m1
            have m5 : w10.cell? ⟨R.gp, 3, none⟩ = some (.slice UA us.length uc) := hX10.ok.blk.cell 3
            have mf := hX10.ok.blk.frozen 3
            have hX11 := hX10.fld (D' := ⟨nm, .slice (some ⟨gn, 0, none⟩) (us.length + 1) cn, .slice none 0 0, [], 0, []⟩) 3 (.slice (some ⟨gn, 0, none⟩) (us.length + 1) cn) rfl
            have n0 := hX11.swap.rblk.cell 0
            have n1 := hX11.swap.rblk.cell 1
            simp only [List.getElem?_cons_zero, List.getElem?_cons_succ] at n0 n1
            have HX11 := Lib.hid hX11.swap.drop
            clear hownn hgrow hat hltn hX10 hX11
            refine hK.out _ _ ?_ (fun hHeld => ?_)
            · exact ⟨m0, m1⟩
            clear hK K
            refine wpAnyH_take (i := 9) (v := ?_) rfl (by kernel_rfl) (by kernel_rfl) (by kernel_rfl) (fun _ _ _ h => h) (Or.inl ⟨by rfl, ?_⟩) (by assumption) ?_
            rotate_left
            · (intro w hSw; (try dsimp only at hSw); (try obtain ⟨hSw1, hSw2⟩ := hSw); go_simp; (try with_reducible rfl))
            try simp only [Act.put, List.getElem_toArray, List.getElem_cons_zero, List.getElem_cons_succ, List.setIfInBounds_toArray, List.set_cons_zero, List.set_cons_succ]
            refine wpAnyH_take (i := 10) (v := ?_) rfl (by kernel_rfl) (by kernel_rfl) (by kernel_rfl) (fun _ _ _ h => h) (Or.inl ⟨by rfl, ?_⟩) (by assumption) ?_
            rotate_left
            · (intro w hSw; (try dsimp only at hSw); (try obtain ⟨hSw1, hSw2⟩ := hSw); go_simp; (try with_reducible rfl))
            try simp only [Act.put, List.getElem_toArray, List.getElem_cons_zero, List.getElem_cons_succ, List.setIfInBounds_toArray, List.set_cons_zero, List.set_cons_succ]
            refine wpAnyH_take (i := 11) (v := ?_) rfl (by kernel_rfl) (by kernel_rfl) (by kernel_rfl) (fun _ _ _ h => h) (Or.inl ⟨by rfl, ?_⟩) (by assumption) ?_
            rotate_left
            · (intro w hSw; (try dsimp only at hSw); (try obtain ⟨hSw1, hSw2⟩ := hSw); go_simp; (try with_reducible rfl))
            try simp only [Act.put, List.getElem_toArray, List.getElem_cons_zero, List.getElem_cons_succ, List.setIfInBounds_toArray, List.set_cons_zero, List.set_cons_succ]
            refine wpAnyH_ready (rs := [12]) (by kernel_rfl) (by simp) ?_
            refine AllReadyH.cons rfl (fun K hK => ?_) ?_
            · go_simp
              refine hK.out _ _ ?_ (fun hHeld => ?_)
              · exact ⟨n0, n1⟩
              clear hK K
              refine wpAnyH_done (by kernel_rfl) ?_ _
              clear m0 m1 m5 mf n0 n1 e0 e1 d0 d1 d5 HX2
              try clear e5
              have hX12 := HX11.out
              clear HX11
              generalize w10.setCell _ _ = w12 at *
              have hpc : pcells us ++ [Sv a, Sv b] = pcells (us ++ [(a, b)]) := (pcells_snoc us (a, b)).symm
              rw [hpc] at hX12
              clear hpc
              have HS := Lib.hid (qskip Pa.sComma hX12)
              clear hX12
              cases hc : q5.isS Pa.sComma with
              | true =>
                rw [hc] at HS HM2
                have hsl := Pa.isS_len hc
                have hsw := Pa.isS_wt hc
                rw [skip_yes hc] at HS
                clear hc
                generalize q5.step = q6 at *
                go_wp2_with fail
                refine HS.out.mono ?_
                rintro e w13 ⟨rfl, hX13⟩
                go_wp2_with fail
                go_roundg (q6.ts.length + 1)
                case measure => (try simp only [if_true]); omega
                case rel =>
                  obtain ⟨j', e1, e2, e3⟩ := HM2.out
                  exact ⟨true, us ++ [(a, b)], q6, j', some ⟨gn, 0, none⟩, cn, rfl, rfl, by first | exact hX13.qh | (rw [List.length_append, List.length_singleton]; exact hX13.qh), Lib.hid (by simp only [if_true]; exact ⟨by rw [e2]; simp, by omega⟩), by simp only [if_true, List.length_append, List.length_singleton]; omega, by omega⟩
              | false =>
                rw [hc] at HS HM2
                rw [skip_no hc] at HS
                clear hc
                go_wp2_with fail
                refine HS.out.mono ?_
                rintro e w13 ⟨rfl, hX13⟩
                go_wp2_with fail
                go_roundg 0
                case measure => (try simp only [if_true]); omega
                case rel =>
                  obtain ⟨j', e1, e2, e3⟩ := HM2.out
                  exact ⟨false, us ++ [(a, b)], q5, 0, some ⟨gn, 0, none⟩, cn, rfl, rfl, by first | exact hX13.qh | (rw [List.length_append, List.length_singleton]; exact hX13.qh), Lib.hid (by simp only [Bool.false_eq_true, if_false]; rw [e2]; simp), by simp only [Bool.false_eq_true, if_false, List.length_append, List.length_singleton]; omega, by omega⟩
            exact AllReadyH.nil
          exact AllReadyH.nil
        exact AllReadyH.nil
      exact AllReadyH.nil
    | false =>
      have hend : Pa.pairsS Pa.sColon KF [] qs = (us, qu) := by simpa using HM.out
      simp only [Bool.false_eq_true, if_false] at hli
      clear HM
      have hFu := pairsS_fw Pa.sColon KF [] qs
      rw [hend] at hFu
      have hUS : US = (us, qu) := HU.out.trans hend
      subst hUS
      have hFr : Pa.Fw 0 qu RV.2 := by
        rw [HRV.out]
        split
        · exact (Pa.step_fw _).trans (pairsS_fw _ _ _ _)
        · exact Pa.Fw.refl _
      have hqiw : qu.wt ≤ 300000 := by have := hFu.wt; omega
      have hqik : qu.ts.length < KF := by have := hFu.tok; simp only at this; omega
      have hrw : RV.2.wt ≤ 300000 := by have := hFr.wt; omega
      have hrt : RV.2.ts.length ≤ 65537 := by have := hFr.tok; have := hFu.tok; simp only at this; omega
      simp only at HRV ⊢
      clear hend HU hFu hFr hli hwi hw2 ht2 hKF hKF2
      obtain ⟨UV, hUV⟩ : ∃ v, (.slice UA us.length uc : Value) = v := ⟨_, rfl⟩
      rw [hUV] at hQi
      obtain ⟨nv2, P2, hX⟩ := hQi
      have HUV := Lib.hid hUV
      clear hUV
      subst hr2
      have HS := Lib.hid (qskip Pa.kReveal hX)
      clear hX
      go_wp2_with fail
      refine HS.out.mono ?_
      rintro e w5 ⟨rfl, hX5⟩
      clear HS
      go_upto_if 40 with fail
      go_cut [4, 5, 40] from 41 to 63 (fun s4 s5 s40 wx => ∃ RA rc, QH o w R ⟨nm, UV, .slice RA RV.1.length rc, [], 0, []⟩ RV.2 [ipr2 50 UV us.length us, ipr2 97 (.slice RA RV.1.length rc) RV.1.length RV.1] wx)
      case first => as_aux_lemma =>
        clear HQ3 HQ4 HQ5 HQ6 hi0 hz0 hz1 hz2 hrw hrt
        cases hr : qu.isS Pa.kReveal with
        | false =>
          have hRV : RV = ([], qu) := by rw [HRV.out, if_neg (by rw [hr]; exact Bool.false_ne_true)]
          subst hRV
          rw [skip_no hr] at hX5
          clear HRV hr
          go_wp2_with fail
          go_meet
          exact ⟨none, 0, hX5.qh⟩
        | true =>
          have HRV2 : Hid (RV = Pa.pairsS Pa.sDot KF [] qu.step) := Lib.hid (by rw [HRV.out, if_pos hr])
          have hsl := Pa.isS_len hr
          have hsw := Pa.isS_wt hr
          rw [skip_yes hr] at hX5
          have hXs := hX5.swap
          obtain ⟨i0, hi0, hz0, hz1, hz2⟩ := info_parts qref_info
          have hlq : qu.step.ts.length ≤ 70000 := by have := hXs.ok.suf.length_le; have := hXs.ok.len; omega
          have hKF : qu.step.ts.length < KF := by omega
          obtain ⟨r2, hr2⟩ : ∃ r2, r2 = [ipr2 50 UV us.length us] := ⟨_, rfl⟩
          rw [← hr2] at hXs
          clear HRV hr hX5 hsl hsw hqik hqiw
          generalize qu.step = qs at *
          go_upto_region 12 with fail
          go_loopg [4] (qs.ts.length + 1) (fun m sm wx => ∃ (b : Bool) (l : List (Pa.Tx × Pa.Tx)) (qi : Pa.QS) (j : Nat) (UA : Option Addr) (uc : Nat), m = (if b then qi.ts.length + 1 else 0) ∧ sm = .bool b ∧ QH o w R ⟨nm, UV, .slice UA l.length uc, [], 0, []⟩ qi (ipr2 97 (.slice UA l.length uc) l.length l :: r2) wx ∧ Hid (if b then Pa.pairsS Pa.sDot KF [] qs = Pa.pairsS Pa.sDot j l qi ∧ qi.ts.length < j else Pa.pairsS Pa.sDot KF [] qs = (l, qi)) ∧ l.length + qi.ts.length ≤ qs.ts.length + (if b then 0 else 1) ∧ qi.wt ≤ qs.wt)
          case atStart => exact ⟨true, [], qs, KF, none, 0, rfl, rfl, hXs.qh, Lib.hid ⟨rfl, hKF⟩, by simp, Nat.le_refl _⟩
          case round =>
            obtain ⟨b, l, qi, j, UA, uc, rfl, rfl, hQi, HM, hli, hwi⟩ := hrel
            clear hXs
            cases b with
            | true =>
              obtain ⟨nv2, P2, hX⟩ := hQi
              have HM2 : Hid (∃ j', j = j' + 1 ∧ Pa.pairsS Pa.sDot KF [] qs = (if (Pa.pairS Pa.sDot qi).2.isS Pa.sComma then Pa.pairsS Pa.sDot j' (l ++ [(Pa.pairS Pa.sDot qi).1]) (Pa.pairS Pa.sDot qi).2.step else (l ++ [(Pa.pairS Pa.sDot qi).1], (Pa.pairS Pa.sDot qi).2)) ∧ qi.ts.length < j) := Lib.hid (by
                obtain ⟨h1, h2⟩ := (by simpa using HM.out : _ ∧ _)
                obtain ⟨j', rfl⟩ : ∃ j', j = j' + 1 := ⟨j - 1, by omega⟩
                exact ⟨j', rfl, by rw [h1, Pa.pairsS], h2⟩)
              have e9 : Pa.pairS Pa.sDot qi = ((Pa.nameX qi, Pa.nameX (Pa.takeS Pa.sDot (Pa.nameS qi))), Pa.nameS (Pa.takeS Pa.sDot (Pa.nameS qi))) := rfl
              rw [e9] at HM2
              have hF1 := Pa.name_fw qi
              have hF2 := Pa.take_fw Pa.sDot (Pa.nameS qi)
              have hF3 := Pa.name_fw (Pa.takeS Pa.sDot (Pa.nameS qi))
              have t1 := hF1.tok
              have t2 := hF2.tok
              have t3 := hF3.tok
              have u1 := hF1.wt
              have u2 := hF2.wt
              have u3 := hF3.wt
              have HN := Lib.hid (qname hX)
              simp only [if_true] at hli
              clear hX HM hF1 hF2 hF3 e9
              generalize Pa.nameX qi = a at *
              generalize Pa.nameS qi = q3 at *
              go_wp2_with fail
              refine HN.out.mono ?_
              rintro e w5 ⟨rfl, hX5⟩
              have hB5 : Blk (w5.alloc (.cells #[.string ⟨#[]⟩, .string ⟨#[]⟩] 97)) w5.heap.size 97 [.string ⟨#[]⟩, .string ⟨#[]⟩] := Blk.new _ _ _
              have hX6 := (hX5.new 97 [.string ⟨#[]⟩, .string ⟨#[]⟩]).rset [Sv a, .string ⟨#[]⟩]
              clear HN hX5
              go_upto_region 14 with (refine wpList_store_row rfl 97 (.tmp 5) (.tmp 44) rfl w5.heap.size ([Sv a, .string ⟨#[]⟩] : List Value).toArray rfl rfl 97 ([.string ⟨#[]⟩, .string ⟨#[]⟩] : List Value).toArray hB5 (by kernel_rfl) (by kernel_rfl) (by kernel_rfl) ?_)
              clear hB5
              generalize (w5.alloc _).setRow _ _ = w6 at *
              generalize w5.heap.size = gu at *
              have HT := Lib.hid (qtake Pa.sDot hX6)
              clear hX6
              generalize Pa.takeS Pa.sDot q3 = q4 at *
              go_wp2_with fail
              refine HT.out.mono ?_
              rintro e w7 ⟨rfl, hX7⟩
              have HN := Lib.hid (qname hX7)
              clear HT hX7
              generalize Pa.nameX q4 = b at *
              generalize Pa.nameS q4 = q5 at *
              go_wp2_with fail
              refine HN.out.mono ?_
              rintro e w8 ⟨rfl, hX8⟩
              have y1 : w8.cell? ⟨gu, 1, none⟩ = some (.string ⟨#[]⟩) := hX8.rblk.cell 1
              have f1 := hX8.rblk.frozen 1
              have hX9 : QX o w R ⟨nm, UV, .slice UA l.length uc, [], 0, []⟩ nv2 P2 q5 (iblk gu 97 [Sv a, Sv b] :: ipr2 97 (.slice UA l.length uc) l.length l :: r2) (w8.setCell ⟨gu, 1, none⟩ (Sv b)) := hX8.rcell 1 (Sv b)
              clear HN hX8
              go_upto_region 16 with fail
              clear y1 f1
              generalize w8.setCell _ _ = w9 at *
              have d0 : w9.cell? ⟨gu, 0, none⟩ = some (Sv a) := hX9.rblk.cell 0
              have d1 : w9.cell? ⟨gu, 1, none⟩ = some (Sv b) := hX9.rblk.cell 1
              have d5 : w9.cell? ⟨R.gp, 4, none⟩ = some (.slice UA l.length uc) := hX9.ok.blk.cell 4
              have HX2 : Hid (QX o w R ⟨nm, UV, .slice UA l.length uc, [], 0, []⟩ nv2 P2 q5 (ipr2 97 (.slice UA l.length uc) l.length l :: iblk gu 97 [Sv a, Sv b] :: r2) (w9.alloc (.cells #[.string (bs a), .string (bs b)] 97)).drew) := Lib.hid ((hX9.swap).next (((Below.refl _ _).alloc (Nat.le_refl _) _).drew))
              clear hX9
              refine wp_region_held_drew (S := (fun w' => w'.cell? ⟨gu, 0, none⟩ = some (Sv a) ∧ w'.cell? ⟨gu, 1, none⟩ = some (Sv b))) (by kernel_rfl) ?_ (fun hHeld => ?_)
              · exact ⟨d0, d1⟩
              refine wpAnyH_take (i := 0) (v := ?_) rfl (by kernel_rfl) (by kernel_rfl) (by kernel_rfl) (fun _ _ _ h => h) (Or.inl ⟨by rfl, ?_⟩) (by assumption) ?_
              rotate_left
              · (intro w hSw; (try dsimp only at hSw); (try obtain ⟨hSw1, hSw2⟩ := hSw); go_simp; (try with_reducible rfl))
              try simp only [Act.put, List.getElem_toArray, List.getElem_cons_zero, List.setIfInBounds_toArray, List.set_cons_zero, List.set_cons_succ]
              refine wpAnyH_take (i := 1) (v := ?_) rfl (by kernel_rfl) (by kernel_rfl) (by kernel_rfl) (fun _ _ _ h => h) (Or.inl ⟨by rfl, ?_⟩) (by assumption) ?_
              rotate_left
              · (intro w hSw; (try dsimp only at hSw); (try obtain ⟨hSw1, hSw2⟩ := hSw); go_simp; (try with_reducible rfl))
              try simp only [Act.put, List.getElem_toArray, List.getElem_cons_zero, List.getElem_cons_succ, List.setIfInBounds_toArray, List.set_cons_zero, List.set_cons_succ]
              refine wpAnyH_take (i := 2) (v := ?_) rfl (by kernel_rfl) (by kernel_rfl) (by kernel_rfl) (fun _ _ _ h => h) (Or.inl ⟨by rfl, ?_⟩) (by assumption) ?_
              rotate_left
              · (intro w hSw; (try dsimp only at hSw); (try obtain ⟨hSw1, hSw2⟩ := hSw); go_simp; (try with_reducible rfl))
              try simp only [Act.put, List.getElem_toArray, List.getElem_cons_zero, List.getElem_cons_succ, List.setIfInBounds_toArray, List.set_cons_zero, List.set_cons_succ]
              refine wpAnyH_take (i := 3) (v := ?_) rfl (by kernel_rfl) (by kernel_rfl) (by kernel_rfl) (fun _ _ _ h => h) (Or.inl ⟨by rfl, ?_⟩) (by assumption) ?_
              rotate_left
              · (intro w hSw; (try dsimp only at hSw); (try obtain ⟨hSw1, hSw2⟩ := hSw); go_simp; (try with_reducible rfl))
              try simp only [Act.put, List.getElem_toArray, List.getElem_cons_zero, List.getElem_cons_succ, List.setIfInBounds_toArray, List.set_cons_zero, List.set_cons_succ]
              refine wpAnyH_take (i := 4) (v := ?_) rfl (by kernel_rfl) (by kernel_rfl) (by kernel_rfl) (fun _ _ _ h => h) (Or.inl ⟨by rfl, ?_⟩) (by assumption) ?_
              rotate_left
              · (intro w hSw; (try dsimp only at hSw); (try obtain ⟨hSw1, hSw2⟩ := hSw); go_simp; (try with_reducible rfl))
              try simp only [Act.put, List.getElem_toArray, List.getElem_cons_zero, List.getElem_cons_succ, List.setIfInBounds_toArray, List.set_cons_zero, List.set_cons_succ]
              refine wpAnyH_take (i := 6) (v := ?_) rfl (by kernel_rfl) (by kernel_rfl) (by kernel_rfl) (fun _ _ _ h => h) (Or.inl ⟨by rfl, ?_⟩) (by assumption) ?_
              rotate_left
              · (intro w hSw; (try dsimp only at hSw); (try obtain ⟨hSw1, hSw2⟩ := hSw); go_simp; (try with_reducible rfl))
              try simp only [Act.put, List.getElem_toArray, List.getElem_cons_zero, List.getElem_cons_succ, List.setIfInBounds_toArray, List.set_cons_zero, List.set_cons_succ]
              refine wpAnyH_ready (rs := [5, 7]) (by kernel_rfl) (by simp) ?_
              refine AllReadyH.cons rfl (fun K hK => ?_) ?_
              · go_simp
                refine hK.out _ _ ?_ (fun hHeld => ?_)
                · exact ⟨d0, d1⟩
                clear hK K
                refine wpAnyH_ready (rs := [7]) (by kernel_rfl) (by simp) ?_
                refine AllReadyH.cons rfl (fun K hK => ?_) ?_
                · go_simp
                  have e5 : (w9.alloc (.cells #[.string (bs a), .string (bs b)] 97)).drew.cell? ⟨R.gp, 4, none⟩ = some (.slice UA l.length uc) := HX2.out.ok.blk.cell 4
                  have e0 := HX2.out.swap.rblk.cell 0
                  have e1 := HX2.out.swap.rblk.cell 1
                  simp only [List.getElem?_cons_zero, List.getElem?_cons_succ] at e0 e1
                  refine hK.out _ _ ?_ (fun hHeld => ?_)
                  · exact ⟨e0, e1⟩
                  clear hK K
                  refine wpAnyH_ready (rs := [8]) (by kernel_rfl) (by simp) ?_
                  refine AllReadyH.cons rfl (fun K hK => ?_) ?_
                  · refine step_append_lies _ (by rfl) (.tmp 55) (.tmp 57) 26 (by rfl) 0 97 i0 _ 2 32 Tryz.underlying26 hi0 hz0 hz1 hz2 rfl (by decide) (.slice UA l.length uc) l.length (pcells l) (by rfl) ?o1 _ 1 1 [Sv a, Sv b] (by rfl) (by rfl) ?nw ?oc (by decide) ?l1 ?l2 ?l3 _ (by rfl) ?_
                    case o1 => exact HX2.out.rrow
                    case nw => exact qnew2 _ _ _ _
                    case oc => (intro u hu; simp at hu; rcases hu with rfl | rfl <;> rfl)
                    case l1 => (unfold maxLen; omega)
                    case l2 => omega
                    case l3 => exact Nat.zero_le _
                    intro gn cn w10 hownn hgrow hat hltn
                    have hX10 := HX2.out.rgrow hownn hgrow (at_of hat)
                    have m0 := hX10.swap.rblk.cell 0
                    have m1 := hX10.swap.rblk.cell 1
                    simp only [List.getElem?_cons_zero, List.getElem?_cons_succ] at m0 m1
                    have m5 : w10.cell? ⟨R.gp, 4, none⟩ = some (.slice UA l.length uc) := hX10.ok.blk.cell 4
                    have mf := hX10.ok.blk.frozen 4
                    have hX11 := hX10.fld (D' := ⟨nm, UV, .slice (some ⟨gn, 0, none⟩) (l.length + 1) cn, [], 0, []⟩) 4 (.slice (some ⟨gn, 0, none⟩) (l.length + 1) cn) rfl
                    have n0 := hX11.swap.rblk.cell 0
                    have n1 := hX11.swap.rblk.cell 1
                    simp only [List.getElem?_cons_zero, List.getElem?_cons_succ] at n0 n1
                    have HX11 := Lib.hid hX11.swap.drop
                    clear hownn hgrow hat hltn hX10 hX11
                    refine hK.out _ _ ?_ (fun hHeld => ?_)
                    · exact ⟨m0, m1⟩
                    clear hK K
                    refine wpAnyH_take (i := 9) (v := ?_) rfl (by kernel_rfl) (by kernel_rfl) (by kernel_rfl) (fun _ _ _ h => h) (Or.inl ⟨by rfl, ?_⟩) (by assumption) ?_
                    rotate_left
                    · (intro w hSw; (try dsimp only at hSw); (try obtain ⟨hSw1, hSw2⟩ := hSw); go_simp; (try with_reducible rfl))
                    try simp only [Act.put, List.getElem_toArray, List.getElem_cons_zero, List.getElem_cons_succ, List.setIfInBounds_toArray, List.set_cons_zero, List.set_cons_succ]
                    refine wpAnyH_take (i := 10) (v := ?_) rfl (by kernel_rfl) (by kernel_rfl) (by kernel_rfl) (fun _ _ _ h => h) (Or.inl ⟨by rfl, ?_⟩) (by assumption) ?_
                    rotate_left
                    · (intro w hSw; (try dsimp only at hSw); (try obtain ⟨hSw1, hSw2⟩ := hSw); go_simp; (try with_reducible rfl))
                    try simp only [Act.put, List.getElem_toArray, List.getElem_cons_zero, List.getElem_cons_succ, List.setIfInBounds_toArray, List.set_cons_zero, List.set_cons_succ]
                    refine wpAnyH_take (i := 11) (v := ?_) rfl (by kernel_rfl) (by kernel_rfl) (by kernel_rfl) (fun _ _ _ h => h) (Or.inl ⟨by rfl, ?_⟩) (by assumption) ?_
                    rotate_left
                    · (intro w hSw; (try dsimp only at hSw); (try obtain ⟨hSw1, hSw2⟩ := hSw); go_simp; (try with_reducible rfl))
                    try simp only [Act.put, List.getElem_toArray, List.getElem_cons_zero, List.getElem_cons_succ, List.setIfInBounds_toArray, List.set_cons_zero, List.set_cons_succ]
                    refine wpAnyH_ready (rs := [12]) (by kernel_rfl) (by simp) ?_
                    refine AllReadyH.cons rfl (fun K hK => ?_) ?_
                    · go_simp
                      refine hK.out _ _ ?_ (fun hHeld => ?_)
                      · exact ⟨n0, n1⟩
                      clear hK K
                      refine wpAnyH_done (by kernel_rfl) ?_ _
                      clear m0 m1 m5 mf n0 n1 e0 e1 d0 d1 d5 HX2
                      try clear e5
                      have hX12 := HX11.out
                      clear HX11
                      generalize w10.setCell _ _ = w12 at *
                      have hpc : pcells l ++ [Sv a, Sv b] = pcells (l ++ [(a, b)]) := (pcells_snoc l (a, b)).symm
                      rw [hpc] at hX12
                      clear hpc
                      have HS := Lib.hid (qskip Pa.sComma hX12)
                      clear hX12
                      cases hc : q5.isS Pa.sComma with
                      | true =>
                        rw [hc] at HS HM2
                        have hsl := Pa.isS_len hc
                        have hsw := Pa.isS_wt hc
                        rw [skip_yes hc] at HS
                        clear hc
                        generalize q5.step = q6 at *
                        go_wp2_with fail
                        refine HS.out.mono ?_
                        rintro e w13 ⟨rfl, hX13⟩
                        go_wp2_with fail
                        go_roundg (q6.ts.length + 1)
                        case measure => (try simp only [if_true]); omega
                        case rel =>
                          obtain ⟨j', e1, e2, e3⟩ := HM2.out
                          exact ⟨true, l ++ [(a, b)], q6, j', some ⟨gn, 0, none⟩, cn, rfl, rfl, by first | exact hX13.qh | (rw [List.length_append, List.length_singleton]; exact hX13.qh), Lib.hid (by simp only [if_true]; exact ⟨by rw [e2]; simp, by omega⟩), by simp only [if_true, List.length_append, List.length_singleton]; omega, by omega⟩
                      | false =>
                        rw [hc] at HS HM2
                        rw [skip_no hc] at HS
                        clear hc
                        go_wp2_with fail
                        refine HS.out.mono ?_
                        rintro e w13 ⟨rfl, hX13⟩
                        go_wp2_with fail
                        go_roundg 0
                        case measure => (try simp only [if_true]); omega
                        case rel =>
                          obtain ⟨j', e1, e2, e3⟩ := HM2.out
                          exact ⟨false, l ++ [(a, b)], q5, 0, some ⟨gn, 0, none⟩, cn, rfl, rfl, by first | exact hX13.qh | (rw [List.length_append, List.length_singleton]; exact hX13.qh), Lib.hid (by simp only [Bool.false_eq_true, if_false]; rw [e2]; simp), by simp only [Bool.false_eq_true, if_false, List.length_append, List.length_singleton]; omega, by omega⟩
                    exact AllReadyH.nil
                  exact AllReadyH.nil
                exact AllReadyH.nil
              refine AllReadyH.cons rfl (fun K hK => ?_) ?_
              · go_simp
                have e5 : (w9.alloc (.cells #[.string (bs a), .string (bs b)] 97)).drew.cell? ⟨R.gp, 4, none⟩ = some (.slice UA l.length uc) := HX2.out.ok.blk.cell 4
                have e0 := HX2.out.swap.rblk.cell 0
                have e1 := HX2.out.swap.rblk.cell 1
                simp only [List.getElem?_cons_zero, List.getElem?_cons_succ] at e0 e1
                refine hK.out _ _ ?_ (fun hHeld => ?_)
                · exact ⟨e0, e1⟩
                clear hK K
                refine wpAnyH_ready (rs := [5]) (by kernel_rfl) (by simp) ?_
                refine AllReadyH.cons rfl (fun K hK => ?_) ?_
                · go_simp
                  refine hK.out _ _ ?_ (fun hHeld => ?_)
                  · exact ⟨e0, e1⟩
                  clear hK K
                  refine wpAnyH_ready (rs := [8]) (by kernel_rfl) (by simp) ?_
                  refine AllReadyH.cons rfl (fun K hK => ?_) ?_
                  · refine step_append_lies _ (by rfl) (.tmp 55) (.tmp 57) 26 (by rfl) 0 97 i0 _ 2 32 Tryz.underlying26 hi0 hz0 hz1 hz2 rfl (by decide) (.slice UA l.length uc) l.length (pcells l) (by rfl) ?o1 _ 1 1 [Sv a, Sv b] (by rfl) (by rfl) ?nw ?oc (by decide) ?l1 ?l2 ?l3 _ (by rfl) ?_
                    case o1 => exact HX2.out.rrow
                    case nw => exact qnew2 _ _ _ _
                    case oc => (intro u hu; simp at hu; rcases hu with rfl | rfl <;> rfl)
                    case l1 => (unfold maxLen; omega)
                    case l2 => omega
                    case l3 => exact Nat.zero_le _
                    intro gn cn w10 hownn hgrow hat hltn
                    have hX10 := HX2.out.rgrow hownn hgrow (at_of hat)
                    have m0 := hX10.swap.rblk.cell 0
                    have m1 := hX10.swap.rblk.cell 1
                    simp only [List.getElem?_cons_zero, List.getElem?_cons_succ] at m0 m1
                    have m5 : w10.cell? ⟨R.gp, 4, none⟩ = some (.slice UA l.length uc) := hX10.ok.blk.cell 4
                    have mf := hX10.ok.blk.frozen 4
                    have hX11 := hX10.fld (D' := ⟨nm, UV, .slice (some ⟨gn, 0, none⟩) (l.length + 1) cn, [], 0, []⟩) 4 (.slice (some ⟨gn, 0, none⟩) (l.length + 1) cn) rfl
                    have n0 := hX11.swap.rblk.cell 0
                    have n1 := hX11.swap.rblk.cell 1
                    simp only [List.getElem?_cons_zero, List.getElem?_cons_succ] at n0 n1
                    have HX11 := Lib.hid hX11.swap.drop
                    clear hownn hgrow hat hltn hX10 hX11
                    refine hK.out _ _ ?_ (fun hHeld => ?_)
                    · exact ⟨m0, m1⟩
                    clear hK K
                    refine wpAnyH_take (i := 9) (v := ?_) rfl (by kernel_rfl) (by kernel_rfl) (by kernel_rfl) (fun _ _ _ h => h) (Or.inl ⟨by rfl, ?_⟩) (by assumption) ?_
                    rotate_left
                    · (intro w hSw; (try dsimp only at hSw); (try obtain ⟨hSw1, hSw2⟩ := hSw); go_simp; (try with_reducible rfl))
                    try simp only [Act.put, List.getElem_toArray, List.getElem_cons_zero, List.getElem_cons_succ, List.setIfInBounds_toArray, List.set_cons_zero, List.set_cons_succ]
                    refine wpAnyH_take (i := 10) (v := ?_) rfl (by kernel_rfl) (by kernel_rfl) (by kernel_rfl) (fun _ _ _ h => h) (Or.inl ⟨by rfl, ?_⟩) (by assumption) ?_
                    rotate_left
                    · (intro w hSw; (try dsimp only at hSw); (try obtain ⟨hSw1, hSw2⟩ := hSw); go_simp; (try with_reducible rfl))
                    try simp only [Act.put, List.getElem_toArray, List.getElem_cons_zero, List.getElem_cons_succ, List.setIfInBounds_toArray, List.set_cons_zero, List.set_cons_succ]
                    refine wpAnyH_take (i := 11) (v := ?_) rfl (by kernel_rfl) (by kernel_rfl) (by kernel_rfl) (fun _ _ _ h => h) (Or.inl ⟨by rfl, ?_⟩) (by assumption) ?_
                    rotate_left
                    · (intro w hSw; (try dsimp only at hSw); (try obtain ⟨hSw1, hSw2⟩ := hSw); go_simp; (try with_reducible rfl))
                    try simp only [Act.put, List.getElem_toArray, List.getElem_cons_zero, List.getElem_cons_succ, List.setIfInBounds_toArray, List.set_cons_zero, List.set_cons_succ]
                    refine wpAnyH_ready (rs := [12]) (by kernel_rfl) (by simp) ?_
                    refine AllReadyH.cons rfl (fun K hK => ?_) ?_
                    · go_simp
                      refine hK.out _ _ ?_ (fun hHeld => ?_)
                      · exact ⟨n0, n1⟩
                      clear hK K
                      refine wpAnyH_done (by kernel_rfl) ?_ _
                      clear m0 m1 m5 mf n0 n1 e0 e1 d0 d1 d5 HX2
                      try clear e5
                      have hX12 := HX11.out
                      clear HX11
                      generalize w10.setCell _ _ = w12 at *
                      have hpc : pcells l ++ [Sv a, Sv b] = pcells (l ++ [(a, b)]) := (pcells_snoc l (a, b)).symm
                      rw [hpc] at hX12
                      clear hpc
                      have HS := Lib.hid (qskip Pa.sComma hX12)
                      clear hX12
                      cases hc : q5.isS Pa.sComma with
                      | true =>
                        rw [hc] at HS HM2
                        have hsl := Pa.isS_len hc
                        have hsw := Pa.isS_wt hc
                        rw [skip_yes hc] at HS
                        clear hc
                        generalize q5.step = q6 at *
                        go_wp2_with fail
                        refine HS.out.mono ?_
                        rintro e w13 ⟨rfl, hX13⟩
                        go_wp2_with fail
                        go_roundg (q6.ts.length + 1)
                        case measure => (try simp only [if_true]); omega
                        case rel =>
                          obtain ⟨j', e1, e2, e3⟩ := HM2.out
                          exact ⟨true, l ++ [(a, b)], q6, j', some ⟨gn, 0, none⟩, cn, rfl, rfl, by first | exact hX13.qh | (rw [List.length_append, List.length_singleton]; exact hX13.qh), Lib.hid (by simp only [if_true]; exact ⟨by rw [e2]; simp, by omega⟩), by simp only [if_true, List.length_append, List.length_singleton]; omega, by omega⟩
                      | false =>
                        rw [hc] at HS HM2
                        rw [skip_no hc] at HS
                        clear hc
                        go_wp2_with fail
                        refine HS.out.mono ?_
                        rintro e w13 ⟨rfl, hX13⟩
                        go_wp2_with fail
                        go_roundg 0
                        case measure => (try simp only [if_true]); omega
                        case rel =>
                          obtain ⟨j', e1, e2, e3⟩ := HM2.out
                          exact ⟨false, l ++ [(a, b)], q5, 0, some ⟨gn, 0, none⟩, cn, rfl, rfl, by first | exact hX13.qh | (rw [List.length_append, List.length_singleton]; exact hX13.qh), Lib.hid (by simp only [Bool.false_eq_true, if_false]; rw [e2]; simp), by simp only [Bool.false_eq_true, if_false, List.length_append, List.length_singleton]; omega, by omega⟩
                    exact AllReadyH.nil
                  exact AllReadyH.nil
                exact AllReadyH.nil
              exact AllReadyH.nil
            | false =>
              have hend : Pa.pairsS Pa.sDot KF [] qs = (l, qi) := by simpa using HM.out
              simp only [Bool.false_eq_true, if_false] at hli
              clear HM
              have hRV : RV = (l, qi) := HRV2.out.trans hend
              subst hRV
              subst hr2
              clear hend HRV2
              go_wp2_with fail
              go_meet
              exact ⟨UA, uc, hQi.swap⟩
      case rest => as_aux_lemma =>
        obtain ⟨RA, rc, hQ6⟩ := hcut
        obtain ⟨rv, qr⟩ := RV
        simp only at hQ6 HQ3 hrw hrt ⊢
        obtain ⟨RVv, hRVv⟩ : ∃ v, (.slice RA rv.length rc : Value) = v := ⟨_, rfl⟩
        rw [hRVv] at hQ6
        have HRVv := Lib.hid hRVv
        obtain ⟨nv6, P6, hX6⟩ := hQ6
        have HS := Lib.hid (qskip Pa.kProve hX6)
        clear hX5 hX6 hRVv HRV hqiw hqik hi0 hz0 hz1 hz2
        go_wp2_with fail
        refine HS.out.mono ?_
        rintro e w7 ⟨rfl, hX7⟩
        clear HS
        go_upto_if 65 with fail
        go_cut [65] from 66 to 74 (fun s65 wx => QH o w R ⟨nm, UV, RVv, [], 0, []⟩ q3 [ipr2 50 UV us.length us, ipr2 97 RVv rv.length rv] wx)
        case first => as_aux_lemma =>
          clear HQ4 HQ5 HQ6
          cases hr : qr.isS Pa.kProve with
          | true =>
            have HQ : Hid (q3 = Pa.exprS qr.ts.length qr.step) := Lib.hid (by rw [HQ3.out]; unfold Pa.proveS; rw [if_pos hr])
            have hsl := Pa.isS_len hr
            have hsw := Pa.isS_wt hr
            rw [skip_yes hr] at hX7
            have HC := Lib.hid (qexpr qr.ts.length o w R _ _ qr.step w7 (by omega) (by omega) hX7.qh)
            clear hr hX7 HQ3 hsl hsw
            rw [← HQ.out] at HC
            go_wp2_with fail
            refine HC.out.mono ?_
            rintro e w8 ⟨rfl, hQ8⟩
            go_wp2_with fail
            go_meet
            exact hQ8
          | false =>
            rw [skip_no hr] at hX7
            have cb := hX7.ok.cbad
            cases hb : qr.bad with
            | true =>
              have HQ : Hid (q3 = qr) := Lib.hid (by rw [HQ3.out, Pa.prove_bad hb])
              rw [hb] at cb
              have HX := Lib.hid hX7
              clear hr hX7 HQ3 hb
              go_wp2_with fail
              go_meet
              rw [HQ.out]
              exact HX.out.qh
            | false =>
              have HQ : Hid (q3 = Pa.beginS 0 qr) := Lib.hid (by rw [HQ3.out]; unfold Pa.proveS; rw [if_neg (by rw [hr]; exact Bool.false_ne_true), if_neg (by rw [hb]; exact Bool.false_ne_true)])
              rw [hb] at cb
              have HB := Lib.hid (qbegin 0 (by omega) hX7)
              rw [← HQ.out] at HB
              clear hr hX7 HQ3 hb
              go_wp2_with fail
              refine HB.out.mono ?_
              rintro e w8 ⟨rfl, hQ8⟩
              go_wp2_with fail
              go_meet
              exact hQ8
        case rest => as_aux_lemma =>
          obtain ⟨nv8, P8, hX8⟩ := hcut
          have HS := Lib.hid (qskip Pa.kScope hX8)
          clear hX7 hX8 HQ3 hrw hrt
          go_wp2_with fail
          refine HS.out.mono ?_
          rintro e w9 ⟨rfl, hX9⟩
          clear HS
          go_upto_if 76 with fail
          go_cut [76] from 77 to 90 (fun s76 wx => QH o w R ⟨nm, UV, RVv, SC.1.1, SC.1.2, []⟩ SC.2 [ipr2 50 UV us.length us, ipr2 97 RVv rv.length rv] wx)
          case first => as_aux_lemma =>
            clear HQ4 HQ5 HQ6
            cases hr : q3.isS Pa.kScope with
            | false =>
              have hSC : SC = (([], 0), q3) := by rw [HSC.out, if_neg (by rw [hr]; exact Bool.false_ne_true)]
              subst hSC
              rw [skip_no hr] at hX9
              clear hr HSC
              go_wp2_with fail
              go_meet
              exact hX9.qh
            | true =>
              have HSC2 : Hid (SC = (if (Pa.wordS q3.step).isS Pa.kLimit then ((Pa.wordX q3.step, Pa.numX (Pa.wordS q3.step).step), Pa.numS (Pa.wordS q3.step).step) else ((Pa.wordX q3.step, 0), Pa.wordS q3.step))) := Lib.hid (by rw [HSC.out, if_pos hr])
              rw [skip_yes hr] at hX9
              have HN := Lib.hid (qword hX9)
              clear hr HSC hX9
              generalize Pa.wordX q3.step = sw at *
              generalize Pa.wordS q3.step = qw at *
              go_wp2_with fail
              refine HN.out.mono ?_
              rintro e w10 ⟨rfl, hX10⟩
              have y2 : w10.cell? ⟨R.gp, 7, none⟩ = some (Sv []) := hX10.ok.blk.cell 7
              have f2 := hX10.ok.blk.frozen 7
              have hX11 := hX10.fld (D' := ⟨nm, UV, RVv, sw, 0, []⟩) 7 (Sv sw) rfl
              clear HN hX10
              go_upto_region 24 with fail
              clear y2 f2
              generalize w10.setCell _ _ = w11 at *
              have HS := Lib.hid (qskip Pa.kLimit hX11)
              clear hX11
              cases hr : qw.isS Pa.kLimit with
              | false =>
                have hSC : SC = ((sw, 0), qw) := by rw [HSC2.out, if_neg (by rw [hr]; exact Bool.false_ne_true)]
                subst hSC
                rw [hr, skip_no hr] at HS
                clear hr HSC2
                go_wp2_with fail
                refine HS.out.mono ?_
                rintro e w12 ⟨rfl, hX12⟩
                go_wp2_with fail
                go_meet
                exact hX12.qh
              | true =>
                have hSC : SC = ((sw, Pa.numX qw.step), Pa.numS qw.step) := by rw [HSC2.out, if_pos hr]
                subst hSC
                rw [hr, skip_yes hr] at HS
                clear hr HSC2
                go_wp2_with fail
                refine HS.out.mono ?_
                rintro e w12 ⟨rfl, hX12⟩
                have HN := Lib.hid (qnumber hX12)
                clear HS hX12
                generalize Pa.numX qw.step = lim at *
                generalize Pa.numS qw.step = ql at *
                go_wp2_with fail
                refine HN.out.mono ?_
                rintro e w13 ⟨rfl, hX13⟩
                have y2 : w13.cell? ⟨R.gp, 8, none⟩ = some (.int .i64 0) := hX13.ok.blk.cell 8
                have f2 := hX13.ok.blk.frozen 8
                have HX := Lib.hid (hX13.fld (D' := ⟨nm, UV, RVv, sw, lim, []⟩) 8 (.int .i64 lim) rfl)
                clear HN hX13
                go_wp2_with fail
                go_meet
                exact HX.out.qh
          case rest => as_aux_lemma =>
            obtain ⟨⟨sc, lim⟩, qz⟩ := SC
            simp only at hcut HQ4 ⊢
            have hq4 : q4 = qz := HQ4.out
            subst hq4
            obtain ⟨nv9, P9, hX10⟩ := hcut
            have HS := Lib.hid (qskip Pa.kEscrow hX10)
            clear hX9 hX10 HQ4 HSC
            go_wp2_with fail
            refine HS.out.mono ?_
            rintro e w11 ⟨rfl, hX11⟩
            clear HS
            go_upto_if 92 with fail
            go_cut [92] from 93 to 98 (fun s92 wx => QH o w R ⟨nm, UV, RVv, sc, lim, EC.1⟩ EC.2 [ipr2 50 UV us.length us, ipr2 97 RVv rv.length rv] wx)
            case first => as_aux_lemma =>
              clear HQ5 HQ6
              cases hr : q4.isS Pa.kEscrow with
              | false =>
                have hEC : EC = ([], q4) := by rw [HEC.out, if_neg (by rw [hr]; exact Bool.false_ne_true)]
                subst hEC
                rw [skip_no hr] at hX11
                clear hr HEC
                go_wp2_with fail
                go_meet
                exact hX11.qh
              | true =>
                have hEC : EC = (Pa.nameX q4.step, Pa.nameS q4.step) := by rw [HEC.out, if_pos hr]
                subst hEC
                rw [skip_yes hr] at hX11
                have HN := Lib.hid (qname hX11)
                clear hr HEC hX11
                generalize Pa.nameX q4.step = es at *
                generalize Pa.nameS q4.step = qe at *
                go_wp2_with fail
                refine HN.out.mono ?_
                rintro e w12 ⟨rfl, hX12⟩
                have y2 : w12.cell? ⟨R.gp, 9, none⟩ = some (Sv []) := hX12.ok.blk.cell 9
                have f2 := hX12.ok.blk.frozen 9
                have HX := Lib.hid (hX12.fld (D' := ⟨nm, UV, RVv, sc, lim, es⟩) 9 (Sv es) rfl)
                clear HN hX12
                go_wp2_with fail
                go_meet
                exact HX.out.qh
            case rest => as_aux_lemma =>
              obtain ⟨es, qf⟩ := EC
              simp only at hcut HQ5 ⊢
              have hq5 : q5 = qf := HQ5.out
              subst hq5
              obtain ⟨nv10, P10, hX12⟩ := hcut
              have HT := Lib.hid (qtake Pa.kEnd hX12)
              have HE9 : Hid (q6 = if !(Pa.takeS Pa.kEnd q5).bad && !Pa.isE (Pa.takeS Pa.kEnd q5).ts then (Pa.takeS Pa.kEnd q5).spoil else Pa.takeS Pa.kEnd q5) := Lib.hid HQ6.out
              clear hX11 hX12 HQ5 HQ6 HEC
              generalize Pa.takeS Pa.kEnd q5 = qt at *
              go_wp2_with fail
              refine HT.out.mono ?_
              rintro e w13 ⟨rfl, hX13⟩
              clear HT
              have HX := Lib.hid hX13
              obtain ⟨t, l, ht⟩ := hX13.ok.cons
              have h9 := hX13.ok
              rw [ht] at h9
              obtain ⟨k, hA, -, -, -, -⟩ := h9.at
              obtain ⟨c0, c1, c5, cb, f1, fb, k0, k1, t0, t1, t2⟩ := hA
              clear hX13 h9 c5 f1 t1 t2
              cases hb : qt.bad with
              | true =>
                have HQ : Hid (q6 = qt) := Lib.hid (by rw [HE9.out, hb]; rfl)
                rw [hb] at cb
                clear HE9 hb ht fb
                go_upto_region 29 with fail
                go_quiet (fail)
                go_wp2_with fail
                go_end0
                rw [HQ.out]
                exact ⟨rfl, UA, uc, RA, rc, by rw [HUV.out, HRVv.out]; exact (HX.out.drewN nq).qh⟩
              | false =>
                rw [hb] at cb
                cases hk : (t.kind == 3) with
                | true =>
                  have hd : ((t.kind : Int) == 3) = true := (tok_kind 3 _).trans hk
                  have hd2 : ((t.kind : Int) != 3) = false := by rw [bne, hd]; rfl
                  have HQ : Hid (q6 = qt) := Lib.hid (by rw [HE9.out, hb, ht, Pa.isE, hk]; rfl)
                  clear HE9 hb ht fb hk
                  go_upto_region 29 with fail
                  go_quiet (fail)
                  go_wp2_with fail
                  go_end0
                  rw [HQ.out]
                  exact ⟨rfl, UA, uc, RA, rc, by rw [HUV.out, HRVv.out]; exact (HX.out.drewN nq).qh⟩
                | false =>
                  have hd : ((t.kind : Int) == 3) = false := (tok_kind 3 _).trans hk
                  have hd2 : ((t.kind : Int) != 3) = true := by rw [bne, hd]; rfl
                  have HQ : Hid (q6 = qt.spoil) := Lib.hid (by rw [HE9.out, hb, ht, Pa.isE, hk]; rfl)
                  clear HE9 hb ht hk
                  go_upto_region 29 with fail
                  go_quiet (fail)
                  have hX14 := HX.out.drewN nq
                  generalize w13.drewN nq = w14 at *
                  clear HX c0 c1 t0 cb fb
                  have fb := hX14.ok.blk.frozen 10
                  have cb := hX14.ok.cbad
                  have HX := Lib.hid hX14.spoil
                  clear hX14
                  go_wp2_with fail
                  go_end0
                  rw [HQ.out]
                  exact ⟨rfl, UA, uc, RA, rc, by rw [HUV.out, HRVv.out]; exact HX.out.qh⟩
end
end Go.Proofs.YtogmhaihmkcjgaaGreatDoor
