/-
  (*formula.reader).gate.
-/
import Derived.Test.YteaaeaimjbaomaaDoorFmR3
namespace Go.Proofs.YteaaeaimjbaomaaDoor
open Go.RowKit
set_option linter.unusedVariables false

theorem size_drop {s : ByteArray} {p : Nat} {l : List UInt8} (hp : p ≤ s.size) (h : l = (tl s).drop p) : l.length = s.size - p := by rw [h, List.length_drop, length_tl]
theorem headD_at {s : ByteArray} {p : Nat} {l : List UInt8} (h : l = (tl s).drop p) (hp : p < s.size) : l.headD 0 = s[p] := by rw [h, at_tl s p hp]; rfl
theorem headD_end {s : ByteArray} {p : Nat} {l : List UInt8} (h : l = (tl s).drop p) (hp : s.size ≤ p) : l.headD 0 = 0 := by rw [h, List.drop_eq_nil_of_le (by rw [length_tl]; exact hp)]; rfl
/-- the call of number by a reader -/
theorem number_call {g : Nat} {s : ByteArray} {p : Nat} {v : Value} {o : List Nat} {w W : World} {r : List It} (hs : s.size ≤ 2000) (h : Hp o w (irdr g s p v :: r) W) :
    Calls Tryd.prog 62 #[ptr g] W fun e w' => e = numOut ((tl s).drop p) ∧ Hp o w (irdr g s (p + numLen ((tl s).drop p)) v :: r) w' :=
  (number_any g s p v hs W (h.blk 0 rfl)).mono fun e w' ⟨h1, h2⟩ => ⟨h1, Hp.call (a := [irdr g s p v]) (a' := [irdr g s (p + numLen ((tl s).drop p)) v]) h h2⟩
/-- the loop over a gate's kids -/
def KidLoop (g : Nat) (s : ByteArray) (o : List Nat) (W : World) (f : Nat) (P : List GV) (R : GR × List Int) (gh : Nat) (vk : Value) (wx : World) : Prop :=
  ∃ q rr vg Q ks m, q ≤ s.size ∧ rr = (tl s).drop q ∧ rr ≠ [] ∧ gh = s.size + 1 - q ∧ s.size - q < m ∧ s.size - q < f ∧ Q.length + (s.size - q) ≤ 2000 ∧ ∃ Pn, Q = P ++ [(⟨0, [], 0⟩, .slice none 0 0)] ++ Pn ∧ ks.length < Q.length ∧
    Hp o W (rits g s q vg Q ++ [irow 3 1 vk ks.length (ivals ks)]) wx ∧ Hid (kidsR (gateP f) m rr (gts Q) ks = R)
set_option maxRecDepth 20000 in
set_option maxHeartbeats 4000000 in
theorem gate_any (g : Nat) (s : ByteArray) (hs : s.size ≤ 2000) (f : Nat) : ∀ (p : Nat) (vg : Value) (P : List GV) (W : World), p ≤ s.size → s.size - p < f → P.length + (s.size - p) ≤ 2000 → Sep W (rits g s p vg P) →
    Calls Tryd.prog 46 #[ptr g] W fun e w' => GatePost (ow (rits g s p vg P)) W g s P (gateP f ((tl s).drop p) (gts P)) e w' := by
  induction f with
  | zero => intro p vg P W hp hf; omega
  | succ f ih =>
    intro p vg P W hp hf hcnt hsep
    have hS := Hp.self hsep
    clear hsep
    generalize hoo : ow (rits g s p vg P) = o at *
    clear hoo
    generalize hl : (tl s).drop p = l at *
    have hll := size_drop hp hl.symm
    obtain ⟨A, cap, rfl⟩ := row_forms (hS.row 1 rfl)
    obtain ⟨-, -, c2⟩ := (hS.blk 0 rfl).get3
    have f2 := (hS.blk 0 rfl).frozen 2
    obtain ⟨i0, hi0, hz0, hz1, hz2⟩ := info_parts gate_info
    have hrow := hS.row 1 rfl
    go_enter Tryd.func46, Tryd.ntmps46
    go_wp2_with (first | (at_builtin; refine wpList_append_own2 rfl _ _ 22 rfl 0 40 i0 _ 3 40 Tryd.underlying22 hi0 hz0 hz1 hz2 rfl (by decide) _ _ _ rfl (hrow.alloc _) ⟨W.heap.size, 0, none⟩ 1 1 [.int .i64 0, .slice none 0 0, .int .i64 0] rfl rfl (new3' _ _ _ _ _) ?c2 (by decide) ?c3 ?c4 ?c5 ?_))
    case c2 => intro u hu; simp at hu; rcases hu with rfl | rfl | rfl <;> rfl
    case c3 => unfold maxLen; omega
    case c4 => omega
    case c5 => omega
    intro v' w3 hown3 hg3 hv3
    obtain ⟨g3, cap3, rfl, -⟩ := row_form hown3 (by omega)
    have hS0 : Hp o W (rits g s p (.slice A P.length cap) P ++ []) W := by rw [List.append_nil]; exact hS
    have hS3 := (hS.alloc _).grown 1 rfl hown3 hg3 (new_at hv3)
    have c2' := (hS3.blk 0 rfl).cell 2
    have f2' := (hS3.blk 0 rfl).frozen 2
    simp only [List.getElem?_cons_succ, List.getElem?_cons_zero] at c2'
    have hS4 := rits_push hS0 _ hown3 hg3 (new_at hv3)
    rw [List.append_nil] at hS4
    clear hS hS0 hS3 hown3 hg3 hv3 hrow c2 f2
    go_upto_region 3 with fail
    clear c2' f2'
    generalize w3.setCell ⟨g, 2, none⟩ (.slice (some ⟨g3, 0, none⟩) (P.length + 1) cap3) = w4 at *
    go_wp2_with fail
    refine (number_call hs hS4).mono ?_
    rintro e w5 ⟨rfl, hS5⟩
    clear hS4
    rw [hl]
    rw [hl] at hS5
    have hnl := numLen_le l
    have hn9 := numLen_nine l
    have hdr : l.drop (numLen l) = (tl s).drop (p + numLen l) := by rw [← hl, List.drop_drop]
    have hq : p + numLen l ≤ s.size := by omega
    have hgl : (gts P).length = P.length := by simp
    by_cases hok : nOk l = true
    · have hpos := (nOk_pos hok).1
      have HO : Hid (numOut l = .returned (.int .i64 (numV (l.take (numLen l))))) := by refine Lib.hid ?_; rw [numOut, if_pos hok]
      have HG : Hid (gateP (f + 1) l (gts P) = if (l.drop (numLen l)).headD 0 ≠ 40 then (true, l.drop (numLen l), gts P ++ [⟨0, [], numV (l.take (numLen l))⟩])
          else if (kidsR (gateP f) f (l.drop (numLen l)) (gts P ++ [⟨0, [], 0⟩]) []).1.1 = false then (kidsR (gateP f) f (l.drop (numLen l)) (gts P ++ [⟨0, [], 0⟩]) []).1
          else (true, (kidsR (gateP f) f (l.drop (numLen l)) (gts P ++ [⟨0, [], 0⟩]) []).1.2.1, (kidsR (gateP f) f (l.drop (numLen l)) (gts P ++ [⟨0, [], 0⟩]) []).1.2.2.set (gts P).length ⟨numV (l.take (numLen l)), (kidsR (gateP f) f (l.drop (numLen l)) (gts P ++ [⟨0, [], 0⟩]) []).2, 0⟩)) := by
        refine Lib.hid ?_
        rw [gateP, if_neg (by simp [hok])]
      rw [HO.out]
      clear hok HO hnl
      have hnv : 0 ≤ numV (l.take (numLen l)) ∧ numV (l.take (numLen l)) ≤ 1000000000 := numV_bd l
      generalize numV (l.take (numLen l)) = nv at *
      generalize hrr : l.drop (numLen l) = rr at *
      clear hrr
      generalize hqq : p + numLen l = q at *
      have HQ := Lib.hid hqq
      clear hqq
      have hrl := size_drop hq hdr
      go_upto_region 4 with fail
      go_cut [44] (fun s44 wx => s44 = .bool (decide (rr.headD 0 ≠ 40)) ∧ Hp o W (rits g s q (.slice (some ⟨g3, 0, none⟩) (P.length + 1) cap3) (P ++ [(⟨0, [], 0⟩, .slice none 0 0)])) wx)
      case first =>
        obtain ⟨c0, c1⟩ := rdr_cells hS5
        by_cases hqs : q < s.size
        · have hz : ((q : Int) == (s.size : Int)) = false := by rw [beq_eq_false_iff_ne]; omega
          have hqi : (q : Int) < (s.size : Int) := by omega
          have hqj : (0 : Int) ≤ (q : Int) := by omega
          have hh := headD_at hdr hqs
          by_cases h40 : s[q] = 40
          · have t1 : ((s[q].toNat : Int) != 40) = false := by rw [h40]; rfl
            have HD : Hid (decide (rr.headD 0 ≠ 40) = false) := by refine Lib.hid ?_; rw [hh, h40]; rfl
            clear hh h40 HG
            go_quiet (fail)
            go_wp2_with fail
            go_meet
            rw [HD.out]
            exact ⟨rfl, hS5.drewN nq⟩
          · have t1 : ((s[q].toNat : Int) != 40) = true := by
              rw [bne_iff_ne]
              intro h9
              exact h40 (UInt8.toNat_inj.1 (by show _ = 40; omega))
            have HD : Hid (decide (rr.headD 0 ≠ 40) = true) := by refine Lib.hid ?_; rw [hh]; simpa using h40
            clear hh h40 HG
            go_quiet (fail)
            go_wp2_with fail
            go_meet
            rw [HD.out]
            exact ⟨rfl, hS5.drewN nq⟩
        · have hz : ((q : Int) == (s.size : Int)) = true := by rw [beq_iff_eq]; omega
          have HD : Hid (decide (rr.headD 0 ≠ 40) = true) := by refine Lib.hid ?_; rw [headD_end hdr (by omega)]; rfl
          clear HG
          go_quiet (fail)
          go_wp2_with fail
          go_meet
          rw [HD.out]
          exact ⟨rfl, hS5.drewN nq⟩
      case rest =>
        obtain ⟨rfl, hS6⟩ := hcut
        clear hS5
        by_cases h40 : rr.headD 0 = 40
        · have HG2 : Hid (gateP (f + 1) l (gts P) = if (kidsR (gateP f) f rr (gts P ++ [⟨0, [], 0⟩]) []).1.1 = false then (kidsR (gateP f) f rr (gts P ++ [⟨0, [], 0⟩]) []).1
              else (true, (kidsR (gateP f) f rr (gts P ++ [⟨0, [], 0⟩]) []).1.2.1, (kidsR (gateP f) f rr (gts P ++ [⟨0, [], 0⟩]) []).1.2.2.set (gts P).length ⟨nv, (kidsR (gateP f) f rr (gts P ++ [⟨0, [], 0⟩]) []).2, 0⟩)) := by
            refine Lib.hid ?_
            rw [HG.out, if_neg (by simpa using h40)]
          rw [decide_eq_false (by simpa using h40)]
          clear HG
          have hkid := Lib.hid ih
          clear ih
          have H40 := Lib.hid h40
          have hnum : q ≤ s.size ∧ s.size - q < f ∧ P.length + 1 + (s.size - q) ≤ 2000 := by
            have := HQ.out
            omega
          clear h40 hn9 hpos hcnt hf
          obtain ⟨K0, hK0⟩ : ∃ K0, kidsR (gateP f) f rr (gts P ++ [⟨0, [], 0⟩]) [] = K0 := ⟨_, rfl⟩
          rw [hK0] at HG2
          have HK0 := Lib.hid hK0
          clear hK0
          go_upto_region 7 with fail
          go_wp2_with fail
          go_loopg [5] (s.size + 1 - q) (KidLoop g s o W f P K0)
          case atStart =>
            refine ⟨q, rr, _, P ++ [(⟨0, [], 0⟩, .slice none 0 0)], [], f, hnum.1, hdr, ?_, rfl, by omega, by omega, by simpa using hnum.2.2, [], (by simp), by simp, (by have := hS6.nilrow 3 1; exact this.perm (List.perm_append_singleton _ _).symm), Lib.hid (by rw [← HK0.out]; simp [gts])⟩
            intro h9
            rw [h9] at H40
            exact absurd H40.out (by decide)
          case round =>
            obtain ⟨q, rr, vg, Q, ks, m, hq, hdr, hne, rfl, hm, hqf, hcnt, Pn, hPn, hksl, hS, HK⟩ := hrel
            clear hS6 H40 hnum HQ hrl HK0
            have hqs : q < s.size := by
              rcases Nat.lt_or_ge q s.size with h | h
              · exact h
              · exact absurd (by rw [hdr, List.drop_eq_nil_of_le (by rw [length_tl]; exact h)]) hne
            obtain ⟨Ak, ck, rfl⟩ := row_forms hS.rowLast
            obtain ⟨m, rfl⟩ : ∃ m', m = m' + 1 := ⟨m - 1, by omega⟩
            have hrd : rr.drop 1 = (tl s).drop (q + 1) := by rw [hdr, List.drop_drop]
            obtain ⟨-, c1⟩ := rdr_cells hS
            have f1 := (hS.blk 0 rfl).frozen 1
            go_upto_region 9 with fail
            have hS1 : Hp o W (rits g s (q + 1) vg Q ++ [irow 3 1 (.slice Ak ks.length ck) ks.length (ivals ks)]) (wr.setCell ⟨g, 1, none⟩ (.int .i64 ((q : Int) + 1))) := rdr_at hS (q + 1) ((q : Int) + 1) (by omega)
            clear hS c1 f1
            generalize wr.setCell ⟨g, 1, none⟩ (.int .i64 ((q : Int) + 1)) = w7 at *
            have HC := Lib.hid (hkid.out (q + 1) vg Q w7 (by omega) (by omega) (by omega) hS1.sub.sep)
            go_wp2_with fail
            refine HC.out.mono ?_
            rintro e w8 ⟨p', vg', its, hp', hrest, hH, hbad, hgood⟩
            have hS8 := Hp.call (a := rits g s (q + 1) vg Q) hS1 hH
            have hout := gate_out f (rr.drop 1) (gts Q)
            have HK2 := HK.out
            rw [kidsR] at HK2
            rw [← hrd] at hrest hbad hgood
            clear HC hS1 hH HK hrd
            generalize gateP f (rr.drop 1) (gts Q) = r at *
            by_cases hb : r.1 = true
            · obtain ⟨rfl, Qn, rfl, hgts⟩ := hgood hb
              have HK3 : Hid ((if r.2.1.headD 0 = 44 then kidsR (gateP f) m r.2.1 r.2.2 (ks ++ [((gts Q).length : Int)]) else if r.2.1.headD 0 = 41 then ((true, r.2.1.drop 1, r.2.2), ks ++ [((gts Q).length : Int)]) else ((false, r.2), ks ++ [((gts Q).length : Int)])) = K0) := by
                refine Lib.hid ?_
                have h9 := HK2
                rw [if_neg (by rw [hb]; decide)] at h9
                exact h9
              have hcn := hout.cnt hb
              obtain ⟨Gn, hGn, hGnl⟩ := hout.pre hb
              have hgl2 : (gts Q).length = Q.length := by simp
              have hrl2 := size_drop hq hdr
              have hd1 : (rr.drop 1).length + 1 = s.size - q := by
                rw [List.length_drop]; omega
              have hrl3 := size_drop hp' hrest
              have hgl3 : Gn.length = Qn.length := by
                have h9 := congrArg List.length hgts
                rw [hGn] at h9
                simp only [List.length_append, List.length_map] at h9
                omega
              have hcn2 : (Q ++ Qn).length + (s.size - p') ≤ 2000 := by
                rw [hGn, List.length_append] at hcn
                rw [List.length_append]
                omega
              have hlt3 : p' > q := by
                have := hout.lt hb
                omega
              have HG3 := Lib.hid hgts
              have HR := Lib.hid hrest
              have HPn := Lib.hid hPn
              clear HK2 hgood hbad hout hGn hgts hcn hPn
              obtain ⟨j0, hj0, hy0, hy1, hy2⟩ := info_parts int_info
              have hrowk := hS8.rowLast
              rw [hgl2] at HK3
              go_wp2_with (first | (at_builtin; refine wpList_append_own2 rfl _ _ 38 rfl 0 3 j0 _ 1 8 Tryd.underlying38 hj0 hy0 hy1 hy2 rfl (by decide) _ _ _ rfl (hrowk.alloc _) ⟨w8.heap.size, 0, none⟩ 1 1 [.int .i64 (Q.length : Int)] rfl rfl (new1' _ _ _) ?c2 (by decide) ?c3 ?c4 ?c5 ?_))
              case c2 => intro u hu; simp at hu; subst hu; rfl
              case c3 => unfold maxLen; omega
              case c4 => omega
              case c5 => omega
              intro v' w9 hown9 hg9 hv9
              obtain ⟨g9, c9, rfl, -⟩ := row_form hown9 (by omega)
              have hS9 : Hp o W (rits g s p' vg' (Q ++ Qn) ++ [irow 3 1 (.slice (some ⟨g9, 0, none⟩) (ks.length + 1) c9) (ks ++ [(Q.length : Int)]).length (ivals (ks ++ [(Q.length : Int)]))]) w9 := by
                have h9 := (hS8.alloc _).grownLast hown9 hg9 (new_at hv9)
                rw [show (ks ++ [(Q.length : Int)]).length = ks.length + 1 by simp, show ivals (ks ++ [(Q.length : Int)]) = ivals ks ++ [.int .i64 (Q.length : Int)] by simp [ivals]]
                exact h9
              clear hS8 hown9 hg9 hv9 hrowk
              have hqq2 : (Q ++ Qn).length = Q.length + Qn.length := List.length_append
              go_upto_region 10 with fail
              go_cut [87] (fun s87 wx => s87 = .bool (decide (r.2.1.headD 0 = 44)) ∧ Hp o W (rits g s p' vg' (Q ++ Qn) ++ [irow 3 1 (.slice (some ⟨g9, 0, none⟩) (ks.length + 1) c9) (ks ++ [(Q.length : Int)]).length (ivals (ks ++ [(Q.length : Int)]))]) wx)
              case first =>
                obtain ⟨c0, c1⟩ := rdr_cells hS9
                by_cases hqs : p' < s.size
                · have hqi : (p' : Int) < (s.size : Int) := by omega
                  have hqj : (0 : Int) ≤ (p' : Int) := by omega
                  have hz : decide ((p' : Int) < (s.size : Int)) = true := by rw [decide_eq_true_iff]; omega
                  have hh := headD_at HR.out hqs
                  by_cases hch : s[p'] = 44
                  · have t1 : ((s[p'].toNat : Int) == 44) = true := by rw [hch]; rfl
                    have HD : Hid (decide (r.2.1.headD 0 = 44) = true) := by refine Lib.hid ?_; rw [hh, hch]; rfl
                    clear hh hch 
                    go_quiet (fail)
                    go_wp2_with fail
                    go_meet
                    rw [HD.out]
                    exact ⟨rfl, hS9.drewN nq⟩
                  · have t1 : ((s[p'].toNat : Int) == 44) = false := by
                      rw [beq_eq_false_iff_ne]
                      intro h9
                      exact hch (UInt8.toNat_inj.1 (by show _ = 44; omega))
                    have HD : Hid (decide (r.2.1.headD 0 = 44) = false) := by refine Lib.hid ?_; rw [hh]; simpa using hch
                    clear hh hch 
                    go_quiet (fail)
                    go_wp2_with fail
                    go_meet
                    rw [HD.out]
                    exact ⟨rfl, hS9.drewN nq⟩
                · have hz : decide ((p' : Int) < (s.size : Int)) = false := by rw [decide_eq_false_iff_not]; omega
                  have HD : Hid (decide (r.2.1.headD 0 = 44) = false) := by refine Lib.hid ?_; rw [headD_end HR.out (by omega)]; rfl
                  skip
                  go_quiet (fail)
                  go_wp2_with fail
                  go_meet
                  rw [HD.out]
                  exact ⟨rfl, hS9.drewN nq⟩
              case rest =>
                obtain ⟨rfl, hS10⟩ := hcut
                clear hS9
                by_cases h44 : r.2.1.headD 0 = 44
                · rw [decide_eq_true h44]
                  have HK5 : Hid (kidsR (gateP f) m r.2.1 r.2.2 (ks ++ [(Q.length : Int)]) = K0) := by
                    refine Lib.hid ?_
                    have h9 := HK3.out
                    rw [if_pos h44] at h9
                    exact h9
                  have hne2 : r.2.1 ≠ [] := by
                    intro h9
                    rw [h9] at h44; exact absurd h44 (by decide)
                  clear HK3 h44
                  go_wp2_with fail
                  go_roundg (s.size + 1 - p')
                  case measure => omega
                  case rel =>
                    refine ⟨p', r.2.1, vg', Q ++ Qn, ks ++ [(Q.length : Int)], m, hp', HR.out, hne2, rfl, by omega, by omega, hcn2, Pn ++ Qn, ?_, ?_, hS10, ?_⟩
                    · rw [HPn.out]; simp only [List.append_assoc]
                    · rw [List.length_append, List.length_append]
                      simp only [List.length_cons, List.length_nil]
                      omega
                    · rw [HG3.out]; exact HK5
                · rw [decide_eq_false h44]
                  have HK5 : Hid ((if r.2.1.headD 0 = 41 then ((true, r.2.1.drop 1, r.2.2), ks ++ [(Q.length : Int)]) else ((false, r.2), ks ++ [(Q.length : Int)])) = K0) := by
                    refine Lib.hid ?_
                    have h9 := HK3.out
                    rw [if_neg h44] at h9
                    exact h9
                  clear HK3 h44
                  go_upto_region 11 with fail
                  go_cut [109] (fun s109 wx => s109 = .bool (decide (r.2.1.headD 0 ≠ 41)) ∧ Hp o W (rits g s p' vg' (Q ++ Qn) ++ [irow 3 1 (.slice (some ⟨g9, 0, none⟩) (ks.length + 1) c9) (ks ++ [(Q.length : Int)]).length (ivals (ks ++ [(Q.length : Int)]))]) wx)
                  case first =>
                    obtain ⟨c0, c1⟩ := rdr_cells hS10
                    by_cases hqs : p' < s.size
                    · have hqi : (p' : Int) < (s.size : Int) := by omega
                      have hqj : (0 : Int) ≤ (p' : Int) := by omega
                      have hz : ((p' : Int) == (s.size : Int)) = false := by rw [beq_eq_false_iff_ne]; omega
                      have hh := headD_at HR.out hqs
                      by_cases hch : s[p'] = 41
                      · have t1 : ((s[p'].toNat : Int) != 41) = false := by rw [hch]; rfl
                        have HD : Hid (decide (r.2.1.headD 0 ≠ 41) = false) := by refine Lib.hid ?_; rw [hh, hch]; rfl
                        clear hh hch 
                        go_quiet (fail)
                        go_wp2_with fail
                        go_meet
                        rw [HD.out]
                        exact ⟨rfl, hS10.drewN nq⟩
                      · have t1 : ((s[p'].toNat : Int) != 41) = true := by
                          rw [bne_iff_ne]
                          intro h9
                          exact hch (UInt8.toNat_inj.1 (by show _ = 41; omega))
                        have HD : Hid (decide (r.2.1.headD 0 ≠ 41) = true) := by refine Lib.hid ?_; rw [hh]; simpa using hch
                        clear hh hch 
                        go_quiet (fail)
                        go_wp2_with fail
                        go_meet
                        rw [HD.out]
                        exact ⟨rfl, hS10.drewN nq⟩
                    · have hz : ((p' : Int) == (s.size : Int)) = true := by rw [beq_iff_eq]; omega
                      have HD : Hid (decide (r.2.1.headD 0 ≠ 41) = true) := by refine Lib.hid ?_; rw [headD_end HR.out (by omega)]; rfl
                      skip
                      go_quiet (fail)
                      go_wp2_with fail
                      go_meet
                      rw [HD.out]
                      exact ⟨rfl, hS10.drewN nq⟩
                  case rest =>
                    obtain ⟨rfl, hS11⟩ := hcut
                    clear hS10
                    by_cases h41 : r.2.1.headD 0 = 41
                    · have HK6 : Hid (K0 = ((true, r.2.1.drop 1, r.2.2), ks ++ [(Q.length : Int)])) := by
                        refine Lib.hid ?_
                        have h9 := HK5.out
                        rw [if_pos h41] at h9
                        exact h9.symm
                      have hrd2 := headD_pos h41 (by decide)
                      have hps : p' < s.size := by omega
                      rw [decide_eq_false (by simpa using h41)]
                      have hx : (Q ++ Qn)[P.length]? = some (⟨0, [], 0⟩, .slice none 0 0) := by rw [HPn.out]; simp
                      have HQ2 : Hid (Q ++ Qn = P ++ [(⟨0, [], 0⟩, .slice none 0 0)] ++ Pn ++ Qn) := by refine Lib.hid ?_; rw [HPn.out]
                      have hHR : r.2.1.drop 1 = (tl s).drop (p' + 1) := by rw [HR.out, List.drop_drop]
                      have HR2 := Lib.hid hHR
                      clear HK5 h41 hHR HPn
                      generalize Q ++ Qn = Q2 at *
                      generalize ks ++ [(Q.length : Int)] = ks2 at *
                      have hil : P.length < Q2.length := (List.getElem?_eq_some_iff.1 hx).1
                      obtain ⟨gg, cc, rfl, -⟩ := row_form (hS11.row 1 rfl) (by omega)
                      obtain ⟨-, c1⟩ := rdr_cells hS11
                      have f1 := (hS11.blk 0 rfl).frozen 1
                      go_upto_region 14 with fail
                      have hS12 : Hp o W (rits g s (p' + 1) (.slice (some ⟨gg, 0, none⟩) Q2.length cc) Q2 ++ [irow 3 1 (.slice (some ⟨g9, 0, none⟩) (ks.length + 1) c9) ks2.length (ivals ks2)]) (wc.setCell ⟨g, 1, none⟩ (.int .i64 ((p' : Int) + 1))) := rdr_at hS11 (p' + 1) ((p' : Int) + 1) (by omega)
                      clear hS11 c1 f1
                      generalize wc.setCell ⟨g, 1, none⟩ (.int .i64 ((p' : Int) + 1)) = w10 at *
                      have hS13 := hS12.drew
                      have c2 := (hS13.blk 0 rfl).cell 2
                      simp only [List.getElem?_cons_succ, List.getElem?_cons_zero] at c2
                      obtain ⟨k1, k2, k3, k4, k5, k6⟩ := rits_kids rfl hx hS13 nv
                      have hili : (P.length : Int) < (Q2.length : Int) := by omega
                      have hili0 : (0 : Int) ≤ (P.length : Int) := by omega
                      obtain ⟨m1, m2, m3, m4⟩ := rits_kids2 (vk := .slice (some ⟨g9, 0, none⟩) (ks.length + 1) c9) rfl hx hS12 nv
                      have m1 : (w10.setCell ⟨gg, P.length * 3, none⟩ (.int .i64 nv)).drew.cell? ⟨gg, P.length * 3 + 1, none⟩ = some (.slice none 0 0) := m1
                      have m2 : (w10.setCell ⟨gg, P.length * 3, none⟩ (.int .i64 nv)).drew.frozen? ⟨gg, P.length * 3 + 1, none⟩ = false := m2
                      have m3 : (w10.setCell ⟨gg, P.length * 3 + 1, none⟩ (.slice (some ⟨g9, 0, none⟩) (ks.length + 1) c9)).drew.cell? ⟨gg, P.length * 3, none⟩ = some (.int .i64 0) := m3
                      have m4 : (w10.setCell ⟨gg, P.length * 3 + 1, none⟩ (.slice (some ⟨g9, 0, none⟩) (ks.length + 1) c9)).drew.frozen? ⟨gg, P.length * 3, none⟩ = false := m4
                      clear hqq2
                      have K5 := Lib.hid k5
                      have K6 := Lib.hid k6
                      clear hS12 hS13 k5 k6
                      have HE : Hid ((gateP (f + 1) l (gts P)).1 = true ∧ (gateP (f + 1) l (gts P)).2.1 = (tl s).drop (p' + 1) ∧ ∃ Pn', P ++ Pn' = Q2.set P.length (⟨nv, ks2, 0⟩, .slice (some ⟨g9, 0, none⟩) (ks.length + 1) c9) ∧ gts (P ++ Pn') = (gateP (f + 1) l (gts P)).2.2) := by
                        refine Lib.hid ?_
                        have e : P ++ ([((⟨nv, ks2, 0⟩ : Gt), Value.slice (some ⟨g9, 0, none⟩) (ks.length + 1) c9)] ++ Pn ++ Qn) = Q2.set P.length (⟨nv, ks2, 0⟩, .slice (some ⟨g9, 0, none⟩) (ks.length + 1) c9) := by rw [HQ2.out]; simp
                        have e2 : gateP (f + 1) l (gts P) = (true, r.2.1.drop 1, r.2.2.set (gts P).length ⟨nv, ks2, 0⟩) := by rw [HG2.out, HK6.out]; rfl
                        rw [e2]
                        refine ⟨rfl, HR2.out, _, e, ?_⟩
                        rw [e, hgl, ← HG3.out]
                        exact List.map_set
                      clear HG2 HK6 HR2 HG3 HR HQ2 hx
                      go_region
                      all_goals
                        go_wp2_with fail
                        go_ret
                        obtain ⟨e1, e2, Pn', e3, e4⟩ := HE.out
                        exact ⟨p' + 1, _, _, by omega, e2, by first | exact K5.out | exact K6.out, fun h9 => (by rw [e1] at h9; cases h9), fun _ => ⟨rfl, Pn', (by rw [e3, List.length_set]), e4⟩⟩
                    · have HK6 : Hid (K0 = ((false, r.2), ks ++ [(Q.length : Int)])) := by
                        refine Lib.hid ?_
                        have h9 := HK5.out
                        rw [if_neg h41] at h9
                        exact h9.symm
                      rw [decide_eq_true (by simpa using h41)]
                      clear HK5 h41
                      go_wp2_with fail
                      refine ⟨rfl, p', vg', _, hp', ?_, hS11, fun _ => rfl, fun h9 => ?_⟩
                      · rw [HG2.out, HK6.out, if_pos rfl]; exact HR.out
                      · rw [HG2.out, HK6.out, if_pos rfl] at h9; cases h9
            · have hb0 : r.1 = false := by simpa using hb
              obtain rfl := hbad hb0
              rw [if_pos hb0] at HK2
              unfold pan
              clear hbad hgood hout hb
              have HB := Lib.hid hb0
              have HK4 := Lib.hid HK2
              have HR := Lib.hid hrest
              clear hb0 HK2 hrest
              go_wp2_with fail
              refine ⟨rfl, p', vg', its ++ [irow 3 1 (.slice Ak ks.length ck) ks.length (ivals ks)], hp', ?_, hS8, fun _ => rfl, fun h9 => ?_⟩
              · rw [HG2.out, ← HK4.out, if_pos HB.out]; exact HR.out
              · rw [HG2.out, ← HK4.out, if_pos HB.out, HB.out] at h9; cases h9
        · have HG2 : Hid (gateP (f + 1) l (gts P) = (true, rr, gts P ++ [⟨0, [], nv⟩])) := by refine Lib.hid ?_; rw [HG.out, if_pos h40]
          obtain ⟨q1, q2, q3⟩ := rits_leaf hS6
          have hS7 := q3 nv
          have c2 := (hS6.blk 0 rfl).cell 2
          simp only [List.getElem?_cons_succ, List.getElem?_cons_zero] at c2
          rw [decide_eq_true (by simpa using h40)]
          clear HG h40 q3 hS6
          go_wp2_with fail
          go_ret
          refine ⟨q, _, _, hq, ?_, hS7, fun h9 => ?_, fun _ => ⟨rfl, [(⟨0, [], nv⟩, .slice none 0 0)], rfl, ?_⟩⟩
          · rw [HG2.out]; exact hdr
          · rw [HG2.out] at h9; cases h9
          · rw [HG2.out]; simp [gts]
    · have hok0 : nOk l = false := by simpa using hok
      have HO : Hid (numOut l = pan) := by refine Lib.hid ?_; rw [numOut, hok0]; rfl
      have HG : Hid (gateP (f + 1) l (gts P) = (false, l.drop (numLen l), gts P)) := by refine Lib.hid ?_; rw [gateP, if_pos hok0]
      rw [HO.out]
      clear hok hok0 HO
      unfold pan
      go_wp2_with fail
      refine ⟨rfl, p + numLen l, _, _, hq, ?_, hS5, fun _ => rfl, fun h9 => ?_⟩
      · rw [HG.out]; exact hdr
      · rw [HG.out] at h9; cases h9
end Go.Proofs.YteaaeaimjbaomaaDoor
