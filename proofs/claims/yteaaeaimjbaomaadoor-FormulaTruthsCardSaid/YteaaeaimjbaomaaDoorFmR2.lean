/-
  (*formula.reader).number.
-/
import Derived.Test.YteaaeaimjbaomaaDoorFmR1
import Derived.Test.YteaaeaimjbaomaaDoorHp
import Derived.Test.YteaaeaimjbaomaaDoorShelf
import Derived.Deep.LoopGhost
import Derived.Deep.DeepCutAuto
import Derived.Deep.CutBlock
import Derived.Deep.RegionHeld3
import Derived.Lib.AtoiErrMem
import Derived.Deep.QuietTactic
import Derived.BigQuiet
namespace Go.Proofs.YteaaeaimjbaomaaDoor
open Go.RowKit
set_option linter.unusedVariables false

abbrev ptr (g : Nat) : Value := .pointer (some ⟨g, 0, none⟩)
/-- the reader of formula.Parse -/
abbrev irdr (g : Nat) (s : ByteArray) (p : Nat) (v : Value) : It := iblk g 88 [.string s, .int .i64 (p : Int), v]
theorem rdr_at {o : List Nat} {w W : World} {g : Nat} {s : ByteArray} {p : Nat} {v : Value} {r : List It} (h : Hp o w (irdr g s p v :: r) W) (q : Nat) (n : Int) (hn : n = (q : Int)) : Hp o w (irdr g s q v :: r) (W.setCell ⟨g, 1, none⟩ (.int .i64 n)) := by
  subst hn; exact h.set 0 rfl 1 (.int .i64 (q : Int))
theorem rdr_cells {o : List Nat} {w W : World} {g : Nat} {s : ByteArray} {p : Nat} {v : Value} {r : List It} (h : Hp o w (irdr g s p v :: r) W) : W.cell? ⟨g, 0, none⟩ = some (.string s) ∧ W.cell? ⟨g, 1, none⟩ = some (.int .i64 (p : Int)) := ⟨(h.blk 0 rfl).cell 0, (h.blk 0 rfl).cell 1⟩
def pan : Ending := .panicked [{ v := .iface 27 (.int .i64 4), recovered := false }]
def numOut (l : List UInt8) : Ending := if nOk l then .returned (.int .i64 (numV (l.take (numLen l)))) else pan
theorem at_tl (s : ByteArray) (p : Nat) (h : p < s.size) : (tl s).drop p = s[p] :: (tl s).drop (p + 1) := by
  rw [List.drop_eq_getElem_cons (by rw [length_tl]; exact h), tl_getElem s p h]
set_option maxHeartbeats 2000000 in
set_option maxRecDepth 20000 in
theorem number_any (g : Nat) (s : ByteArray) (a : Nat) (v : Value) (hs : s.size ≤ 2000) (W : World) (hB : Blk W g 88 [.string s, .int .i64 (a : Int), v]) :
    Calls Tryd.prog 62 #[ptr g] W fun e w' => e = numOut ((tl s).drop a) ∧ Hp [g] W [irdr g s (a + numLen ((tl s).drop a)) v] w' := by
  have hk0 : Hp [g] W [irdr g s a v] W := Hp.self (it := [irdr g s a v]) ⟨fun x hx => by rw [List.mem_singleton.1 hx]; exact hB, by simp [iblk]⟩
  clear hB
  generalize hl : (tl s).drop a = l at *
  have HL := Lib.hid hl
  clear hl
  have c1 := (hk0.blk 0 rfl).cell 1
  simp only [List.getElem?_cons_succ, List.getElem?_cons_zero] at c1
  go_enter Tryd.func62, Tryd.ntmps62
  go_upto_block 0 with fail
  clear c1
  go_cut [] (fun wx => Hp [g] W [irdr g s (a + numLen l) v] wx ∧ Hid (isD ((l.drop (numLen l)).headD 0) = false))
  case first =>
   go_wp2_with fail
   go_loopg [] (10 - 0) (fun m wx => ∃ p : Nat, a ≤ p ∧ p ≤ a + 9 ∧ m = 10 - (p - a) ∧ Hp [g] W [irdr g s p v] wx ∧ Hid (numL (isZ l) (p - a) ((tl s).drop p) = numLen l))
   case atStart => exact ⟨a, Nat.le_refl _, by omega, by omega, hk0, Lib.hid (by rw [HL.out, Nat.sub_self]; rfl)⟩
   case round =>
     obtain ⟨p, hp, hp9, rfl, hS, HN⟩ := hrel
     clear hk0
     obtain ⟨c0, c1, -⟩ := (hS.blk 0 rfl).get3
     have f1 := (hS.blk 0 rfl).frozen 1
     by_cases hps : p < s.size
     · have hz : decide ((p : Int) < (s.size : Int)) = true := by rw [decide_eq_true_iff]; omega
       have hd := at_tl s p hps
       by_cases hdig : isD s[p] = true
       · have hdd := hdig
         unfold isD at hdd
         simp only [Bool.and_eq_true, decide_eq_true_eq] at hdd
         have hz1 : decide ((48 : Int) ≤ (s[p].toNat : Int)) = true := by rw [decide_eq_true_iff]; omega
         have hz2 : decide ((s[p].toNat : Int) ≤ (57 : Int)) = true := by rw [decide_eq_true_iff]; omega
         go_wp2_with fail
         go_quiet (fail)
         have hS2 := hS.drewN nq
         clear c0 c1 f1 hS
         generalize wr.drewN nq = w2 at *
         have q1 := (hS2.blk 0 rfl).cell 1
         have q2 := (hS2.blk 0 rfl).frozen 1
         simp only [List.getElem?_cons_succ, List.getElem?_cons_zero] at q1
         go_upto_region 4 with fail
         have hS3 : Hp [g] W [irdr g s (p + 1) v] (w2.setCell ⟨g, 1, none⟩ (.int .i64 ((p : Int) + 1))) := rdr_at hS2 (p + 1) _ (by omega)
         clear hS2 q1 q2
         generalize w2.setCell ⟨g, 1, none⟩ (.int .i64 ((p : Int) + 1)) = w3 at *
         obtain ⟨c0, c1, -⟩ := (hS3.blk 0 rfl).get3
         have f1 := (hS3.blk 0 rfl).frozen 1
         have HZ : Hid (isZ l = true ↔ (s[a]'(by omega)).toNat = 48) := by
           refine Lib.hid ?_
           rw [← HL.out, at_tl s a (by omega)]
           unfold isZ
           rw [List.headD_cons, decide_eq_true_iff]
           constructor
           · intro h; rw [h]; rfl
           · intro h; exact UInt8.toNat_inj.1 h
         have hNd : numL (isZ l) (p - a) ((tl s).drop p) = if decide (p - a < 9) && !(decide (0 < p - a) && isZ l) then numL (isZ l) (p + 1 - a) ((tl s).drop (p + 1)) else p - a := by
           rw [hd, numL, hdig, Bool.true_and, show p - a + 1 = p + 1 - a by omega]
         rw [hNd] at HN
         have has : a < s.size := by omega
         have hai : (a : Int) < (s.size : Int) := by omega
         have hai0 : (0 : Int) ≤ (a : Int) := by omega
         by_cases hstop : (decide (p - a < 9) && !(decide (0 < p - a) && isZ l)) = true
         · have HN2 : Hid (numL (isZ l) (p + 1 - a) ((tl s).drop (p + 1)) = numLen l) := by
             refine Lib.hid ?_
             have h9 := HN.out
             rw [if_pos hstop] at h9
             exact h9
           clear HN hNd hd
           simp only [Bool.and_eq_true, decide_eq_true_eq, Bool.not_eq_true', Bool.and_eq_false_imp, decide_eq_true_eq] at hstop
           have tb : decide ((9 : Int) < (p : Int) + 1 - (a : Int)) = false := by rw [decide_eq_false_iff_not]; omega
           by_cases hpa : p = a
           · have ta : decide ((1 : Int) < (p : Int) + 1 - (a : Int)) = false := by rw [decide_eq_false_iff_not]; omega
             have HPA := Lib.hid hpa
             clear hpa
             go_wp2_with fail
             go_roundg (10 - (p + 1 - a))
             case measure => omega
             case rel => exact ⟨p + 1, by omega, by omega, rfl, hS3, HN2⟩
           · have ta : decide ((1 : Int) < (p : Int) + 1 - (a : Int)) = true := by rw [decide_eq_true_iff]; omega
             have hzf : isZ l = false := hstop.2 (by omega)
             have tc : ((s[a].toNat : Int) == 48) = false := by
               rw [beq_eq_false_iff_ne]
               intro h9
               have h8 := HZ.out.2 (by omega)
               rw [hzf] at h8; cases h8
             go_wp2_with fail
             go_roundg (10 - (p + 1 - a))
             case measure => omega
             case rel => exact ⟨p + 1, by omega, by omega, rfl, hS3, HN2⟩
         · have HN2 : Hid (p - a = numLen l) := by
             refine Lib.hid ?_
             have h9 := HN.out
             rw [if_neg hstop] at h9
             exact h9
           have HBad : Hid (nOk l = false) := by
             refine Lib.hid ?_
             unfold nOk
             rw [← HN2.out, ← HL.out, List.drop_drop, show a + (p - a) = p by omega, hd, List.headD_cons, hdig]
             simp
           clear HN hNd hd
           have hpa : a < p := by
             rcases Nat.lt_or_ge a p with h | h
             · exact h
             · exact absurd (by simp [show p - a = 0 by omega]) hstop
           have ta : decide ((1 : Int) < (p : Int) + 1 - (a : Int)) = true := by rw [decide_eq_true_iff]; omega
           by_cases hzf : isZ l = true
           · have tc : ((s[a].toNat : Int) == 48) = true := by
               rw [beq_iff_eq]
               have h8 := HZ.out.1 hzf
               omega
             clear hstop
             go_upto_region 6 with fail
             have hS4 : Hp [g] W [irdr g s p v] (w3.setCell ⟨g, 1, none⟩ (.int .i64 (p : Int))) := rdr_at hS3 p _ rfl
             go_wp2_with fail
             refine ⟨rfl, ?_⟩
             rw [numOut, HBad.out, ← HN2.out, show a + (p - a) = p by omega]
             exact ⟨rfl, hS4⟩
           · have tc : ((s[a].toNat : Int) == 48) = false := by
               rw [beq_eq_false_iff_ne]
               intro h9
               exact hzf (HZ.out.2 (by omega))
             have tb : decide ((9 : Int) < (p : Int) + 1 - (a : Int)) = true := by
               rw [decide_eq_true_iff]
               have h7 : isZ l = false := by simpa using hzf
               rw [h7] at hstop
               simp at hstop
               omega
             clear hstop
             go_upto_region 6 with fail
             have hS4 : Hp [g] W [irdr g s p v] (w3.setCell ⟨g, 1, none⟩ (.int .i64 (p : Int))) := rdr_at hS3 p _ rfl
             go_wp2_with fail
             refine ⟨rfl, ?_⟩
             rw [numOut, HBad.out, ← HN2.out, show a + (p - a) = p by omega]
             exact ⟨rfl, hS4⟩
       · have HN2 : Hid (p - a = numLen l) := by
           refine Lib.hid ?_
           have h9 := HN.out
           rw [hd, numL, show isD s[p] = false by simpa using hdig] at h9
           exact h9
         have HT : Hid (isD ((l.drop (p - a)).headD 0) = false) := by
           refine Lib.hid ?_
           rw [← HL.out, List.drop_drop, show a + (p - a) = p by omega, hd, List.headD_cons]
           simpa using hdig
         clear HN hd
         have hdd : (s[p].toNat : Int) < 48 ∨ ((48 : Int) ≤ (s[p].toNat : Int) ∧ (57 : Int) < (s[p].toNat : Int)) := by
           unfold isD at hdig
           simp only [Bool.and_eq_true, decide_eq_true_eq] at hdig
           omega
         rcases hdd with hdd | ⟨hd1, hd2⟩
         · have hz1 : decide ((48 : Int) ≤ (s[p].toNat : Int)) = false := by rw [decide_eq_false_iff_not]; omega
           go_wp2_with fail
           go_quiet (fail)
           have hS2 := hS.drewN nq
           clear c0 c1 f1 hS
           generalize wr.drewN nq = w2 at *
           go_wp2_with fail
           go_meet
           rw [← HN2.out, show a + (p - a) = p by omega]
           exact ⟨hS2, HT⟩
         · have hz1 : decide ((48 : Int) ≤ (s[p].toNat : Int)) = true := by rw [decide_eq_true_iff]; omega
           have hz2 : decide ((s[p].toNat : Int) ≤ (57 : Int)) = false := by rw [decide_eq_false_iff_not]; omega
           go_wp2_with fail
           go_quiet (fail)
           have hS2 := hS.drewN nq
           clear c0 c1 f1 hS
           generalize wr.drewN nq = w2 at *
           go_wp2_with fail
           go_meet
           rw [← HN2.out, show a + (p - a) = p by omega]
           exact ⟨hS2, HT⟩
     · have HN2 : Hid (p - a = numLen l) := by
         refine Lib.hid ?_
         have h9 := HN.out
         rw [List.drop_eq_nil_of_le (by rw [length_tl]; omega)] at h9
         exact h9
       have HT : Hid (isD ((l.drop (p - a)).headD 0) = false) := by
         refine Lib.hid ?_
         rw [← HL.out, List.drop_drop, show a + (p - a) = p by omega, List.drop_eq_nil_of_le (by rw [length_tl]; omega)]
         rfl
       clear HN
       have hz : decide ((p : Int) < (s.size : Int)) = false := by rw [decide_eq_false_iff_not]; omega
       go_wp2_with fail
       go_quiet (fail)
       have hS2 := hS.drewN nq
       clear c0 c1 f1 hS
       generalize wr.drewN nq = w2 at *
       go_wp2_with fail
       go_meet
       rw [← HN2.out, show a + (p - a) = p by omega]
       exact ⟨hS2, HT⟩
  case rest =>
    obtain ⟨hS, HT⟩ := hcut
    clear hk0
    have hn9 := numLen_nine l
    have hnl := numLen_le l
    have hll : l.length = s.size - a := by rw [← HL.out, List.length_drop, length_tl]
    obtain ⟨c0, c1, -⟩ := (hS.blk 0 rfl).get3
    by_cases hz : numLen l = 0
    · have HO : Hid (numOut l = pan) := by refine Lib.hid ?_; rw [numOut, nOk, hz]; rfl
      have t1 : (((a + numLen l : Nat) : Int) == (a : Int)) = true := by rw [hz, beq_iff_eq]; rfl
      go_wp2_with fail
      refine ⟨rfl, ?_⟩
      rw [HO.out]
      exact ⟨rfl, hS⟩
    · have HO : Hid (numOut l = .returned (.int .i64 (numV (l.take (numLen l))))) := by
        refine Lib.hid ?_
        rw [numOut, nOk, HT.out, decide_eq_true (by omega)]; rfl
      have t1 : (((a + numLen l : Nat) : Int) == (a : Int)) = false := by rw [beq_eq_false_iff_ne]; omega
      have HX : Hid ((s.extract a (a + numLen l)).data.toList = l.take (numLen l)) := by
        refine Lib.hid ?_
        rw [← HL.out]
        show (s.extract a (a + numLen ((tl s).drop a))).data.toList = _
        rw [ByteArray.data_extract, Array.toList_extract]
        show ((tl s).drop a).take (a + _ - a) = _
        congr 1
        omega
      have hat := Tryd.strconv_Atoi (s.extract a (a + numLen l)) (numV (l.take (numLen l))) (by rw [← length_tl]; show (s.extract a (a + numLen l)).data.toList.length ≤ 18; rw [HX.out, List.length_take]; omega) (by rw [HX.out]; exact atoi_digits _ (by intro h9; have h8 := congrArg List.length h9; rw [List.length_take, List.length_nil] at h8; omega) (numLen_digits l))
      have HA := Lib.hid hat
      clear hat HX HT
      generalize numV (l.take (numLen l)) = nv at *
      have hab : (a : Int) ≤ ((a + numLen l : Nat) : Int) := by omega
      have hbs : ((a + numLen l : Nat) : Int) ≤ (s.size : Int) := by omega
      have hab2 : a ≤ a + numLen l := by omega
      have hbs2 : a + numLen l ≤ s.size := by omega
      generalize hq : a + numLen l = q at *
      have HQ := Lib.hid hq
      clear hq
      go_upto_region 9 with fail
      have hSd := hS.drew
      clear hS c0 c1
      go_region_held3 (fun w' => w'.cell? ⟨g, 0, none⟩ = some (.string s) ∧ w'.cell? ⟨g, 1, none⟩ = some (.int .i64 (q : Int))) (exact rdr_cells (o := [g]) (w := W) (by assumption))
        (first | (go_at_call 66; refine (HA.out _).mono ?_; rintro e w5 ⟨rfl, t, rfl⟩; have hS5 := Hp.next (o := [g]) (w := W) (by assumption) (Lib.bytesWorld_below _ 5 t)))
      go_wp2_with fail
      go_ret
      rw [HO.out, HQ.out]
      exact ⟨rfl, by assumption⟩
end Go.Proofs.YteaaeaimjbaomaaDoor
