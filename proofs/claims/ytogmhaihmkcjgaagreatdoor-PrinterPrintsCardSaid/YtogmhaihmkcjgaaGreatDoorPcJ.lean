/-
 dominoref41: alias, Check. Printed by mkpcj.py.
-/
import Derived.Test.YtogmhaihmkcjgaaGreatDoorPcI
namespace Go.Proofs.YtogmhaihmkcjgaaGreatDoor
open Go.RowKit Go.Shelf
set_option linter.unusedVariables false

theorem rbool_info : (Tryz.prog.info? 4).map (fun i => (i.zero, i.size, i.bytes)) = some (some (.bool false), 1, 1) := by kernel_rfl
theorem al_at {d : Po} {i : Nat} {x : Bp} (h : d.uses[i]? = some x) : d.al[i]? = some x.1 := by rw [Po.al, List.getElem?_map, h]; rfl
set_option maxRecDepth 20000 in
set_option maxHeartbeats 8000000 in
theorem ralias_any (d : Po) (L : Lp) (s : ByteArray) (hB : PBd d) (w : World) (hP : PolM w d L) : Calls Tryz.prog 167 #[polV d L, .string s] w fun e w' => e = .returned (.bool (memD s d.al)) ∧ Below w.heap.size w w' := by
 obtain ⟨ua, uc, ra, rc, na, nc⟩ := L
 have hus : Prs w ua d.uses := hP.us
 have hrv : Prs w ra d.reveal := hP.rv
 have hns : Nks w na d.nodes := hP.ns
 have hk := (Hp.start w).new 29 (polcs d ⟨ua, uc, ra, rc, na, nc⟩)
 have hul := hB.ul
 have hrl := hB.rl
 have hnl := hB.nl
 obtain ⟨g, hg⟩ : ∃ x, w.heap.size = x := ⟨_, rfl⟩
 rw [hg] at hk
 go_enter Tryz.func167, Tryz.ntmps167
 go_upto_region 1 with fail
 try simp only [hg]
 have hk : Hp [] w [iblk g 29 (polcs d ⟨ua, uc, ra, rc, na, nc⟩)] (w.alloc (.cells #[.string d.name, .slice ua d.uses.length uc, .slice ra d.reveal.length rc, .slice na d.nodes.length nc, .int .i64 d.root, .string d.scope, .int .i64 d.limit, .string d.escrow] 29)) := hk
 generalize w.alloc (.cells #[.string d.name, .slice ua d.uses.length uc, .slice ra d.reveal.length rc, .slice na d.nodes.length nc, .int .i64 d.root, .string d.scope, .int .i64 d.limit, .string d.escrow] 29) = W at *
 go_upto_region 2 with fail
 go_loopg [5] d.uses.length (fun m s5 wx => ∃ i : Nat, i ≤ d.uses.length ∧ m = d.uses.length - i ∧ s5 = .int .i64 (i : Int) ∧ W = wx ∧ Hid (memD s (d.al.take i) = false))
 case atStart => exact ⟨0, Nat.zero_le _, rfl, rfl, rfl, Lib.hid rfl⟩
 case round =>
  obtain ⟨i, hi, rfl, rfl, rfl, HE⟩ := hrel
  have p1 : W.cell? ⟨g, 1, none⟩ = some (.slice ua d.uses.length uc) := (hk.blk 0 rfl).cell 1
  by_cases hil : i < d.uses.length
  ·have hii : (i : Int) < (d.uses.length : Int) := by omega
   have hi0 : (0 : Int) ≤ (i : Int) := by omega
   obtain ⟨x, hx⟩ : ∃ x, d.uses[i]? = some x := ⟨_, List.getElem?_eq_getElem hil⟩
   obtain ⟨ad, hA, hx1, hx2⟩ := (hus.up hk.below0).cells hx
   subst hA
   have HT : Hid (memD s (d.al.take (i + 1)) = decide (x.1 = s)) := Lib.hid (by rw [al_take hx, memD_snoc, HE.out]; rfl)
   have HF : Hid (x.1 = s → memD s d.al = true) := Lib.hid fun h => memD_iff.2 (h ▸ List.mem_of_getElem? (al_at hx))
   clear hx
   by_cases hxs : x.1 = s
   ·have hee : (x.1.toList == s.toList) = true := by rw [strs_eq, decide_eq_true hxs]
    have HR := Lib.hid (HF.out hxs)
    clear hxs
    go_wp2_with fail
    go_ret
    rw [HR.out]
    exact ⟨rfl, by first | exact hk.below0 | (subst hg; exact hk.below0)⟩
   ·have hee : (x.1.toList == s.toList) = false := by rw [strs_eq, decide_eq_false hxs]
    have HT2 : Hid (memD s (d.al.take (i + 1)) = false) := Lib.hid (by rw [HT.out, decide_eq_false hxs])
    clear hxs
    go_wp2_with fail
    go_roundg (d.uses.length - (i + 1))
    case measure => omega
    case rel => exact ⟨i + 1, hil, rfl, by first | rfl | simp, rfl, HT2⟩
  ·have hii : ¬ (i : Int) < (d.uses.length : Int) := by omega
   have HR : Hid (memD s d.al = false) := Lib.hid (by rw [← (List.take_of_length_le (by rw [al_len]; omega) : d.al.take i = d.al)]; exact HE.out)
   go_wp2_with fail
   go_ret
   rw [HR.out]
   exact ⟨rfl, by first | exact hk.below0 | (subst hg; exact hk.below0)⟩

theorem wbuilt (a s e : ByteArray) (A1 A2 A3 A4 : Option Addr) (n1 m1 n2 m2 n3 m3 n4 m4 : Nat) (r l : Int) : Tryz.prog.built 235 [(0, .agg #[.string a, .slice A1 n1 m1, .slice A2 n2 m2, .slice A3 n3 m3, .int .i64 r, .string s, .int .i64 l, .string e]), (1, .slice A4 n4 m4)] = some #[.string a, .slice A1 n1 m1, .slice A2 n2 m2, .slice A3 n3 m3, .int .i64 r, .string s, .int .i64 l, .string e, .slice A4 n4 m4, .slice none 0 0, .int .i64 0] := by kernel_rfl
theorem yields_build2 {P : Program} {o : Oper} {a : Act} {t : TypeId} {x0 x1 : Operand} {v0 v1 : Value} {cells : Array Value} (ho : o.op = .build t #[(0, x0), (1, x1)]) (e0 : a.eval x0 = v0) (e1 : a.eval x1 = v1) (hb : P.built t [(0, v0), (1, v1)] = some cells) (w : World) : (execOp a.eval o).run P w = .ok (.value (.agg cells)) w := by
 subst e0 e1
 unfold execOp
 simp only [ho]
 rw [Sem.run_bind, run_build w t _ cells (by simpa using hb)]
 rfl
set_option maxRecDepth 20000 in
set_option maxHeartbeats 32000000 in
theorem rcheck_any (d : Po) (L : Lp) (hB : PBd d) (w : World) (hP : PolM w d L) : Calls Tryz.prog 78 #[polV d L] w fun e w' => e = .returned (.int .i64 (checkP d)) ∧ Below w.heap.size w w' := by
 obtain ⟨ua, uc, ra, rc, na, nc⟩ := L
 have hus : Prs w ua d.uses := hP.us
 have hrv : Prs w ra d.reveal := hP.rv
 have hns : Nks w na d.nodes := hP.ns
 have hk := (Hp.start w).new 29 (polcs d ⟨ua, uc, ra, rc, na, nc⟩)
 have hul := hB.ul
 have hrl := hB.rl
 have hnl := hB.nl
 obtain ⟨g, hg⟩ : ∃ x, w.heap.size = x := ⟨_, rfl⟩
 rw [hg] at hk
 have HV : Hid (checkP d = if 512 < d.nodes.length ∨ d.uses.length < 1 ∨ 4 < d.uses.length ∨ 64 < d.reveal.length then 6
  else if namesP d = false then 3
  else if d.limit < 0 ∨ 65536 < d.limit ∨ (0 < d.limit ∧ d.scope.size = 0) then 2
  else if treeP d ≠ 0 then treeP d
  else if twiceP [] d.al = true ∨ twiceP [] d.reveal = true then 8
  else if d.reveal.all (fun x => memD x.1 d.al) = false then 9
  else if d.nodes.all (fun n => !decide (n.kind = 9) || memD n.name d.al) = false then 9
  else 0) := Lib.hid rfl
 have HNM : Hid (namesP d = (nameP d.name && (decide (d.escrow.size = 0) || nameP d.escrow) && (decide (d.scope.size = 0) || wordP d.scope) && pairsP d.uses && pairsP d.reveal)) := Lib.hid rfl
 go_enter Tryz.func78, Tryz.ntmps78
 go_upto_region 1 with fail
 try simp only [hg]
 have hk : Hp [] w [iblk g 29 (polcs d ⟨ua, uc, ra, rc, na, nc⟩)] (w.alloc (.cells #[.string d.name, .slice ua d.uses.length uc, .slice ra d.reveal.length rc, .slice na d.nodes.length nc, .int .i64 d.root, .string d.scope, .int .i64 d.limit, .string d.escrow] 29)) := hk
 generalize w.alloc (.cells #[.string d.name, .slice ua d.uses.length uc, .slice ra d.reveal.length rc, .slice na d.nodes.length nc, .int .i64 d.root, .string d.scope, .int .i64 d.limit, .string d.escrow] 29) = W at *
 obtain ⟨p0, p1, p2, p3, p4, p5, p6, p7⟩ := (hk.blk 0 rfl).get8
 simp only at p0 p1 p2 p3 p4 p5 p6 p7
 by_cases m0 : 512 < d.nodes.length
 ·have z0 : (512 : Int) < (d.nodes.length : Int) := by omega
  have HR : Hid (checkP d = 6) := Lib.hid (by rw [HV.out, if_pos (by omega)])
  go_wp2_with fail
  go_ret
  rw [HR.out]
  exact ⟨rfl, by first | exact hk.below0 | (subst hg; exact hk.below0)⟩
 ·have z0 : ¬ (512 : Int) < (d.nodes.length : Int) := by omega
  by_cases m1 : d.uses.length < 1
  ·have z1 : (d.uses.length : Int) < 1 := by omega
   have HR : Hid (checkP d = 6) := Lib.hid (by rw [HV.out, if_pos (by omega)])
   go_wp2_with fail
   go_ret
   rw [HR.out]
   exact ⟨rfl, by first | exact hk.below0 | (subst hg; exact hk.below0)⟩
  ·have z1 : ¬ (d.uses.length : Int) < 1 := by omega
   by_cases m2 : 4 < d.uses.length
   ·have z2 : (4 : Int) < (d.uses.length : Int) := by omega
    have HR : Hid (checkP d = 6) := Lib.hid (by rw [HV.out, if_pos (by omega)])
    go_wp2_with fail
    go_ret
    rw [HR.out]
    exact ⟨rfl, by first | exact hk.below0 | (subst hg; exact hk.below0)⟩
   ·have z2 : ¬ (4 : Int) < (d.uses.length : Int) := by omega
    by_cases m3 : 64 < d.reveal.length
    ·have z3 : (64 : Int) < (d.reveal.length : Int) := by omega
     have HR : Hid (checkP d = 6) := Lib.hid (by rw [HV.out, if_pos (by omega)])
     go_wp2_with fail
     go_ret
     rw [HR.out]
     exact ⟨rfl, by first | exact hk.below0 | (subst hg; exact hk.below0)⟩
    ·have z3 : ¬ (64 : Int) < (d.reveal.length : Int) := by omega
     have HV2 := Lib.hid (HV.out.trans (if_neg (by omega)))
     have hu4 : d.uses.length ≤ 4 := by omega
     have hu1 : 1 ≤ d.uses.length := by omega
     clear HV
     go_upto_region 3 with fail
     go_cut [3] (fun s3 wx => s3 = .bool (nameP d.name && (decide (d.escrow.size = 0) || nameP d.escrow) && (decide (d.scope.size = 0) || wordP d.scope)) ∧ Hp [] w [iblk g 29 (polcs d ⟨ua, uc, ra, rc, na, nc⟩)] wx)
     case first => as_aux_lemma =>
      have HN := Lib.hid (qname_any d.name hB.name)
      have HE1 := Lib.hid (qname_any d.escrow hB.escrow)
      have HS1 := Lib.hid (qword_any d.scope hB.scope)
      generalize nameP d.name = q1 at *
      generalize nameP d.escrow = q2 at *
      generalize wordP d.scope = q3 at *
      have p0 : W.cell? ⟨g, 0, none⟩ = some (.string d.name) := (hk.blk 0 rfl).cell 0
      go_wp2_with fail
      refine (HN.out W).mono ?_
      rintro e w1 ⟨rfl, hb1⟩
      have hk1 := hk.next hb1
      clear hk hb1 p0
      have p7 : w1.cell? ⟨g, 7, none⟩ = some (.string d.escrow) := (hk1.blk 0 rfl).cell 7
      have p5 : w1.cell? ⟨g, 5, none⟩ = some (.string d.scope) := (hk1.blk 0 rfl).cell 5
      cases q1 with
      | false =>
       go_wp2_with fail
       go_meet
       exact ⟨rfl, hk1⟩
      | true =>
       have HSC : ∀ (V : World), Hp [] w [iblk g 29 (polcs d ⟨ua, uc, ra, rc, na, nc⟩)] V → V.cell? ⟨g, 5, none⟩ = some (.string d.scope) := fun V h => (h.blk 0 rfl).cell 5
       have HSC := Lib.hid HSC
       cases he : decide (d.escrow.size = 0) with
       | true =>
        obtain ⟨e1, e2⟩ := sz_empty he
        cases hs : decide (d.scope.size = 0) with
        | true =>
         obtain ⟨e3, e4⟩ := sz_empty hs
         go_wp2_with fail
         go_meet
         exact ⟨by (try rw [he]); (try rw [hs]); (first | rfl | (cases q3 <;> rfl)), hk1⟩
        | false =>
         obtain ⟨e3, e4⟩ := sz_full hs
         go_wp2_with fail
         refine (HS1.out w1).mono ?_
         rintro e w3 ⟨rfl, hb3⟩
         go_wp2_with fail
         go_meet
         exact ⟨by (try rw [he]); (try rw [hs]); (first | rfl | (cases q3 <;> rfl)), hk1.next hb3⟩
       | false =>
        obtain ⟨e1, e2⟩ := sz_full he
        go_wp2_with fail
        refine (HE1.out w1).mono ?_
        rintro e w2 ⟨rfl, hb2⟩
        have hk2 := hk1.next hb2
        clear hk1 hb2 p7 p5
        have p5 := HSC.out _ hk2
        cases q2 with
        | false =>
         go_wp2_with fail
         go_meet
         exact ⟨by (try rw [he]); (try rw [hs]); (first | rfl | (cases q3 <;> rfl)), hk2⟩
        | true =>
         cases hs : decide (d.scope.size = 0) with
         | true =>
          obtain ⟨e3, e4⟩ := sz_empty hs
          go_wp2_with fail
          go_meet
          exact ⟨by (try rw [he]); (try rw [hs]); (first | rfl | (cases q3 <;> rfl)), hk2⟩
         | false =>
          obtain ⟨e3, e4⟩ := sz_full hs
          go_wp2_with fail
          refine (HS1.out w2).mono ?_
          rintro e w3 ⟨rfl, hb3⟩
          go_wp2_with fail
          go_meet
          exact ⟨by (try rw [he]); (try rw [hs]); (first | rfl | (cases q3 <;> rfl)), hk2.next hb3⟩
     case rest => as_aux_lemma =>
      obtain ⟨rfl, hk1⟩ := hcut
      clear hk p0 p1 p2 p3 p4 p5 p6 p7
      generalize (nameP d.name && (decide (d.escrow.size = 0) || nameP d.escrow) && (decide (d.scope.size = 0) || wordP d.scope)) = q0 at *
      go_upto_region 5 with fail
      go_loopg [3, 4] d.uses.length (fun m s3 sk wx => ∃ (i : Nat) (q : Bool), i ≤ d.uses.length ∧ m = d.uses.length - i ∧ s3 = .bool q ∧ sk = .int .i64 (i : Int) ∧ Hp [] w [iblk g 29 (polcs d ⟨ua, uc, ra, rc, na, nc⟩)] wx ∧ Hid (q = (q0 && pairsP (d.uses.take i))))
      case atStart => exact ⟨0, q0, Nat.zero_le _, rfl, rfl, rfl, hk1, Lib.hid (by simp [pairsP])⟩
      case round =>
       obtain ⟨i, q, hi, rfl, rfl, rfl, hM, HE⟩ := hrel
       clear hk1
       have pp : wr.cell? ⟨g, 1, none⟩ = some (.slice ua d.uses.length uc) := (hM.blk 0 rfl).cell 1
       by_cases hil : i < d.uses.length
       ·have hii : (i : Int) < (d.uses.length : Int) := by omega
        have hi0 : (0 : Int) ≤ (i : Int) := by omega
        obtain ⟨x, hx⟩ : ∃ x, d.uses[i]? = some x := ⟨_, List.getElem?_eq_getElem hil⟩
        obtain ⟨ad, hA, hx1, hx2⟩ := (hus.up hM.below0).cells hx
        subst hA
        have hxb := hB.us x (List.mem_of_getElem? hx)
        have HT := Lib.hid (pairsP_take hx)
        have HN1 := Lib.hid (qname_any x.1 hxb.1)
        have HN2 := Lib.hid (qname_any x.2 hxb.2)
        have HX2 : Hid (∀ V, Hp [] w [iblk g 29 (polcs d ⟨some ad, uc, ra, rc, na, nc⟩)] V → V.cell? ⟨g, 1, none⟩ = some (.slice (some ad) d.uses.length uc) ∧ V.cell? ⟨(ad.add (i * 2)).block, (ad.add (i * 2)).off + 1, none⟩ = some (.string x.2)) := Lib.hid fun V h => by
         obtain ⟨ad', e1, e2, e3⟩ := (hus.up h.below0).cells hx
         cases e1
         exact ⟨(h.blk 0 rfl).cell 1, e3⟩
        clear hx
        generalize nameP x.1 = q1 at *
        generalize nameP x.2 = q2 at *
        cases q with
        | false =>
         go_wp2_with fail
         go_roundg (d.uses.length - (i + 1))
         case measure => omega
         case rel => exact ⟨i + 1, false, hil, rfl, rfl, by first | rfl | simp, hM, Lib.hid (by rw [HT.out, ← Bool.and_assoc, ← HE.out]; rfl)⟩
        | true =>
         go_wp2_with fail
         refine (HN1.out wr).mono ?_
         rintro e w5 ⟨rfl, hb5⟩
         have hM2 := hM.next hb5
         clear hM hb5 pp hx1 hx2
         obtain ⟨pp, hx2⟩ := HX2.out _ hM2
         cases q1 with
         | false =>
          go_wp2_with fail
          go_roundg (d.uses.length - (i + 1))
          case measure => omega
          case rel => exact ⟨i + 1, false, hil, rfl, rfl, by first | rfl | simp, hM2, Lib.hid (by rw [HT.out, ← Bool.and_assoc, ← HE.out]; rfl)⟩
         | true =>
          go_wp2_with fail
          refine (HN2.out w5).mono ?_
          rintro e w6 ⟨rfl, hb6⟩
          have hM3 := hM2.next hb6
          clear hM2 hb6 pp hx2
          go_wp2_with fail
          go_roundg (d.uses.length - (i + 1))
          case measure => omega
          case rel => exact ⟨i + 1, q2, hil, rfl, rfl, by first | rfl | simp, hM3, Lib.hid (by rw [HT.out, ← Bool.and_assoc, ← HE.out]; simp)⟩
       ·have hii : ¬ (i : Int) < (d.uses.length : Int) := by omega
        have HF := Lib.hid (HE.out.trans (by rw [pairsP_full hil]) : q = (q0 && pairsP d.uses))
        clear HE
        have hk2 := hM
        have HQ2 := Lib.hid HF.out
        clear HF hM
        generalize hq2 : (q0 && pairsP d.uses) = qq at *
        clear hq2
        have hq9 := HQ2.out
        subst hq9
        generalize q = qb at *
        go_upto_region 9 with fail
        go_loopg [3, 5] d.reveal.length (fun m s3 sk wx => ∃ (i : Nat) (q : Bool), i ≤ d.reveal.length ∧ m = d.reveal.length - i ∧ s3 = .bool q ∧ sk = .int .i64 (i : Int) ∧ Hp [] w [iblk g 29 (polcs d ⟨ua, uc, ra, rc, na, nc⟩)] wx ∧ Hid (q = (qb && pairsP (d.reveal.take i))))
        case atStart => exact ⟨0, qb, Nat.zero_le _, rfl, rfl, rfl, hk2, Lib.hid (by simp [pairsP])⟩
        case round =>
         obtain ⟨i, q, hi, rfl, rfl, rfl, hM, HE⟩ := hrel
         clear hk2
         have pp : wr.cell? ⟨g, 2, none⟩ = some (.slice ra d.reveal.length rc) := (hM.blk 0 rfl).cell 2
         by_cases hil : i < d.reveal.length
         ·have hii : (i : Int) < (d.reveal.length : Int) := by omega
          have hi0 : (0 : Int) ≤ (i : Int) := by omega
          obtain ⟨x, hx⟩ : ∃ x, d.reveal[i]? = some x := ⟨_, List.getElem?_eq_getElem hil⟩
          obtain ⟨ad, hA, hx1, hx2⟩ := (hrv.up hM.below0).cells hx
          subst hA
          have hxb := hB.rv x (List.mem_of_getElem? hx)
          have HT := Lib.hid (pairsP_take hx)
          have HN1 := Lib.hid (qname_any x.1 hxb.1)
          have HN2 := Lib.hid (qname_any x.2 hxb.2)
          have HX2 : Hid (∀ V, Hp [] w [iblk g 29 (polcs d ⟨ua, uc, some ad, rc, na, nc⟩)] V → V.cell? ⟨g, 2, none⟩ = some (.slice (some ad) d.reveal.length rc) ∧ V.cell? ⟨(ad.add (i * 2)).block, (ad.add (i * 2)).off + 1, none⟩ = some (.string x.2)) := Lib.hid fun V h => by
           obtain ⟨ad', e1, e2, e3⟩ := (hrv.up h.below0).cells hx
           cases e1
           exact ⟨(h.blk 0 rfl).cell 2, e3⟩
          clear hx
          generalize nameP x.1 = q1 at *
          generalize nameP x.2 = q2 at *
          cases q with
          | false =>
           go_wp2_with fail
           go_roundg (d.reveal.length - (i + 1))
           case measure => omega
           case rel => exact ⟨i + 1, false, hil, rfl, rfl, by first | rfl | simp, hM, Lib.hid (by rw [HT.out, ← Bool.and_assoc, ← HE.out]; rfl)⟩
          | true =>
           go_wp2_with fail
           refine (HN1.out wr).mono ?_
           rintro e w5 ⟨rfl, hb5⟩
           have hM2 := hM.next hb5
           clear hM hb5 pp hx1 hx2
           obtain ⟨pp, hx2⟩ := HX2.out _ hM2
           cases q1 with
           | false =>
            go_wp2_with fail
            go_roundg (d.reveal.length - (i + 1))
            case measure => omega
            case rel => exact ⟨i + 1, false, hil, rfl, rfl, by first | rfl | simp, hM2, Lib.hid (by rw [HT.out, ← Bool.and_assoc, ← HE.out]; rfl)⟩
           | true =>
            go_wp2_with fail
            refine (HN2.out w5).mono ?_
            rintro e w6 ⟨rfl, hb6⟩
            have hM3 := hM2.next hb6
            clear hM2 hb6 pp hx2
            go_wp2_with fail
            go_roundg (d.reveal.length - (i + 1))
            case measure => omega
            case rel => exact ⟨i + 1, q2, hil, rfl, rfl, by first | rfl | simp, hM3, Lib.hid (by rw [HT.out, ← Bool.and_assoc, ← HE.out]; simp)⟩
         ·have hii : ¬ (i : Int) < (d.reveal.length : Int) := by omega
          have HF := Lib.hid (HE.out.trans (by rw [pairsP_full hil]) : q = (qb && pairsP d.reveal))
          clear HE
          have HNM2 : Hid (namesP d = q) := Lib.hid (by rw [HNM.out, HF.out])
          clear HNM HF HQ2
          rw [HNM2.out] at HV2
          clear HNM2
          cases q with
          | false =>
           have HR : Hid (checkP d = 3) := Lib.hid (by rw [HV2.out, if_pos rfl])
           go_wp2_with fail
           go_ret
           rw [HR.out]
           exact ⟨rfl, by first | exact hM.below0 | (subst hg; exact hM.below0)⟩
          | true =>
           have HV3 := Lib.hid (HV2.out.trans (if_neg (by simp)))
           clear HV2
           obtain ⟨p0, p1, p2, p3, p4, p5, p6, p7⟩ := (hM.blk 0 rfl).get8
           simp only at p0 p1 p2 p3 p4 p5 p6 p7
           go_upto_region 14 with fail
           go_cut [129] (fun s129 wx => s129 = .bool (decide (d.limit < 0 ∨ 65536 < d.limit ∨ (0 < d.limit ∧ d.scope.size = 0))) ∧ wr = wx)
           case first => as_aux_lemma =>
            by_cases l0 : d.limit < 0
            ·go_wp2_with fail
             go_meet
             exact ⟨congrArg Value.bool (decide_eq_true (.inl l0)).symm, rfl⟩
            ·by_cases l1 : 65536 < d.limit
             ·go_wp2_with fail
              go_meet
              exact ⟨congrArg Value.bool (decide_eq_true (.inr (.inl l1))).symm, rfl⟩
             ·by_cases l2 : 0 < d.limit
              ·cases hs : decide (d.scope.size = 0) with
               | true =>
                obtain ⟨e3, e4⟩ := sz_empty hs
                go_wp2_with fail
                go_meet
                exact ⟨congrArg Value.bool (decide_eq_true (.inr (.inr ⟨l2, of_decide_eq_true hs⟩))).symm, rfl⟩
               | false =>
                obtain ⟨e3, e4⟩ := sz_full hs
                go_wp2_with fail
                go_meet
                refine ⟨congrArg Value.bool (decide_eq_false ?_).symm, rfl⟩
                rintro (h | h | h)
                ·omega
                ·omega
                ·exact of_decide_eq_false hs h.2
              ·go_wp2_with fail
               go_meet
               refine ⟨congrArg Value.bool (decide_eq_false ?_).symm, rfl⟩
               rintro (h | h | h)
               ·omega
               ·omega
               ·omega
           case rest => as_aux_lemma =>
            obtain ⟨rfl, rfl⟩ := hcut
            cases hlim : decide (d.limit < 0 ∨ 65536 < d.limit ∨ (0 < d.limit ∧ d.scope.size = 0)) with
            | true =>
             have HR : Hid (checkP d = 2) := Lib.hid (by rw [HV3.out, if_pos (of_decide_eq_true hlim)])
             go_wp2_with fail
             go_ret
             rw [HR.out]
             exact ⟨rfl, by first | exact hM.below0 | (subst hg; exact hM.below0)⟩
            | false =>
             have HV4 := Lib.hid (HV3.out.trans (if_neg (of_decide_eq_false hlim)))
             clear HV3 pp
             have hmk := fun w => run_make_cells 142 4 Tryz.underlying142 (.bool false) rfl 1 rbool_info d.nodes.length (by omega) (by omega) w
             go_upto_region 16 with fail
             go_cut [6] (fun s6 wx => ∃ gw sb, s6 = pptr gw ∧ Hp [] w (wits d ⟨ua, uc, ra, rc, na, nc⟩ gw sb [] (.slice none 0 0) 0 ++ [iblk g 29 (polcs d ⟨ua, uc, ra, rc, na, nc⟩)]) wx)
             case first => as_aux_lemma =>
              have hMd := hM.drew
              obtain ⟨p0, p1, p2, p3, p4, p5, p6, p7⟩ := (hMd.blk 0 rfl).get8
              simp only at p0 p1 p2 p3 p4 p5 p6 p7
              have hq1 := fun o => ((hM.alloc o).drew.blk 0 rfl).get8
              have hq2 := fun o o' => (((hM.alloc o).alloc o').drew.blk 0 rfl).get8
              try simp only at hq1 hq2
              refine wp_region_held_drew (S := (fun w' => w'.cell? ⟨g, 0, none⟩ = some (.string d.name) ∧ w'.cell? ⟨g, 1, none⟩ = some (.slice ua d.uses.length uc) ∧ w'.cell? ⟨g, 2, none⟩ = some (.slice ra d.reveal.length rc) ∧ w'.cell? ⟨g, 3, none⟩ = some (.slice na d.nodes.length nc) ∧ w'.cell? ⟨g, 4, none⟩ = some (.int .i64 d.root) ∧ w'.cell? ⟨g, 5, none⟩ = some (.string d.scope) ∧ w'.cell? ⟨g, 6, none⟩ = some (.int .i64 d.limit) ∧ w'.cell? ⟨g, 7, none⟩ = some (.string d.escrow))) (by kernel_rfl) ?_ (fun hHeld => ?_)
              ·exact ⟨p0, p1, p2, p3, p4, p5, p6, p7⟩
              refine wpAnyH_take (i := 0) (v := ?_) rfl (by kernel_rfl) (by kernel_rfl) (by kernel_rfl) (fun _ _ _ h => h) (Or.inl ⟨by rfl, ?_⟩) (by assumption) ?_
              rotate_left
              ·(intro w hSw; (try dsimp only at hSw); (try obtain ⟨s0, s1, s2, s3, s4, s5, s6, s7⟩ := hSw); go_simp; (try with_reducible rfl))
              try simp only [Act.put, List.getElem_toArray, List.getElem_cons_zero, List.setIfInBounds_toArray, List.set_cons_zero, List.set_cons_succ]
              refine wpAnyH_take (i := 1) (v := ?_) rfl (by kernel_rfl) (by kernel_rfl) (by kernel_rfl) (fun _ _ _ h => h) (Or.inl ⟨by rfl, ?_⟩) (by assumption) ?_
              rotate_left
              ·(intro w hSw; (try dsimp only at hSw); (try obtain ⟨s0, s1, s2, s3, s4, s5, s6, s7⟩ := hSw); go_simp; (try with_reducible rfl))
              try simp only [Act.put, List.getElem_toArray, List.getElem_cons_zero, List.getElem_cons_succ, List.setIfInBounds_toArray, List.set_cons_zero, List.set_cons_succ]
              refine wpAnyH_take (i := 2) (v := ?_) rfl (by kernel_rfl) (by kernel_rfl) (by kernel_rfl) (fun _ _ _ h => h) (Or.inl ⟨by rfl, ?_⟩) (by assumption) ?_
              rotate_left
              ·(intro w hSw; (try dsimp only at hSw); (try obtain ⟨s0, s1, s2, s3, s4, s5, s6, s7⟩ := hSw); go_simp; (try with_reducible rfl))
              try simp only [Act.put, List.getElem_toArray, List.getElem_cons_zero, List.getElem_cons_succ, List.setIfInBounds_toArray, List.set_cons_zero, List.set_cons_succ]
              refine wpAnyH_take (i := 3) (v := ?_) rfl (by kernel_rfl) (by kernel_rfl) (by kernel_rfl) (fun _ _ _ h => h) (Or.inl ⟨by rfl, ?_⟩) (by assumption) ?_
              rotate_left
              ·(intro w hSw; (try dsimp only at hSw); (try obtain ⟨s0, s1, s2, s3, s4, s5, s6, s7⟩ := hSw); go_simp; (try with_reducible rfl))
              try simp only [Act.put, List.getElem_toArray, List.getElem_cons_zero, List.getElem_cons_succ, List.setIfInBounds_toArray, List.set_cons_zero, List.set_cons_succ]
              refine wpAnyH_ready (rs := [4]) (by kernel_rfl) (by simp) ?_
              refine AllReadyH.cons rfl (fun K hK => ?_) ?_
              ·go_simp
               refine hK.out _ _ ?_ (fun hHeld => ?_)
               ·exact hq1 _
               clear hK K
               refine wpAnyH_take (i := 5) (v := .agg #[.string d.name, .slice ua d.uses.length uc, .slice ra d.reveal.length rc, .slice na d.nodes.length nc, .int .i64 d.root, .string d.scope, .int .i64 d.limit, .string d.escrow, .slice (some ⟨wr.heap.size, 0, none⟩) d.nodes.length d.nodes.length, .slice none 0 0, .int .i64 0]) rfl (by kernel_rfl) (by kernel_rfl) (by kernel_rfl) (fun _ _ _ h => h) (Or.inl ⟨by rfl, fun w hSw => ?_⟩) (by assumption) ?_
               ·exact yields_build2 rfl (by rfl) (by rfl) (wbuilt ..) w
               try simp only [Act.put, List.getElem_toArray, List.getElem_cons_zero, List.getElem_cons_succ, List.setIfInBounds_toArray, List.set_cons_zero, List.set_cons_succ]
               refine wpAnyH_ready (rs := [6]) (by kernel_rfl) (by simp) ?_
               refine AllReadyH.cons rfl (fun K hK => ?_) ?_
               ·go_simp
                refine hK.out _ _ ?_ (fun hHeld => ?_)
                ·exact hq2 _ _
                clear hK K
                refine wpAnyH_ready (rs := [7]) (by kernel_rfl) (by simp) ?_
                refine AllReadyH.cons rfl (fun K hK => ?_) ?_
                ·go_simp
                 refine hK.out _ _ ?_ (fun hHeld => ?_)
                 ·exact hq2 _ _
                 clear hK K
                 refine wpAnyH_done (by kernel_rfl) ?_ _
                 clear p0 p1 p2 p3 p4 p5 p6 p7 hMd hmk
                 have hN := ((hM.newrow 4 (flags d.nodes.length []) (by rw [flags_len]; unfold maxLen; omega)).new 235 (wcs d ⟨ua, uc, ra, rc, na, nc⟩ wr.heap.size d.nodes.length (.slice none 0 0) 0)).nilrow 3 1
                 rw [sizeA, flags_len] at hN
                 have hN : Hp [] w [iorder (.slice none 0 0) [], iblk (wr.heap.size + 1) 235 (wcs d ⟨ua, uc, ra, rc, na, nc⟩ wr.heap.size d.nodes.length (.slice none 0 0) 0), iflags wr.heap.size d.nodes.length [], iblk g 29 (polcs d ⟨ua, uc, ra, rc, na, nc⟩)] _ := hN
                 have h9 := (hN.perm (List.perm_append_comm (l₁ := [_]) (l₂ := [_, _]) |>.append_right [_])).drew
                 rw [flags_nil] at h9
                 simp only [List.toArray_replicate] at h9
                 go_wp2_with fail
                 go_meet
                 exact ⟨_, _, rfl, h9⟩
                exact AllReadyH.nil
               exact AllReadyH.nil
              exact AllReadyH.nil
             case rest => as_aux_lemma =>
              obtain ⟨gw, sb, rfl, hN⟩ := hcut
              clear hM hmk p0 p1 p2 p3 p4 p5 p6 p7
              have hM0 : Met d.nodes [] := ⟨List.nodup_nil, fun x hx => absurd hx List.not_mem_nil⟩
              have HC := Lib.hid (rvisit_any d ⟨ua, uc, ra, rc, na, nc⟩ hB gw sb w hP 32 1 (Nat.le_refl _) (by omega) d.root true [] none 0 _ wc hM0 hN)
              have hT2 := visitP_met d.nodes 32 d.root true [] hM0
              have hTV : Hid (treeP d = if (visitP d.nodes 32 d.root true []).1 ≠ 0 then (visitP d.nodes 32 d.root true []).1 else if (visitP d.nodes 32 d.root true []).2.length ≠ d.nodes.length then 3 else 0) := Lib.hid rfl
              generalize visitP d.nodes 32 d.root true [] = vr at *
              obtain ⟨ve, T⟩ := vr
              simp only at hT2 hTV
              have p4 : wc.cell? ⟨g, 4, none⟩ = some (.int .i64 d.root) := (hN.blk 3 rfl).cell 4
              go_wp2_with fail
              refine HC.out.mono ?_
              rintro e w5 ⟨rfl, OA, oc, hN5⟩
              clear HC hN p4 hM0
              obtain ⟨-, -, c9, c10⟩ := (hN5.blk 0 rfl).get11
              have p3 : w5.cell? ⟨g, 3, none⟩ = some (.slice na d.nodes.length nc) := (hN5.blk 3 rfl).cell 3
              simp only at c9 c10
              have hTl := hT2.len
              cases hv : (ve != 0) with
              | true =>
               have HR : Hid (checkP d = ve) := Lib.hid (by rw [HV4.out, if_pos (by rw [hTV.out, if_pos (by simpa using hv)]; simpa using hv), hTV.out, if_pos (by simpa using hv)])
               go_wp2_with fail
               go_ret
               rw [HR.out]
               exact ⟨rfl, by first | exact hN5.below0 | (subst hg; exact hN5.below0)⟩
              | false =>
               have hT3 : Hid (treeP d = if T.length ≠ d.nodes.length then 3 else 0) := Lib.hid (by rw [hTV.out, if_neg (by simpa using hv)])
               go_upto_region 20 with fail
               go_quiet (fail)
               have hN6 := (hN5.drewN nq)
               clear hN5 hv hTV c9 c10 p3
               cases hl : ((T.length : Int) != (d.nodes.length : Int)) with
               | true =>
                have HR : Hid (checkP d = 3) := Lib.hid (by
                 have h9 : treeP d = 3 := by rw [hT3.out, if_pos (by intro h; rw [h] at hl; simp at hl)]
                 rw [HV4.out, if_pos (by rw [h9]; decide), h9])
                go_wp2_with fail
                go_ret
                rw [HR.out]
                exact ⟨rfl, by first | exact hN6.below0 | (subst hg; exact hN6.below0)⟩
               | false =>
                have HV5 := Lib.hid (HV4.out.trans (if_neg (by rw [hT3.out, if_neg (by intro h; simp at hl; omega)]; simp)))
                clear HV4 hT3 hT2 hTl
                have hO := hN6.perm (List.perm_append_comm (l₁ := [_, _, _]) (l₂ := [_]))
                have hO : Hp [] w ([iblk g 29 (polcs d ⟨ua, uc, ra, rc, na, nc⟩)] ++ _) _ := hO
                have hO := hO.sub
                clear hN6
                generalize w5.drewN nq = w6 at *
                go_upto_region 23 with fail
                go_loopg [7] d.uses.length (fun m sk wx => ∃ i : Nat, i ≤ d.uses.length ∧ m = d.uses.length - i ∧ sk = .int .i64 (i : Int) ∧ Hp [] w [iblk g 29 (polcs d ⟨ua, uc, ra, rc, na, nc⟩)] wx ∧ Hid (twiceP [] d.al = twiceP (d.al.take i) (d.al.drop i)))
                case atStart => exact ⟨0, Nat.zero_le _, rfl, rfl, hO, Lib.hid rfl⟩
                case round =>
                 obtain ⟨i, hi, rfl, rfl, hM, HE⟩ := hrel
                 clear hO
                 have pp : wr.cell? ⟨g, 1, none⟩ = some (.slice ua d.uses.length uc) := (hM.blk 0 rfl).cell 1
                 by_cases hil : i < d.uses.length
                 ·have hii : (i : Int) < (d.uses.length : Int) := by omega
                  have hi0 : (0 : Int) ≤ (i : Int) := by omega
                  obtain ⟨x, hx⟩ : ∃ x, d.uses[i]? = some x := ⟨_, List.getElem?_eq_getElem hil⟩
                  have hkx : d.al[i]? = some x.1 := al_at hx
                  have HE2 : Hid (twiceP [] d.al = (memD x.1 (d.al.take i) || twiceP (d.al.take (i + 1)) (d.al.drop (i + 1)))) := Lib.hid (by
                   rw [HE.out, drop_at hkx, twiceP, take_at hkx])
                  have HX := Lib.hid hx
                  clear hx hkx HE
                  go_upto_region 26 with fail
                  go_loopg [8] i (fun m sk wx => ∃ k : Nat, k ≤ i ∧ m = i - k ∧ sk = .int .i64 (k : Int) ∧ Hp [] w [iblk g 29 (polcs d ⟨ua, uc, ra, rc, na, nc⟩)] wx ∧ Hid (∀ j, j < k → d.al[j]? ≠ some x.1))
                  case atStart => exact ⟨0, Nat.zero_le _, rfl, rfl, hM, Lib.hid (fun j hj => absurd hj (Nat.not_lt_zero _))⟩
                  case round =>
                   obtain ⟨k, hk9, rfl, rfl, hM2, HK⟩ := hrel
                   clear hM pp
                   by_cases hki : k < i
                   ·have hkk : (k : Int) < (i : Int) := by omega
                    have hk0 : (0 : Int) ≤ (k : Int) := by omega
                    have hkl : (k : Int) < (d.uses.length : Int) := by omega
                    obtain ⟨y, hy⟩ : ∃ y, d.uses[k]? = some y := ⟨_, List.getElem?_eq_getElem (by omega)⟩
                    obtain ⟨ad, hA, hx1, hx2⟩ := (hus.up hM2.below0).cells HX.out
                    subst hA
                    obtain ⟨ad2, hA2, hy1, hy2⟩ := (hus.up hM2.below0).cells hy
                    injection hA2 with hA2
                    subst hA2
                    have pp : wr.cell? ⟨g, 1, none⟩ = some (.slice (some ad) d.uses.length uc) := (hM2.blk 0 rfl).cell 1
                    have HKY := Lib.hid (al_at hy : d.al[k]? = some y.1)
                    clear hy
                    have HM : Hid (y.1 = x.1 → memD x.1 (d.al.take i) = true) := Lib.hid fun h => memD_take.2 ⟨k, hki, by rw [HKY.out, h]⟩
                    have HK2 : Hid (y.1 ≠ x.1 → ∀ j, j < k + 1 → d.al[j]? ≠ some x.1) := Lib.hid fun hne j hj h9 => by
                     by_cases hjk : j = k
                     ·subst hjk
                      rw [HKY.out] at h9
                      exact hne (Option.some.inj h9)
                     ·exact HK.out j (by omega) h9
                    clear HK HKY
                    by_cases e1 : x.1 = y.1
                    ·have b1 : (x.1.toList == y.1.toList) = true := by rw [strs_eq, decide_eq_true e1]
                     have HR : Hid (checkP d = 8) := Lib.hid (by rw [HV5.out, if_pos (.inl (by rw [HE2.out, HM.out e1.symm]; rfl))])
                     clear e1 HK2 HM
                     go_upto_region 28 with fail
                     go_quiet (fail)
                     go_wp2_with fail
                     go_ret
                     rw [HR.out]
                     exact ⟨rfl, by first | exact below_drewN' hM2.below0 nq | (subst hg; exact below_drewN' hM2.below0 nq)⟩
                    ·have b1 : (x.1.toList == y.1.toList) = false := by rw [strs_eq, decide_eq_false e1]
                     have HK3 := Lib.hid (HK2.out (fun h => e1 h.symm))
                     clear e1 HK2 HM
                     go_upto_region 28 with fail
                     go_quiet (fail)
                     go_wp2_with fail
                     go_roundg (i - (k + 1))
                     case measure => omega
                     case rel => exact ⟨k + 1, hki, rfl, by first | rfl | simp, hM2.drewN nq, HK3⟩
                   ·have hkk : ¬ (k : Int) < (i : Int) := by omega
                    have HE3 : Hid (twiceP [] d.al = twiceP (d.al.take (i + 1)) (d.al.drop (i + 1))) := Lib.hid (by
                     have h0 : memD x.1 (d.al.take i) = false := by
                      rw [Bool.eq_false_iff]
                      intro h9
                      obtain ⟨j, hj, hj2⟩ := memD_take.1 h9
                      exact HK.out j (by omega) hj2
                     rw [HE2.out, h0]; rfl)
                    clear HK HE2
                    go_wp2_with fail
                    go_roundg (d.uses.length - (i + 1))
                    case measure => omega
                    case rel => exact ⟨i + 1, hil, rfl, by first | rfl | simp, hM2, HE3⟩
                 ·have hii : ¬ (i : Int) < (d.uses.length : Int) := by omega
                  have HTF : Hid (twiceP [] d.al = false) := Lib.hid (by rw [HE.out, List.drop_of_length_le (by rw [al_len]; omega), twiceP])
                  clear HE
                  have hO2 := hM
                  clear hM
                  have HTF1 := HTF
                  clear HTF
                  go_upto_region 31 with fail
                  go_loopg [9] d.reveal.length (fun m sk wx => ∃ i : Nat, i ≤ d.reveal.length ∧ m = d.reveal.length - i ∧ sk = .int .i64 (i : Int) ∧ Hp [] w [iblk g 29 (polcs d ⟨ua, uc, ra, rc, na, nc⟩)] wx ∧ Hid (twiceP [] d.reveal = twiceP (d.reveal.take i) (d.reveal.drop i)))
                  case atStart => exact ⟨0, Nat.zero_le _, rfl, rfl, hO2, Lib.hid rfl⟩
                  case round =>
                   obtain ⟨i, hi, rfl, rfl, hM, HE⟩ := hrel
                   clear hO2
                   have pp : wr.cell? ⟨g, 2, none⟩ = some (.slice ra d.reveal.length rc) := (hM.blk 0 rfl).cell 2
                   by_cases hil : i < d.reveal.length
                   ·have hii : (i : Int) < (d.reveal.length : Int) := by omega
                    have hi0 : (0 : Int) ≤ (i : Int) := by omega
                    obtain ⟨x, hx⟩ : ∃ x, d.reveal[i]? = some x := ⟨_, List.getElem?_eq_getElem hil⟩
                    have hkx : d.reveal[i]? = some x := hx
                    have HE2 : Hid (twiceP [] d.reveal = (memD x (d.reveal.take i) || twiceP (d.reveal.take (i + 1)) (d.reveal.drop (i + 1)))) := Lib.hid (by
                     rw [HE.out, drop_at hkx, twiceP, take_at hkx])
                    have HX := Lib.hid hx
                    clear hx hkx HE
                    go_upto_region 34 with fail
                    go_loopg [10] i (fun m sk wx => ∃ k : Nat, k ≤ i ∧ m = i - k ∧ sk = .int .i64 (k : Int) ∧ Hp [] w [iblk g 29 (polcs d ⟨ua, uc, ra, rc, na, nc⟩)] wx ∧ Hid (∀ j, j < k → d.reveal[j]? ≠ some x))
                    case atStart => exact ⟨0, Nat.zero_le _, rfl, rfl, hM, Lib.hid (fun j hj => absurd hj (Nat.not_lt_zero _))⟩
                    case round =>
                     obtain ⟨k, hk9, rfl, rfl, hM2, HK⟩ := hrel
                     clear hM pp
                     by_cases hki : k < i
                     ·have hkk : (k : Int) < (i : Int) := by omega
                      have hk0 : (0 : Int) ≤ (k : Int) := by omega
                      have hkl : (k : Int) < (d.reveal.length : Int) := by omega
                      obtain ⟨y, hy⟩ : ∃ y, d.reveal[k]? = some y := ⟨_, List.getElem?_eq_getElem (by omega)⟩
                      obtain ⟨ad, hA, hx1, hx2⟩ := (hrv.up hM2.below0).cells HX.out
                      subst hA
                      obtain ⟨ad2, hA2, hy1, hy2⟩ := (hrv.up hM2.below0).cells hy
                      injection hA2 with hA2
                      subst hA2
                      have pp : wr.cell? ⟨g, 2, none⟩ = some (.slice (some ad) d.reveal.length rc) := (hM2.blk 0 rfl).cell 2
                      have HKY := Lib.hid (hy : d.reveal[k]? = some y)
                      clear hy
                      have HM : Hid (y = x → memD x (d.reveal.take i) = true) := Lib.hid fun h => memD_take.2 ⟨k, hki, by rw [HKY.out, h]⟩
                      have HK2 : Hid (y ≠ x → ∀ j, j < k + 1 → d.reveal[j]? ≠ some x) := Lib.hid fun hne j hj h9 => by
                       by_cases hjk : j = k
                       ·subst hjk
                        rw [HKY.out] at h9
                        exact hne (Option.some.inj h9)
                       ·exact HK.out j (by omega) h9
                      clear HK HKY
                      by_cases e1 : x.1 = y.1
                      ·have b1 : (x.1.toList == y.1.toList) = true := by rw [strs_eq, decide_eq_true e1]
                       by_cases e2 : x.2 = y.2
                       ·have b2 : (x.2.toList == y.2.toList) = true := by rw [strs_eq, decide_eq_true e2]
                        have HR : Hid (checkP d = 8) := Lib.hid (by rw [HV5.out, if_pos (.inr (by rw [HE2.out, HM.out (Prod.ext e1.symm e2.symm)]; rfl))])
                        clear e1 e2 HK2 HM
                        go_upto_region 36 with fail
                        go_quiet (fail)
                        go_wp2_with fail
                        go_ret
                        rw [HR.out]
                        exact ⟨rfl, by first | exact below_drewN' hM2.below0 nq | (subst hg; exact below_drewN' hM2.below0 nq)⟩
                       ·have b2 : (x.2.toList == y.2.toList) = false := by rw [strs_eq, decide_eq_false e2]
                        have HK3 := Lib.hid (HK2.out (fun h => e2 (by rw [h])))
                        clear e1 e2 HK2 HM
                        go_upto_region 36 with fail
                        go_quiet (fail)
                        go_wp2_with fail
                        go_roundg (i - (k + 1))
                        case measure => omega
                        case rel => exact ⟨k + 1, hki, rfl, by first | rfl | simp, hM2.drewN nq, HK3⟩
                      ·have b1 : (x.1.toList == y.1.toList) = false := by rw [strs_eq, decide_eq_false e1]
                       have HK3 := Lib.hid (HK2.out (fun h => e1 (by rw [h])))
                       clear e1 HK2 HM
                       go_upto_region 36 with fail
                       go_quiet (fail)
                       go_wp2_with fail
                       go_roundg (i - (k + 1))
                       case measure => omega
                       case rel => exact ⟨k + 1, hki, rfl, by first | rfl | simp, hM2.drewN nq, HK3⟩
                     ·have hkk : ¬ (k : Int) < (i : Int) := by omega
                      have HE3 : Hid (twiceP [] d.reveal = twiceP (d.reveal.take (i + 1)) (d.reveal.drop (i + 1))) := Lib.hid (by
                       have h0 : memD x (d.reveal.take i) = false := by
                        rw [Bool.eq_false_iff]
                        intro h9
                        obtain ⟨j, hj, hj2⟩ := memD_take.1 h9
                        exact HK.out j (by omega) hj2
                       rw [HE2.out, h0]; rfl)
                      clear HK HE2
                      go_wp2_with fail
                      go_roundg (d.reveal.length - (i + 1))
                      case measure => omega
                      case rel => exact ⟨i + 1, hil, rfl, by first | rfl | simp, hM2, HE3⟩
                   ·have hii : ¬ (i : Int) < (d.reveal.length : Int) := by omega
                    have HTF : Hid (twiceP [] d.reveal = false) := Lib.hid (by rw [HE.out, List.drop_of_length_le (by omega), twiceP])
                    clear HE
                    have hO3 := hM
                    clear hM
                    have HV6 := Lib.hid (HV5.out.trans (if_neg (by rw [HTF1.out, HTF.out]; simp)))
                    clear HV5 HTF1 HTF
                    go_upto_region 39 with fail
                    clear hii hi hil
                    go_loopg [11] d.reveal.length (fun m sk wx => ∃ i : Nat, i ≤ d.reveal.length ∧ m = d.reveal.length - i ∧ sk = .int .i64 (i : Int) ∧ Hp [] w [iblk g 29 (polcs d ⟨ua, uc, ra, rc, na, nc⟩)] wx ∧ Hid ((d.reveal.take i).all (fun x => memD x.1 d.al) = true))
                    case atStart => exact ⟨0, Nat.zero_le _, rfl, rfl, hO3, Lib.hid rfl⟩
                    case round =>
                     obtain ⟨i, hi, rfl, rfl, hM, HE⟩ := hrel
                     clear hO3 pp
                     have pp : wr.cell? ⟨g, 2, none⟩ = some (.slice ra d.reveal.length rc) := (hM.blk 0 rfl).cell 2
                     by_cases hil : i < d.reveal.length
                     ·have hii : (i : Int) < (d.reveal.length : Int) := by omega
                      have hi0 : (0 : Int) ≤ (i : Int) := by omega
                      obtain ⟨x, hx⟩ : ∃ x, d.reveal[i]? = some x := ⟨_, List.getElem?_eq_getElem hil⟩
                      obtain ⟨ad, hA, -, -⟩ := (hrv.up hM.below0).cells hx
                      subst hA
                      have HT : Hid ((d.reveal.take (i + 1)).all (fun x => memD x.1 d.al) = memD x.1 d.al) := Lib.hid (by rw [take_at hx, List.all_append, HE.out]; simp)
                      have HBad : Hid (memD x.1 d.al = false → d.reveal.all (fun x => memD x.1 d.al) = false) := Lib.hid fun h => by
                       rw [Bool.eq_false_iff]
                       intro h9
                       have := List.all_eq_true.1 h9 x (List.mem_of_getElem? hx)
                       rw [h] at this; cases this
                      have HX2 : Hid (∀ V, Hp [] w [iblk g 29 (polcs d ⟨ua, uc, some ad, rc, na, nc⟩)] V → V.cell? (ad.add (i * 2)) = some (.string x.1)) := Lib.hid fun V h => by
                       obtain ⟨ad', e1, e2, e3⟩ := (hrv.up h.below0).cells hx
                       cases e1
                       exact e2
                      clear hx HE
                      have HC := Lib.hid (fun V h => ralias_any d ⟨ua, uc, some ad, rc, na, nc⟩ x.1 hB V h)
                      generalize memD x.1 d.al = bm at *
                      go_upto_region 41 with fail
                      have hMd := hM.drew
                      clear pp hM
                      obtain ⟨p0, p1, p2, p3, p4, p5, p6, p7⟩ := (hMd.blk 0 rfl).get8
                      have d0 := HX2.out _ hMd
                      simp only at p0 p1 p2 p3 p4 p5 p6 p7
                      go_region_held3 (fun w' => w'.cell? ⟨g, 0, none⟩ = some (.string d.name) ∧ w'.cell? ⟨g, 1, none⟩ = some (.slice ua d.uses.length uc) ∧ w'.cell? ⟨g, 2, none⟩ = some (.slice (some ad) d.reveal.length rc) ∧ w'.cell? ⟨g, 3, none⟩ = some (.slice na d.nodes.length nc) ∧ w'.cell? ⟨g, 4, none⟩ = some (.int .i64 d.root) ∧ w'.cell? ⟨g, 5, none⟩ = some (.string d.scope) ∧ w'.cell? ⟨g, 6, none⟩ = some (.int .i64 d.limit) ∧ w'.cell? ⟨g, 7, none⟩ = some (.string d.escrow) ∧ w'.cell? (ad.add (i * 2)) = some (.string x.1)) (first | exact ⟨p0, p1, p2, p3, p4, p5, p6, p7, d0⟩ | exact ⟨q0, q1, q2, q3, q4, q5, q6, q7, e0⟩)
                       (first | (go_at_call 167; refine (HC.out _ (hP.up hMd.below0)).mono ?_; rintro e w8 ⟨rfl, hb8⟩; have hM3 := hMd.next hb8; obtain ⟨q0, q1, q2, q3, q4, q5, q6, q7⟩ := (hM3.blk 0 rfl).get8; have e0 := HX2.out _ hM3))
                      cases bm with
                      | false =>
                       have HR : Hid (checkP d = 9) := Lib.hid (by rw [HV6.out, if_pos (HBad.out rfl)])
                       go_wp2_with fail
                       go_ret
                       rw [HR.out]
                       exact ⟨rfl, by first | exact hM3.below0 | (subst hg; exact hM3.below0)⟩
                      | true =>
                       go_wp2_with fail
                       go_roundg (d.reveal.length - (i + 1))
                       case measure => omega
                       case rel => exact ⟨i + 1, hil, rfl, by first | rfl | simp, hM3, Lib.hid HT.out⟩
                     ·have hii : ¬ (i : Int) < (d.reveal.length : Int) := by omega
                      have HV7 := Lib.hid (HV6.out.trans (if_neg (by rw [← (List.take_of_length_le (by omega : d.reveal.length ≤ i) : d.reveal.take i = d.reveal), HE.out]; simp)))
                      clear HV6 HE
                      go_upto_region 44 with fail
                      clear hii hi hil
                      go_loopg [12] d.nodes.length (fun m sk wx => ∃ i : Nat, i ≤ d.nodes.length ∧ m = d.nodes.length - i ∧ sk = .int .i64 (i : Int) ∧ Hp [] w [iblk g 29 (polcs d ⟨ua, uc, ra, rc, na, nc⟩)] wx ∧ Hid ((d.nodes.take i).all (fun n => !decide (n.kind = 9) || memD n.name d.al) = true))
                      case atStart => exact ⟨0, Nat.zero_le _, rfl, rfl, hM, Lib.hid rfl⟩
                      case round =>
                       obtain ⟨k, hk9, rfl, rfl, hN, HE⟩ := hrel
                       clear hM pp
                       have pp : wr.cell? ⟨g, 3, none⟩ = some (.slice na d.nodes.length nc) := (hN.blk 0 rfl).cell 3
                       by_cases hil : k < d.nodes.length
                       ·have hii : (k : Int) < (d.nodes.length : Int) := by omega
                        have hi0 : (0 : Int) ≤ (k : Int) := by omega
                        obtain ⟨n, hn⟩ : ∃ n, d.nodes[k]? = some n := ⟨_, List.getElem?_eq_getElem hil⟩
                        obtain ⟨ad, KA, kc, hA, hN0⟩ := (hns.up hN.below0).at_ k n hn
                        subst hA
                        have HT : Hid ((d.nodes.take (k + 1)).all (fun n => !decide (n.kind = 9) || memD n.name d.al) = (!decide (n.kind = 9) || memD n.name d.al)) := Lib.hid (by rw [take_at hn, List.all_append, HE.out]; simp)
                        have HBad : Hid ((!decide (n.kind = 9) || memD n.name d.al) = false → d.nodes.all (fun n => !decide (n.kind = 9) || memD n.name d.al) = false) := Lib.hid fun h => by
                         rw [Bool.eq_false_iff]
                         intro h9
                         have := List.all_eq_true.1 h9 n (List.mem_of_getElem? hn)
                         rw [h] at this; cases this
                        have HX2 : Hid (∀ V, Hp [] w [iblk g 29 (polcs d ⟨ua, uc, ra, rc, some ad, nc⟩)] V → V.cell? (ad.add (k * 6)) = some (.int .i64 n.kind) ∧ V.cell? ⟨(ad.add (k * 6)).block, (ad.add (k * 6)).off + 2, none⟩ = some (.string n.name)) := Lib.hid fun V h => by
                         obtain ⟨ad', KA', kc', e1, e2⟩ := (hns.up h.below0).at_ k n hn
                         cases e1
                         exact ⟨e2.kind, e2.name⟩
                        clear hn HE hN0
                        cases h9 : decide (n.kind = 9) with
                        | false =>
                         have k9 : (n.kind == 9) = false := by rw [ieq, h9]
                         rw [h9] at HT
                         obtain ⟨d0, d2⟩ := HX2.out _ hN
                         clear h9
                         go_upto_region 46 with fail
                         go_quiet (fail)
                         go_wp2_with fail
                         go_roundg (d.nodes.length - (k + 1))
                         case measure => omega
                         case rel => exact ⟨k + 1, hil, rfl, by first | rfl | simp, hN.drewN nq, Lib.hid HT.out⟩
                        | true =>
                         have k9 : (n.kind == 9) = true := by rw [ieq, h9]
                         rw [h9] at HT HBad
                         clear h9
                         have HC := Lib.hid (fun V h => ralias_any d ⟨ua, uc, ra, rc, some ad, nc⟩ n.name hB V h)
                         generalize memD n.name d.al = bm at *
                         go_upto_region 46 with fail
                         have hNd := hN.drew
                         clear pp hN
                         obtain ⟨p0, p1, p2, p3, p4, p5, p6, p7⟩ := (hNd.blk 0 rfl).get8
                         obtain ⟨d0, d2⟩ := HX2.out _ hNd
                         simp only at p0 p1 p2 p3 p4 p5 p6 p7
                         go_region_held3 (fun w' => w'.cell? ⟨g, 0, none⟩ = some (.string d.name) ∧ w'.cell? ⟨g, 1, none⟩ = some (.slice ua d.uses.length uc) ∧ w'.cell? ⟨g, 2, none⟩ = some (.slice ra d.reveal.length rc) ∧ w'.cell? ⟨g, 3, none⟩ = some (.slice (some ad) d.nodes.length nc) ∧ w'.cell? ⟨g, 4, none⟩ = some (.int .i64 d.root) ∧ w'.cell? ⟨g, 5, none⟩ = some (.string d.scope) ∧ w'.cell? ⟨g, 6, none⟩ = some (.int .i64 d.limit) ∧ w'.cell? ⟨g, 7, none⟩ = some (.string d.escrow) ∧ w'.cell? (ad.add (k * 6)) = some (.int .i64 n.kind) ∧ w'.cell? ⟨(ad.add (k * 6)).block, (ad.add (k * 6)).off + 2, none⟩ = some (.string n.name)) (first | exact ⟨p0, p1, p2, p3, p4, p5, p6, p7, d0, d2⟩ | exact ⟨q0, q1, q2, q3, q4, q5, q6, q7, e0, e2⟩)
                          (first | (go_at_call 167; refine (HC.out _ (hP.up hNd.below0)).mono ?_; rintro e w8 ⟨rfl, hb8⟩; have hN3 := hNd.next hb8; obtain ⟨q0, q1, q2, q3, q4, q5, q6, q7⟩ := (hN3.blk 0 rfl).get8; obtain ⟨e0, e2⟩ := HX2.out _ hN3))
                         cases bm with
                         | false =>
                          have HR : Hid (checkP d = 9) := Lib.hid (by rw [HV7.out, if_pos (HBad.out rfl)])
                          go_wp2_with fail
                          go_ret
                          rw [HR.out]
                          exact ⟨rfl, by first | exact hN3.below0 | (subst hg; exact hN3.below0)⟩
                         | true =>
                          go_wp2_with fail
                          go_roundg (d.nodes.length - (k + 1))
                          case measure => omega
                          case rel => exact ⟨k + 1, hil, rfl, by first | rfl | simp, hN3, Lib.hid HT.out⟩
                       ·have hii : ¬ (k : Int) < (d.nodes.length : Int) := by omega
                        have HR : Hid (checkP d = 0) := Lib.hid (by rw [HV7.out, if_neg (by rw [← (List.take_of_length_le (by omega : d.nodes.length ≤ k) : d.nodes.take k = d.nodes), HE.out]; simp)])
                        go_wp2_with fail
                        go_ret
                        rw [HR.out]
                        exact ⟨rfl, by first | exact hN.below0 | (subst hg; exact hN.below0)⟩

end Go.Proofs.YtogmhaihmkcjgaaGreatDoor
-- halved
