/- policy.Check. Printed by mkpch.py. -/
import Derived.Test.YtekkapgknohadaaGreatDoorM14
import Derived.Test.YtekkapgknohadaaGreatDoorM16
set_option linter.unusedVariables false
set_option maxRecDepth 20000
set_option maxHeartbeats 32000000
namespace Go.Proofs.YtekkapgknohadaaGreatDoor
open Go.RowKit Go.Shelf Go.Maps
open Lib (hid)
abbrev svals (l : List ByteArray) : List Value := l.map Value.string
theorem strs_row {e : TypeId} {W : World} {A : Option Addr} {n c : Nat} {l : List ByteArray} (h : W.ownsRow 0 e 1 (.slice A n c) l.length (svals l)) : Strs W A l := by
 refine ⟨fun i s hs => ?_⟩
 have hi := (List.getElem?_eq_some_iff.1 hs).1
 obtain ⟨g, cap, hv, -⟩ := za5 h (by omega)
 injection hv with hA hn hc
 subst hA
 refine ⟨_, rfl, ?_⟩
 rw [zcn]
 rw [hn] at h
 exact zaz h (j := i) (u := .string s) (by rw [List.getElem?_map, hs]; rfl)
theorem containsD (l : List ByteArray) (s : ByteArray) : Lib.containsS l s = memD s l := by
 rw [Bool.eq_iff_iff, Lib.containsS_iff, memD_iff]
abbrev ialias (v : Value) (l : List ByteArray) : It := irow 9 1 v l.length (svals l)
theorem used_any (s : ByteArray) (ga : Nat) (A : Option Addr) (c : Nat) (l : List ByteArray) (h0 : 0 < l.length) (hl : l.length ≤ 1000) (W : World) (hc : W.cell? ⟨ga, 0, none⟩ = some (.slice A l.length c)) (hr : W.ownsRow 0 9 1 (.slice A l.length c) l.length (svals l)) :
 Calls Tryz.prog 85 #[.string s, pptr ga] W fun e w' => e = .returned (.bool (memD s l)) ∧ w' = W := by
 obtain ⟨g, cap, hv, -⟩ := za5 hr h0
 injection hv with hA hn hcc
 subst hA
 subst hcc
 have HC := hid (Tryz.slices_Contains_string g 0 l.length c l s W (by omega) (by omega) (fun j hj => by
  rw [Nat.zero_add]
  exact zaz hr (j := j) (by rw [List.getElem?_map, List.getElem?_eq_getElem hj, List.getD_eq_getElem?_getD, List.getElem?_eq_getElem hj]; rfl)))
 have HV : Hid (Lib.containsS (l.take l.length) s = memD s l) := hid (by rw [containsD, List.take_length])
 clear hr
 go_enter Tryz.func85, Tryz.ntmps85
 go_wp2_with fail
 refine HC.out.mono ?_
 rintro e w1 ⟨rfl, rfl⟩
 rw [HV.out]
 go_wp2_with fail
 go_ret
 exact ⟨rfl, rfl⟩
theorem enters_used : ∀ args w, (callFunc 85 args).run Tryz.prog w = .ok (.enter 85 args) w := enters_of Tryz.func85 (by kernel_rfl) rfl
theorem pstr_info : (Tryz.prog.info? 9).map (fun i => (i.zero, i.size, i.bytes)) = some (some (.string ⟨#[]⟩), 1, 16) := by kernel_rfl
theorem new1q (w : World) (t : TypeId) (a : Value) : ∀ (j : Nat) u, [a][j]? = some u → (w.alloc (.cells #[a] t)).cell? ((⟨w.heap.size, 0, none⟩ : Addr).add j) = some u := by
 intro j u hu
 rw [zcn, (show Blk (w.alloc (.cells #[a] t)) w.heap.size t [a] from Blk.new w t [a]).cell j]
 exact hu
theorem info3 {P : Program} {t : TypeId} {z : Value} {a b : Nat} (h : (P.info? t).map (fun i => (i.zero, i.size, i.bytes)) = some (some z, a, b)) : ∃ i, P.info? t = some i ∧ i.zero = some z ∧ i.size = a ∧ i.bytes = b := by
 cases hi : P.info? t with
 | none => rw [hi] at h; simp at h
 | some i => rw [hi] at h; simp at h; exact ⟨i, rfl, h.1, h.2.1, h.2.2⟩
theorem al_take {d : Po} {i : Nat} {x : Bp} (h : d.uses[i]? = some x) : d.al.take (i + 1) = d.al.take i ++ [x.1] := zbb (by rw [Po.al, List.getElem?_map, h]; rfl)
theorem al_len (d : Po) : d.al.length = d.uses.length := List.length_map _
theorem zb5 (d : Po) (L : Lp) (hB : PBd d) (w : World) (hP : PolM w d L) : Calls Tryz.prog 26 #[polV d L] w fun e w' => e = .returned (.int .i64 (checkP d)) ∧ Below w.heap.size w w' := by
 obtain ⟨ua, uc, ra, rc, na, nc⟩ := L
 have hus : Prs w ua d.uses := hP.us
 have hrv : Prs w ra d.reveal := hP.rv
 have hns : Nks w na d.nodes := hP.ns
 have hk := (Hp.start w).new 29 (polcs d ⟨ua, uc, ra, rc, na, nc⟩)
 have HNM := hid (fun W h => names_any d ⟨ua, uc, ra, rc, na, nc⟩ hB W h)
 have HTR := hid (fun W h => tree_any d ⟨ua, uc, ra, rc, na, nc⟩ hB W h)
 have HV : Hid (checkP d = if 512 < d.nodes.length ∨ d.uses.length < 1 ∨ 4 < d.uses.length ∨ 64 < d.reveal.length then 6
  else if namesP d = false then 3
  else if d.limit < 0 ∨ 65536 < d.limit ∨ (0 < d.limit ∧ d.scope.size = 0) then 2
  else if treeP d ≠ 0 then treeP d
  else if twiceP [] d.al = true ∨ twiceP [] d.reveal = true then 8
  else if d.reveal.all (fun x => memD x.1 d.al) = false then 9
  else if d.nodes.all (fun n => !decide (n.kind = 9) || memD n.name d.al) = false then 9
  else 0) := hid rfl
 have hul := hB.ul
 have hrl := hB.rl
 have hnl := hB.nl
 have hmf : ∀ (fn : Fn) (first cap : Array Value) (w : World), (Instr.makeFunc fn first cap).run Tryz.prog w = .ok (.func fn first cap) w := fun _ _ _ _ => rfl
 have hen := enters_used
 obtain ⟨g, hg⟩ : ∃ x, w.heap.size = x := ⟨_, rfl⟩
 rw [hg] at hk
 go_enter Tryz.func26, Tryz.ntmps26
 go_upto_region 1 with fail
 try simp only [hg]
 have hk : Hp [] w [iblk g 29 (polcs d ⟨ua, uc, ra, rc, na, nc⟩)] (w.alloc (.cells #[.string d.name, .slice ua d.uses.length uc, .slice ra d.reveal.length rc, .slice na d.nodes.length nc, .int .i64 d.root, .string d.scope, .int .i64 d.limit, .string d.escrow] 29)) := hk
 generalize w.alloc (.cells #[.string d.name, .slice ua d.uses.length uc, .slice ra d.reveal.length rc, .slice na d.nodes.length nc, .int .i64 d.root, .string d.scope, .int .i64 d.limit, .string d.escrow] 29) = W at *
 obtain ⟨p0, p1, p2, p3, p4, p5, p6, p7⟩ := (hk.blk 0 rfl).get8
 simp only at p0 p1 p2 p3 p4 p5 p6 p7
 by_cases m0 : 512 < d.nodes.length
 ·have z0 : (512 : Int) < (d.nodes.length : Int) := by omega
  have HR : Hid (checkP d = 6) := hid (by rw [HV.out, if_pos (by omega)])
  go_wp2_with fail
  go_ret
  rw [HR.out]
  exact ⟨rfl, by first | exact hk.below0 | (subst hg; exact hk.below0)⟩
 ·have z0 : ¬ (512 : Int) < (d.nodes.length : Int) := by omega
  by_cases m1 : d.uses.length < 1
  ·have z1 : (d.uses.length : Int) < 1 := by omega
   have HR : Hid (checkP d = 6) := hid (by rw [HV.out, if_pos (by omega)])
   go_wp2_with fail
   go_ret
   rw [HR.out]
   exact ⟨rfl, by first | exact hk.below0 | (subst hg; exact hk.below0)⟩
  ·have z1 : ¬ (d.uses.length : Int) < 1 := by omega
   by_cases m2 : 4 < d.uses.length
   ·have z2 : (4 : Int) < (d.uses.length : Int) := by omega
    have HR : Hid (checkP d = 6) := hid (by rw [HV.out, if_pos (by omega)])
    go_wp2_with fail
    go_ret
    rw [HR.out]
    exact ⟨rfl, by first | exact hk.below0 | (subst hg; exact hk.below0)⟩
   ·have z2 : ¬ (4 : Int) < (d.uses.length : Int) := by omega
    by_cases m3 : 64 < d.reveal.length
    ·have z3 : (64 : Int) < (d.reveal.length : Int) := by omega
     have HR : Hid (checkP d = 6) := hid (by rw [HV.out, if_pos (by omega)])
     go_wp2_with fail
     go_ret
     rw [HR.out]
     exact ⟨rfl, by first | exact hk.below0 | (subst hg; exact hk.below0)⟩
    ·have z3 : ¬ (64 : Int) < (d.reveal.length : Int) := by omega
     have HV2 := hid (HV.out.trans (if_neg (by omega)))
     have hu4 : d.uses.length ≤ 4 := by omega
     have hu1 : 1 ≤ d.uses.length := by omega
     clear HV
     go_wp2_with fail
     refine (HNM.out W (hP.up hk.below0)).mono ?_
     rintro e w1 ⟨rfl, hb1⟩
     have hk1 := hk.next hb1
     clear hk hb1 p0 p1 p2 p3 p4 p5 p6 p7 HNM
     obtain ⟨p0, p1, p2, p3, p4, p5, p6, p7⟩ := (hk1.blk 0 rfl).get8
     simp only at p0 p1 p2 p3 p4 p5 p6 p7
     generalize namesP d = qn at *
     cases qn with
     | false =>
      have HR : Hid (checkP d = 3) := hid (by rw [HV2.out, if_pos rfl])
      go_wp2_with fail
      go_ret
      rw [HR.out]
      exact ⟨rfl, by first | exact hk1.below0 | (subst hg; exact hk1.below0)⟩
     | true =>
      have HV3 := hid (HV2.out.trans (if_neg (by simp)))
      clear HV2
      go_upto_region 5 with fail
      go_cut [54] (fun s54 wx => s54 = .bool (decide (d.limit < 0 ∨ 65536 < d.limit ∨ (0 < d.limit ∧ d.scope.size = 0))) ∧ w1 = wx)
      case first =>
       by_cases l0 : d.limit < 0
       ·go_wp2_with fail
        go_meet
        exact ⟨congrArg Value.bool (decide_eq_true (.inl l0)).symm, rfl⟩
       ·by_cases l1 : 65536 < d.limit
        ·go_wp2_with fail
         go_meet
         exact ⟨congrArg Value.bool (decide_eq_true (.inr (.inl l1))).symm, rfl⟩
        ·by_cases l2 : 0 < d.limit
         ·cases hs : decide (d.scope.size = 0) with
          | true =>
           obtain ⟨e3, e4⟩ := zc0 hs
           go_wp2_with fail
           go_meet
           exact ⟨congrArg Value.bool (decide_eq_true (.inr (.inr ⟨l2, of_decide_eq_true hs⟩))).symm, rfl⟩
          | false =>
           obtain ⟨e3, e4⟩ := sz_full hs
           go_wp2_with fail
           go_meet
           refine ⟨congrArg Value.bool (decide_eq_false ?_).symm, rfl⟩
           rintro (h | h | h)
           ·omega
           ·omega
           ·exact of_decide_eq_false hs h.2
         ·go_wp2_with fail
          go_meet
          refine ⟨congrArg Value.bool (decide_eq_false ?_).symm, rfl⟩
          rintro (h | h | h)
          ·omega
          ·omega
          ·omega
      case rest =>
       obtain ⟨rfl, rfl⟩ := hcut
       cases hlim : decide (d.limit < 0 ∨ 65536 < d.limit ∨ (0 < d.limit ∧ d.scope.size = 0)) with
       | true =>
        have HR : Hid (checkP d = 2) := hid (by rw [HV3.out, if_pos (of_decide_eq_true hlim)])
        go_wp2_with fail
        go_ret
        rw [HR.out]
        exact ⟨rfl, by first | exact hk1.below0 | (subst hg; exact hk1.below0)⟩
       | false =>
        have HV4 := hid (HV3.out.trans (if_neg (of_decide_eq_false hlim)))
        clear HV3
        go_wp2_with fail
        refine (HTR.out w1 (hP.up hk1.below0)).mono ?_
        rintro e w2 ⟨rfl, hb2⟩
        have hk2 := hk1.next hb2
        clear hk1 hb2 p0 p1 p2 p3 p4 p5 p6 p7 HTR
        obtain ⟨p0, p1, p2, p3, p4, p5, p6, p7⟩ := (hk2.blk 0 rfl).get8
        simp only at p0 p1 p2 p3 p4 p5 p6 p7
        generalize treeP d = te at *
        cases ht : (te != 0) with
        | true =>
         have HR : Hid (checkP d = te) := hid (by rw [HV4.out, if_pos (by simpa using ht)])
         go_wp2_with fail
         go_ret
         rw [HR.out]
         exact ⟨rfl, by first | exact hk2.below0 | (subst hg; exact hk2.below0)⟩
        | false =>
         have HV5 := hid (HV4.out.trans (if_neg (by simpa using ht)))
         clear HV4
         obtain ⟨ga, hga⟩ : ∃ x, w2.heap.size = x := ⟨_, rfl⟩
         have hk3 := (hk2.new 55 [.slice none 0 0]).nilrow 9 1
         rw [hga] at hk3
         go_upto_region 11 with fail
         try simp only [hga]
         have hk3 : Hp [] w [ialias (.slice none 0 0) [], iblk ga 55 [.slice none 0 0], iblk g 29 (polcs d ⟨ua, uc, ra, rc, na, nc⟩)] (w2.alloc (.cells #[.slice none 0 0] 55)) := hk3
         clear hk2 p0 p1 p2 p3 p4 p5 p6 p7 ht
         generalize w2.alloc (.cells #[.slice none 0 0] 55) = w3 at *
         clear hga
         obtain ⟨i0, hi0', hz0, hz1, hz2⟩ := info3 pstr_info
         obtain ⟨p0, p1, p2, p3, p4, p5, p6, p7⟩ := (hk3.blk 2 rfl).get8
         simp only at p0 p1 p2 p3 p4 p5 p6 p7
         go_upto_region 12 with fail
         clear p0 p1 p2 p3 p4 p5 p6 p7
         go_loopg [63] d.uses.length (fun m s63 wx => ∃ (i : Nat) (A : Option Addr) (c : Nat), i ≤ d.uses.length ∧ m = d.uses.length - i ∧ s63 = .int .i64 (i : Int) ∧ Hp [] w [ialias (.slice A i c) (d.al.take i), iblk ga 55 [.slice A i c], iblk g 29 (polcs d ⟨ua, uc, ra, rc, na, nc⟩)] wx)
         case atStart => exact ⟨0, none, 0, Nat.zero_le _, rfl, rfl, hk3⟩
         case round =>
          obtain ⟨i, A, c, hi, rfl, rfl, hM⟩ := hrel
          clear hk3
          by_cases hil : i < d.uses.length
          ·have hii : (i : Int) < (d.uses.length : Int) := by omega
           have hi0 : (0 : Int) ≤ (i : Int) := by omega
           obtain ⟨x, hx⟩ : ∃ x, d.uses[i]? = some x := ⟨_, List.getElem?_eq_getElem hil⟩
           obtain ⟨ad, hA, hx1, hx2⟩ := (hus.up hM.below0).cells hx
           subst hA
           have HT := hid (al_take hx)
           have hM1 := hM.new 50 [.string x.1, .string x.2]
           obtain ⟨gx, hgx⟩ : ∃ y, wr.heap.size = y := ⟨_, rfl⟩
           rw [hgx] at hM1
           clear hx hM
           go_upto_region 14 with fail
           try simp only [hgx]
           have hM1 : Hp [] w [iblk gx 50 [.string x.1, .string x.2], ialias (.slice A i c) (d.al.take i), iblk ga 55 [.slice A i c], iblk g 29 (polcs d ⟨some ad, uc, ra, rc, na, nc⟩)] (wr.alloc (.cells #[.string x.1, .string x.2] 50)) := hM1
           clear hx1 hx2
           generalize wr.alloc (.cells #[.string x.1, .string x.2] 50) = wa at *
           clear hgx
           obtain ⟨c0, c1⟩ := (hM1.blk 0 rfl).get2
           have ca : wa.cell? ⟨ga, 0, none⟩ = some (.slice A i c) := (hM1.blk 2 rfl).cell 0
           have hlen : (d.al.take i).length = i := by rw [List.length_take, al_len]; omega
           have HL := hid hlen
           have hrow := zb9 ((hM1.alloc (.cells #[.string x.1] 9)).row 1 rfl) hlen
           clear hlen
           go_wp2_with (at_builtin; refine zac rfl _ _ 55 rfl 0 9 i0 _ 1 16 Tryz.underlying55 hi0' hz0 hz1 hz2 rfl (by decide) _ i (svals (d.al.take i)) rfl hrow ⟨wa.heap.size, 0, none⟩ 1 1 [.string x.1] rfl rfl (new1q _ _ _) (by intro u hu; simp at hu; rw [hu]; rfl) (by decide) (by unfold maxLen; omega) (by omega) (Nat.zero_le _) ?_; intro v' w5 hown hgrow hat; obtain ⟨A2, ca2, rfl⟩ := zag hown; have hM2 := (hM1.alloc (.cells #[.string x.1] 9)).grown 1 rfl hown hgrow hat; have cb : w5.cell? ⟨ga, 0, none⟩ = some (.slice A i c) := (hM2.blk 2 rfl).cell 0; have fb := (hM2.blk 2 rfl).frozen 0; clear hown hgrow hat)
           have hM3 : Hp [] w [iblk gx 50 [.string x.1, .string x.2], ialias (.slice A2 (i + 1) ca2) (d.al.take (i + 1)), iblk ga 55 [.slice A2 (i + 1) ca2], iblk g 29 (polcs d ⟨some ad, uc, ra, rc, na, nc⟩)] (w5.setCell ⟨ga, 0, none⟩ (.slice A2 (i + 1) ca2)) := by
            have h1 := hM2.set 2 rfl 0 (.slice A2 (i + 1) ca2)
            have e2 : (d.al.take i ++ [x.1]).length = i + 1 := by rw [List.length_append, HL.out]; rfl
            have e3 : svals (d.al.take i) ++ [.string x.1] = svals (d.al.take i ++ [x.1]) := by simp [svals]
            unfold ialias
            rw [HT.out, e2, ← e3]
            exact h1
           go_roundg (d.uses.length - (i + 1))
           case measure => omega
           case rel => exact ⟨i + 1, A2, ca2, hil, rfl, by first | rfl | simp, hM3.tail⟩
          ·have hii : ¬ (i : Int) < (d.uses.length : Int) := by omega
           obtain rfl : i = d.uses.length := by omega
           have hta : d.al.take d.uses.length = d.al := by rw [← al_len, List.take_length]
           rw [hta] at hM
           clear hta hi hil
           have hals : ∀ x ∈ d.al, x.size ≤ 1000000 := fun x hx => by
            obtain ⟨y, hy, rfl⟩ := List.mem_map.1 hx
            exact (hB.us y hy).1
           have hall := al_len d
           have HTS := hid (fun V (h : Strs V A d.al) => twiceS_any A c d.al (by omega) hals V h)
           rw [al_len] at HTS
           have HTR2 := hid (fun V (h : Prs V ra d.reveal) => twiceR_any ra rc d.reveal hrl hB.rv V h)
           have HUS : Hid (∀ s V, Hp [] w [ialias (.slice A d.uses.length c) d.al, iblk ga 55 [.slice A d.uses.length c], iblk g 29 (polcs d ⟨ua, uc, ra, rc, na, nc⟩)] V → Calls Tryz.prog 85 #[.string s, pptr ga] V fun e w' => e = .returned (.bool (memD s d.al)) ∧ w' = V) := hid fun s V h => by
            have h9 := h.row 0 rfl
            refine used_any s ga A c d.al (by omega) (by omega) V ?_ ?_
            ·rw [al_len]; exact (h.blk 1 rfl).cell 0
            ·rw [al_len] at h9 ⊢; exact h9
           clear hals
           generalize twiceP [] d.al = b1 at *
           generalize twiceP [] d.reveal = b2 at *
           have ca : wr.cell? ⟨ga, 0, none⟩ = some (.slice A d.uses.length c) := (hM.blk 1 rfl).cell 0
           obtain ⟨p0, p1, p2, p3, p4, p5, p6, p7⟩ := (hM.blk 2 rfl).get8
           simp only at p0 p1 p2 p3 p4 p5 p6 p7
           go_wp2_with fail
           refine (HTS.out wr (strs_row (by have h9 := hM.row 0 rfl; rw [al_len] at h9 ⊢; exact h9))).mono ?_
           rintro e w6 ⟨rfl, hb6⟩
           have hM1 := hM.next hb6
           clear hM hb6 ca p0 p1 p2 p3 p4 p5 p6 p7 HTS
           obtain ⟨p0, p1, p2, p3, p4, p5, p6, p7⟩ := (hM1.blk 2 rfl).get8
           simp only at p0 p1 p2 p3 p4 p5 p6 p7
           cases b1 with
           | true =>
            have HR : Hid (checkP d = 8) := hid (by rw [HV5.out, if_pos (.inl rfl)])
            go_wp2_with fail
            go_ret
            rw [HR.out]
            exact ⟨rfl, by first | exact hM1.below0 | (subst hg; exact hM1.below0)⟩
           | false =>
            go_wp2_with fail
            refine (HTR2.out w6 (hrv.up hM1.below0)).mono ?_
            rintro e w7 ⟨rfl, hb7⟩
            have hM2 := hM1.next hb7
            clear hM1 hb7 p0 p1 p2 p3 p4 p5 p6 p7 HTR2
            obtain ⟨p0, p1, p2, p3, p4, p5, p6, p7⟩ := (hM2.blk 2 rfl).get8
            simp only at p0 p1 p2 p3 p4 p5 p6 p7
            cases b2 with
            | true =>
             have HR : Hid (checkP d = 8) := hid (by rw [HV5.out, if_pos (.inr rfl)])
             go_wp2_with fail
             go_ret
             rw [HR.out]
             exact ⟨rfl, by first | exact hM2.below0 | (subst hg; exact hM2.below0)⟩
            | false =>
             have HV6 := hid (HV5.out.trans (if_neg (by simp)))
             clear HV5
             go_upto_region 20 with fail
             clear p0 p1 p2 p3 p4 p5 p6 p7
             go_loopg [84] d.reveal.length (fun m s84 wx => ∃ i : Nat, i ≤ d.reveal.length ∧ m = d.reveal.length - i ∧ s84 = .int .i64 (i : Int) ∧ Hp [] w [ialias (.slice A d.uses.length c) d.al, iblk ga 55 [.slice A d.uses.length c], iblk g 29 (polcs d ⟨ua, uc, ra, rc, na, nc⟩)] wx ∧ Hid ((d.reveal.take i).all (fun x => memD x.1 d.al) = true))
             case atStart => exact ⟨0, Nat.zero_le _, rfl, rfl, hM2, hid rfl⟩
             case round =>
              obtain ⟨i, hi, rfl, rfl, hM, HE⟩ := hrel
              clear hM2
              by_cases hil : i < d.reveal.length
              ·have hii : (i : Int) < (d.reveal.length : Int) := by omega
               have hi0 : (0 : Int) ≤ (i : Int) := by omega
               obtain ⟨x, hx⟩ : ∃ x, d.reveal[i]? = some x := ⟨_, List.getElem?_eq_getElem hil⟩
               obtain ⟨ad, hA, hx1, hx2⟩ := (hrv.up hM.below0).cells hx
               subst hA
               have HT : Hid ((d.reveal.take (i + 1)).all (fun x => memD x.1 d.al) = memD x.1 d.al) := hid (by rw [zbb hx, List.all_append, HE.out]; simp)
               have HBad : Hid (memD x.1 d.al = false → d.reveal.all (fun x => memD x.1 d.al) = false) := hid fun h => by
                rw [Bool.eq_false_iff]
                intro h9
                have := List.all_eq_true.1 h9 x (List.mem_of_getElem? hx)
                rw [h] at this; cases this
               have hM1 := (hM.new 89 [.string x.1, .string x.2]).perm (List.perm_append_comm (l₁ := [_]) (l₂ := [_, _, _]))
               obtain ⟨gx, hgx⟩ : ∃ y, wr.heap.size = y := ⟨_, rfl⟩
               rw [hgx] at hM1
               clear hx hM
               go_upto_region 22 with fail
               try simp only [hgx]
               have hM1 : Hp [] w ([ialias (.slice A d.uses.length c) d.al, iblk ga 55 [.slice A d.uses.length c], iblk g 29 (polcs d ⟨ua, uc, some ad, rc, na, nc⟩)] ++ [iblk gx 89 [.string x.1, .string x.2]]) (wr.alloc (.cells #[.string x.1, .string x.2] 89)) := hM1
               clear hx1 hx2
               generalize wr.alloc (.cells #[.string x.1, .string x.2] 89) = wa at *
               clear hgx
               obtain ⟨c0, c1⟩ := (hM1.blk 3 rfl).get2
               have HC := hid (HUS.out x.1 wa hM1.sub)
               generalize memD x.1 d.al = bm at *
               go_wp2_with fail
               refine HC.out.mono ?_
               rintro e w8 ⟨rfl, hw⟩
               subst hw
               cases bm with
               | false =>
                have HR : Hid (checkP d = 9) := hid (by rw [HV6.out, if_pos (HBad.out rfl)])
                go_wp2_with fail
                go_ret
                rw [HR.out]
                exact ⟨rfl, by first | exact hM1.below0 | (subst hg; exact hM1.below0)⟩
               | true =>
                go_wp2_with fail
                go_roundg (d.reveal.length - (i + 1))
                case measure => omega
                case rel => exact ⟨i + 1, hil, rfl, by first | rfl | simp, hM1.sub, hid HT.out⟩
              ·have hii : ¬ (i : Int) < (d.reveal.length : Int) := by omega
               have HV7 := hid (HV6.out.trans (if_neg (by rw [← (List.take_of_length_le (by omega : d.reveal.length ≤ i) : d.reveal.take i = d.reveal), HE.out]; simp)))
               clear HV6 HE
               obtain ⟨p0, p1, p2, p3, p4, p5, p6, p7⟩ := (hM.blk 2 rfl).get8
               simp only at p0 p1 p2 p3 p4 p5 p6 p7
               go_upto_region 26 with fail
               clear p0 p1 p2 p3 p4 p5 p6 p7 hii hi hil
               go_loopg [97] d.nodes.length (fun m s97 wx => ∃ i : Nat, i ≤ d.nodes.length ∧ m = d.nodes.length - i ∧ s97 = .int .i64 (i : Int) ∧ Hp [] w [ialias (.slice A d.uses.length c) d.al, iblk ga 55 [.slice A d.uses.length c], iblk g 29 (polcs d ⟨ua, uc, ra, rc, na, nc⟩)] wx ∧ Hid ((d.nodes.take i).all (fun n => !decide (n.kind = 9) || memD n.name d.al) = true))
               case atStart => exact ⟨0, Nat.zero_le _, rfl, rfl, hM, hid rfl⟩
               case round =>
                obtain ⟨k, hk9, rfl, rfl, hN, HE⟩ := hrel
                clear hM
                by_cases hil : k < d.nodes.length
                ·have hii : (k : Int) < (d.nodes.length : Int) := by omega
                 have hi0 : (0 : Int) ≤ (k : Int) := by omega
                 obtain ⟨n, hn⟩ : ∃ n, d.nodes[k]? = some n := ⟨_, List.getElem?_eq_getElem hil⟩
                 obtain ⟨ad, KA, kc, hA, hN0⟩ := (hns.up hN.below0).at_ k n hn
                 subst hA
                 have HT : Hid ((d.nodes.take (k + 1)).all (fun n => !decide (n.kind = 9) || memD n.name d.al) = (!decide (n.kind = 9) || memD n.name d.al)) := hid (by rw [zbb hn, List.all_append, HE.out]; simp)
                 have HBad : Hid ((!decide (n.kind = 9) || memD n.name d.al) = false → d.nodes.all (fun n => !decide (n.kind = 9) || memD n.name d.al) = false) := hid fun h => by
                  rw [Bool.eq_false_iff]
                  intro h9
                  have := List.all_eq_true.1 h9 n (List.mem_of_getElem? hn)
                  rw [h] at this; cases this
                 have hN1 := (hN.new 68 (nkcs n KA kc)).perm (List.perm_append_comm (l₁ := [_]) (l₂ := [_, _, _]))
                 obtain ⟨gx, hgx⟩ : ∃ y, wr.heap.size = y := ⟨_, rfl⟩
                 rw [hgx] at hN1
                 have d0 := hN0.kind
                 have d1 := hN0.num
                 have d2 := hN0.name
                 have d3 := hN0.attr
                 have d4 := hN0.kids
                 have d5 := hN0.at_
                 clear hn hN
                 go_upto_region 28 with fail
                 try simp only [hgx]
                 have hN1 : Hp [] w ([ialias (.slice A d.uses.length c) d.al, iblk ga 55 [.slice A d.uses.length c], iblk g 29 (polcs d ⟨ua, uc, ra, rc, some ad, nc⟩)] ++ [iblk gx 68 (nkcs n KA kc)]) (wr.alloc (.cells #[.int .i64 n.kind, .int .i64 n.num, .string n.name, .string n.attr, .slice KA n.kids.length kc, .int .i64 n.at_] 68)) := hN1
                 clear d0 d1 d2 d3 d4 d5 hN0
                 generalize wr.alloc (.cells #[.int .i64 n.kind, .int .i64 n.num, .string n.name, .string n.attr, .slice KA n.kids.length kc, .int .i64 n.at_] 68) = wa at *
                 clear hgx
                 obtain ⟨d0, d1, d2, d3, d4, d5⟩ := (hN1.blk 3 rfl).get6
                 cases h9 : decide (n.kind = 9) with
                 | false =>
                  have k9 : (n.kind == 9) = false := by rw [ieq, h9]
                  rw [h9] at HT
                  clear h9
                  go_wp2_with fail
                  go_roundg (d.nodes.length - (k + 1))
                  case measure => omega
                  case rel => exact ⟨k + 1, hil, rfl, by first | rfl | simp, hN1.sub, hid HT.out⟩
                 | true =>
                  have k9 : (n.kind == 9) = true := by rw [ieq, h9]
                  rw [h9] at HT HBad
                  clear h9
                  have HC := hid (HUS.out n.name wa hN1.sub)
                  generalize memD n.name d.al = bm at *
                  go_wp2_with fail
                  refine HC.out.mono ?_
                  rintro e w8 ⟨rfl, hw⟩
                  subst hw
                  cases bm with
                  | false =>
                   have HR : Hid (checkP d = 9) := hid (by rw [HV7.out, if_pos (HBad.out rfl)])
                   go_wp2_with fail
                   go_ret
                   rw [HR.out]
                   exact ⟨rfl, by first | exact hN1.below0 | (subst hg; exact hN1.below0)⟩
                  | true =>
                   go_wp2_with fail
                   go_roundg (d.nodes.length - (k + 1))
                   case measure => omega
                   case rel => exact ⟨k + 1, hil, rfl, by first | rfl | simp, hN1.sub, hid HT.out⟩
                ·have hii : ¬ (k : Int) < (d.nodes.length : Int) := by omega
                 have HR : Hid (checkP d = 0) := hid (by rw [HV7.out, if_neg (by rw [← (List.take_of_length_le (by omega : d.nodes.length ≤ k) : d.nodes.take k = d.nodes), HE.out]; simp)])
                 go_wp2_with fail
                 go_ret
                 rw [HR.out]
                 exact ⟨rfl, by first | exact hN.below0 | (subst hg; exact hN.below0)⟩
end Go.Proofs.YtekkapgknohadaaGreatDoor
