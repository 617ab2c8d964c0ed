/- typing.ready. -/
import Derived.Test.YtekkapgknohadaaGreatDoorM3
import Derived.Test.YtekkapgknohadaaGreatDoorM27
import Derived.Deep.CutBlock
set_option linter.unusedVariables false
set_option maxRecDepth 20000
set_option maxHeartbeats 16000000
namespace Go.Proofs.YtekkapgknohadaaGreatDoor.Nf
open Go.RowKit Go.Shelf
open Lib (hid)
def chkB (m : Sm) : Bool := decide (schemaE m.name m.fields = 0)
def ReadyOut (v : Value) (b : Bool) (e : Ending) : Prop := ∃ y, e = .returned (.tuple #[v, .int .i64 y]) ∧ (y = 0 ↔ b = true)
abbrev zP9 : List Value := [.string ⟨#[]⟩, .slice none 0 0, .slice none 0 0, .slice none 0 0, .int .i64 0, .string ⟨#[]⟩, .int .i64 0, .string ⟨#[]⟩, .slice none 0 0]
theorem named_ok {w0 : World} {O : Option Sm} {e : Ending} (h : NamedOut w0 O e) : ∃ s FA n c, e = .returned (.tuple #[.agg #[.string s, .slice FA n c], .bool O.isSome]) := by
 cases O with
 | none => exact ⟨_, _, _, _, h⟩
 | some m => obtain ⟨FA, c, h1, -⟩ := h; exact ⟨_, _, _, _, h1⟩
theorem all_take {α : Type} {p : α → Bool} {l : List α} {i : Nat} {x : α} (h : l[i]? = some x) : (l.take (i + 1)).all p = ((l.take i).all p && p x) := by
 rw [zbb h, List.all_append]; simp
theorem all_bad {α : Type} {p : α → Bool} {l : List α} {i : Nat} {x : α} (h : l[i]? = some x) (hp : p x = false) : l.all p = false := by
 rw [Bool.eq_false_iff]
 intro h9
 have := List.all_eq_true.1 h9 x (List.mem_of_getElem? h)
 rw [hp] at this; cases this
theorem ready_any (d : Po) (L : Lp) (A : Option Addr) (c : Nat) (S : List Sm) (hL : S.length ≤ 1000000) (hcap : S.length ≤ c) (hB : ∀ m ∈ S, MBd m) (hD : PBd d) (w0 w : World) (hS : Schs w0 A S) (hP : PolM w0 d L) (h0 : Below w0.heap.size w0 w) :
 Calls Tryz.prog 87 #[polV d L, .slice A S.length c] w fun e w' => ReadyOut (fitV d L A S.length c) (za9 chkB S d) e ∧ Below w.heap.size w w' := by
 have hk := ((((Hp.start w).new 29 (polcs d L)).new 172 zP9).new 172 (fitC d L A S.length c))
 obtain ⟨g, hg⟩ : ∃ g, w.heap.size = g := ⟨_, rfl⟩
 simp only [sizeA, hg] at hk
 have HU := hid hD.ul
 obtain ⟨R, hR⟩ : ∃ R, za9 chkB S d = R := ⟨_, rfl⟩
 have HR : Hid ((decide (checkP d = 0) && S.all chkB && distL [] S && d.uses.all fun u => (zba S u.2).isSome) = R) := hid hR
 rw [hR]
 clear hR
 go_enter Tryz.func87, Tryz.ntmps87
 go_upto_region 2 with fail
 obtain ⟨q, hq⟩ : ∃ f, g + 1 = f := ⟨_, rfl⟩
 obtain ⟨h, hh⟩ : ∃ f, q + 1 = f := ⟨_, rfl⟩
 simp only [hq, hh] at hk ⊢
 generalize hW : ((w.alloc (.cells #[.string d.name, .slice L.ua d.uses.length L.uc, .slice L.ra d.reveal.length L.rc, .slice L.na d.nodes.length L.nc, .int .i64 d.root, .string d.scope, .int .i64 d.limit, .string d.escrow] 29)).alloc (.cells #[.string ⟨#[]⟩, .slice none 0 0, .slice none 0 0, .slice none 0 0, .int .i64 0, .string ⟨#[]⟩, .int .i64 0, .string ⟨#[]⟩, .slice none 0 0] 172)).alloc (.cells #[.string d.name, .slice L.ua d.uses.length L.uc, .slice L.ra d.reveal.length L.rc, .slice L.na d.nodes.length L.nc, .int .i64 d.root, .string d.scope, .int .i64 d.limit, .string d.escrow, .slice A S.length c] 172) = W1 at *
 have hk0 : Hp [] w [iblk h 172 (fitC d L A S.length c), iblk q 172 zP9, iblk g 29 (polcs d L)] W1 := hk
 clear hk hW hq hh
 have HC := hid (zb5 d L hD W1 ((hP.up h0).up hk0.below0))
 obtain ⟨c0, c1, c2, c3, c4, c5, c6, c7⟩ := (hk0.blk 2 rfl).get8
 obtain ⟨E, hE⟩ : ∃ E, checkP d = E := ⟨_, rfl⟩
 rw [hE] at HC HR
 clear hE
 go_wp2_with fail
 refine HC.out.mono ?_
 rintro e w2 ⟨rfl, hb2⟩
 have hk2 := hk0.next hb2
 clear HC hk0 hb2 c0 c1 c2 c3 c4 c5 c6 c7
 cases hE : (E != 0) with
 | true =>
   have hE0 : ¬ E = 0 := by simpa using hE
   obtain ⟨l0, l1, l2, l3, l4, l5, l6, l7, l8⟩ := blk9 (hk2.blk 0 rfl)
   go_wp2_with (refine wpList_store_row rfl 172 (.tmp 4) (.tmp 26) rfl q (fitC d L A S.length c).toArray rfl rfl 172 zP9.toArray (hk2.blk 1 rfl) (by kernel_rfl) (by kernel_rfl) (by kernel_rfl) ?_)
   have hK9 := hk2.rowAt 1 rfl (fitC d L A S.length c)
   obtain ⟨m0, m1, m2, m3, m4, m5, m6, m7, m8⟩ := blk9 (hK9.blk 1 rfl)
   refine bodyPost_ret (v := .tuple #[fitV d L A S.length c, .int .i64 E]) (by simp [results, Tryz.results87, go_sem, m0, m1, m2, m3, m4, m5, m6, m7, m8]) rfl ?_
   have hb : Below w.heap.size w _ := hK9.below0
   refine ⟨⟨E, rfl, ?_⟩, by first | exact hb | (subst hg; exact hb)⟩
   rw [← HR.out, decide_eq_false hE0]; simpa using hE0
 | false =>
   have hE0 : E = 0 := by simpa using hE
   subst hE0
   have HR1 : Hid ((S.all chkB && distL [] S && d.uses.all fun u => (zba S u.2).isSome) = R) := hid (by rw [← HR.out]; simp)
   clear HR
   go_upto_region 6 with fail
   clear hE
   go_loopg [30] S.length (fun m s30 wx => ∃ i : Nat, i ≤ S.length ∧ m = S.length - i ∧ s30 = .int .i64 (i : Int) ∧ Hp [] w [iblk h 172 (fitC d L A S.length c), iblk q 172 zP9, iblk g 29 (polcs d L)] wx ∧ Hid ((S.take i).all chkB = true))
   case atStart => exact ⟨0, Nat.zero_le _, rfl, rfl, hk2, hid rfl⟩
   case round =>
    obtain ⟨i, hi, rfl, rfl, hM, HE⟩ := hrel
    clear hk2
    by_cases hil : i < S.length
    ·have hii : (i : Int) < (S.length : Int) := by omega
     have hi0 : (0 : Int) ≤ (i : Int) := by omega
     obtain ⟨m, hm⟩ : ∃ m, S[i]? = some m := ⟨_, List.getElem?_eq_getElem hil⟩
     obtain ⟨ad, FA, fc, rfl, c0, c1, hF⟩ := ((hS.up h0).up hM.below0).at_ i m hm
     have HT := hid (all_take (p := chkB) hm)
     have HB := hid (fun h => all_bad (p := chkB) hm h)
     have hmb := (hB m (List.mem_of_getElem? hm)).sbd
     have hM1 := hM.new 53 [.string m.name, .slice FA m.fields.length fc]
     have hb9 := (Below.refl wr.heap.size wr).alloc (Nat.le_refl _) (.cells #[.string m.name, .slice FA m.fields.length fc] 53)
     have hF1 := hF.up hb9
     clear hm hF hb9
     go_upto_region 8 with fail
     generalize wr.alloc (.cells #[.string m.name, .slice FA m.fields.length fc] 53) = W2 at *
     generalize wr.heap.size = g2 at *
     clear c0 c1 hM
     have d0 := (hM1.blk 0 rfl).cell 0
     have d1 := (hM1.blk 0 rfl).cell 1
     simp only [List.getElem?_cons_zero, List.getElem?_cons_succ] at d0 d1
     have HC := hid (check_any m.name FA fc m.fields hmb W2 hF1)
     have hce : Hid (chkB m = decide (schemaE m.name m.fields = 0)) := hid rfl
     generalize schemaE m.name m.fields = E at *
     go_wp2_with fail
     refine HC.out.mono ?_
     rintro e w4 ⟨rfl, hb4⟩
     have hM4 := hM1.next hb4
     clear HC hM1 hb4 hF1 d0 d1
     cases hE : (E != 0) with
     | true =>
       have hE0 : ¬ E = 0 := by simpa using hE
       obtain ⟨l0, l1, l2, l3, l4, l5, l6, l7, l8⟩ := blk9 (hM4.blk 1 rfl)
       go_wp2_with (refine wpList_store_row rfl 172 (.tmp 4) (.tmp 38) rfl q (fitC d L (some ad) S.length c).toArray rfl rfl 172 zP9.toArray (hM4.blk 2 rfl) (by kernel_rfl) (by kernel_rfl) (by kernel_rfl) ?_)
       have hK9 := hM4.rowAt 2 rfl (fitC d L (some ad) S.length c)
       obtain ⟨m0, m1, m2, m3, m4, m5, m6, m7, m8⟩ := blk9 (hK9.blk 2 rfl)
       refine bodyPost_ret (v := .tuple #[fitV d L (some ad) S.length c, .int .i64 E]) (by simp [results, Tryz.results87, go_sem, m0, m1, m2, m3, m4, m5, m6, m7, m8]) rfl ?_
       have hb : Below w.heap.size w _ := hK9.below0
       refine ⟨⟨E, rfl, ?_⟩, by first | exact hb | (subst hg; exact hb)⟩
       rw [← HR1.out, HB.out (by rw [hce.out, decide_eq_false hE0])]; simpa using hE0
     | false =>
       have hE0 : E = 0 := by simpa using hE
       have HE2 : Hid ((S.take (i + 1)).all chkB = true) := hid (by rw [HT.out, HE.out, hce.out, decide_eq_true hE0]; rfl)
       clear hE0 hce HB HT HE
       go_wp2_with fail
       go_roundg (S.length - (i + 1))
       case measure => omega
       case rel => exact ⟨i + 1, hil, rfl, by first | rfl | simp, hM4.tail, HE2⟩
    ·have hii : ¬ (i : Int) < (S.length : Int) := by omega
     have HR2 : Hid ((distL [] S && d.uses.all fun u => (zba S u.2).isSome) = R) := hid (by
      have := HE.out
      rw [List.take_of_length_le (by omega)] at this
      rw [← HR1.out, this]; rfl)
     clear HE HR1
     go_upto_region 13 with fail
     clear hii hil hi
     have hk2 := hM
     clear hM
     go_loopg [43] S.length (fun m s43 wx => ∃ i : Nat, i ≤ S.length ∧ m = S.length - i ∧ s43 = .int .i64 (i : Int) ∧ Hp [] w [iblk h 172 (fitC d L A S.length c), iblk q 172 zP9, iblk g 29 (polcs d L)] wx ∧ Hid (distL [] S = distL (S.take i) (S.drop i)))
     case atStart => exact ⟨0, Nat.zero_le _, rfl, rfl, hk2, hid rfl⟩
     case round =>
      obtain ⟨i, hi, rfl, rfl, hM, HE⟩ := hrel
      clear hk2
      by_cases hil : i < S.length
      ·have hii : (i : Int) < (S.length : Int) := by omega
       have hi0 : (0 : Int) ≤ (i : Int) := by omega
       have hic : (i : Int) ≤ (c : Int) := by omega
       obtain ⟨m, hm⟩ : ∃ m, S[i]? = some m := ⟨_, List.getElem?_eq_getElem hil⟩
       obtain ⟨ad, FA, fc, rfl, c0, c1, hF⟩ := ((hS.up h0).up hM.below0).at_ i m hm
       have HT : Hid (distL [] S = ((zba (S.take i) m.name).isNone && distL (S.take (i + 1)) (S.drop (i + 1)))) := hid (by rw [HE.out, zc7 hm, distL, zbb hm])
       have hM1 := hM.new 53 [.string m.name, .slice FA m.fields.length fc]
       clear hm hF HE
       go_upto_region 15 with fail
       generalize wr.alloc (.cells #[.string m.name, .slice FA m.fields.length fc] 53) = W2 at *
       generalize wr.heap.size = g2 at *
       clear c0 c1 hM
       have hlt : (S.take i).length = i := by rw [List.length_take]; omega
       have HN := hid (fun (W : World) (hb : Below w.heap.size w W) => zbx (some ad) c (S.take i) m.name (by omega) w0 W (hS.take i) (h0.trans (hb.mono h0.size)))
       rw [hlt] at HN
       obtain ⟨O, hO⟩ : ∃ O, zba (S.take i) m.name = O := ⟨_, rfl⟩
       rw [hO] at HN HT
       clear hO hlt
       have hD2 := hM1.drew
       have d0 := (hM1.blk 0 rfl).cell 0
       obtain ⟨l0, l1, l2, l3, l4, l5, l6, l7, l8⟩ := blk9 (hM1.blk 1 rfl)
       simp only [List.getElem?_cons_zero] at d0
       go_cut [13, 14] from 48 to 57 (fun s13 s14 wx => s14 = .bool O.isSome ∧ Hp [] w [iblk h 172 (fitC d L (some ad) S.length c), iblk q 172 zP9, iblk g 29 (polcs d L)] wx)
       case first => as_aux_lemma =>
        refine wp_region_held_drew (S := (fun w' => w'.cell? ⟨h, 8, none⟩ = some (.slice (some ad) S.length c) ∧ w'.cell? ⟨g2, 0, none⟩ = some (.string m.name))) (by kernel_rfl) ?_ (fun hHeld => ?_)
        ·exact ⟨l8, d0⟩
        refine tk2 0 rfl ?_
        try simp only [Act.put, tS1, tS2, tS4, tS5, tS6]
        refine tk2 1 rfl ?_
        try simp only [Act.put, tS1, tS2, tS3, tS4, tS5, tS6]
        refine tk2 2 rfl ?_
        try simp only [Act.put, tS1, tS2, tS3, tS4, tS5, tS6]
        refine tk2 3 rfl ?_
        try simp only [Act.put, tS1, tS2, tS3, tS4, tS5, tS6]
        refine tk2 4 rfl ?_
        try simp only [Act.put, tS1, tS2, tS3, tS4, tS5, tS6]
        refine tk2 5 rfl ?_
        try simp only [Act.put, tS1, tS2, tS3, tS4, tS5, tS6]
        refine tkR [6, 10] ?_
        refine AllReadyH.cons rfl (fun K hK => ?_) ?_
        ·go_simp
         refine (HN.out _ hD2.below0).mono ?_
         rintro e w3 ⟨hno, hb3⟩
         obtain ⟨x, YA, yn, yc, rfl⟩ := named_ok hno
         have hk3 := hD2.next hb3
         refine hK.out _ _ ⟨(hk3.blk 1 rfl).cell 8, (hk3.blk 0 rfl).cell 0⟩ fun hHeld => ?_
         clear hK K
         refine tk2 7 rfl ?_
         try simp only [Act.put, tS1, tS2, tS3, tS4, tS5, tS6]
         refine tk2 8 rfl ?_
         try simp only [Act.put, tS1, tS2, tS3, tS4, tS5, tS6]
         refine tk2 9 rfl ?_
         try simp only [Act.put, tS1, tS2, tS3, tS4, tS5, tS6]
         refine tkO 10 rfl fun K hK => ?_
         go_simp
         have hA := hk3.new 53 zS
         refine hK.out _ _ ⟨(hA.blk 2 rfl).cell 8, (hA.blk 1 rfl).cell 0⟩ fun hHeld => ?_
         clear hK K
         refine tkO 11 rfl fun K hK => ?_
         rw [if_pos (by rfl)]
         refine wp_store_row 53 (.tmp 13) (.tmp 56) (by rfl) w3.heap.size #[.string x, .slice YA yn yc] (by rfl) (by rfl) 53 zS.toArray (hA.blk 0 rfl) (by kernel_rfl) (by kernel_rfl) (by kernel_rfl) ?_
         have hZ := hA.rowAt 0 rfl [.string x, .slice YA yn yc]
         refine hK.out _ _ ⟨(hZ.blk 2 rfl).cell 8, (hZ.blk 1 rfl).cell 0⟩ fun hHeld => ?_
         clear hK K
         refine tk2 12 rfl ?_
         try simp only [Act.put, tS1, tS2, tS3, tS4, tS5, tS6]
         refine wpAnyH_done (by kernel_rfl) ?_ _
         go_wp2_with fail
         go_meet
         exact ⟨rfl, hZ.tail.tail⟩
        refine AllReadyH.cons rfl (fun K hK => ?_) ?_
        ·go_simp
         have hA := (hM1.new 53 zS).drew
         refine hK.out _ _ ⟨(hA.blk 2 rfl).cell 8, (hA.blk 1 rfl).cell 0⟩ fun hHeld => ?_
         clear hK K
         refine tkO 6 rfl fun K hK => ?_
         go_simp
         refine (HN.out _ hA.below0).mono ?_
         rintro e w3 ⟨hno, hb3⟩
         obtain ⟨x, YA, yn, yc, rfl⟩ := named_ok hno
         have hk3 := hA.next hb3
         refine hK.out _ _ ⟨(hk3.blk 2 rfl).cell 8, (hk3.blk 1 rfl).cell 0⟩ fun hHeld => ?_
         clear hK K
         refine tk2 7 rfl ?_
         try simp only [Act.put, tS1, tS2, tS3, tS4, tS5, tS6]
         refine tk2 8 rfl ?_
         try simp only [Act.put, tS1, tS2, tS3, tS4, tS5, tS6]
         refine tk2 9 rfl ?_
         try simp only [Act.put, tS1, tS2, tS3, tS4, tS5, tS6]
         refine tkO 11 rfl fun K hK => ?_
         rw [if_pos (by rfl)]
         refine wp_store_row 53 (.tmp 13) (.tmp 56) (by rfl) W2.heap.size #[.string x, .slice YA yn yc] (by rfl) (by rfl) 53 zS.toArray (hk3.blk 0 rfl) (by kernel_rfl) (by kernel_rfl) (by kernel_rfl) ?_
         have hZ := hk3.rowAt 0 rfl [.string x, .slice YA yn yc]
         refine hK.out _ _ ⟨(hZ.blk 2 rfl).cell 8, (hZ.blk 1 rfl).cell 0⟩ fun hHeld => ?_
         clear hK K
         refine tk2 12 rfl ?_
         try simp only [Act.put, tS1, tS2, tS3, tS4, tS5, tS6]
         refine wpAnyH_done (by kernel_rfl) ?_ _
         go_wp2_with fail
         go_meet
         exact ⟨rfl, hZ.tail.tail⟩
        exact AllReadyH.nil
       case rest => as_aux_lemma =>
        obtain ⟨rfl, hM3⟩ := hcut
        clear hM1 hD2 d0 l0 l1 l2 l3 l4 l5 l6 l7 l8 HN
        cases O with
        | some x =>
          have HF : Hid (distL [] S = false) := hid (by rw [HT.out]; rfl)
          obtain ⟨l0, l1, l2, l3, l4, l5, l6, l7, l8⟩ := blk9 (hM3.blk 0 rfl)
          go_wp2_with (refine wpList_store_row rfl 172 (.tmp 4) (.tmp 59) rfl q (fitC d L (some ad) S.length c).toArray rfl rfl 172 zP9.toArray (hM3.blk 1 rfl) (by kernel_rfl) (by kernel_rfl) (by kernel_rfl) ?_)
          have hK9 := hM3.rowAt 1 rfl (fitC d L (some ad) S.length c)
          obtain ⟨m0, m1, m2, m3, m4, m5, m6, m7, m8⟩ := blk9 (hK9.blk 1 rfl)
          refine bodyPost_ret (v := .tuple #[fitV d L (some ad) S.length c, .int .i64 8]) (by simp [results, Tryz.results87, go_sem, m0, m1, m2, m3, m4, m5, m6, m7, m8]) rfl ?_
          have hb : Below w.heap.size w _ := hK9.below0
          refine ⟨⟨8, rfl, ?_⟩, by first | exact hb | (subst hg; exact hb)⟩
          rw [← HR2.out, HF.out]; simp
        | none =>
          have HE2 : Hid (distL [] S = distL (S.take (i + 1)) (S.drop (i + 1))) := hid (by rw [HT.out]; rfl)
          clear HT
          go_wp2_with fail
          go_roundg (S.length - (i + 1))
          case measure => omega
          case rel => exact ⟨i + 1, hil, rfl, by first | rfl | simp, hM3, HE2⟩
      ·have hii : ¬ (i : Int) < (S.length : Int) := by omega
       have HR3 : Hid ((d.uses.all fun u => (zba S u.2).isSome) = R) := hid (by
        have := HE.out
        rw [List.drop_of_length_le (by omega), distL] at this
        rw [← HR2.out, this]; rfl)
       clear HE HR2
       have c1 : wr.cell? ⟨g, 1, none⟩ = some (.slice L.ua d.uses.length L.uc) := (hM.blk 2 rfl).cell 1
       go_upto_region 20 with fail
       clear hii hil hi c1
       go_loopg [64] d.uses.length (fun m s64 wx => ∃ i : Nat, i ≤ d.uses.length ∧ m = d.uses.length - i ∧ s64 = .int .i64 (i : Int) ∧ Hp [] w [iblk h 172 (fitC d L A S.length c), iblk q 172 zP9, iblk g 29 (polcs d L)] wx ∧ Hid ((d.uses.take i).all (fun u => (zba S u.2).isSome) = true))
       case atStart => exact ⟨0, Nat.zero_le _, rfl, rfl, hM, hid rfl⟩
       case round =>
        obtain ⟨i, hi, rfl, rfl, hK, HE⟩ := hrel
        clear hM
        by_cases hil : i < d.uses.length
        ·have hii : (i : Int) < (d.uses.length : Int) := by omega
         have hi0 : (0 : Int) ≤ (i : Int) := by omega
         have hul := HU.out
         obtain ⟨⟨x1, x2⟩, hx⟩ : ∃ x, d.uses[i]? = some x := ⟨_, List.getElem?_eq_getElem hil⟩
         obtain ⟨ua, uc, ra, rc, na, nc⟩ := L
         obtain ⟨ad, hA, ca, cb⟩ := ((hP.up h0).up hK.below0).us.at_ i _ hx
         change ua = some ad at hA
         subst hA
         have HT := hid (all_take (p := fun (u : Bp) => (zba S u.2).isSome) hx)
         have HB := hid (fun h => all_bad (p := fun (u : Bp) => (zba S u.2).isSome) hx h)
         have hK1 := hK.new 50 [.string x1, .string x2]
         have l8 := (hK.blk 0 rfl).cell 8
         simp only [List.getElem?_cons_zero, List.getElem?_cons_succ] at l8
         simp only at ca cb HT HB
         clear hx
         have c1 := (hK.blk 2 rfl).cell 1
         simp only [List.getElem?_cons_zero, List.getElem?_cons_succ] at c1
         go_upto_region 22 with fail
         generalize wr.alloc (.cells #[.string x1, .string x2] 50) = W2 at *
         generalize wr.heap.size = g2 at *
         clear ca cb hK l8 c1
         have v1 := (hK1.blk 0 rfl).cell 1
         have l8 := (hK1.blk 1 rfl).cell 8
         simp only [List.getElem?_cons_zero, List.getElem?_cons_succ] at l8 v1
         have HN := hid (zbx A c S x2 hL w0 W2 hS (h0.trans (hK1.below0.mono h0.size)))
         obtain ⟨O, hO⟩ : ∃ O, zba S x2 = O := ⟨_, rfl⟩
         rw [hO] at HN HT HB
         clear hO
         go_wp2_with fail
         refine HN.out.mono ?_
         rintro e w4 ⟨hno, hb4⟩
         obtain ⟨x, YA, yn, yc, rfl⟩ := named_ok hno
         have hK2 := hK1.next hb4
         have hK3 := hK2.new 53 [.string x, .slice YA yn yc]
         clear HN hK1 hb4 v1 l8 hno
         cases O with
         | none =>
           have HF : Hid ((d.uses.all fun u => (zba S u.2).isSome) = false) := hid (HB.out rfl)
           obtain ⟨l0, l1, l2, l3, l4, l5, l6, l7, l8⟩ := blk9 (hK3.blk 2 rfl)
           go_wp2_with (refine wpList_store_row rfl 172 (.tmp 4) (.tmp 78) rfl q (fitC d ⟨some ad, uc, ra, rc, na, nc⟩ A S.length c).toArray rfl rfl 172 zP9.toArray (hK3.blk 3 rfl) (by kernel_rfl) (by kernel_rfl) (by kernel_rfl) ?_)
           have hK9 := hK3.rowAt 3 rfl (fitC d ⟨some ad, uc, ra, rc, na, nc⟩ A S.length c)
           obtain ⟨m0, m1, m2, m3, m4, m5, m6, m7, m8⟩ := blk9 (hK9.blk 3 rfl)
           refine bodyPost_ret (v := .tuple #[fitV d ⟨some ad, uc, ra, rc, na, nc⟩ A S.length c, .int .i64 9]) (by simp [results, Tryz.results87, go_sem, m0, m1, m2, m3, m4, m5, m6, m7, m8]) rfl ?_
           have hb : Below w.heap.size w _ := hK9.below0
           refine ⟨⟨9, rfl, ?_⟩, by first | exact hb | (subst hg; exact hb)⟩
           rw [← HR3.out, HF.out]; simp
         | some m =>
           have HE2 : Hid ((d.uses.take (i + 1)).all (fun u => (zba S u.2).isSome) = true) := hid (by rw [HT.out, HE.out]; rfl)
           clear HT HB HE
           go_wp2_with fail
           go_roundg (d.uses.length - (i + 1))
           case measure => omega
           case rel => exact ⟨i + 1, hil, rfl, by first | rfl | simp, hK3.tail.tail, HE2⟩
        ·have hii : ¬ (i : Int) < (d.uses.length : Int) := by omega
         have HF : Hid (R = true) := hid (by
          have := HE.out
          rw [List.take_of_length_le (by omega)] at this
          rw [← HR3.out, this])
         clear HE
         obtain ⟨l0, l1, l2, l3, l4, l5, l6, l7, l8⟩ := blk9 (hK.blk 0 rfl)
         go_wp2_with (refine wpList_store_row rfl 172 (.tmp 4) (.tmp 80) rfl q (fitC d L A S.length c).toArray rfl rfl 172 zP9.toArray (hK.blk 1 rfl) (by kernel_rfl) (by kernel_rfl) (by kernel_rfl) ?_)
         have hK9 := hK.rowAt 1 rfl (fitC d L A S.length c)
         obtain ⟨m0, m1, m2, m3, m4, m5, m6, m7, m8⟩ := blk9 (hK9.blk 1 rfl)
         refine bodyPost_ret (v := .tuple #[fitV d L A S.length c, .int .i64 0]) (by simp [results, Tryz.results87, go_sem, m0, m1, m2, m3, m4, m5, m6, m7, m8]) rfl ?_
         have hb : Below w.heap.size w _ := hK9.below0
         refine ⟨⟨0, rfl, ?_⟩, by first | exact hb | (subst hg; exact hb)⟩
         simp [HF.out]
end Go.Proofs.YtekkapgknohadaaGreatDoor.Nf
