/-
  dominoref42.Parse. Printed by mkqrj.py.
-/
import Derived.Test.YtogmhaihmkcjgaaGreatDoorQrI
import Derived.Test.YtogmhaihmkcjgaaGreatDoorLxRX
import Derived.Test.YtogmhaihmkcjgaaGreatDoorPcJ
import Derived.Test.YtogmhaihmkcjgaaGreatDoorPbZ
namespace Go.Proofs.YtogmhaihmkcjgaaGreatDoor
open Go.RowKit Go.Shelf
set_option linter.unusedVariables false

theorem rscan_new (s : ByteArray) (ts : List Lx.Tok) (w : World) (hs : s.size ≤ 65536) (h : Lx.sc (tl s) = .ok ts) (h0 : 0 < ts.length) :
    Calls Tryz.prog 76 #[.string s] w fun e w' => ∃ g cap, e = .returned (.tuple #[.slice (some ⟨g, 0, none⟩) ts.length cap, .int .i64 0, .int .i64 0]) ∧ TokIn w' g ts ∧ ts.length ≤ cap ∧ w.heap.size ≤ g ∧ Below w.heap.size w w' :=
  (rscan_any s w hs).mono fun e w' hp => by
    unfold ScanPost at hp
    rw [h] at hp
    obtain ⟨v, he, hown, hb⟩ := hp
    obtain ⟨g, cap, rfl, hg, ht, hc, _⟩ := own_tok hown h0
    exact ⟨g, cap, he, ht, hc, hg, hb⟩
theorem rscan_err (s : ByteArray) (a n : Nat) (w : World) (hs : s.size ≤ 65536) (h : Lx.sc (tl s) = .err a n) :
    Calls Tryz.prog 76 #[.string s] w fun e w' => e = .returned (.tuple #[.slice none 0 0, .int .i64 (a : Int), .int .i64 (n : Int)]) ∧ Below w.heap.size w w' :=
  (rscan_any s w hs).mono fun e w' hp => by
    unfold ScanPost at hp
    rw [h] at hp
    exact hp
abbrev qD0 : QD := ⟨[], .slice none 0 0, .slice none 0 0, [], 0, []⟩
theorem Hp.qreader {o : List Nat} {w W : World} {gp gt cap : Nat} {ts : List Lx.Tok} {L : List It} (h : Hp o w (iblk gp 156 (qcells ⟨gp, gt, cap, ts⟩ qD0 (.slice none 0 0) 0 false) :: itoks gt ts :: L) W) (hg : Pa.Good ts) (hn : ts.length ≤ 65537) (hc : ts.length ≤ cap) (hx : ∀ t ∈ ts, t.text.length ≤ 100000) : Hp o w (iqr ⟨gp, gt, cap, ts⟩ qD0 (.slice none 0 0) ts false :: L) W := by
  have hne : gp ≠ gt := by
    have := h.sep.ap
    rw [ow, List.flatMap_cons, List.flatMap_cons] at this
    have h2 := (List.nodup_cons.1 this).1
    intro e
    exact h2 (List.mem_append_right _ (List.mem_append_left _ (by rw [e]; exact List.mem_singleton.2 rfl)))
  have h0 : QRok ⟨gp, gt, cap, ts⟩ qD0 (.slice none 0 0) ts false W := ⟨by
    have := h.blk 0 rfl
    rw [Nat.sub_self]; exact this, h.sep.ok (itoks gt ts) (by simp), List.suffix_refl _, hg, hn, hc, hne, hx⟩
  refine ⟨⟨fun x hx => ?_, ?_⟩, h.stp.sub (fun b hb => ?_)⟩
  · rcases List.mem_cons.1 hx with rfl | hx
    · exact h0
    · exact h.sep.ok x (List.mem_cons_of_mem _ (List.mem_cons_of_mem _ hx))
  · exact h.sep.ap
  · exact hb
theorem perm_qx {α : Type} (a b c d e : α) (K : List α) : (a :: b :: (K ++ [c, d]) ++ [e]).Perm ([a, e] ++ (c :: d :: b :: K)) := by
  simp only [List.cons_append, List.append_assoc, List.nil_append]
  refine List.Perm.cons a ?_
  have h1 : (b :: (K ++ [c, d, e])).Perm (b :: ([e, c, d] ++ K)) := by
    refine List.Perm.cons b ?_
    exact (List.perm_append_comm (l₁ := K) (l₂ := [c, d, e])).trans ((List.perm_append_comm (l₁ := [c, d]) (l₂ := [e])).append_right K)
  refine h1.trans ?_
  exact (List.perm_middle (a := b) (l₁ := [e, c, d]) (l₂ := K)).symm
theorem perm_four {α : Type} (n u f q b : α) : [n, u, f, q, b].Perm ([q, n, u, f] ++ [b]) := (List.perm_append_comm (l₁ := [n, u, f]) (l₂ := [q])).append_right [b]
set_option maxRecDepth 20000 in
set_option maxHeartbeats 32000000 in
theorem rParse_any (s : ByteArray) (hs : s.size ≤ 65536) (w : World) : Calls Tryz.prog 24 #[.string s] w fun e w' => PaOut (parseP (tl s)) e w' ∧ Below w.heap.size w w' := by
  have hlen : (tl s).length = s.size := length_tl s
  obtain ⟨bo, hbo⟩ : ∃ g, w.heap.size = g := ⟨_, rfl⟩
  have hh : Hp [] w [iblk bo 29 zPl] (w.alloc (.cells zPl.toArray 29)) := by
    rw [← hbo]
    exact (Hp.start w).new 29 zPl
  cases hsc : Lx.sc (tl s) with
  | err a n =>
    have hn : ((n : Int) == 0) = false := by
      have := sc_err_ne hsc
      simp; omega
    have hn2 : ((n : Int) != 0) = true := by rw [bne, hn]; rfl
    have HPV : Hid (parseP (tl s) = (zPo, a, (n : Int))) := Lib.hid (by unfold parseP; rw [hsc])
    have HSC := Lib.hid (fun V => rscan_err s a n V hs hsc)
    clear hsc
    go_enter Tryz.func24, Tryz.ntmps24
    go_wp2_with fail
    refine (HSC.out _).mono ?_
    rintro e w4 ⟨rfl, hb4⟩
    have hk := hh.next hb4
    clear hh hb4 HSC
    go_upto_region 3 with fail
    try simp only [hbo]
    go_wp2_with (refine wpList_store_row rfl 29 (.tmp 2) (.tmp 18) rfl bo zPl.toArray rfl rfl 29 zPl.toArray (hk.blk 0 rfl) (by kernel_rfl) (by kernel_rfl) (by kernel_rfl) ?_)
    have hk2 := hk.rowAt 0 rfl zPl
    have HT := Lib.hid hk2.below0
    obtain ⟨r0, r1, r2, r3, r4, r5, r6, r7⟩ := (hk2.blk 0 rfl).get8
    clear hk hk2
    refine bodyPost_ret (v := .tuple #[zPlV, .int .i64 (a : Int), .int .i64 (n : Int)]) (by simp [results, Tryz.results24, go_sem, r0, r1, r2, r3, r4, r5, r6, r7]) rfl ?_
    exact ⟨PaOut.bad HPV.out, by first | exact HT.out | (rw [← hbo] at HT ⊢; exact HT.out)⟩
  | ok ts =>
    have hS := Lx.sc_iff.1 hsc
    have hg := Pa.sc_good hS
    have h0 : 0 < ts.length := List.length_pos_iff.2 hg.ne
    have hsh : Shorts ts := Shorts.of hS (by omega)
    have htl : ts.length ≤ 65537 := by have := toks_len hS; omega
    have HPV : Hid (parseP (tl s) = parseT ts) := Lib.hid (by unfold parseP; rw [hsc])
    have HGD := Lib.hid (fun (p : Pa.Pl) (q : List Lx.Tok) (h : Pa.policyR ts = (some p, q)) => Pa.policy_gd hg h)
    have HOK := Lib.hid (Pa.policy_okS ts hg)
    have HSC := Lib.hid (fun V => rscan_new s ts V hs hsc h0)
    have HG := Lib.hid hg
    have HSH := Lib.hid hsh
    clear hS hsc hg hsh
    go_enter Tryz.func24, Tryz.ntmps24
    go_wp2_with fail
    refine (HSC.out _).mono ?_
    rintro e w4 ⟨gt, cap, rfl, hT, hc, hgt, hb4⟩
    have hk := hh.toks hT hgt hb4
    clear hh hb4 hT hgt HSC
    have hk3 := hk.new 156 (qcells ⟨w4.heap.size, gt, cap, ts⟩ qD0 (.slice none 0 0) 0 false)
    have hk4 := hk3.qreader HG.out htl hc HSH.out
    have hk5 := ((hk4.nilrow 97 2).nilrow 50 2).nilrow 76 6
    go_upto_region 5 with fail
    try simp only [hbo]
    obtain ⟨gp, hgp⟩ : ∃ g, w4.heap.size = g := ⟨_, rfl⟩
    rw [hgp] at hk5
    try simp only [hgp]
    have hk6 : Hp [] w ([iqr ⟨gp, gt, cap, ts⟩ qD0 (.slice none 0 0) ts false, inodes (.slice none 0 0) [], ipr2 50 (.slice none 0 0) 0 [], ipr2 97 (.slice none 0 0) 0 []] ++ [iblk bo 29 zPl]) (w4.alloc (.cells #[.slice (some ⟨gt, 0, none⟩) ts.length cap, .int .i64 0, .string ⟨#[]⟩, .slice none 0 0, .slice none 0 0, .slice none 0 0, .int .i64 0, .string ⟨#[]⟩, .int .i64 0, .string ⟨#[]⟩, .bool false] 156)) := hk5.perm (perm_four _ _ _ _ _)
    clear hk hk3 hk4 hk5 hgp
    generalize w4.alloc _ = w5 at *
    have hX : QX (ow [iqr ⟨gp, gt, cap, ts⟩ qD0 (.slice none 0 0) ts false, inodes (.slice none 0 0) [], ipr2 50 (.slice none 0 0) 0 [], ipr2 97 (.slice none 0 0) 0 []]) w5 ⟨gp, gt, cap, ts⟩ qD0 (.slice none 0 0) [] ⟨ts, [], false⟩ [ipr2 50 (.slice none 0 0) 0 [], ipr2 97 (.slice none 0 0) 0 []] w5 := ⟨rfl, Hp.self hk6.sub.sep⟩
    have HP := Lib.hid (qpolicy ts htl hX)
    clear hX
    go_wp2_with fail
    refine HP.out.mono ?_
    rintro e w6 ⟨rfl, UA, uc, RA, rc, nv, P, hX⟩
    have hk70 := Hp.call hk6 hX.hp
    have hk7 := hk70.perm (List.perm_append_comm (l₁ := _ :: _ :: _) (l₂ := [_]))
    clear hk70
    obtain ⟨NA, nc, rfl⟩ := row_forms (hX.hp.row 1 rfl)
    have HNS := Lib.hid hX.ns
    have hok := hX.ok
    clear HP hk6 hX
    cases hpr : Pa.policyR ts with
    | mk so q =>
      have hOK := HOK.out
      rw [hpr] at hOK
      cases so with
      | none =>
        obtain ⟨hb, hq⟩ := hOK
        have HV : Hid (parseP (tl s) = (zPo, Pa.atT q, 4)) := Lib.hid (by rw [HPV.out]; unfold parseT; rw [hpr])
        obtain ⟨t, l, ht⟩ := hok.cons
        have h9 := hok
        rw [ht] at h9
        obtain ⟨k, hA, hk9, -, -, -⟩ := h9.at
        obtain ⟨c0, c1, c5, cb, f1, fb, k0, k1, t0, t1, t2⟩ := hA
        rw [hb] at cb
        have hat : Pa.atT q = t.at_ := by rw [← hq, ht]; rfl
        rw [hat] at HV
        have HC8 : Hid (∀ V, QRok ⟨gp, gt, cap, ts⟩ ⟨Pa.nameX (Pa.p1S ts), .slice UA (Pa.usesS ts).1.length uc, .slice RA (Pa.revS ts).1.length rc, (Pa.scopeS (Pa.q3S ts)).1.1, (Pa.scopeS (Pa.q3S ts)).1.2, (Pa.escS (Pa.q4S ts)).1⟩ (.slice NA P.length nc) (Pa.q6S ts).ts (Pa.q6S ts).bad V → V.cell? ⟨gp, 0, none⟩ = some (.slice (some ⟨gt, 0, none⟩) ts.length cap) ∧ V.cell? ⟨gp, 1, none⟩ = some (.int .i64 (k : Int)) ∧ V.cell? ⟨gt, k * 3 + 2, none⟩ = some (.int .i64 (t.at_ : Int))) := Lib.hid fun V hV => by
          rw [ht] at hV
          exact qcs hk9 hV
        clear HPV HGD HOK hpr h9 hok hb hq ht hat HNS c5 f1 fb t0 t1 hk9
        go_upto_region 7 with fail
        have hkd := hk7.drew
        have hB0 := hkd.blk 0 rfl
        have hk8 := hkd.rowAt 0 rfl zPl
        have s1 := hk8.blk 0 rfl
        have q8 : QRok ⟨gp, gt, cap, ts⟩ _ _ (Pa.q6S ts).ts (Pa.q6S ts).bad _ := hk8.sep.ok _ (List.mem_cons_of_mem _ (List.mem_cons_self ..))
        obtain ⟨d0, d1, d2⟩ := HC8.out _ q8
        have HT := Lib.hid hk8.below0
        clear hk7 hkd hk8 q8
        refine wp_region_held_drew (S := (fun w' => w'.cell? ⟨gp, 1, none⟩ = some (.int .i64 (k : Int)) ∧ w'.cell? ⟨gt, k * 3 + 2, none⟩ = some (.int .i64 (t.at_ : Int)))) (by kernel_rfl) ?_ (fun hHeld => ?_)
        · exact ⟨c1, t2⟩
        refine wpAnyH_take (i := 0) (v := ?_) rfl (by kernel_rfl) (by kernel_rfl) (by kernel_rfl) (fun _ _ _ h => h) (Or.inl ⟨by rfl, ?_⟩) (by assumption) ?_
        rotate_left
        · (intro w hSw; (try dsimp only at hSw); (try obtain ⟨hSw1, hSw2⟩ := hSw); go_simp; (try with_reducible rfl))
        try simp only [Act.put, List.getElem_toArray, List.getElem_cons_zero, List.setIfInBounds_toArray, List.set_cons_zero, List.set_cons_succ]
        refine wpAnyH_take (i := 1) (v := ?_) rfl (by kernel_rfl) (by kernel_rfl) (by kernel_rfl) (fun _ _ _ h => h) (Or.inl ⟨by rfl, ?_⟩) (by assumption) ?_
        rotate_left
        · (intro w hSw; (try dsimp only at hSw); (try obtain ⟨hSw1, hSw2⟩ := hSw); go_simp; (try with_reducible rfl))
        try simp only [Act.put, List.getElem_toArray, List.getElem_cons_zero, List.getElem_cons_succ, List.setIfInBounds_toArray, List.set_cons_zero, List.set_cons_succ]
        refine wpAnyH_take (i := 2) (v := ?_) rfl (by kernel_rfl) (by kernel_rfl) (by kernel_rfl) (fun _ _ _ h => h) (Or.inl ⟨by rfl, ?_⟩) (by assumption) ?_
        rotate_left
        · (intro w hSw; (try dsimp only at hSw); (try obtain ⟨hSw1, hSw2⟩ := hSw); go_simp; (try with_reducible rfl))
        try simp only [Act.put, List.getElem_toArray, List.getElem_cons_zero, List.getElem_cons_succ, List.setIfInBounds_toArray, List.set_cons_zero, List.set_cons_succ]
        refine wpAnyH_take (i := 3) (v := ?_) rfl (by kernel_rfl) (by kernel_rfl) (by kernel_rfl) (fun _ _ _ h => h) (Or.inl ⟨by rfl, ?_⟩) (by assumption) ?_
        rotate_left
        · (intro w hSw; (try dsimp only at hSw); (try obtain ⟨hSw1, hSw2⟩ := hSw); go_simp; (try with_reducible rfl))
        try simp only [Act.put, List.getElem_toArray, List.getElem_cons_zero, List.getElem_cons_succ, List.setIfInBounds_toArray, List.set_cons_zero, List.set_cons_succ]
        refine wpAnyH_take (i := 4) (v := ?_) rfl (by kernel_rfl) (by kernel_rfl) (by kernel_rfl) (fun _ _ _ h => h) (Or.inl ⟨by rfl, ?_⟩) (by assumption) ?_
        rotate_left
        · (intro w hSw; (try dsimp only at hSw); (try obtain ⟨hSw1, hSw2⟩ := hSw); go_simp; (try with_reducible rfl))
        try simp only [Act.put, List.getElem_toArray, List.getElem_cons_zero, List.getElem_cons_succ, List.setIfInBounds_toArray, List.set_cons_zero, List.set_cons_succ]
        refine wpAnyH_take (i := 5) (v := ?_) rfl (by kernel_rfl) (by kernel_rfl) (by kernel_rfl) (fun _ _ _ h => h) (Or.inl ⟨by rfl, ?_⟩) (by assumption) ?_
        rotate_left
        · (intro w hSw; (try dsimp only at hSw); (try obtain ⟨hSw1, hSw2⟩ := hSw); go_simp; (try with_reducible rfl))
        try simp only [Act.put, List.getElem_toArray, List.getElem_cons_zero, List.getElem_cons_succ, List.setIfInBounds_toArray, List.set_cons_zero, List.set_cons_succ]
        refine wpAnyH_take (i := 6) (v := ?_) rfl (by kernel_rfl) (by kernel_rfl) (by kernel_rfl) (fun _ _ _ h => h) (Or.inl ⟨by rfl, ?_⟩) (by assumption) ?_
        rotate_left
        · (intro w hSw; (try dsimp only at hSw); (try obtain ⟨hSw1, hSw2⟩ := hSw); go_simp; (try with_reducible rfl))
        try simp only [Act.put, List.getElem_toArray, List.getElem_cons_zero, List.getElem_cons_succ, List.setIfInBounds_toArray, List.set_cons_zero, List.set_cons_succ]
        refine wpAnyH_take (i := 7) (v := ?_) rfl (by kernel_rfl) (by kernel_rfl) (by kernel_rfl) (fun _ _ _ h => h) (Or.inl ⟨by rfl, ?_⟩) (by assumption) ?_
        rotate_left
        · (intro w hSw; (try dsimp only at hSw); (try obtain ⟨hSw1, hSw2⟩ := hSw); go_simp; (try with_reducible rfl))
        try simp only [Act.put, List.getElem_toArray, List.getElem_cons_zero, List.getElem_cons_succ, List.setIfInBounds_toArray, List.set_cons_zero, List.set_cons_succ]
        refine wpAnyH_take (i := 8) (v := ?_) rfl (by kernel_rfl) (by kernel_rfl) (by kernel_rfl) (fun _ _ _ h => h) (Or.inl ⟨by rfl, ?_⟩) (by assumption) ?_
        rotate_left
        · (intro w hSw; (try dsimp only at hSw); (try obtain ⟨hSw1, hSw2⟩ := hSw); go_simp; (try with_reducible rfl))
        try simp only [Act.put, List.getElem_toArray, List.getElem_cons_zero, List.getElem_cons_succ, List.setIfInBounds_toArray, List.set_cons_zero, List.set_cons_succ]
        refine wpAnyH_ready (rs := [9]) (by kernel_rfl) (by simp) ?_
        refine AllReadyH.cons rfl (fun K hK => ?_) ?_
        · try rw [if_pos (by rfl)]
          refine wp_store_row 29 (.tmp 2) (.tmp 30) (by rfl) bo zPl.toArray (by rfl) (by rfl) 29 zPl.toArray hB0 (by kernel_rfl) (by kernel_rfl) (by kernel_rfl) ?_
          refine hK.out _ _ ?_ (fun hHeld => ?_)
          · exact ⟨d1, d2⟩
          clear hK K
          refine wpAnyH_take (i := 10) (v := ?_) rfl (by kernel_rfl) (by kernel_rfl) (by kernel_rfl) (fun _ _ _ h => h) (Or.inl ⟨by rfl, ?_⟩) (by assumption) ?_
          rotate_left
          · (intro w hSw; (try dsimp only at hSw); (try obtain ⟨hSw1, hSw2⟩ := hSw); go_simp; (try with_reducible rfl))
          try simp only [Act.put, List.getElem_toArray, List.getElem_cons_zero, List.getElem_cons_succ, List.setIfInBounds_toArray, List.set_cons_zero, List.set_cons_succ]
          refine wpAnyH_take (i := 11) (v := ?_) rfl (by kernel_rfl) (by kernel_rfl) (by kernel_rfl) (fun _ _ _ h => h) (Or.inl ⟨by rfl, ?_⟩) (by assumption) ?_
          rotate_left
          · (intro w hSw; (try dsimp only at hSw); (try obtain ⟨hSw1, hSw2⟩ := hSw); go_simp; (try with_reducible rfl))
          try simp only [Act.put, List.getElem_toArray, List.getElem_cons_zero, List.getElem_cons_succ, List.setIfInBounds_toArray, List.set_cons_zero, List.set_cons_succ]
          refine wpAnyH_done (by kernel_rfl) ?_ _
          go_wp2_with fail
          obtain ⟨r0, r1, r2, r3, r4, r5, r6, r7⟩ := s1.get8
          refine bodyPost_ret (v := .tuple #[zPlV, .int .i64 (t.at_ : Int), .int .i64 4]) (by simp [results, Tryz.results24, go_sem, r0, r1, r2, r3, r4, r5, r6, r7]) rfl ?_
          exact ⟨PaOut.bad HV.out, by first | exact HT.out | (rw [← hbo] at HT ⊢; exact HT.out)⟩
        exact AllReadyH.nil
      | some p =>
        obtain ⟨hq, hnm, hus, hrv, hsc, hes⟩ := hOK
        have hB := (HGD.out p q hpr).1
        have hPB : PBd (poOf p) := pbd_of hB (by omega)
        have hroot : P.map Prod.fst = p.root.num 0 := by rw [HNS.out, hq]
        have HV : Hid (parseP (tl s) = if checkP (poOf p) ≠ 0 then (zPo, 0, checkP (poOf p)) else (poOf p, 0, 0)) := Lib.hid (by rw [HPV.out]; unfold parseT; rw [hpr])
        rw [hq, hnm, hus, hrv, hsc, hes] at hk7
        simp only at hk7
        have HPM : Hid (PolM w6 (poOf p) ⟨UA, uc, RA, rc, NA, nc⟩) := Lib.hid (polm_of hroot ((hk7.perm (List.perm_append_comm (l₁ := _ :: _ :: _) (l₂ := [_])).symm).perm (perm_qx _ _ _ _ _ _)))
        have HPL := Lib.hid (polV_of p P hroot UA RA NA uc rc nc)
        have hp9 := hroot
        clear hpr HPV HGD HOK hok HNS hq hnm hus hrv hsc hes hB hroot
        have hR := (show QRok _ _ _ _ _ _ from hk7.sep.ok _ (List.mem_cons_of_mem _ (List.mem_cons_self ..))).blk
        have q2 : w6.cell? ⟨gp, 2, none⟩ = some (Sv p.name) := hR.cell 2
        have q3 : w6.cell? ⟨gp, 3, none⟩ = some (.slice UA p.uses.length uc) := hR.cell 3
        have q4 : w6.cell? ⟨gp, 4, none⟩ = some (.slice RA p.reveal.length rc) := hR.cell 4
        have q5 : w6.cell? ⟨gp, 5, none⟩ = some (.slice NA P.length nc) := hR.cell 5
        have q6 : w6.cell? ⟨gp, 6, none⟩ = some (.int .i64 0) := hR.cell 6
        have q7 : w6.cell? ⟨gp, 7, none⟩ = some (Sv p.scope) := hR.cell 7
        have q8 : w6.cell? ⟨gp, 8, none⟩ = some (.int .i64 p.limit) := hR.cell 8
        have q9 : w6.cell? ⟨gp, 9, none⟩ = some (Sv p.escrow) := hR.cell 9
        have cb : w6.cell? ⟨gp, 10, none⟩ = some (.bool false) := hR.cell 10
        have HC := Lib.hid (rcheck_any (poOf p) ⟨UA, uc, RA, rc, NA, nc⟩ hPB w6 HPM.out)
        rw [HPL.out] at HC
        obtain ⟨pe, hpe⟩ : ∃ x, poOf p = x := ⟨_, rfl⟩
        rw [hpe] at HC HV HPM HPL hPB
        generalize hE : checkP pe = E at *
        clear hR
        go_wp2_with fail
        refine HC.out.mono ?_
        rintro e w7 ⟨rfl, hb7⟩
        have hk8 := hk7.next hb7
        have HPM2 := Lib.hid (HPM.out.up hb7)
        clear HC hk7 hb7 HPM q2 q3 q4 q5 q6 q7 q8 q9 cb
        by_cases h0 : E = 0
        · subst h0
          have HV2 : Hid (parseP (tl s) = (pe, 0, 0)) := Lib.hid (by rw [HV.out]; simp)
          have hR := (show QRok _ _ _ _ _ _ from hk8.sep.ok _ (List.mem_cons_of_mem _ (List.mem_cons_self ..))).blk
          have q2 : w7.cell? ⟨gp, 2, none⟩ = some (Sv p.name) := hR.cell 2
          have q3 : w7.cell? ⟨gp, 3, none⟩ = some (.slice UA p.uses.length uc) := hR.cell 3
          have q4 : w7.cell? ⟨gp, 4, none⟩ = some (.slice RA p.reveal.length rc) := hR.cell 4
          have q5 : w7.cell? ⟨gp, 5, none⟩ = some (.slice NA P.length nc) := hR.cell 5
          have q6 : w7.cell? ⟨gp, 6, none⟩ = some (.int .i64 0) := hR.cell 6
          have q7 : w7.cell? ⟨gp, 7, none⟩ = some (Sv p.scope) := hR.cell 7
          have q8 : w7.cell? ⟨gp, 8, none⟩ = some (.int .i64 p.limit) := hR.cell 8
          have q9 : w7.cell? ⟨gp, 9, none⟩ = some (Sv p.escrow) := hR.cell 9
          have hB0 := hk8.blk 0 rfl
          have hk9 := hk8.rowAt 0 rfl [Sv p.name, .slice UA p.uses.length uc, .slice RA p.reveal.length rc, .slice NA P.length nc, .int .i64 0, Sv p.scope, .int .i64 p.limit, Sv p.escrow]
          have s1 := hk9.blk 0 rfl
          have HT := Lib.hid hk9.below0
          have HPM3 := Lib.hid (polm_of hp9 ((hk9.perm (List.perm_append_comm (l₁ := _ :: _ :: _) (l₂ := [_])).symm).perm (perm_qx _ _ _ _ _ _)))
          clear HV hk8 hk9 hR
          go_upto_region 11 with fail
          go_wp2_with (refine wpList_store_row rfl 29 (.tmp 2) (.tmp 51) rfl bo ([Sv p.name, .slice UA p.uses.length uc, .slice RA p.reveal.length rc, .slice NA P.length nc, .int .i64 0, Sv p.scope, .int .i64 p.limit, Sv p.escrow] : List Value).toArray rfl rfl 29 zPl.toArray hB0 (by kernel_rfl) (by kernel_rfl) (by kernel_rfl) ?_)
          obtain ⟨r0, r1, r2, r3, r4, r5, r6, r7⟩ := s1.get8
          refine bodyPost_ret (v := .tuple #[.agg #[Sv p.name, .slice UA p.uses.length uc, .slice RA p.reveal.length rc, .slice NA P.length nc, .int .i64 0, Sv p.scope, .int .i64 p.limit, Sv p.escrow], .int .i64 0, .int .i64 0]) (by simp [results, Tryz.results24, go_sem, r0, r1, r2, r3, r4, r5, r6, r7]) rfl ?_
          refine ⟨?_, by first | exact HT.out | (rw [← hbo] at HT ⊢; exact HT.out)⟩
          rw [HV2.out]
          exact ⟨⟨UA, uc, RA, rc, NA, nc⟩, by rw [HPL.out]; rfl, by rw [← hpe]; exact HPM3.out⟩
        · have hne : (E == 0) = false := by simpa using h0
          have hne2 : (E != 0) = true := by rw [bne, hne]; rfl
          have HV2 : Hid (parseP (tl s) = (zPo, 0, E)) := Lib.hid (by rw [HV.out, if_pos h0])
          have hB0 := hk8.blk 0 rfl
          have hk9 := hk8.rowAt 0 rfl zPl
          have s1 := hk9.blk 0 rfl
          have HT := Lib.hid hk9.below0
          clear HV hk8 hk9 HPM2 h0
          go_upto_region 10 with fail
          go_wp2_with (refine wpList_store_row rfl 29 (.tmp 2) (.tmp 46) rfl bo zPl.toArray rfl rfl 29 zPl.toArray hB0 (by kernel_rfl) (by kernel_rfl) (by kernel_rfl) ?_)
          obtain ⟨r0, r1, r2, r3, r4, r5, r6, r7⟩ := s1.get8
          refine bodyPost_ret (v := .tuple #[zPlV, .int .i64 0, .int .i64 E]) (by simp [results, Tryz.results24, go_sem, r0, r1, r2, r3, r4, r5, r6, r7]) rfl ?_
          exact ⟨PaOut.bad HV2.out, by first | exact HT.out | (rw [← hbo] at HT ⊢; exact HT.out)⟩
end Go.Proofs.YtogmhaihmkcjgaaGreatDoor
