/- normal: values. -/
import Derived.Test.YtekkapgknohadaaGreatDoorM42
set_option linter.unusedVariables false
set_option maxRecDepth 20000
set_option maxHeartbeats 16000000
namespace Go.Proofs.YtekkapgknohadaaGreatDoor.Nf
open Go.RowKit Go.Shelf
open Lib (hid)
open Pa (F Nd)
structure ValC (S : List Sm) (U : List Bp) (G : F) (how : Int) (a b : Nk) : Prop where
 lo : 0 ≤ how
 hi : how ≤ 5
 a0 : 0 ≤ a.kind
 b0 : 0 ≤ b.kind
 na : a.kind = 10 → -2147483648 ≤ a.num ∧ a.num ≤ 2147483647
 nb : b.kind = 10 → -2147483648 ≤ b.num ∧ b.num ≤ 2147483647
 pr : Pr (lookS S U) how (ndOf a) (ndOf b)
 k9 : a.kind = 9 ∨ b.kind ≠ 9
 eq : G = valB (lookS S U) how (ndOf a) (ndOf b)
theorem zas {n : Nk} (h : 0 ≤ n.kind) (k : Nat) : (ndOf n).kind = k ↔ n.kind = (k : Int) := by
 show n.kind.toNat = k ↔ _
 omega
theorem tl_eq {s t : ByteArray} : tl s = tl t ↔ s = t := ⟨eq_of_tl, fun h => by rw [h]⟩
theorem ref_some {S : List Sm} {U : List Bp} {n : Nk} (h0 : 0 ≤ n.kind) (h : n.kind = 9) (hs : (tyOf (lookS S U) (ndOf n)).isSome = true) : ∃ fd, findS S U n.name n.attr = some fd := by
 rw [tyOf_nd S U n h0, tyK, if_neg (by omega), if_neg (by omega)] at hs
 cases hf : findS S U n.name n.attr with
 | none => rw [hf] at hs; cases hs
 | some fd => exact ⟨fd, rfl⟩
theorem agr_some {L : Look} {a b : Nd} (h : agr L a b = true) : (tyOf L a).isSome = true ∧ (tyOf L b).isSome = true := by
 unfold agr at h
 cases e1 : tyOf L a with
 | none => rw [e1] at h; cases h
 | some t =>
   cases e2 : tyOf L b with
   | none => rw [e1, e2] at h; cases h
   | some u => exact ⟨rfl, rfl⟩
theorem ValC.kinds {S : List Sm} {U : List Bp} {G : F} {how : Int} {a b : Nk} (h : ValC S U G how a b) : (a.kind = 9 ∨ a.kind = 10 ∨ a.kind = 11) ∧ (b.kind = 9 ∨ b.kind = 10 ∨ b.kind = 11) := by
 have h1 := h.pr.ka.2
 have h2 := h.pr.kb.2
 simp only [zas h.a0, zas h.b0] at h1 h2
 exact ⟨h1, h2⟩
theorem ValC.fa {S : List Sm} {U : List Bp} {G : F} {how : Int} {a b : Nk} (h : ValC S U G how a b) (ha : a.kind = 9) : ∃ fd, findS S U a.name a.attr = some fd := ref_some h.a0 ha (agr_some h.pr.agr).1
theorem ValC.fb {S : List Sm} {U : List Bp} {G : F} {how : Int} {a b : Nk} (h : ValC S U G how a b) (ha : a.kind = 9) (hb : b.kind ≠ 10) {fd : Fd} (hf : findS S U a.name a.attr = some fd) (hk : fd.kind = 0) : ∃ fe, findS S U b.name b.attr = some fe := by
 have hg := h.pr.agr
 unfold agr at hg
 rw [tyOf_nd S U a h.a0, tyOf_nd S U b h.b0, tyK, if_neg (by omega), if_neg (by omega), hf, Option.map_some, if_pos hk] at hg
 unfold tyK at hg
 rw [if_neg hb] at hg
 by_cases h11 : b.kind = 11
 ·rw [if_pos h11] at hg; cases hg
 ·rw [if_neg h11] at hg
  cases hf : findS S U b.name b.attr with
  | none => rw [hf] at hg; cases hg
  | some fe => exact ⟨fe, rfl⟩
theorem ValC.at_num {S : List Sm} {U : List Bp} {G : F} {how : Int} {a b : Nk} (h : ValC S U G how a b) (ha : a.kind = 10) : G = tru (cmpB how a.num b.num) := by
 rw [h.eq, valB, if_pos ((zas h.a0 10).2 ha)]; rfl
theorem ValC.at_word {S : List Sm} {U : List Bp} {G : F} {how : Int} {a b : Nk} (h : ValC S U G how a b) (ha : a.kind = 11) : G = tru (decide (a.name = b.name) == decide (how = 0)) := by
 rw [h.eq, valB, if_neg (by rw [zas h.a0]; omega), if_pos ((zas h.a0 11).2 ha)]
 congr 2
 exact decide_eq_decide.2 tl_eq
theorem ValC.at_bound {S : List Sm} {U : List Bp} {G : F} {how : Int} {a b : Nk} (h : ValC S U G how a b) (ha : a.kind = 9) (hb : b.kind = 10) : G = bounded (lookS S U) how (ndOf a) b.num := by
 rw [h.eq, valB, if_neg (by rw [zas h.a0]; omega), if_neg (by rw [zas h.a0]; omega), if_pos ((zas h.b0 10).2 hb)]; rfl
theorem ValC.at_same {S : List Sm} {U : List Bp} {G : F} {how : Int} {a b : Nk} (h : ValC S U G how a b) (ha : a.kind = 9) (hb : b.kind = 9) (hs : a.name = b.name ∧ a.attr = b.attr) : G = tru (cmpB how 0 0) := by
 rw [h.eq, valB, if_neg (by rw [zas h.a0]; omega), if_neg (by rw [zas h.a0]; omega), if_neg (by rw [zas h.b0]; omega), if_pos ⟨(zas h.b0 9).2 hb, by show tl a.name = tl b.name; rw [hs.1], by show tl a.attr = tl b.attr; rw [hs.2]⟩]
theorem ValC.at_rest {S : List Sm} {U : List Bp} {G : F} {how : Int} {a b : Nk} (h : ValC S U G how a b) (ha : a.kind = 9) (hb : b.kind ≠ 10) (hs : ¬ (b.kind = 9 ∧ (a.name = b.name ∧ a.attr = b.attr))) {fd : Fd} (hf : findS S U a.name a.attr = some fd) : G = if fd.kind = 0 then numbers (lookS S U) how (ndOf a) (ndOf b) else if fd.words.length = 1 then tru (decide (how = 0)) else rel how (ndOf a) (ndOf b) := by
 rw [h.eq, valB, if_neg (by rw [zas h.a0]; omega), if_neg (by rw [zas h.a0]; omega), if_neg (by rw [zas h.b0]; omega), if_neg (fun e => hs ⟨(zas h.b0 9).1 e.1, tl_eq.1 e.2.1, tl_eq.1 e.2.2⟩), fdOf_nd hf]
theorem values_any {d : Po} {L : Lp} {A : Option Addr} {c : Nat} {S : List Sm} {w0 : World} (E : Env w0 d L A c S) (hR : za9 chkB S d = true) (how : Int) (hh : 0 ≤ how) (hh5 : how ≤ 5) (a b : Nk) (ha0 : 0 ≤ a.kind) (hb0 : 0 ≤ b.kind) (KA KB : Option Addr) (ka kb : Nat) (hna : a.kind = 10 → -2147483648 ≤ a.num ∧ a.num ≤ 2147483647) (hnb : b.kind = 10 → -2147483648 ≤ b.num ∧ b.num ≤ 2147483647) (hP : Pr (lookS S d.uses) how (ndOf a) (ndOf b)) (w : World) (h0 : Below w0.heap.size w0 w) (B : Nat) (hBs : B ≤ w.heap.size) :
 Calls Tryz.prog 92 #[fitV d L A S.length c, .int .i64 how, nkV a KA ka, nkV b KB kb] w fun e w' => (∃ v, e = .returned v ∧ CvM B w' (values (lookS S d.uses) how (ndOf a) (ndOf b)) [v]) ∧ Below w.heap.size w w' := by
 obtain ⟨G, hG⟩ : ∃ G, values (lookS S d.uses) how (ndOf a) (ndOf b) = G := ⟨_, rfl⟩
 rw [hG]
 have HE := hid E
 have HR := hid hR
 have HC : Hid ((a.kind ≠ 9 ∧ b.kind = 9 → ValC S d.uses G (mirr how) b a) ∧ (¬ (a.kind ≠ 9 ∧ b.kind = 9) → ValC S d.uses G how a b)) := hid ⟨fun e => ⟨by unfold mirr; split <;> (try split) <;> (try split) <;> (try split) <;> (try split) <;> omega, by unfold mirr; split <;> (try split) <;> (try split) <;> (try split) <;> (try split) <;> omega, hb0, ha0, hnb, hna, hP.mirr, .inl e.2, by rw [← hG, values, if_pos ⟨by rw [Ne, zas ha0]; exact e.1, (zas hb0 9).2 e.2⟩]⟩,
  fun e => ⟨hh, hh5, ha0, hb0, hna, hnb, hP, by by_cases h : a.kind = 9; exact .inl h; exact .inr fun e2 => e ⟨h, e2⟩, by rw [← hG, values, if_neg (by rw [Ne, zas ha0, zas hb0]; exact e)]⟩⟩
 have hk := (((Hp.start w).new 93 (fitC d L A S.length c)).new 68 (nkcs a KA ka)).new 68 (nkcs b KB kb)
 obtain ⟨g, hg⟩ : ∃ g, w.heap.size = g := ⟨_, rfl⟩
 simp only [sizeA, hg] at hk
 obtain ⟨qx, hq⟩ : ∃ f, g + 1 = f := ⟨_, rfl⟩
 obtain ⟨qy, hqy⟩ : ∃ f, qx + 1 = f := ⟨_, rfl⟩
 have HM := hid (mirror_same how hh hh5)
 clear hG hP E hR ha0 hb0 hna hnb
 go_enter Tryz.func92, Tryz.ntmps92
 go_upto_region 1 with fail
 simp only [hq, hqy] at hk ⊢
 generalize hW : ((w.alloc (.cells #[.string d.name, .slice L.ua d.uses.length L.uc, .slice L.ra d.reveal.length L.rc, .slice L.na d.nodes.length L.nc, .int .i64 d.root, .string d.scope, .int .i64 d.limit, .string d.escrow, .slice A S.length c] 93)).alloc (.cells #[.int .i64 a.kind, .int .i64 a.num, .string a.name, .string a.attr, .slice KA a.kids.length ka, .int .i64 a.at_] 68)).alloc (.cells #[.int .i64 b.kind, .int .i64 b.num, .string b.name, .string b.attr, .slice KB b.kids.length kb, .int .i64 b.at_] 68) = W1 at *
 have hk0 : Hp [] w [iblk qy 68 (nkcs b KB kb), iblk qx 68 (nkcs a KA ka), iblk g 93 (fitC d L A S.length c)] W1 := hk
 clear hk hW hq hqy hh hh5
 go_cut [18] (fun s18 wx => s18 = .bool (decide (a.kind ≠ 9 ∧ b.kind = 9)) ∧ wx = W1)
 case first =>
  obtain ⟨d0, d1, d2, d3, d4, d5⟩ := Blk.get6 (hk0.blk 1 rfl)
  obtain ⟨e0, e1, e2, e3, e4, e5⟩ := Blk.get6 (hk0.blk 0 rfl)
  clear hk0
  by_cases h9 : a.kind = 9
  ·have h9c : (a.kind != 9) = false := by simpa using h9
   have HX : Hid (decide (a.kind ≠ 9 ∧ b.kind = 9) = false) := hid (decide_eq_false (fun e => e.1 h9))
   clear h9
   go_wp2_with fail
   go_meet
   exact ⟨by rw [HX.out], rfl⟩
  ·have h9c : (a.kind != 9) = true := by simpa using h9
   by_cases h8 : b.kind = 9
   ·have h8b : (b.kind == 9) = true := by simpa using h8
    have HX : Hid (decide (a.kind ≠ 9 ∧ b.kind = 9) = true) := hid (decide_eq_true ⟨h9, h8⟩)
    clear h9 h8
    go_wp2_with fail
    go_meet
    exact ⟨by rw [HX.out], rfl⟩
   ·have h8b : (b.kind == 9) = false := by simpa using h8
    have HX : Hid (decide (a.kind ≠ 9 ∧ b.kind = 9) = false) := hid (decide_eq_false (fun e => h8 e.2))
    clear h9 h8
    go_wp2_with fail
    go_meet
    exact ⟨by rw [HX.out], rfl⟩
 case rest =>
 obtain ⟨rfl, rfl⟩ := hcut
 obtain ⟨SW, hSW⟩ : ∃ sw, decide (a.kind ≠ 9 ∧ b.kind = 9) = sw := ⟨_, rfl⟩
 rw [hSW]
 go_upto_if 18 with fail
 go_cut [1] (fun s1 wx => ∃ (how' : Int) (a' b' : Nk) (KA' KB' : Option Addr) (ka' kb' : Nat), s1 = .int .i64 how' ∧ Hid (ValC S d.uses G how' a' b') ∧ Hp [] w [iblk qy 68 (nkcs b' KB' kb'), iblk qx 68 (nkcs a' KA' ka'), iblk g 93 (fitC d L A S.length c)] wx)
 case first =>
  cases SW with
  | true =>
    have h45 := of_decide_eq_true hSW
    have HV := hid (HC.out.1 h45)
    obtain ⟨d0, d1, d2, d3, d4, d5⟩ := Blk.get6 (hk0.blk 1 rfl)
    obtain ⟨e0, e1, e2, e3, e4, e5⟩ := Blk.get6 (hk0.blk 0 rfl)
    generalize mirr how = hm at *
    clear h45 hSW HC
    go_upto_region 2 with fail
    go_still_tail 4, (by kernel_rfl)
    still_call (HM.out _)
    repeat still_step
    try refine wpStill_nil ?_
    change wpList _ _ _ _ _ (World.drew _)
    have hkd := hk0.drew
    refine wpList_store_row rfl 68 (.tmp 6) (.tmp 19) rfl qx (nkcs b KB kb).toArray rfl rfl 68 (nkcs a KA ka).toArray (hkd.blk 1 rfl) (by kernel_rfl) (by kernel_rfl) (by kernel_rfl) ?_
    have hk1 := hkd.rowAt 1 rfl (nkcs b KB kb)
    refine wpList_store_row rfl 68 (.tmp 7) (.tmp 20) rfl qy (nkcs a KA ka).toArray rfl rfl 68 (nkcs b KB kb).toArray (hk1.blk 0 rfl) (by kernel_rfl) (by kernel_rfl) (by kernel_rfl) ?_
    have hk2 := hk1.rowAt 0 rfl (nkcs a KA ka)
    clear d0 d1 d2 d3 d4 d5 e0 e1 e2 e3 e4 e5
    go_wp2_with fail
    go_meet
    exact ⟨hm, b, a, KB, KA, kb, ka, rfl, HV, hk2⟩
  | false =>
    have h45 : ¬ (a.kind ≠ 9 ∧ b.kind = 9) := of_decide_eq_false hSW
    have HV := hid (HC.out.2 h45)
    clear h45 HM hSW HC
    go_wp2_with fail
    go_meet
    exact ⟨how, a, b, KA, KB, ka, kb, rfl, HV, hk0⟩
 case rest =>
  clear hk0 HC HM hSW
  obtain ⟨how, a, b, KA, KB, ka, kb, rfl, HC, hk0⟩ := hcut
  obtain ⟨d0, d1, d2, d3, d4, d5⟩ := Blk.get6 (hk0.blk 1 rfl)
  obtain ⟨e0, e1, e2, e3, e4, e5⟩ := Blk.get6 (hk0.blk 0 rfl)
  obtain ⟨B1, hB1⟩ : ∃ B, decide (a.name = b.name) = B := ⟨_, rfl⟩
  obtain ⟨B2, hB2⟩ : ∃ B, decide (a.attr = b.attr) = B := ⟨_, rfl⟩
  have hs1 : (a.name.toList == b.name.toList) = B1 := strs_eq.trans hB1
  have hs2 : (a.attr.toList == b.attr.toList) = B2 := strs_eq.trans hB2
  have HB1 := hid hB1
  have HB2 := hid hB2
  clear hB1 hB2
  go_upto_region 3 with fail
  go_cut [9] (fun s9 wx => s9 = .bool (B1 && B2) ∧ wx = wc)
  case first =>
   cases B1 <;> cases B2
   all_goals
    go_upto_region 4 with fail
    go_meet
    exact ⟨rfl, rfl⟩
  case rest =>
   obtain ⟨rfl, rfl⟩ := hcut
   have hkk := HC.out.kinds
   obtain ⟨c0, c1, c2, c3, c4, c5, c6, c7, c8⟩ := blk9 (hk0.blk 2 rfl)
   have h3 := h0.trans (hk0.below0.mono h0.size)
   rcases hkk.1 with k9 | k10 | k11
   ·have a10 : (a.kind == 10) = false := by rw [k9]; rfl
    have a11 : (a.kind == 11) = false := by rw [k9]; rfl
    obtain ⟨fd, hfd⟩ := HC.out.fa k9
    by_cases hb10 : b.kind = 10
    ·have b10 : (b.kind == 10) = true := by rw [hb10]; rfl
     have HV := hid (HC.out.at_bound k9 hb10)
     have hnb := HC.out.nb hb10
     have HBD := hid (bounded_any HE.out HR.out a HC.out.a0 KA ka fd hfd how b.num HC.out.lo HC.out.hi hnb.1 hnb.2 _ h3 B (Nat.le_trans hBs hk0.size))
     clear k9 hb10 hnb hfd h3 hkk
     go_wp2_with fail
     refine HBD.out.mono ?_
     rintro e w4 ⟨⟨v, rfl, hv⟩, hb4⟩
     have hk4 := hk0.next hb4
     have HV2 := hid hv
     clear hv HBD
     go_wp2_with fail
     go_ret
     have hb := hk4.below0
     exact ⟨⟨v, rfl, by rw [HV.out]; exact HV2.out⟩, by first | exact hb | (subst hg; exact hb)⟩
    ·have b10 : (b.kind == 10) = false := by simpa using hb10
     by_cases hsm : b.kind = 9 ∧ (a.name = b.name ∧ a.attr = b.attr)
     ·have b9 : (b.kind == 9) = true := by rw [hsm.1]; rfl
      have HV := hid (HC.out.at_same k9 hsm.1 hsm.2)
      have hbb1 : B1 = true := by rw [← HB1.out]; exact decide_eq_true hsm.2.1
      have hbb2 : B2 = true := by rw [← HB2.out]; exact decide_eq_true hsm.2.2
      subst hbb1 hbb2
      have HCM := hid (fun W => compare_any how 0 0 HC.out.lo HC.out.hi W)
      clear k9 hb10 hfd h3 hkk hsm
      generalize cmpB how 0 0 = R at *
      have HT := hid (fun W => za8 R W B)
      go_wp2_with fail
      refine (HCM.out _).mono ?_
      rintro e w3 ⟨rfl, hb3⟩
      have hk3 := hk0.next hb3
      go_wp2_with fail
      refine (HT.out _).mono ?_
      rintro e w4 ⟨⟨v, rfl, hv⟩, hb4⟩
      have hk4 := hk3.next hb4
      have HV2 := hid hv
      clear hv HT
      go_wp2_with fail
      go_ret
      have hb := hk4.below0
      exact ⟨⟨v, rfl, by rw [HV.out]; exact HV2.out⟩, by first | exact hb | (subst hg; exact hb)⟩
     ·have HV := hid (HC.out.at_rest k9 hb10 hsm hfd)
      have hcase : (b.kind == 9) = false ∨ ((b.kind == 9) = true ∧ (B1 && B2) = false) := by
       by_cases e : b.kind = 9
       ·right
        refine ⟨by rw [e]; rfl, ?_⟩
        rw [← HB1.out, ← HB2.out, Bool.eq_false_iff]
        intro h9
        simp only [Bool.and_eq_true, decide_eq_true_eq] at h9
        exact hsm ⟨e, h9⟩
       ·left; simpa using e
      have hBd := fdB_of HR.out hfd
      have HF := hid (zcv HE.out HR.out a KA ka fd hfd (by have := hBd.wl; omega) _ h3)
      have HNM : Hid (∀ (hz : fd.kind = 0) W, Below w0.heap.size w0 W → B ≤ W.heap.size → Calls Tryz.prog 161 #[fitV d L A S.length c, .int .i64 how, nkV a KA ka, nkV b KB kb] W fun e w' => (∃ v, e = .returned v ∧ CvM B w' (numbers (lookS S d.uses) how (ndOf a) (ndOf b)) [v]) ∧ Below W.heap.size W w') := hid fun hz W hW hq => by
       obtain ⟨fe, hfe⟩ := HC.out.fb k9 hb10 hfd hz
       exact numbers_any HE.out HR.out how HC.out.lo HC.out.hi a b HC.out.a0 HC.out.b0 KA KB ka kb fd fe hfd hfe W hW B hq
      have HRl := hid (fun W hq => zcm how a b KA KB ka kb HC.out.a0 HC.out.b0 W B hq)
      have HT := hid (fun W => za8 (decide (how = 0)) W B)
      have hd9 : (how == 0) = decide (how = 0) := rfl
      generalize decide (how = 0) = R at *
      clear k9 hb10 hfd h3 hkk hsm hBd HC HE HR HB1 HB2
      obtain ⟨SM, hSM⟩ : ∃ x, (B1 && B2) = x := ⟨_, rfl⟩
      rw [hSM] at hcase ⊢
      clear hSM hs1 hs2
      rcases hcase with b9 | ⟨b9, rfl⟩
      all_goals
       go_wp2_with fail
       refine HF.out.mono ?_
       rintro e w2 ⟨⟨CA, cc, rfl⟩, hb2⟩
       have hk2 := (hk0.next hb2).new 57 (fcs fd CA cc)
       have h3 := h0.trans (hk2.below0.mono h0.size)
       clear HF hk0 hb2 c0 c1 c2 c3 c4 c5 c6 c7 c8 d0 d1 d2 d3 d4 d5 e0 e1 e2 e3 e4 e5
       go_upto_region 13 with fail
       generalize w2.alloc (.cells #[.string fd.name, .int .i64 fd.kind, .int .i64 fd.min, .int .i64 fd.max, .slice CA fd.words.length cc] 57) = W3 at *
       generalize w2.heap.size = fb at *
       obtain ⟨f0, f1, f2, f3, f4⟩ := Blk.get5 (hk2.blk 0 rfl)
       obtain ⟨e0, e1, e2, e3, e4, e5⟩ := Blk.get6 (hk2.blk 1 rfl)
       obtain ⟨d0, d1, d2, d3, d4, d5⟩ := Blk.get6 (hk2.blk 2 rfl)
       obtain ⟨c0, c1, c2, c3, c4, c5, c6, c7, c8⟩ := blk9 (hk2.blk 3 rfl)
       by_cases hz : fd.kind = 0
       ·have z0 : (fd.kind == 0) = true := by simpa using hz
        have HN := hid (HNM.out hz W3 h3 (Nat.le_trans hBs hk2.size))
        rw [if_pos hz] at HV
        clear hz h3 HNM HRl HT
        go_wp2_with fail
        refine HN.out.mono ?_
        rintro e w4 ⟨⟨v, rfl, hv⟩, hb4⟩
        have hk4 := hk2.next hb4
        have HV2 := hid hv
        clear hv HN
        go_wp2_with fail
        go_ret
        have hb := hk4.below0
        exact ⟨⟨v, rfl, by rw [HV.out]; exact HV2.out⟩, by first | exact hb | (subst hg; exact hb)⟩
       ·have z0 : (fd.kind == 0) = false := by simpa using hz
        rw [if_neg hz] at HV
        clear hz h3 HNM
        by_cases hw : fd.words.length = 1
        ·have w1 : ((fd.words.length : Int) == 1) = true := by rw [hw]; rfl
         rw [if_pos hw] at HV
         clear hw HRl
         go_wp2_with fail
         refine (HT.out _).mono ?_
         rintro e w4 ⟨⟨v, rfl, hv⟩, hb4⟩
         have hk4 := hk2.next hb4
         have HV2 := hid hv
         clear hv HT
         go_wp2_with fail
         go_ret
         have hb := hk4.below0
         exact ⟨⟨v, rfl, by rw [HV.out]; exact HV2.out⟩, by first | exact hb | (subst hg; exact hb)⟩
        ·have w1 : ((fd.words.length : Int) == 1) = false := by simpa using fun e : (fd.words.length : Int) = 1 => hw (by omega)
         rw [if_neg hw] at HV
         clear hw HT
         go_wp2_with fail
         refine (HRl.out _ (Nat.le_trans hBs hk2.size)).mono ?_
         rintro e w4 ⟨⟨v, rfl, hv⟩, hb4⟩
         have hk4 := hk2.next hb4
         have HV2 := hid hv
         clear hv HRl
         go_wp2_with fail
         go_ret
         have hb := hk4.below0
         exact ⟨⟨v, rfl, by rw [HV.out]; exact HV2.out⟩, by first | exact hb | (subst hg; exact hb)⟩
   ·have a10 : (a.kind == 10) = true := by rw [k10]; rfl
    have HV := hid (HC.out.at_num k10)
    have HCM := hid (fun W => compare_any how a.num b.num HC.out.lo HC.out.hi W)
    clear k10 h3 hkk
    generalize cmpB how a.num b.num = R at *
    have HT := hid (fun W => za8 R W B)
    go_wp2_with fail
    refine (HCM.out _).mono ?_
    rintro e w3 ⟨rfl, hb3⟩
    have hk3 := hk0.next hb3
    go_wp2_with fail
    refine (HT.out _).mono ?_
    rintro e w4 ⟨⟨v, rfl, hv⟩, hb4⟩
    have hk4 := hk3.next hb4
    have HV2 := hid hv
    clear hv HT
    go_wp2_with fail
    go_ret
    have hb := hk4.below0
    exact ⟨⟨v, rfl, by rw [HV.out]; exact HV2.out⟩, by first | exact hb | (subst hg; exact hb)⟩
   ·have a10 : (a.kind == 10) = false := by rw [k11]; rfl
    have a11 : (a.kind == 11) = true := by rw [k11]; rfl
    have HV := hid (HC.out.at_word k11)
    have HV3 : Hid (G = tru (B1 == decide (how = 0))) := hid (by rw [HV.out, HB1.out])
    have hd9 : (how == 0) = decide (how = 0) := rfl
    clear k11 h3 hkk HV
    generalize decide (how = 0) = R at *
    obtain ⟨R2, hR2⟩ : ∃ x, (B1 == R) = x := ⟨_, rfl⟩
    rw [hR2] at HV3
    have HT := hid (fun W => za8 R2 W B)
    go_wp2_with fail
    refine (HT.out _).mono ?_
    rintro e w4 ⟨⟨v, rfl, hv⟩, hb4⟩
    have hk4 := hk0.next hb4
    have HV2 := hid hv
    clear hv HT
    go_wp2_with fail
    go_ret
    have hb := hk4.below0
    exact ⟨⟨v, rfl, by rw [HV3.out]; exact HV2.out⟩, by first | exact hb | (subst hg; exact hb)⟩
end Go.Proofs.YtekkapgknohadaaGreatDoor.Nf
