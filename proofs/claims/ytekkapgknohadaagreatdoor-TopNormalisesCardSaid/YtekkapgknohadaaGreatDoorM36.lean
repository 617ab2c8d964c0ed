/- normal: within. -/
import Derived.Test.YtekkapgknohadaaGreatDoorM35
set_option linter.unusedVariables false
set_option maxRecDepth 20000
set_option maxHeartbeats 8000000
namespace Go.Proofs.YtekkapgknohadaaGreatDoor.Nf
open Go.RowKit Go.Shelf
open Lib (hid)
open Pa (F Nd)
theorem within_any {d : Po} {L : Lp} {A : Option Addr} {c : Nat} {S : List Sm} {w0 : World} (E : Env w0 d L A c S) (hR : za9 chkB S d = true) (n : Nk) (hn0 : 0 ≤ n.kind) (KA : Option Addr) (kc : Nat) (fd : Fd) (hf : findS S d.uses n.name n.attr = some fd) (hwl : fd.words.length ≤ 1000000) (lo hi : Int) (w : World) (h0 : Below w0.heap.size w0 w) (B : Nat) (hBs : B ≤ w.heap.size) :
 Calls Tryz.prog 97 #[fitV d L A S.length c, nkV n KA kc, .int .i64 lo, .int .i64 hi] w fun e w' => (∃ v, e = .returned v ∧ CvM B w' (withB fd (ndOf n) (max lo fd.min) (min hi fd.max)) [v]) ∧ Below w.heap.size w w' := by
 obtain ⟨l, hl⟩ : ∃ l, max lo fd.min = l := ⟨_, rfl⟩
 obtain ⟨r, hr⟩ : ∃ r, min hi fd.max = r := ⟨_, rfl⟩
 rw [hl, hr]
 have HL1 := hid hl
 have HL2 := hid hr
 clear hl hr
 have hk := ((Hp.start w).new 93 (fitC d L A S.length c)).new 68 (nkcs n KA kc)
 obtain ⟨g, hg⟩ : ∃ g, w.heap.size = g := ⟨_, rfl⟩
 simp only [sizeA, hg] at hk
 go_enter Tryz.func97, Tryz.ntmps97
 go_upto_region 1 with fail
 obtain ⟨q, hq⟩ : ∃ f, g + 1 = f := ⟨_, rfl⟩
 simp only [hq] at hk ⊢
 generalize hW : (w.alloc (.cells #[.string d.name, .slice L.ua d.uses.length L.uc, .slice L.ra d.reveal.length L.rc, .slice L.na d.nodes.length L.nc, .int .i64 d.root, .string d.scope, .int .i64 d.limit, .string d.escrow, .slice A S.length c] 93)).alloc (.cells #[.int .i64 n.kind, .int .i64 n.num, .string n.name, .string n.attr, .slice KA n.kids.length kc, .int .i64 n.at_] 68) = W1 at *
 have hk0 : Hp [] w [iblk q 68 (nkcs n KA kc), iblk g 93 (fitC d L A S.length c)] W1 := hk
 clear hk hW hq
 obtain ⟨c0, c1, c2, c3, c4, c5, c6, c7, c8⟩ := blk9 (hk0.blk 1 rfl)
 obtain ⟨d0, d1, d2, d3, d4, d5⟩ := Blk.get6 (hk0.blk 0 rfl)
 have HF := hid (zcv E hR n KA kc fd hf hwl W1 (h0.trans (hk0.below0.mono h0.size)))
 clear E hR hf
 go_wp2_with fail
 refine HF.out.mono ?_
 rintro e w2 ⟨⟨CA, cc, rfl⟩, hb2⟩
 have hk2 := (hk0.next hb2).new 57 (fcs fd CA cc)
 clear HF hk0 hb2 c0 c1 c2 c3 c4 c5 c6 c7 c8 d0 d1 d2 d3 d4 d5
 go_upto_region 2 with fail
 generalize w2.alloc (.cells #[.string fd.name, .int .i64 fd.kind, .int .i64 fd.min, .int .i64 fd.max, .slice CA fd.words.length cc] 57) = W3 at *
 generalize w2.heap.size = fb at *
 obtain ⟨f0, f1, f2, f3, f4⟩ := Blk.get5 (hk2.blk 0 rfl)
 go_quiet (fail)
 go_upto_region 3 with fail
 have hk3 := hk2.drewN nq
 clear hk2 f0 f1 f2 f3 f4
 generalize W3.drewN nq = W4 at *
 try simp only [HL1.out, HL2.out]
 have HV : Hid (withB fd (ndOf n) l r = if r < l then tru false else if l = fd.min ∧ r = fd.max then tru true else if l = r then rel 0 (ndOf n) (nbr l) else .cons ⟨7, 0, [], [], 0⟩ (.cons (ndOf n) .nil (two (nbr l) (nbr r))) .nil) := hid rfl
 obtain ⟨f0, f1, f2, f3, f4⟩ := Blk.get5 (hk3.blk 0 rfl)
 by_cases h1 : r < l
 ·have HT := hid (fun W => za8 false W B)
  go_wp2_with fail
  refine (HT.out _).mono ?_
  rintro e w4 ⟨⟨v, rfl, hv⟩, hb4⟩
  have hk4 := hk3.next hb4
  have HV2 := hid hv
  clear hv HT
  go_wp2_with fail
  go_ret
  have hb := hk4.below0
  exact ⟨⟨v, rfl, by rw [HV.out, if_pos h1]; exact HV2.out⟩, by first | exact hb | (subst hg; exact hb)⟩
 ·by_cases h23 : l = fd.min ∧ r = fd.max
  ·obtain ⟨h2, h3⟩ := h23
   have h2b : (l == fd.min) = true := by simpa using h2
   have h3b : (r == fd.max) = true := by simpa using h3
   have HV : Hid (withB fd (ndOf n) l r = tru true) := hid (by rw [HV.out, if_neg h1, if_pos ⟨h2, h3⟩])
   clear h2 h3
   have HT := hid (fun W => za8 true W B)
   go_wp2_with fail
   refine (HT.out _).mono ?_
   rintro e w4 ⟨⟨v, rfl, hv⟩, hb4⟩
   have hk4 := hk3.next hb4
   have HV2 := hid hv
   clear hv HT
   go_wp2_with fail
   go_ret
   have hb := hk4.below0
   exact ⟨⟨v, rfl, by rw [HV.out]; exact HV2.out⟩, by first | exact hb | (subst hg; exact hb)⟩
  ·have HW : Hid (withB fd (ndOf n) l r = if l = r then rel 0 (ndOf n) (nbr l) else .cons ⟨7, 0, [], [], 0⟩ (.cons (ndOf n) .nil (two (nbr l) (nbr r))) .nil) := hid (by rw [HV.out, if_neg h1, if_neg h23])
   have hb23 : ((l == fd.min) && (r == fd.max)) = false := by
    rw [Bool.eq_false_iff]
    intro h
    simp only [Bool.and_eq_true, beq_iff_eq] at h
    exact h23 h
   clear h23 HV
   cases hb1 : (l == fd.min) <;> cases hb2 : (r == fd.max)
   case true.true => rw [hb1, hb2] at hb23; cases hb23
   all_goals
    clear hb23
    by_cases h4 : l = r
    ·subst h4
     rw [if_pos rfl] at HW
     obtain ⟨d0, d1, d2, d3, d4, d5⟩ := Blk.get6 (hk3.blk 1 rfl)
     have HN := hid (zbq l)
     have HRl := hid (fun W hq => zcm 0 n (nbK l) KA none kc 0 hn0 (show (0 : Int) ≤ 10 by decide) W B hq)
     go_upto_region 8 with fail
     clear f0 f1 f2 f3 f4
     go_region_held3 (fun w' => w'.cell? ⟨q, 0, none⟩ = some (.int .i64 n.kind) ∧ w'.cell? ⟨q, 1, none⟩ = some (.int .i64 n.num) ∧ w'.cell? ⟨q, 2, none⟩ = some (.string n.name) ∧ w'.cell? ⟨q, 3, none⟩ = some (.string n.attr) ∧ w'.cell? ⟨q, 4, none⟩ = some (.slice KA n.kids.length kc) ∧ w'.cell? ⟨q, 5, none⟩ = some (.int .i64 n.at_)) (first | exact ⟨d0, d1, d2, d3, d4, d5⟩ | exact Blk.get6 (hk4.blk 1 rfl) | exact Blk.get6 (hk5.blk 1 rfl)) (first | (go_at_call 163; refine (HN.out _).mono ?_; rintro e w4 ⟨rfl, hb4⟩; have hk4 := hk3.drew.next hb4) | (go_at_call 162; refine (HRl.out _ (Nat.le_trans hBs hk4.size)).mono ?_; rintro e w5 ⟨⟨v, rfl, hv⟩, hb5⟩; have hk5 := hk4.next hb5))
     all_goals
      have HV2 := hid hv
      clear hv HN HRl
      go_wp2_with fail
      go_ret
      have hb := hk5.below0
      exact ⟨⟨v, rfl, by rw [HW.out]; exact HV2.out⟩, by first | exact hb | (subst hg; exact hb)⟩
    ·rw [if_neg h4] at HW
     have h4b : (l == r) = false := by simpa using h4
     obtain ⟨d0, d1, d2, d3, d4, d5⟩ := Blk.get6 (hk3.blk 1 rfl)
     go_upto_region 9 with fail
     clear f0 f1 f2 f3 f4 h4
     have hk4 := hk3.drew
     go_region_held3 (fun w' => w'.cell? ⟨q, 0, none⟩ = some (.int .i64 n.kind) ∧ w'.cell? ⟨q, 1, none⟩ = some (.int .i64 n.num) ∧ w'.cell? ⟨q, 2, none⟩ = some (.string n.name) ∧ w'.cell? ⟨q, 3, none⟩ = some (.string n.attr) ∧ w'.cell? ⟨q, 4, none⟩ = some (.slice KA n.kids.length kc) ∧ w'.cell? ⟨q, 5, none⟩ = some (.int .i64 n.at_)) (first | exact ⟨d0, d1, d2, d3, d4, d5⟩ | exact Blk.get6 (hk4.blk 1 rfl) | exact Blk.get6 ((hk4.alloc _).blk 1 rfl)) (first | (go_at_call 163; refine (zbq _ _).mono ?_; rintro e w4 ⟨rfl, hb4⟩; replace hk4 := hk4.next hb4))
     all_goals
      have hbk := Nat.le_trans hBs hk4.size
      have hk5 := hk4.new 68 (nkcs n KA kc ++ (nkcs (nbK l) none 0 ++ nkcs (nbK r) none 0))
      have hb := hk5.below0
      have hrw := hk5.blk 0 rfl
      clear hk4 hk5
      go_wp2_with fail
      go_ret
      refine ⟨⟨_, rfl, ?_⟩, by first | exact hb | (subst hg; exact hb)⟩
      rw [HW.out]
      refine ⟨_, [], rfl, rfl, ?_⟩
      rw [if_neg (show ¬ (7 : Nat) = 5 by decide)]
      refine ⟨⟨rfl, rfl, rfl, rfl, rfl, rfl, rfl, trivial⟩, some ⟨_, 0, none⟩, 3, rfl, fun i x hx => ⟨_, rfl, hbk, ?_⟩⟩
      rw [zcn]
      match i, hx with
      | 0, hx =>
        obtain rfl : ndOf n = x := by simpa [two, vals] using hx
        exact vat_of (o := 0) hrw hn0 (fun j u hu => by rw [Nat.zero_add, List.getElem?_append_left (by have := (List.getElem?_eq_some_iff.1 hu).1; exact this)]; exact hu)
      | 1, hx =>
        obtain rfl : ndOf (nbK l) = x := Option.some.inj hx
        exact vat_of (o := 6) hrw (show (0 : Int) ≤ 10 by decide) (fun j u hu => by rw [List.getElem?_append_right (by show 6 ≤ _; omega), show 6 + j - (nkcs n KA kc).length = j by show 6 + j - 6 = j; omega, List.getElem?_append_left (by have := (List.getElem?_eq_some_iff.1 hu).1; exact this)]; exact hu)
      | 2, hx =>
        obtain rfl : ndOf (nbK r) = x := Option.some.inj hx
        exact vat_of (o := 12) hrw (show (0 : Int) ≤ 10 by decide) (fun j u hu => by rw [List.getElem?_append_right (by show 6 ≤ _; omega), show 12 + j - (nkcs n KA kc).length = 6 + j by show 12 + j - 6 = 6 + j; omega, List.getElem?_append_right (by show 6 ≤ _; omega), show 6 + j - (nkcs (nbK l) none 0).length = j by show 6 + j - 6 = j; omega]; exact hu)
      | i + 3, hx => simp [two, vals] at hx
end Go.Proofs.YtekkapgknohadaaGreatDoor.Nf
