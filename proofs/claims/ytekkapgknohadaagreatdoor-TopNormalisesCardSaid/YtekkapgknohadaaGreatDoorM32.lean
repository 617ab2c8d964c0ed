/- typing.numbers, first. -/
import Derived.Test.YtekkapgknohadaaGreatDoorM30
set_option linter.unusedVariables false
set_option maxRecDepth 20000
set_option maxHeartbeats 8000000
namespace Go.Proofs.YtekkapgknohadaaGreatDoor.Nf
open Go.RowKit Go.Shelf
open Lib (hid)
structure Tys (w0 W : World) (A : Option Addr) (l : List Ty) : Prop where
 at_ : ∀ i t, l[i]? = some t → ∃ ad b WA n c s, A = some ad ∧ W.cell? (ad.add (i * 3)) = some (.bool b) ∧ W.cell? ⟨(ad.add (i * 3)).block, (ad.add (i * 3)).off + 1, none⟩ = some (.slice WA n c) ∧ W.cell? ⟨(ad.add (i * 3)).block, (ad.add (i * 3)).off + 2, none⟩ = some (.string s) ∧ TyIs w0 t b WA n c s
theorem Tys.up {w0 W W' : World} {A : Option Addr} {l : List Ty} (h : Tys w0 W A l) (hb : Below W.heap.size W W') : Tys w0 W' A l := ⟨fun i t ht => by
 obtain ⟨ad, b, WA, n, c, s, h1, h2, h3, h4, h5⟩ := h.at_ i t ht
 exact ⟨ad, b, WA, n, c, s, h1, zaa h2 hb, zaa h3 hb, zaa h4 hb, h5⟩⟩
theorem TyIs.b {w0 : World} {t : Ty} {b : Bool} {A : Option Addr} {n c : Nat} {s : ByteArray} (h : TyIs w0 t b A n c s) : b = t.isN := by cases h <;> rfl
theorem enters_num1 : ∀ args w, (callFunc 246 args).run Tryz.prog w = .ok (.enter 246 args) w := enters_of Tryz.func246 (by kernel_rfl) rfl
theorem num1_any (b : Bool) (A : Option Addr) (n c : Nat) (s : ByteArray) (w : World) :
 Calls Tryz.prog 246 #[.agg (tyC b A n c s).toArray] w fun e w' => e = .returned (.bool !b) ∧ Below w.heap.size w w' := by
 have hk := (Hp.start w).new 275 (tyC b A n c s)
 have hb := hk.below0
 have d0 := (hk.blk 0 rfl).cell 0
 simp only [List.getElem?_cons_zero] at d0
 go_enter Tryz.func246, Tryz.ntmps246
 go_wp2_with fail
 go_ret
 exact ⟨rfl, hb⟩
theorem indexV_any (w0 : World) (A : Option Addr) (c : Nat) (l : List Ty) (hl : l.length ≤ 1000000) (W : World) (hx : Tys w0 W A l) :
 Calls Tryz.prog 263 #[.slice A l.length c, .func (.func 246) #[] #[]] W fun e w' => (∃ y : Int, e = .returned (.int .i64 y) ∧ (0 ≤ y ↔ l.all Ty.isN = false)) ∧ Below W.heap.size W w' := by
 have hen := enters_num1
 obtain ⟨R, hR⟩ : ∃ R, l.all Ty.isN = R := ⟨_, rfl⟩
 rw [hR]
 have HR := hid hR
 clear hR
 go_enter Tryz.func263, Tryz.ntmps263
 go_upto_region 2 with fail
 go_loopg [8] l.length (fun m s8 wx => ∃ i : Nat, i ≤ l.length ∧ m = l.length - i ∧ s8 = .int .i64 (i : Int) ∧ Below W.heap.size W wx ∧ Hid ((l.take i).all Ty.isN = true))
 case atStart => exact ⟨0, Nat.zero_le _, rfl, rfl, Below.refl _ _, hid rfl⟩
 case round =>
  obtain ⟨i, hi, rfl, rfl, hb, HI⟩ := hrel
  by_cases hil : i < l.length
  ·have hii : (i : Int) < (l.length : Int) := by omega
   have hi0 : (0 : Int) ≤ (i : Int) := by omega
   obtain ⟨t, ht⟩ : ∃ t, l[i]? = some t := ⟨_, List.getElem?_eq_getElem hil⟩
   obtain ⟨ad, b, WA, n, tc, s, rfl, c0, c1, c2, hT⟩ := (hx.up hb).at_ i t ht
   have HC := hid (num1_any b WA n tc s wr)
   have hbt := hT.b
   cases b with
   | false =>
     have HM : Hid (R = false) := hid (by rw [← HR.out]; exact all_bad ht hbt.symm)
     clear ht hT hbt
     go_wp2_with fail
     refine HC.out.mono ?_
     rintro e w1 ⟨rfl, hb1⟩
     go_wp2_with fail
     go_ret
     exact ⟨⟨_, rfl, by rw [HM.out]; simp⟩, hb.trans (hb1.mono hb.size)⟩
   | true =>
     have HI2 : Hid ((l.take (i + 1)).all Ty.isN = true) := hid (by rw [all_take ht, HI.out, ← hbt]; rfl)
     clear ht hT hbt
     go_wp2_with fail
     refine HC.out.mono ?_
     rintro e w1 ⟨rfl, hb1⟩
     go_wp2_with fail
     go_roundg (l.length - (i + 1))
     case measure => omega
     case rel => exact ⟨i + 1, hil, rfl, by first | rfl | simp, hb.trans (hb1.mono hb.size), HI2⟩
  ·have hii : ¬ (i : Int) < (l.length : Int) := by omega
   have HM : Hid (R = true) := hid (by rw [← HR.out, ← HI.out, List.take_of_length_le (by omega)])
   go_wp2_with fail
   go_ret
   exact ⟨⟨_, rfl, by rw [HM.out]; decide⟩, hb⟩
theorem containsV_any (w0 : World) (A : Option Addr) (c : Nat) (l : List Ty) (hl : l.length ≤ 1000000) (W : World) (hx : Tys w0 W A l) :
 Calls Tryz.prog 245 #[.slice A l.length c, .func (.func 246) #[] #[]] W fun e w' => e = .returned (.bool !(l.all Ty.isN)) ∧ Below W.heap.size W w' := by
 have HC := hid (indexV_any w0 A c l hl W hx)
 obtain ⟨R, hR⟩ : ∃ R, l.all Ty.isN = R := ⟨_, rfl⟩
 rw [hR] at HC ⊢
 clear hR
 go_enter Tryz.func245, Tryz.ntmps245
 go_wp2_with fail
 refine HC.out.mono ?_
 rintro e w1 ⟨⟨y, rfl, hy⟩, hb⟩
 by_cases h : 0 ≤ y
 ·have HY := hid (hy.1 h)
  clear hy
  go_wp2_with fail
  go_ret
  exact ⟨by rw [HY.out]; simp, hb⟩
 ·have HY : Hid (R = true) := hid (by rw [← Bool.not_eq_false]; exact fun e => h (hy.2 e))
  clear hy
  go_wp2_with fail
  go_ret
  exact ⟨by rw [HY.out]; simp; omega, hb⟩
theorem tnumbers_any (w0 : World) (A : Option Addr) (c : Nat) (l : List Ty) (hl : l.length ≤ 1000000) (W : World) (hx : Tys w0 W A l) :
 Calls Tryz.prog 205 #[.slice A l.length c] W fun e w' => e = .returned (.bool (l.all Ty.isN)) ∧ Below W.heap.size W w' := by
 have HC := hid (containsV_any w0 A c l hl W hx)
 go_enter Tryz.func205, Tryz.ntmps205
 go_wp2_with fail
 refine HC.out.mono ?_
 rintro e w1 ⟨rfl, hb⟩
 go_wp2_with fail
 go_ret
 exact ⟨by simp, hb⟩
theorem first_any (w0 : World) (A : Option Addr) (c : Nat) (a : Ty) (r : List Ty) (hl : (a :: r).length ≤ 1000000) (hc : (a :: r).length ≤ c) (hr : 0 < r.length) (W : World) (h0 : Below w0.heap.size w0 W) (hx : Tys w0 W A (a :: r)) :
 Calls Tryz.prog 206 #[.slice A (a :: r).length c] W fun e w' => (∃ y : Int, e = .returned (.int .i64 y) ∧ (y = 0 ↔ r.all (agree a) = true)) ∧ Below W.heap.size W w' := by
 obtain ⟨R, hR⟩ : ∃ R, r.all (agree a) = R := ⟨_, rfl⟩
 rw [hR]
 have HR := hid hR
 clear hR
 obtain ⟨ad, b, WA, n, tc, s, rfl, c0, c1, c2, hT⟩ := hx.at_ 0 a rfl
 simp only [List.length_cons] at hl hc ⊢
 have hc1 : ¬ c = 1 := by omega
 have ad0 : ad.add (0 * 3) = ad := rfl
 rw [ad0] at c0 c1 c2
 have hle : (1 : Int) ≤ ((r.length + 1 : Nat) : Int) := by omega
 go_enter Tryz.func206, Tryz.ntmps206
 go_upto_region 2 with fail
 clear hle hc1
 go_loopg [9] r.length (fun m s9 wx => ∃ i : Nat, i ≤ r.length ∧ m = r.length - i ∧ s9 = .int .i64 (i : Int) ∧ Hp [] W [] wx ∧ Hid ((r.take i).all (agree a) = true))
 case atStart => exact ⟨0, Nat.zero_le _, rfl, rfl, Hp.start W, hid rfl⟩
 case round =>
  obtain ⟨i, hi, rfl, rfl, hM, HI⟩ := hrel
  have hb := hM.below0
  by_cases hil : i < r.length
  ·have hii : (i : Int) < (r.length : Int) := by omega
   have hi0 : (0 : Int) ≤ (i : Int) := by omega
   obtain ⟨t, ht⟩ : ∃ t, r[i]? = some t := ⟨_, List.getElem?_eq_getElem hil⟩
   obtain ⟨ad', b', WA', n', tc', s', hA, d0, d1, d2, hT'⟩ := (hx.up hb).at_ (i + 1) t (by rw [List.getElem?_cons_succ]; exact ht)
   cases hA
   have ha2 : ad.add ((i + 1) * 3) = ⟨ad.block, ad.off + 3 + i * 3, none⟩ := by
    unfold Addr.add
    rw [if_neg (by omega), show ad.off + (i + 1) * 3 = ad.off + 3 + i * 3 by omega]
   rw [ha2] at d0 d1 d2
   simp only at d1 d2
   have e0 := zaa c0 hb
   have e1 := zaa c1 hb
   have e2 := zaa c2 hb
   have HT := hid (all_take (p := agree a) ht)
   have HB := hid (fun h => all_bad (p := agree a) ht h)
   clear ha2 ht
   have hM1 := hM.new 275 (tyC b' WA' n' tc' s')
   go_upto_region 4 with fail
   generalize wr.alloc (.cells #[.bool b', .slice WA' n' tc', .string s'] 275) = W2 at *
   generalize wr.heap.size = g2 at *
   have k0 := zaa c0 hM1.below0
   have k1 := zaa c1 hM1.below0
   have k2 := zaa c2 hM1.below0
   have f0 := (hM1.blk 0 rfl).cell 0
   have f1 := (hM1.blk 0 rfl).cell 1
   have f2 := (hM1.blk 0 rfl).cell 2
   simp only [List.getElem?_cons_zero, List.getElem?_cons_succ] at f0 f1 f2
   have HC := hid (agree_any w0 W2.drew ((h0.trans (hM1.below0.mono h0.size)).trans (Below.refl _ _).drew) hT hT')
   obtain ⟨Q, hQ⟩ : ∃ Q, agree a t = Q := ⟨_, rfl⟩
   rw [hQ] at HC HT HB
   clear hQ d0 d1 d2 e0 e1 e2 hM
   go_region_held3 (fun w' => w'.cell? ad = some (.bool b) ∧ w'.cell? ⟨ad.block, ad.off + 1, none⟩ = some (.slice WA n tc) ∧ w'.cell? ⟨ad.block, ad.off + 2, none⟩ = some (.string s) ∧ w'.cell? ⟨g2, 0, none⟩ = some (.bool b') ∧ w'.cell? ⟨g2, 1, none⟩ = some (.slice WA' n' tc') ∧ w'.cell? ⟨g2, 2, none⟩ = some (.string s')) (first | exact ⟨k0, k1, k2, f0, f1, f2⟩ | exact ⟨m0, m1, m2, m3, m4, m5⟩) (first | (go_at_call 247; refine HC.out.mono ?_; rintro e w4 ⟨⟨y, rfl, hy⟩, hb4⟩; have hM4 := hM1.drew.next hb4; have m0 := zaa c0 hM4.below0; have m1 := zaa c1 hM4.below0; have m2 := zaa c2 hM4.below0; have m3 := (hM4.blk 0 rfl).cell 0; have m4 := (hM4.blk 0 rfl).cell 1; have m5 := (hM4.blk 0 rfl).cell 2))
   all_goals
    clear m0 m1 m2 m3 m4 m5 k0 k1 k2 f0 f1 f2 HC hM1
    cases Q with
    | true =>
      have hy0 : y = 0 := hy.2 rfl
      subst hy0
      have HI2 : Hid ((r.take (i + 1)).all (agree a) = true) := hid (by rw [HT.out, HI.out]; rfl)
      clear HT HB HI hy
      go_wp2_with fail
      go_roundg (r.length - (i + 1))
      case measure => omega
      case rel => exact ⟨i + 1, hil, rfl, by first | rfl | simp, hM4.tail, HI2⟩
    | false =>
      have hy0 : (y == 0) = false := by simpa using fun e => by simpa using hy.1 e
      have hy1 : (y != 0) = true := by simpa using hy0
      have HM : Hid (R = false) := hid (by rw [← HR.out]; exact HB.out rfl)
      have HY := hid hy
      clear HT HB HI hy
      go_wp2_with fail
      go_ret
      exact ⟨⟨y, rfl, by rw [HM.out]; exact HY.out⟩, hM4.below0⟩
  ·have hii : ¬ (i : Int) < (r.length : Int) := by omega
   have HM : Hid (R = true) := hid (by rw [← HR.out, ← HI.out, List.take_of_length_le (by omega)])
   go_wp2_with fail
   go_ret
   exact ⟨⟨_, rfl, by rw [HM.out]; simp⟩, hb⟩
open Go.RowKit Go.Shelf
open Lib (hid)
def fitsK (kind num : Int) (a : Ty) (r : List Ty) : Bool :=
 if kind = 6 then (decide (num = 0) || decide (num = 1) || (a :: r).all Ty.isN) && r.all (agree a)
 else if kind = 7 then (a :: r).all Ty.isN
 else r.all (agree a)
def YOut (R : Bool) (e : Ending) : Prop := ∃ y : Int, e = .returned (.int .i64 y) ∧ (y = 0 ↔ R = true)
theorem c3_any (w0 : World) (n : Nk) (KA : Option Addr) (kc : Nat) (A : Option Addr) (c : Nat) (a : Ty) (r : List Ty) (hl : (a :: r).length ≤ 1000000) (hc : (a :: r).length ≤ c) (hr : 0 < r.length) (W : World) (h0 : Below w0.heap.size w0 W) (hx : Tys w0 W A (a :: r)) :
 Calls Tryz.prog 208 #[nkV n KA kc, .slice A (a :: r).length c] W fun e w' => YOut (r.all (agree a)) e ∧ Below W.heap.size W w' := by
 have hk := (Hp.start W).new 68 (nkcs n KA kc)
 have hb := hk.below0
 have HC := hid (first_any w0 A c a r hl hc hr _ (h0.trans (hb.mono h0.size)) (hx.up hb))
 obtain ⟨R, hR⟩ : ∃ R, r.all (agree a) = R := ⟨_, rfl⟩
 rw [hR] at HC ⊢
 clear hR hk
 generalize (a :: r).length = ln at *
 go_enter Tryz.func208, Tryz.ntmps208
 go_wp2_with fail
 refine HC.out.mono ?_
 rintro e w1 ⟨⟨y, rfl, hy⟩, hb1⟩
 have HY := hid hy
 clear hy
 go_wp2_with fail
 go_ret
 exact ⟨⟨y, rfl, HY.out⟩, hb.trans (hb1.mono hb.size)⟩
theorem c2_any (w0 : World) (n : Nk) (KA : Option Addr) (kc : Nat) (A : Option Addr) (c : Nat) (l : List Ty) (hl : l.length ≤ 1000000) (W : World) (hx : Tys w0 W A l) :
 Calls Tryz.prog 207 #[nkV n KA kc, .slice A l.length c] W fun e w' => YOut (l.all Ty.isN) e ∧ Below W.heap.size W w' := by
 have hk := (Hp.start W).new 68 (nkcs n KA kc)
 have hb := hk.below0
 have HC := hid (tnumbers_any w0 A c l hl _ (hx.up hb))
 obtain ⟨R, hR⟩ : ∃ R, l.all Ty.isN = R := ⟨_, rfl⟩
 rw [hR] at HC ⊢
 clear hR hk
 cases R
 all_goals
  go_enter Tryz.func207, Tryz.ntmps207
  go_wp2_with fail
  refine HC.out.mono ?_
  rintro e w1 ⟨rfl, hb1⟩
  go_wp2_with fail
  go_ret
  exact ⟨⟨_, rfl, by simp⟩, hb.trans (hb1.mono hb.size)⟩
theorem c1_any (w0 : World) (n : Nk) (KA : Option Addr) (kc : Nat) (A : Option Addr) (c : Nat) (a : Ty) (r : List Ty) (hl : (a :: r).length ≤ 1000000) (hc : (a :: r).length ≤ c) (hr : 0 < r.length) (W : World) (h0 : Below w0.heap.size w0 W) (hx : Tys w0 W A (a :: r)) :
 Calls Tryz.prog 204 #[nkV n KA kc, .slice A (a :: r).length c] W fun e w' => YOut ((decide (n.num = 0) || decide (n.num = 1) || (a :: r).all Ty.isN) && r.all (agree a)) e ∧ Below W.heap.size W w' := by
 have hk := (Hp.start W).new 68 (nkcs n KA kc)
 have hb := hk.below0
 have d1 := (hk.blk 0 rfl).cell 1
 simp only [List.getElem?_cons_zero, List.getElem?_cons_succ] at d1
 have HC := hid (fun W' (h : Below W.heap.size W W') => first_any w0 A c a r hl hc hr W' (h0.trans (h.mono h0.size)) (hx.up h))
 have HN := hid (tnumbers_any w0 A c (a :: r) hl _ (hx.up hb))
 obtain ⟨Q, hQ⟩ : ∃ Q, (a :: r).all Ty.isN = Q := ⟨_, rfl⟩
 obtain ⟨R, hR⟩ : ∃ R, r.all (agree a) = R := ⟨_, rfl⟩
 rw [hR] at HC ⊢
 rw [hQ] at HN ⊢
 clear hR hQ hk hx
 generalize (a :: r).length = ln at *
 cases h1 : (n.num == 0) with
 | true =>
   have e1 : n.num = 0 := by simpa using h1
   have HD : Hid (decide (n.num = 0) = true) := hid (decide_eq_true e1)
   have h2 : (n.num != 0) = false := by simpa using h1
   clear e1
   go_enter Tryz.func204, Tryz.ntmps204
   go_wp2_with fail
   refine (HC.out _ hb).mono ?_
   rintro e w1 ⟨⟨y, rfl, hy⟩, hb1⟩
   have HY := hid hy
   clear hy
   go_wp2_with fail
   go_ret
   exact ⟨⟨y, rfl, by rw [HD.out]; simpa using HY.out⟩, hb.trans (hb1.mono hb.size)⟩
 | false =>
   have h2 : (n.num != 0) = true := by simpa using h1
   have HD : Hid (decide (n.num = 0) = false) := hid (decide_eq_false (by simpa using h1))
   cases h3 : (n.num == 1) with
   | true =>
     have e1 : n.num = 1 := by simpa using h3
     have HD2 : Hid (decide (n.num = 1) = true) := hid (decide_eq_true e1)
     have h4 : (n.num != 1) = false := by simpa using h3
     clear e1
     go_enter Tryz.func204, Tryz.ntmps204
     go_wp2_with fail
     refine (HC.out _ hb).mono ?_
     rintro e w1 ⟨⟨y, rfl, hy⟩, hb1⟩
     have HY := hid hy
     clear hy
     go_wp2_with fail
     go_ret
     exact ⟨⟨y, rfl, by rw [HD.out, HD2.out]; simpa using HY.out⟩, hb.trans (hb1.mono hb.size)⟩
   | false =>
     have HD2 : Hid (decide (n.num = 1) = false) := hid (decide_eq_false (by simpa using h3))
     have h4 : (n.num != 1) = true := by simpa using h3
     cases Q with
     | false =>
       go_enter Tryz.func204, Tryz.ntmps204
       go_wp2_with fail
       refine HN.out.mono ?_
       rintro e w1 ⟨rfl, hb1⟩
       go_wp2_with fail
       go_ret
       exact ⟨⟨_, rfl, by rw [HD.out, HD2.out]; simp⟩, hb.trans (hb1.mono hb.size)⟩
     | true =>
       go_enter Tryz.func204, Tryz.ntmps204
       go_wp2_with fail
       refine HN.out.mono ?_
       rintro e w1 ⟨rfl, hb1⟩
       go_wp2_with fail
       refine (HC.out _ (hb.trans (hb1.mono hb.size))).mono ?_
       rintro e w2 ⟨⟨y, rfl, hy⟩, hb2⟩
       have HY := hid hy
       clear hy
       go_wp2_with fail
       go_ret
       exact ⟨⟨y, rfl, by rw [HD.out, HD2.out]; simpa using HY.out⟩, (hb.trans (hb1.mono hb.size)).trans (hb2.mono (hb.trans (hb1.mono hb.size)).size)⟩
end Go.Proofs.YtekkapgknohadaaGreatDoor.Nf
