/- typing: condition. -/
import Derived.Test.YtekkapgknohadaaGreatDoorM37
set_option linter.unusedVariables false
set_option maxRecDepth 20000
set_option maxHeartbeats 16000000
namespace Go.Proofs.YtekkapgknohadaaGreatDoor.Nf
open Go.RowKit Go.Shelf
open Lib (hid)
open Pa (F Nd)
structure Vd where
 b : Bool
 A : Option Addr
 n : Nat
 c : Nat
 s : ByteArray
def Vd.cells (v : Vd) : List Value := tyC v.b v.A v.n v.c v.s
def zcx (V : List Vd) : List Value := V.flatMap Vd.cells
theorem vdcells_snoc (V : List Vd) (v : Vd) : zcx (V ++ [v]) = zcx V ++ v.cells := by simp [zcx]
theorem vdcells_at {V : List Vd} {i : Nat} {v : Vd} (h : V[i]? = some v) (j : Nat) (hj : j < 3) : (zcx V)[i * 3 + j]? = v.cells[j]? := by
 induction V generalizing i with
 | nil => cases h
 | cons x V ih =>
   have e : zcx (x :: V) = x.cells ++ zcx V := rfl
   rw [e]
   cases i with
   | zero =>
     obtain rfl := Option.some.inj h
     rw [Nat.zero_mul, Nat.zero_add, List.getElem?_append_left (by show j < 3; exact hj)]
   | succ i =>
     rw [List.getElem?_append_right (by show 3 ≤ _; omega), show (i + 1) * 3 + j - x.cells.length = i * 3 + j by show (i + 1) * 3 + j - 3 = _; omega]
     exact ih h
abbrev ivals (v : Value) (n : Nat) (V : List Vd) : It := irow 275 3 v n (zcx V)
def VTs (w0 : World) : List Vd → List Ty → Prop
 | [], [] => True
 | v :: V, t :: T => TyIs w0 t v.b v.A v.n v.c v.s ∧ VTs w0 V T
 | _, _ => False
theorem VTs.len {w0 : World} : ∀ {V : List Vd} {T : List Ty}, VTs w0 V T → V.length = T.length
 | [], [], _ => rfl
 | v :: V, t :: T, h => by rw [List.length_cons, List.length_cons, VTs.len h.2]
 | [], t :: T, h => h.elim
 | v :: V, [], h => h.elim
theorem VTs.snoc {w0 : World} {v : Vd} {t : Ty} (hv : TyIs w0 t v.b v.A v.n v.c v.s) : ∀ {V : List Vd} {T : List Ty}, VTs w0 V T → VTs w0 (V ++ [v]) (T ++ [t])
 | [], [], _ => ⟨hv, trivial⟩
 | u :: V, s :: T, h => ⟨h.1, VTs.snoc hv h.2⟩
 | [], t :: T, h => h.elim
 | v :: V, [], h => h.elim
theorem VTs.at_ {w0 : World} : ∀ {V : List Vd} {T : List Ty}, VTs w0 V T → ∀ (i : Nat) (t : Ty), T[i]? = some t → ∃ v : Vd, V[i]? = some v ∧ TyIs w0 t v.b v.A v.n v.c v.s
 | [], [], _, i, t, ht => by cases i <;> cases ht
 | u :: V, s :: T, h, 0, t, ht => by obtain rfl := Option.some.inj ht; exact ⟨u, rfl, h.1⟩
 | u :: V, s :: T, h, i + 1, t, ht => VTs.at_ h.2 i t ht
 | [], t :: T, h, _, _, _ => h.elim
 | v :: V, [], h, _, _, _ => h.elim
theorem VTs.tys {w0 W : World} {A : Option Addr} {n c : Nat} {V : List Vd} {T : List Ty} (h : VTs w0 V T) (hr : W.ownsRow 0 275 3 (.slice A n c) n (zcx V)) (hn : V.length = n) : Tys w0 W A T := ⟨fun i t ht => by
 obtain ⟨v, hv, ht2⟩ := h.at_ i t ht
 have hi := (List.getElem?_eq_some_iff.1 hv).1
 obtain ⟨g, cap, e, -⟩ := za5 hr (by omega)
 injection e with e1 e2 e3
 subst e1
 have key : ∀ j, j < 3 → ∀ u, v.cells[j]? = some u → W.cell? ⟨g, i * 3 + j, none⟩ = some u := fun j hj u hu => zaz hr ((vdcells_at hv j hj).trans hu)
 refine ⟨⟨g, 0, none⟩, v.b, v.A, v.n, v.c, v.s, rfl, ?_, ?_, ?_, ht2⟩
 ·rw [zcn]; exact key 0 (by omega) _ rfl
 ·rw [zcn]; exact key 1 (by omega) _ rfl
 ·rw [zcn]; exact key 2 (by omega) _ rfl⟩
theorem value_info : (Tryz.prog.info? 275).map (fun i => (i.zero, i.size, i.bytes)) = some (some (.agg (tyC false none 0 0 ⟨#[]⟩).toArray), 3, 48) := by kernel_rfl
theorem new3p (w : World) (t : TypeId) (a b c : Value) : ∀ (j : Nat) u, [a, b, c][j]? = some u → (w.alloc (.cells #[a, b, c] t)).cell? ((⟨w.heap.size, 0, none⟩ : Addr).add j) = some u := by
 intro j u hu
 rw [zcn, (show Blk (w.alloc (.cells #[a, b, c] t)) w.heap.size t [a, b, c] from Blk.new w t [a, b, c]).cell j]
 exact hu
abbrev zchks : List Value := [.nilFunc, .nilFunc, .nilFunc, .nilFunc, .nilFunc, .nilFunc, .nilFunc, .nilFunc, .nilFunc, .nilFunc, .nilFunc, .nilFunc]
abbrev chks : List Value := [.nilFunc, .nilFunc, .nilFunc, .nilFunc, .nilFunc, .nilFunc, .func (.func 204) #[] #[], .func (.func 207) #[] #[], .func (.func 208) #[] #[], .nilFunc, .nilFunc, .nilFunc]
theorem built_chks : Tryz.prog.built 273 [(6, .func (.func 204) #[] #[]), (7, .func (.func 207) #[] #[]), (8, .func (.func 208) #[] #[])] = some #[.nilFunc, .nilFunc, .nilFunc, .nilFunc, .nilFunc, .nilFunc, .func (.func 204) #[] #[], .func (.func 207) #[] #[], .func (.func 208) #[] #[], .nilFunc, .nilFunc, .nilFunc] := by kernel_rfl
theorem eq_chk0 : ∀ W, (binOp .eql 272 (.nilFunc) .nilFunc).run Tryz.prog W = .ok (.bool true) W := fun W => by kernel_rfl
theorem eq_chk1 : ∀ W, (binOp .eql 272 (.func (.func 204) #[] #[]) .nilFunc).run Tryz.prog W = .ok (.bool false) W := fun W => by kernel_rfl
theorem eq_chk2 : ∀ W, (binOp .eql 272 (.func (.func 207) #[] #[]) .nilFunc).run Tryz.prog W = .ok (.bool false) W := fun W => by kernel_rfl
theorem eq_chk3 : ∀ W, (binOp .eql 272 (.func (.func 208) #[] #[]) .nilFunc).run Tryz.prog W = .ok (.bool false) W := fun W => by kernel_rfl
theorem keyX {W : World} {p q : Nat} {s t : TypeId} {a0 a1 a2 a3 a4 a5 b0 b1 b2 b3 b4 b5 b6 b7 b8 b9 b10 b11 : Value} (h1 : Blk W p s [a0, a1, a2, a3, a4, a5]) (h2 : Blk W q t [b0, b1, b2, b3, b4, b5, b6, b7, b8, b9, b10, b11]) :
 W.cell? ⟨p, 0, none⟩ = some a0 ∧ W.cell? ⟨p, 1, none⟩ = some a1 ∧ W.cell? ⟨p, 2, none⟩ = some a2 ∧ W.cell? ⟨p, 3, none⟩ = some a3 ∧ W.cell? ⟨p, 4, none⟩ = some a4 ∧ W.cell? ⟨p, 5, none⟩ = some a5 ∧ W.cell? ⟨q, 6, none⟩ = some b6 ∧ W.cell? ⟨q, 7, none⟩ = some b7 ∧ W.cell? ⟨q, 8, none⟩ = some b8 := by
 obtain ⟨y0, y1, y2, y3, y4, y5⟩ := Blk.get6 h1
 exact ⟨y0, y1, y2, y3, y4, y5, h2.cell 6, h2.cell 7, h2.cell 8⟩
def PairOut (R : Bool) (e : Ending) : Prop := ∃ x y : Int, e = .returned (.tuple #[.int .i64 x, .int .i64 y]) ∧ (y = 0 ↔ R = true)
def KidsIn (ns : List Nk) (l : List Int) : Prop := ∀ k ∈ l, ∃ (j : Nat) (m : Nk), k = (j : Int) ∧ ns[j]? = some m ∧ 0 ≤ m.kind ∧ m.kind < 12
abbrev za3 (ns : List Nk) (l : List Int) : List Nd := l.map fun k => ndOf (nodeK ns k)
theorem tcond_any {d : Po} {L : Lp} {A : Option Addr} {c : Nat} {S : List Sm} {w0 : World} (E : Env w0 d L A c S) (i : Nat) (n : Nk) (hn : d.nodes[i]? = some n) (hlo : 0 ≤ n.kind) (hhi : n.kind < 12) (hkn : n.kind = 6 ∨ n.kind = 7 ∨ n.kind = 8 → 2 ≤ n.kids.length) (hkl : n.kids.length ≤ 1000000) (hks : KidsIn d.nodes n.kids) (w : World) (h0 : Below w0.heap.size w0 w) :
 Calls Tryz.prog 156 #[fitV d L A S.length c, .int .i64 (i : Int)] w fun e w' => PairOut (condB (lookS S d.uses) (ndOf n) (za3 d.nodes n.kids)) e ∧ Below w.heap.size w w' := by
 obtain ⟨R, hR⟩ : ∃ R, condB (lookS S d.uses) (ndOf n) (za3 d.nodes n.kids) = R := ⟨_, rfl⟩
 rw [hR]
 have HR := hid hR
 clear hR
 have HE := hid E
 obtain ⟨ua, uc, ra, rc, na, nc⟩ := L
 obtain ⟨ad, KA, kc, hA, hN0⟩ := E.p.ns.at_ i n hn
 change na = some ad at hA
 subst hA
 have hil := (List.getElem?_eq_some_iff.1 hn).1
 have hii : (i : Int) < (d.nodes.length : Int) := by omega
 have hi0 : (0 : Int) ≤ (i : Int) := by omega
 have hk := ((Hp.start w).new 172 (fitC d ⟨ua, uc, ra, rc, some ad, nc⟩ A S.length c)).new 273 zchks
 obtain ⟨g, hg⟩ : ∃ g, w.heap.size = g := ⟨_, rfl⟩
 simp only [sizeA, hg] at hk
 obtain ⟨q, hq⟩ : ∃ f, g + 1 = f := ⟨_, rfl⟩
 have hbl := built_chks
 have HKs := hid hks
 have HN0 := hid (hN0.up h0)
 clear hn hN0 hil E hks
 go_enter Tryz.func156, Tryz.ntmps156
 go_upto_region 1 with fail
 try simp only [hg]
 simp only [hq] at hk ⊢
 go_upto_region 2 with (refine wpList_store_row rfl 273 (.tmp 6) (.tmp 14) rfl q chks.toArray rfl rfl 273 zchks.toArray (hk.blk 0 rfl) (by kernel_rfl) (by kernel_rfl) (by kernel_rfl) ?_)
 have hk2 : Hp [] w [iblk q 273 chks, iblk g 172 (fitC d ⟨ua, uc, ra, rc, some ad, nc⟩ A S.length c)] (((w.alloc (.cells (fitC d ⟨ua, uc, ra, rc, some ad, nc⟩ A S.length c).toArray 172)).alloc (.cells zchks.toArray 273)).setRow q chks.toArray) := hk.rowAt 0 rfl chks
 obtain ⟨W2, hW2⟩ : ∃ W, (((w.alloc (.cells (fitC d ⟨ua, uc, ra, rc, some ad, nc⟩ A S.length c).toArray 172)).alloc (.cells zchks.toArray 273)).setRow q chks.toArray) = W := ⟨_, rfl⟩
 rw [hW2] at hk2
 change Code.wp _ _ _ _ (((w.alloc (.cells (fitC d ⟨ua, uc, ra, rc, some ad, nc⟩ A S.length c).toArray 172)).alloc (.cells zchks.toArray 273)).setRow q chks.toArray)
 rw [hW2]
 clear hk hW2 hbl
 have hN := HN0.out.up hk2.below0
 have d0 := hN.kind
 have d1 := hN.num
 have d2 := hN.name
 have d3 := hN.attr
 have d4 := hN.kids
 have d5 := hN.at_
 obtain ⟨c0, c1, c2, c3, c4, c5, c6, c7, c8⟩ := blk9 (hk2.blk 1 rfl)
 have hk3 := hk2.new 68 (nkcs n KA kc)
 clear hN
 go_upto_region 3 with fail
 have hk3 : Hp [] w [iblk W2.heap.size 68 (nkcs n KA kc), iblk q 273 chks, iblk g 172 (fitC d ⟨ua, uc, ra, rc, some ad, nc⟩ A S.length c)] (W2.alloc (.cells #[.int .i64 n.kind, .int .i64 n.num, .string n.name, .string n.attr, .slice KA n.kids.length kc, .int .i64 n.at_] 68)) := hk3
 generalize W2.alloc (.cells #[.int .i64 n.kind, .int .i64 n.num, .string n.name, .string n.attr, .slice KA n.kids.length kc, .int .i64 n.at_] 68) = W3 at *
 generalize W2.heap.size = p at *
 clear hk2 c0 c1 c2 c3 c4 c5 c6 c7 c8 d0 d1 d2 d3 d4 d5
 obtain ⟨nk, nn, nm, nt, nks, na9⟩ := n
 simp only at *
 by_cases h678 : nk = 6 ∨ nk = 7 ∨ nk = 8
 ·have hkl2 : 2 ≤ nks.length := hkn h678
  have hkl3 : nks.length ≤ 1000000 := hkl
  have h678b := h678
  obtain ⟨i0, hi0, hz0, hz1, hz2⟩ := info_parts value_info
  have HR2 : Hid ((∀ (k : Int), k ∈ nks → tyOf (lookS S d.uses) (ndOf (nodeK d.nodes k)) = none → R = false) ∧ (∀ t r, (za3 d.nodes nks).map (tyOf (lookS S d.uses)) = (t :: r : List Ty).map some → R = fitsK nk nn t r)) := hid ⟨fun k hk e => by
   rw [← HR.out]
   exact cond_none (List.mem_map_of_mem hk) e (by show nk.toNat = 6 ∨ nk.toNat = 7 ∨ nk.toNat = 8; omega), fun t r e => by
   rw [← HR.out]
   obtain ⟨x0, xs, hx⟩ : ∃ x0 xs, za3 d.nodes nks = x0 :: xs := by
    cases hk : za3 d.nodes nks with
    | nil => rw [hk] at e; cases e
    | cons x0 xs => exact ⟨x0, xs, rfl⟩
   show condB (lookS S d.uses) ⟨nk.toNat, nn, tl nm, tl nt, 0⟩ (za3 d.nodes nks) = _
   rw [hx] at e ⊢
   rw [cond_fits e (by show nk.toNat = 6 ∨ nk.toNat = 7 ∨ nk.toNat = 8; omega)]
   show fitsK (nk.toNat : Int) nn t r = _
   rw [Int.toNat_of_nonneg hlo]⟩
  clear h678b HR hkn hkl hhi hlo
  rcases h678 with rfl | rfl | rfl
  all_goals
   obtain ⟨d0, d1, d2, d3, d4, d5⟩ := Blk.get6 (hk3.blk 0 rfl)
   have e6 := (hk3.blk 1 rfl).cell 6
   have e7 := (hk3.blk 1 rfl).cell 7
   have e8 := (hk3.blk 1 rfl).cell 8
   simp only [List.getElem?_cons_zero, List.getElem?_cons_succ] at e6 e7 e8
   have hf1 := eq_chk1
   have hf2 := eq_chk2
   have hf3 := eq_chk3
   go_upto_region 7 with fail
   clear d0 d1 d2 d3 d4 d5 e6 e7 e8 hf1 hf2 hf3
   have hk4 := hk3.nilrow 275 3
   clear hk3
   go_loopg [8, 29] nks.length (fun m s8 s29 wx => ∃ (j : Nat) (V : List Vd) (T : List Ty) (OA : Option Addr) (oc : Nat), j ≤ nks.length ∧ m = nks.length - j ∧ s8 = .slice OA j oc ∧ s29 = .int .i64 (j : Int) ∧ Hid (V.length = j ∧ VTs w0 V T ∧ ((za3 d.nodes nks).take j).map (tyOf (lookS S d.uses)) = T.map some) ∧ Hp [] w [ivals (.slice OA j oc) j V, iblk p 68 [.int .i64 _, .int .i64 nn, .string nm, .string nt, .slice KA nks.length kc, .int .i64 na9], iblk q 273 chks, iblk g 172 (fitC d ⟨ua, uc, ra, rc, some ad, nc⟩ A S.length c)] wx)
   case atStart => exact ⟨0, [], [], none, 0, Nat.zero_le _, rfl, rfl, rfl, hid ⟨rfl, trivial, rfl⟩, hk4⟩
   case round =>
    obtain ⟨j, V, T, OA, oc, hj, rfl, rfl, rfl, HJ, hM⟩ := hrel
    clear hk4
    by_cases hjl : j < nks.length
    ·have hjj : (j : Int) < (nks.length : Int) := by omega
     have hj0 : (0 : Int) ≤ (j : Int) := by omega
     obtain ⟨k, hkj⟩ : ∃ k, nks[j]? = some k := ⟨_, List.getElem?_eq_getElem hjl⟩
     have hkm := List.mem_of_getElem? hkj
     obtain ⟨i2, m2, hk2e, hm2, hmlo, hmhi⟩ := HKs.out k hkm
     obtain ⟨ka, hKA, ck⟩ := (HN0.out.up hM.below0).ints.at_ j k hkj
     subst hKA
     obtain ⟨c0, c1, c2, c3, c4, c5, c6, c7, c8⟩ := blk9 (hM.blk 3 rfl)
     have hty : tyOf (lookS S d.uses) (ndOf (nodeK d.nodes k)) = tyK S d.uses m2 := by rw [hk2e, nodeK_at hm2, tyOf_nd _ _ _ hmlo]
     subst hk2e
     have HC := hid (value_any HE.out i2 m2 hm2 wr (h0.trans (hM.below0.mono h0.size)))
     have HT2 : Hid (tyK S d.uses m2 = none → R = false) := hid fun e => HR2.out.1 _ hkm (hty.trans e)
     have HT3 : Hid (∀ t, tyK S d.uses m2 = some t → ((za3 d.nodes nks).take (j + 1)).map (tyOf (lookS S d.uses)) = (T ++ [t]).map some) := hid fun t e => by
      rw [zbb (x := ndOf (nodeK d.nodes (i2 : Int))) (by rw [List.getElem?_map, hkj]; rfl), List.map_append, HJ.out.2.2, List.map_append, List.map_cons, hty, e]; rfl
     generalize tyK S d.uses m2 = O at *
     clear hkj hkm hm2 hmlo hmhi hty
     go_wp2_with fail
     refine HC.out.mono ?_
     rintro e w4 ⟨ho, hb4⟩
     have hM4 := hM.next hb4
     clear HC hM hb4 ck c0 c1 c2 c3 c4 c5 c6 c7 c8
     cases O with
     | none =>
       obtain ⟨vb, WA, vn, vc, vs, rfl⟩ := ho
       have HF := hid (HT2.out rfl)
       clear HT2 HT3
       have hb := (hM4.alloc (.cells #[.bool vb, .slice WA vn vc, .string vs] 275)).below0
       go_wp2_with fail
       go_ret2
       exact ⟨⟨_, 9, rfl, by rw [HF.out]; simp⟩, by first | exact hb | (subst hg; exact hb)⟩
     | some t =>
       obtain ⟨vb, WA, vn, vc, vs, rfl, hT⟩ := ho
       have HT4 := hid (HT3.out t rfl)
       have HTY := hid hT
       clear HT2 HT3 hT
       have hM5 := hM4.new 275 (tyC vb WA vn vc vs)
       go_upto_region 12 with fail
       generalize w4.alloc (.cells #[.bool vb, .slice WA vn vc, .string vs] 275) = W5 at *
       generalize w4.heap.size = g5 at *
       clear hM4
       have x0 := (hM5.blk 0 rfl).cell 0
       have x1 := (hM5.blk 0 rfl).cell 1
       have x2 := (hM5.blk 0 rfl).cell 2
       simp only [List.getElem?_cons_zero, List.getElem?_cons_succ] at x0 x1 x2
       go_wp2_with (at_builtin; refine zac rfl _ _ 269 rfl 0 275 i0 _ 3 48 Tryz.underlying269 hi0 hz0 hz1 hz2 rfl (by decide) _ j (zcx V) rfl ((hM5.alloc _).row 1 rfl) ⟨W5.heap.size, 0, none⟩ 1 1 (tyC vb WA vn vc vs) rfl rfl (new3p _ _ _ _ _) (by intro u hu; simp at hu; rcases hu with rfl | rfl | rfl <;> rfl) (by decide) (by unfold maxLen; omega) (by omega) (Nat.zero_le _) ?_; intro v' w6 hown hgrow hat; obtain ⟨OA2, oc2, rfl⟩ := zag hown; have hM6 := ((hM5.alloc (.cells #[.bool vb, .slice WA vn vc, .string vs] 275)).grown 1 rfl hown hgrow hat).tail; clear hown hgrow hat x0 x1 x2 hM5)
       have HJ2 : Hid ((V ++ [(⟨vb, WA, vn, vc, vs⟩ : Vd)]).length = j + 1 ∧ VTs w0 (V ++ [⟨vb, WA, vn, vc, vs⟩]) (T ++ [t]) ∧ ((za3 d.nodes nks).take (j + 1)).map (tyOf (lookS S d.uses)) = (T ++ [t]).map some) := hid ⟨by rw [List.length_append, HJ.out.1]; rfl, VTs.snoc (v := ⟨vb, WA, vn, vc, vs⟩) HTY.out HJ.out.2.1, HT4.out⟩
       go_roundg (nks.length - (j + 1))
       case measure => omega
       case rel =>
        refine ⟨j + 1, V ++ [⟨vb, WA, vn, vc, vs⟩], T ++ [t], OA2, oc2, hjl, rfl, rfl, by first | rfl | simp, HJ2, ?_⟩
        unfold ivals
        rw [vdcells_snoc]
        exact hM6
    ·have hjj : ¬ (j : Int) < (nks.length : Int) := by omega
     have hje : j = nks.length := by omega
     subst hje
     have hTl : T.length = nks.length := by rw [← HJ.out.2.1.len]; exact HJ.out.1
     obtain ⟨t, r, rfl⟩ : ∃ t r, T = t :: r := by
      cases T with
      | nil => simp only [List.length_nil] at hTl; omega
      | cons t r => exact ⟨t, r, rfl⟩
     have hRr : 0 < r.length := by simp only [List.length_cons] at hTl; omega
     have hcap : nks.length ≤ oc := row_cap (hM.row 0 rfl)
     have hTY := HJ.out.2.1.tys (hM.row 0 rfl) HJ.out.1
     have hF := HR2.out.2 t r (by have := HJ.out.2.2; rwa [List.take_of_length_le (by rw [List.length_map]; exact Nat.le_refl _)] at this)
     have hMd := hM.drew
     have HC1 := hid (fun kk => c1_any w0 ⟨kk, nn, nm, nt, nks, na9⟩ KA kc OA oc t r (by omega) (by omega) hRr _ (h0.trans (hMd.below0.mono h0.size)) (hTY.up (Below.refl _ _).drew))
     have HC2 := hid (fun kk => c2_any w0 ⟨kk, nn, nm, nt, nks, na9⟩ KA kc OA oc (t :: r) (by omega) _ (hTY.up (Below.refl _ _).drew))
     have HC3 := hid (fun kk => c3_any w0 ⟨kk, nn, nm, nt, nks, na9⟩ KA kc OA oc t r (by omega) (by omega) hRr _ (h0.trans (hMd.below0.mono h0.size)) (hTY.up (Below.refl _ _).drew))
     rw [hTl] at HC1 HC2 HC3
     unfold fitsK at hF
     simp only [show ¬ ((7 : Int) = 6) by decide, show ¬ ((8 : Int) = 6) by decide, show ¬ ((8 : Int) = 7) by decide, if_true, if_false] at hF
     have HFF := hid hF
     obtain ⟨d0, d1, d2, d3, d4, d5⟩ := Blk.get6 (hMd.blk 1 rfl)
     have e6 := (hMd.blk 2 rfl).cell 6
     have e7 := (hMd.blk 2 rfl).cell 7
     have e8 := (hMd.blk 2 rfl).cell 8
     simp only [List.getElem?_cons_zero, List.getElem?_cons_succ] at e6 e7 e8
     clear hTY hTl hRr hcap hF HJ HR2 HKs HN0 HE
     go_upto_region 14 with fail
     first
      | (have z : wr.drew.cell? ⟨p, 0, none⟩ = some (.int .i64 6) := d0; clear z; go_region_held3 (fun w' => w'.cell? ⟨p, 0, none⟩ = some (.int .i64 6) ∧ w'.cell? ⟨p, 1, none⟩ = some (.int .i64 nn) ∧ w'.cell? ⟨p, 2, none⟩ = some (.string nm) ∧ w'.cell? ⟨p, 3, none⟩ = some (.string nt) ∧ w'.cell? ⟨p, 4, none⟩ = some (.slice KA nks.length kc) ∧ w'.cell? ⟨p, 5, none⟩ = some (.int .i64 na9) ∧ w'.cell? ⟨q, 6, none⟩ = some (.func (.func 204) #[] #[]) ∧ w'.cell? ⟨q, 7, none⟩ = some (.func (.func 207) #[] #[]) ∧ w'.cell? ⟨q, 8, none⟩ = some (.func (.func 208) #[] #[])) (first | exact ⟨d0, d1, d2, d3, d4, d5, e6, e7, e8⟩ | exact keyX (hMe.blk 1 rfl) (hMe.blk 2 rfl)) (first | (go_at_call 204; refine (HC1.out _).mono ?_; rintro e w5 ⟨⟨y, rfl, hy⟩, hb5⟩; have hMe := hMd.next hb5)))
      | (have z : wr.drew.cell? ⟨p, 0, none⟩ = some (.int .i64 7) := d0; clear z; go_region_held3 (fun w' => w'.cell? ⟨p, 0, none⟩ = some (.int .i64 7) ∧ w'.cell? ⟨p, 1, none⟩ = some (.int .i64 nn) ∧ w'.cell? ⟨p, 2, none⟩ = some (.string nm) ∧ w'.cell? ⟨p, 3, none⟩ = some (.string nt) ∧ w'.cell? ⟨p, 4, none⟩ = some (.slice KA nks.length kc) ∧ w'.cell? ⟨p, 5, none⟩ = some (.int .i64 na9) ∧ w'.cell? ⟨q, 6, none⟩ = some (.func (.func 204) #[] #[]) ∧ w'.cell? ⟨q, 7, none⟩ = some (.func (.func 207) #[] #[]) ∧ w'.cell? ⟨q, 8, none⟩ = some (.func (.func 208) #[] #[])) (first | exact ⟨d0, d1, d2, d3, d4, d5, e6, e7, e8⟩ | exact keyX (hMe.blk 1 rfl) (hMe.blk 2 rfl)) (first | (go_at_call 207; refine (HC2.out _).mono ?_; rintro e w5 ⟨⟨y, rfl, hy⟩, hb5⟩; have hMe := hMd.next hb5)))
      | (have z : wr.drew.cell? ⟨p, 0, none⟩ = some (.int .i64 8) := d0; clear z; go_region_held3 (fun w' => w'.cell? ⟨p, 0, none⟩ = some (.int .i64 8) ∧ w'.cell? ⟨p, 1, none⟩ = some (.int .i64 nn) ∧ w'.cell? ⟨p, 2, none⟩ = some (.string nm) ∧ w'.cell? ⟨p, 3, none⟩ = some (.string nt) ∧ w'.cell? ⟨p, 4, none⟩ = some (.slice KA nks.length kc) ∧ w'.cell? ⟨p, 5, none⟩ = some (.int .i64 na9) ∧ w'.cell? ⟨q, 6, none⟩ = some (.func (.func 204) #[] #[]) ∧ w'.cell? ⟨q, 7, none⟩ = some (.func (.func 207) #[] #[]) ∧ w'.cell? ⟨q, 8, none⟩ = some (.func (.func 208) #[] #[])) (first | exact ⟨d0, d1, d2, d3, d4, d5, e6, e7, e8⟩ | exact keyX (hMe.blk 1 rfl) (hMe.blk 2 rfl)) (first | (go_at_call 208; refine (HC3.out _).mono ?_; rintro e w5 ⟨⟨y, rfl, hy⟩, hb5⟩; have hMe := hMd.next hb5)))
     all_goals
      clear d0 d1 d2 d3 d4 d5 e6 e7 e8 HC1 HC2 HC3 hM hMd
      have hb := hMe.below0
      replace hy : y = 0 ↔ R = true := by rw [HFF.out]; exact hy
      clear HFF
      cases R with
      | true =>
        obtain rfl : y = 0 := hy.2 rfl
        clear hy
        go_wp2_with fail
        go_ret2
        exact ⟨⟨0, 0, rfl, by simp⟩, by first | exact hb | (subst hg; exact hb)⟩
      | false =>
        have hy0 : (y != 0) = true := by simpa using fun e => by simpa using hy.1 e
        have HY := hid hy
        clear hy
        go_wp2_with fail
        go_ret2
        exact ⟨⟨_, y, rfl, HY.out⟩, by first | exact hb | (subst hg; exact hb)⟩
 ·have HT : Hid (R = true) := hid (by rw [← HR.out]; exact cond_other (by show ¬ (nk.toNat = 6 ∨ nk.toNat = 7 ∨ nk.toNat = 8); omega))
  have h0k : nk = 0 ∨ nk = 1 ∨ nk = 2 ∨ nk = 3 ∨ nk = 4 ∨ nk = 5 ∨ nk = 9 ∨ nk = 10 ∨ nk = 11 := by omega
  clear HR h678 hlo hhi hkn HKs HN0
  have hnil := eq_chk0
  rcases h0k with rfl | rfl | rfl | rfl | rfl | rfl | rfl | rfl | rfl
  all_goals
   have d0 := (hk3.blk 0 rfl).cell 0
   simp only [List.getElem?_cons_zero] at d0
   (first | have e0 := (hk3.blk 1 rfl).cell 0 | skip)
   have e1 := (hk3.blk 1 rfl).cell 1
   have e2 := (hk3.blk 1 rfl).cell 2
   have e3 := (hk3.blk 1 rfl).cell 3
   have e4 := (hk3.blk 1 rfl).cell 4
   have e5 := (hk3.blk 1 rfl).cell 5
   have e9 := (hk3.blk 1 rfl).cell 9
   have e10 := (hk3.blk 1 rfl).cell 10
   have e11 := (hk3.blk 1 rfl).cell 11
   simp only [List.getElem?_cons_zero, List.getElem?_cons_succ] at e0 e1 e2 e3 e4 e5 e9 e10 e11
   go_wp2_with fail
   go_ret2
   refine ⟨⟨0, 0, rfl, by rw [HT.out]; simp⟩, by have hb := hk3.below0; first | exact hb | (subst hg; exact hb)⟩
end Go.Proofs.YtekkapgknohadaaGreatDoor.Nf
