/- normal: truth, number, complement, mirror, compare, field. -/
import Derived.Test.YtekkapgknohadaaGreatDoorM33
set_option linter.unusedVariables false
set_option maxRecDepth 20000
set_option maxHeartbeats 8000000
namespace Go.Proofs.YtekkapgknohadaaGreatDoor.Nf
open Go.RowKit Go.Shelf
abbrev atV (k n : Int) (s t : ByteArray) (KA : Option Addr) (kn kc : Nat) (at_ : Int) (VA : Option Addr) (vn vc : Nat) : Value := .iface 235 (.agg #[.int .i64 k, .int .i64 n, .string s, .string t, .slice KA kn kc, .int .i64 at_, .slice VA vn vc])
theorem truth_any (b : Bool) (w : World) : Calls Tryz.prog 95 #[.bool b] w fun e w' => e = .returned (atV (if b then 0 else 1) 0 ⟨#[]⟩ ⟨#[]⟩ none 0 0 0 none 0 0) ∧ Below w.heap.size w w' := by
 cases b
 all_goals
  go_enter Tryz.func95, Tryz.ntmps95
  go_wp2_with fail
  go_ret
  exact ⟨rfl, Below.refl _ _⟩
theorem compare_any (h a b : Int) (h0 : 0 ≤ h) (h5 : h ≤ 5) (w : World) : Calls Tryz.prog 158 #[.int .i64 h, .int .i64 a, .int .i64 b] w fun e w' => e = .returned (.bool (cmpB h a b)) ∧ Below w.heap.size w w' := by
 rcases (by omega : h = 0 ∨ h = 1 ∨ h = 2 ∨ h = 3 ∨ h = 4 ∨ h = 5) with rfl | rfl | rfl | rfl | rfl | rfl
 all_goals
  go_enter Tryz.func158, Tryz.ntmps158
  go_wp2_with fail
  go_ret
  exact ⟨zap (by rw [Bool.eq_iff_iff]; simp [cmpB]), Below.refl _ _⟩
open Go.RowKit Go.Shelf
theorem zcv {d : Po} {L : Lp} {A : Option Addr} {c : Nat} {S : List Sm} {w0 : World} (E : Env w0 d L A c S) (hR : za9 chkB S d = true) (n : Nk) (KA : Option Addr) (kc : Nat) (fd : Fd) (hf : findS S d.uses n.name n.attr = some fd) (hwl : fd.words.length ≤ 1000000) (w : World) (h0 : Below w0.heap.size w0 w) :
 Calls Tryz.prog 160 #[fitV d L A S.length c, nkV n KA kc] w fun e w' => (∃ CA cc, e = .returned (.agg (fcs fd CA cc).toArray)) ∧ Below w.heap.size w w' := by
 have hk := (((Hp.start w).new 93 (fitC d L A S.length c)).new 68 (nkcs n KA kc)).new 57 zFl
 obtain ⟨g, hg⟩ : ∃ g, w.heap.size = g := ⟨_, rfl⟩
 simp only [sizeA, hg] at hk
 go_enter Tryz.func160, Tryz.ntmps160
 go_upto_region 1 with fail
 obtain ⟨q, hq⟩ : ∃ f, g + 1 = f := ⟨_, rfl⟩
 obtain ⟨h, hh⟩ : ∃ f, q + 1 = f := ⟨_, rfl⟩
 simp only [hq, hh] at hk ⊢
 generalize hW : ((w.alloc (.cells #[.string d.name, .slice L.ua d.uses.length L.uc, .slice L.ra d.reveal.length L.rc, .slice L.na d.nodes.length L.nc, .int .i64 d.root, .string d.scope, .int .i64 d.limit, .string d.escrow, .slice A S.length c] 93)).alloc (.cells #[.int .i64 n.kind, .int .i64 n.num, .string n.name, .string n.attr, .slice KA n.kids.length kc, .int .i64 n.at_] 68)).alloc (.cells #[.string ⟨#[]⟩, .int .i64 0, .int .i64 0, .int .i64 0, .slice none 0 0] 57) = W1 at *
 have hk0 : Hp [] w [iblk h 57 zFl, iblk q 68 (nkcs n KA kc), iblk g 93 (fitC d L A S.length c)] W1 := hk
 clear hk hW hq hh
 obtain ⟨c0, c1, c2, c3, c4, c5, c6, c7, c8⟩ := blk9 (hk0.blk 2 rfl)
 obtain ⟨d0, d1, d2, d3, d4, d5⟩ := Blk.get6 (hk0.blk 1 rfl)
 have HF := Lib.hid (tfield_any E hR n.name n.attr fd hf hwl W1 (h0.trans (hk0.below0.mono h0.size)))
 clear E hR hf
 go_wp2_with fail
 refine HF.out.mono ?_
 rintro e w2 ⟨⟨x, y, CA, cc, rfl⟩, hb2⟩
 have hk2 := ((hk0.next hb2).new 122 [.int .i64 x, .int .i64 y]).new 57 (fcs fd CA cc)
 simp only [sizeA] at hk2
 clear HF hk0 hb2 c0 c1 c2 c3 c4 c5 c6 c7 c8 d0 d1 d2 d3 d4 d5
 obtain ⟨d0, d1, d2, d3, d4⟩ := Blk.get5 (hk2.blk 0 rfl)
 go_wp2_with (refine wpList_store_row rfl 57 (.tmp 4) (.tmp 22) rfl h (fcs fd CA cc).toArray rfl rfl 57 zFl.toArray (hk2.blk 2 rfl) (by kernel_rfl) (by kernel_rfl) (by kernel_rfl) ?_)
 have hk3 := hk2.rowAt 2 rfl (fcs fd CA cc)
 obtain ⟨m0, m1, m2, m3, m4⟩ := Blk.get5 (hk3.blk 2 rfl)
 refine bodyPost_ret (v := .agg (fcs fd CA cc).toArray) (by simp [results, Tryz.results160, go_sem, m0, m1, m2, m3, m4]) rfl ?_
 have hb : Below w.heap.size w _ := hk3.below0
 exact ⟨⟨CA, cc, rfl⟩, by first | exact hb | (subst hg; exact hb)⟩
open Go.RowKit Go.Shelf
theorem complement_any (h : Int) (h0 : 0 ≤ h) (h5 : h ≤ 5) (w : World) : Calls Tryz.prog 91 #[.int .i64 h] w fun e w' => e = .returned (.int .i64 (compl h)) ∧ Below w.heap.size w w' := by
 have hbl : Tryz.prog.built 230 [(0, .int .i64 1), (1, .int .i64 0), (2, .int .i64 5), (3, .int .i64 4), (4, .int .i64 3), (5, .int .i64 2)] = some #[.int .i64 1, .int .i64 0, .int .i64 5, .int .i64 4, .int .i64 3, .int .i64 2] := by kernel_rfl
 have hix : ∀ w, (Instr.index 230 (.agg #[.int .i64 1, .int .i64 0, .int .i64 5, .int .i64 4, .int .i64 3, .int .i64 2]) (.int .i64 h)).run Tryz.prog w = .ok (.int .i64 (compl h)) w := by
  intro w
  rcases (by omega : h = 0 ∨ h = 1 ∨ h = 2 ∨ h = 3 ∨ h = 4 ∨ h = 5) with rfl | rfl | rfl | rfl | rfl | rfl <;> kernel_rfl
 generalize compl h = r at *
 clear h0 h5
 go_enter Tryz.func91, Tryz.ntmps91
 go_wp2_with fail
 go_ret
 exact ⟨rfl, Below.refl _ _⟩
open Go.RowKit Go.Shelf
open Pa (F Nd)
def Vls (B : Nat) (W : World) (A : Option Addr) (vs : List Value) : Prop := ∀ (i : Nat) (u : Value), vs[i]? = some u → ∃ ad, A = some ad ∧ B ≤ ad.block ∧ W.cell? (ad.add i) = some u
theorem Vls.up {B : Nat} {W W' : World} {A : Option Addr} {vs : List Value} (h : Vls B W A vs) (hb : Below W.heap.size W W') : Vls B W' A vs := fun i u hu => by
 obtain ⟨ad, h1, h2, h3⟩ := h i u hu
 exact ⟨ad, h1, h2, zaa h3 hb⟩
structure VAt (W : World) (ad : Addr) (x : Nd) : Prop where
 kind : W.cell? ad = some (.int .i64 (x.kind : Int))
 num : W.cell? ⟨ad.block, ad.off + 1, none⟩ = some (.int .i64 x.num)
 name : W.cell? ⟨ad.block, ad.off + 2, none⟩ = some (.string (bs x.name))
 attr : W.cell? ⟨ad.block, ad.off + 3, none⟩ = some (.string (bs x.attr))
 kids : ∃ KA kn kc, W.cell? ⟨ad.block, ad.off + 4, none⟩ = some (.slice KA kn kc)
 at_ : ∃ k, W.cell? ⟨ad.block, ad.off + 5, none⟩ = some (.int .i64 k)
theorem VAt.up {W W' : World} {ad : Addr} {x : Nd} (h : VAt W ad x) (hb : Below W.heap.size W W') : VAt W' ad x :=
 ⟨zaa h.kind hb, zaa h.num hb, zaa h.name hb, zaa h.attr hb, by obtain ⟨a, b, c, e⟩ := h.kids; exact ⟨a, b, c, zaa e hb⟩, by obtain ⟨k, e⟩ := h.at_; exact ⟨k, zaa e hb⟩⟩
def Vats (B : Nat) (W : World) (A : Option Addr) (l : List Nd) : Prop := ∀ (i : Nat) (x : Nd), l[i]? = some x → ∃ ad, A = some ad ∧ B ≤ ad.block ∧ VAt W (ad.add (i * 6)) x
theorem Vats.up {B : Nat} {W W' : World} {A : Option Addr} {l : List Nd} (h : Vats B W A l) (hb : Below W.heap.size W W') : Vats B W' A l := fun i x hx => by
 obtain ⟨ad, h1, h2, h3⟩ := h i x hx
 exact ⟨ad, h1, h2, h3.up hb⟩
abbrev gtV (k : Int) (A : Option Addr) (n c : Nat) : Value := .iface 237 (.agg #[.int .i64 k, .slice A n c])
def Lv : F → Prop
 | .nil => True
 | .cons x k r => x.at_ = 0 ∧ k = .nil ∧ Lv r
def CvM (B : Nat) (W : World) : F → List Value → Prop
 | .nil, vs => vs = []
 | .cons x ks r, vs => ∃ v us, vs = v :: us ∧ CvM B W r us ∧
   (if x.kind = 5 then x = ⟨5, x.num, [], [], 0⟩ ∧ ∃ A c ws, v = gtV x.num A ws.length c ∧ 0 < ws.length ∧ Vls B W A ws ∧ CvM B W ks ws
    else (x.at_ = 0 ∧ Lv ks) ∧ ∃ A c, v = atV (x.kind : Int) x.num (bs x.name) (bs x.attr) none 0 0 0 A (vals ks).length c ∧ Vats B W A (vals ks))
theorem CvM.up {B : Nat} {W W' : World} (hb : Below W.heap.size W W') : ∀ {f : F} {vs : List Value}, CvM B W f vs → CvM B W' f vs
 | .nil, vs, h => h
 | .cons x ks r, vs, h => by
   obtain ⟨v, us, h1, h2, h3⟩ := h
   refine ⟨v, us, h1, CvM.up hb h2, ?_⟩
   by_cases hk : x.kind = 5
   ·rw [if_pos hk] at h3 ⊢
    obtain ⟨h6, A, c, ws, e, hp, h4, h5⟩ := h3
    exact ⟨h6, A, c, ws, e, hp, h4.up hb, CvM.up hb h5⟩
   ·rw [if_neg hk] at h3 ⊢
    obtain ⟨h6, A, c, e, h4⟩ := h3
    exact ⟨h6, A, c, e, h4.up hb⟩
theorem CvM.len {B : Nat} {W : World} : ∀ {f : F} {vs : List Value}, CvM B W f vs → vs.length = f.len
 | .nil, vs, h => by rw [show vs = [] from h]; rfl
 | .cons x ks r, vs, h => by
   obtain ⟨v, us, rfl, h2, -⟩ := h
   rw [List.length_cons, CvM.len h2]; rfl
theorem CvM.app {B : Nat} {W : World} : ∀ {f g : F} {us vs : List Value}, CvM B W f us → CvM B W g vs → CvM B W (f.app g) (us ++ vs)
 | .nil, g, us, vs, h, k => by rw [show us = [] from h]; exact k
 | .cons x ks r, g, us, vs, h, k => by
   obtain ⟨v, us, rfl, h2, h3⟩ := h
   exact ⟨v, us ++ vs, rfl, CvM.app h2 k, h3⟩
theorem Vls.low {B B' : Nat} {W : World} {A : Option Addr} {vs : List Value} (h : Vls B W A vs) (hb : B' ≤ B) : Vls B' W A vs := fun i u hu => by
 obtain ⟨ad, h1, h2, h3⟩ := h i u hu
 exact ⟨ad, h1, Nat.le_trans hb h2, h3⟩
theorem Vats.low {B B' : Nat} {W : World} {A : Option Addr} {l : List Nd} (h : Vats B W A l) (hb : B' ≤ B) : Vats B' W A l := fun i u hu => by
 obtain ⟨ad, h1, h2, h3⟩ := h i u hu
 exact ⟨ad, h1, Nat.le_trans hb h2, h3⟩
theorem CvM.low {B B' : Nat} {W : World} (hb : B' ≤ B) : ∀ {f : F} {vs : List Value}, CvM B W f vs → CvM B' W f vs
 | .nil, vs, h => h
 | .cons x ks r, vs, h => by
   obtain ⟨v, us, h1, h2, h3⟩ := h
   refine ⟨v, us, h1, CvM.low hb h2, ?_⟩
   by_cases hk : x.kind = 5
   ·rw [if_pos hk] at h3 ⊢
    obtain ⟨h6, A, c, ws, e, hp, h4, h5⟩ := h3
    exact ⟨h6, A, c, ws, e, hp, h4.low hb, CvM.low hb h5⟩
   ·rw [if_neg hk] at h3 ⊢
    obtain ⟨h6, A, c, e, h4⟩ := h3
    exact ⟨h6, A, c, e, h4.low hb⟩
theorem zbr {B : Nat} {W W' : World} (h : ∀ b, B ≤ b → b < W.heap.size → W'.heap[b]? = W.heap[b]?) {ad : Addr} {v : Value} (hB : B ≤ ad.block) (hc : W.cell? ad = some v) : W'.cell? ad = some v := by
 have hl := scell_lt hc
 have := h ad.block hB hl
 unfold World.cell? at hc ⊢
 rw [this]; exact hc
theorem CvM.agree {B : Nat} {W W' : World} (h : ∀ b, B ≤ b → b < W.heap.size → W'.heap[b]? = W.heap[b]?) : ∀ {f : F} {vs : List Value}, CvM B W f vs → CvM B W' f vs
 | .nil, vs, h => h
 | .cons x ks r, vs, h9 => by
   obtain ⟨v, us, h1, h2, h3⟩ := h9
   refine ⟨v, us, h1, CvM.agree h h2, ?_⟩
   by_cases hk : x.kind = 5
   ·rw [if_pos hk] at h3 ⊢
    obtain ⟨h6, A, c, ws, e, hp, h4, h5⟩ := h3
    refine ⟨h6, A, c, ws, e, hp, fun i u hu => ?_, CvM.agree h h5⟩
    obtain ⟨ad, e1, e2, e3⟩ := h4 i u hu
    exact ⟨ad, e1, e2, zbr h (by rw [sadd_block]; exact e2) e3⟩
   ·rw [if_neg hk] at h3 ⊢
    obtain ⟨h6, A, c, e, h4⟩ := h3
    refine ⟨h6, A, c, e, fun i u hu => ?_⟩
    obtain ⟨ad, e1, e2, e3⟩ := h4 i u hu
    have hb : B ≤ (ad.add (i * 6)).block := by rw [sadd_block]; exact e2
    exact ⟨ad, e1, e2, zbr h hb e3.kind, zbr h hb e3.num, zbr h hb e3.name, zbr h hb e3.attr, by obtain ⟨a, b, c, e⟩ := e3.kids; exact ⟨a, b, c, zbr h hb e⟩, by obtain ⟨k, e⟩ := e3.at_; exact ⟨k, zbr h hb e⟩⟩
def icv (lo : Nat) (W1 : World) (f : F) (vs : List Value) : It := ⟨List.range' lo (W1.heap.size - lo), fun W => CvM lo W1 f vs ∧ ∀ b, lo ≤ b → b < W1.heap.size → W.heap[b]? = W1.heap[b]?,
 fun W W' h hp => ⟨hp.1, fun b h1 h2 => (h b (by rw [List.mem_range'_1]; omega)).trans (hp.2 b h1 h2)⟩,
 fun W hp b hb => by
  rw [List.mem_range'_1] at hb
  have h1 := hp.2 b hb.1 (by omega)
  rw [Array.getElem?_eq_getElem (show b < W1.heap.size by omega)] at h1
  exact (Array.getElem?_eq_some_iff.1 h1).1⟩
theorem Hp.cv {o : List Nat} {w W W1 : World} {it : List It} {f : F} {vs : List Value} (h : Hp o w it W) (hb : Below W.heap.size W W1) (hc : CvM W.heap.size W1 f vs) : Hp o w (icv W.heap.size W1 f vs :: it) W1 := by
 have h1 : Hp (ow []) W [icv W.heap.size W1 f vs] W1 := by
  refine ⟨⟨fun x hx => ?_, ?_⟩, ⟨hb.mono (Nat.zero_le _), fun k hk _ => hb.block k hk, fun b hb9 => .inr ?_⟩⟩
  ·rw [List.mem_singleton.1 hx]; exact ⟨hc, fun _ _ _ => rfl⟩
  ·simp only [ow, List.flatMap_cons, List.flatMap_nil, List.append_nil, icv]
   exact List.nodup_range'
  ·simp only [ow, List.flatMap_cons, List.flatMap_nil, List.append_nil, icv, List.mem_range'_1] at hb9
   exact hb9.1
 exact Hp.call (a := []) h h1
theorem Hp.cvm {o : List Nat} {w W W1 : World} {it : List It} {lo : Nat} {f : F} {vs : List Value} (h : Hp o w it W) (i : Nat) (hx : it[i]? = some (icv lo W1 f vs)) : CvM lo W f vs := by
 have h1 : (icv lo W1 f vs).P W := h.sep.ok _ (List.mem_of_getElem? hx)
 exact h1.1.agree h1.2
theorem za8 (b : Bool) (w : World) (B : Nat) : Calls Tryz.prog 95 #[.bool b] w fun e w' => (∃ v, e = .returned v ∧ CvM B w' (tru b) [v]) ∧ Below w.heap.size w w' :=
 (truth_any b w).mono fun e w' h => ⟨⟨_, h.1, ⟨_, [], rfl, rfl, by
  cases b <;> exact ⟨⟨rfl, trivial⟩, none, 0, rfl, fun i x hx => by cases i <;> cases hx⟩⟩⟩, h.2⟩
end Go.Proofs.YtekkapgknohadaaGreatDoor.Nf
