/- slices.Clone of uses, refs and strings. Printed by mkth.py. -/
import Derived.Test.YtekkapgknohadaaGreatDoorM32
import Derived.Test.YtekkapgknohadaaGreatDoorM3
set_option linter.unusedVariables false
set_option maxRecDepth 20000
set_option maxHeartbeats 8000000
namespace Go.Proofs.YtekkapgknohadaaGreatDoor
open Go.RowKit Go.Shelf
abbrev zbe (l : List Bp) : List Value := l.flatMap fun x => [.string x.1, .string x.2]
theorem bcells_len (l : List Bp) : (zbe l).length = l.length * 2 := by
 induction l with
 | nil => rfl
 | cons a l ih =>
  have e : zbe (a :: l) = .string a.1 :: .string a.2 :: zbe l := rfl
  rw [e]; simp only [List.length_cons, ih]; omega
theorem bcells_at {l : List Bp} {i : Nat} {x : Bp} (h : l[i]? = some x) : (zbe l)[i * 2]? = some (.string x.1) ∧ (zbe l)[i * 2 + 1]? = some (.string x.2) := by
 induction l generalizing i with
 | nil => simp at h
 | cons y l ih =>
  have e : zbe (y :: l) = .string y.1 :: .string y.2 :: zbe l := rfl
  cases i with
  | zero =>
   have : y = x := by simpa using h
   subst this
   exact ⟨rfl, rfl⟩
  | succ i =>
   have h1 := ih (by simpa using h)
   rw [e, show (i + 1) * 2 = i * 2 + 1 + 1 by omega]
   simpa using h1
theorem bcells_of {W : World} {ad : Addr} {l : List Bp} (h : Prs W (some ad) l) : ∀ j u, (zbe l)[j]? = some u → W.cell? (ad.add j) = some u := by
 intro j u hu
 have hj := (List.getElem?_eq_some_iff.1 hu).1
 rw [bcells_len] at hj
 obtain ⟨x, hx⟩ : ∃ x, l[j / 2]? = some x := ⟨_, List.getElem?_eq_getElem (by omega)⟩
 obtain ⟨ad', e, h1, h2⟩ := h.at_ _ _ hx
 cases e
 obtain ⟨b1, b2⟩ := bcells_at hx
 rcases (by omega : j = j / 2 * 2 ∨ j = j / 2 * 2 + 1) with hj2 | hj2
 ·rw [hj2] at hu ⊢
  rw [b1] at hu
  rw [← hu]; exact h1
 ·rw [hj2] at hu ⊢
  rw [b2] at hu
  rw [← hu, ← h2]
  congr 1
  unfold Addr.add
  split
  ·omega
  ·split
   ·rename_i h9; rw [h9]
   ·rfl
theorem bprs_row {e : TypeId} {W : World} {A : Option Addr} {n c : Nat} {l : List Bp} (h : W.ownsRow 0 e 2 (.slice A n c) l.length (zbe l)) : Prs W A l := by
 refine ⟨fun i s hs => ?_⟩
 have hi := (List.getElem?_eq_some_iff.1 hs).1
 obtain ⟨g, cap, hv, -⟩ := za5 h (by omega)
 injection hv with hA hn hc
 subst hA
 rw [hn] at h
 refine ⟨_, rfl, ?_⟩
 rw [zcn]
 exact ⟨zaz h (bcells_at hs).1, zaz h (bcells_at hs).2⟩
theorem Hp.emptyrow {o : List Nat} {w W : World} {it : List It} (h : Hp o w it W) (e : TypeId) (size : Nat) : Hp o w (irow e size (.slice (some ⟨W.heap.size, 0, none⟩) 0 0) 0 [] :: it) (W.alloc (.cells #[] e)) := by
 have hrow : (W.alloc (.cells #[] e)).ownsRow 0 e size (.slice (some ⟨W.heap.size, 0, none⟩) 0 0) 0 [] := by
  refine ⟨by simp, .inr ⟨W.heap.size, 0, #[], rfl, Nat.zero_le _, Blk.new W e [], Nat.le_refl _, by unfold maxLen; omega, by simp, by simp⟩⟩
 have h1 : Hp (ow []) W [irow e size (.slice (some ⟨W.heap.size, 0, none⟩) 0 0) 0 []] (W.alloc (.cells #[] e)) := by
  refine ⟨⟨fun x hx => ?_, by simp [irow, Value.ownBlock]⟩, ⟨(Below.refl _ _).alloc (Nat.zero_le _) _, fun k hk _ => Below.heap_alloc _ _ _ hk, fun b hb => .inr ?_⟩⟩
  ·rw [List.mem_singleton.1 hx]; exact hrow
  ·simp [irow, Value.ownBlock] at hb; omega
 exact Hp.call (a := []) h h1
theorem cluse_info : (Tryz.prog.info? 50).map (fun i => (i.zero, i.size, i.bytes)) = some (some (.agg #[.string ⟨#[]⟩, .string ⟨#[]⟩]), 2, 32) := by kernel_rfl
theorem clone_use (A : Option Addr) (c : Nat) (x : List Bp) (W : World) (hx : Prs W A x) (hxl : x.length ≤ 1000000) :
 Calls Tryz.prog 28 #[.slice A x.length c] W fun e w' => ∃ A' c', e = .returned (.slice A' x.length c') ∧ Hp [] W [irow 50 2 (.slice A' x.length c') x.length (zbe x)] w' := by
 obtain ⟨j0, hj0, hy0, hy1, hy2⟩ := info3 cluse_info
 cases A with
 | none =>
  have hx0 : x = [] := by
   cases x with
   | nil => rfl
   | cons a l =>
    obtain ⟨ad, e, -⟩ := hx.at_ 0 a rfl
    cases e
  subst hx0
  have hq : ∀ w, (binOp .eql 25 (.slice none 0 c) (.slice none 0 0)).run Tryz.prog w = .ok (.bool true) w := fun w => by kernel_rfl
  go_enter Tryz.func28, Tryz.ntmps28
  go_wp2_with fail
  go_ret
  exact ⟨none, 0, rfl, (Hp.start W).nilrow 50 2⟩
 | some ad =>
  have hq : ∀ (n : Nat) w, (binOp .eql 25 (.slice (some ad) n c) (.slice none 0 0)).run Tryz.prog w = .ok (.bool false) w := fun n w => by kernel_rfl
  cases hxx : decide (x = []) with
  | true =>
   obtain rfl : x = [] := of_decide_eq_true hxx
   have hap : ∀ (g : Nat) (w : World), (Builtin.append_ #[25, 25] 25 #[.slice (some ⟨g, 0, none⟩) 0 0, .slice (some ad) 0 c]).run Tryz.prog w = .ok (.slice (some ⟨g, 0, none⟩) 0 0) w := fun g w => by
    have := run_append_room_cells (P := Tryz.prog) (w := w) 25 25 50 j0 Tryz.underlying25 hj0 g 0 0 0 ad 0 c [] (by simp) (by simp) (by simp) (by simp) (by simp) (by simp)
    exact this
   go_enter Tryz.func28, Tryz.ntmps28
   go_wp2_with fail
   go_ret
   exact ⟨_, _, rfl, (Hp.start W).emptyrow 50 2⟩
  | false =>
   have hpos : 0 < x.length := by
    cases x with
    | nil => simp at hxx
    | cons a l => simp
   have hk0 := (Hp.start W).emptyrow 50 2
   have hcl := bcells_of (hx.up ((Below.refl W.heap.size W).alloc (Nat.le_refl _) (.cells #[] 50)))
   go_enter Tryz.func28, Tryz.ntmps28
   go_wp2_with (first | (at_builtin; refine zac rfl _ _ 25 rfl 0 50 j0 _ 2 32 Tryz.underlying25 hj0 hy0 hy1 hy2 rfl (by decide) _ 0 [] rfl (hk0.row 0 rfl) ad x.length c (zbe x) rfl (bcells_len x) hcl (by intro u hu; obtain ⟨y, _, hy⟩ := List.mem_flatMap.1 hu; simp at hy; rcases hy with rfl | rfl <;> rfl) hpos (by unfold maxLen; omega) (by omega) (Nat.zero_le _) ?_; intro v' w2 hown hgrow hat; obtain ⟨A2, ca2, rfl⟩ := zag hown))
   go_ret
   have hk1 := hk0.grown 0 rfl hown hgrow hat
   rw [Nat.zero_add, List.nil_append] at hk1
   exact ⟨_, _, by first | rfl | (rw [Nat.zero_add]; rfl) | simp, hk1⟩
theorem clref_info : (Tryz.prog.info? 89).map (fun i => (i.zero, i.size, i.bytes)) = some (some (.agg #[.string ⟨#[]⟩, .string ⟨#[]⟩]), 2, 32) := by kernel_rfl
theorem clone_ref (A : Option Addr) (c : Nat) (x : List Bp) (W : World) (hx : Prs W A x) (hxl : x.length ≤ 1000000) :
 Calls Tryz.prog 29 #[.slice A x.length c] W fun e w' => ∃ A' c', e = .returned (.slice A' x.length c') ∧ Hp [] W [irow 89 2 (.slice A' x.length c') x.length (zbe x)] w' := by
 obtain ⟨j0, hj0, hy0, hy1, hy2⟩ := info3 clref_info
 cases A with
 | none =>
  have hx0 : x = [] := by
   cases x with
   | nil => rfl
   | cons a l =>
    obtain ⟨ad, e, -⟩ := hx.at_ 0 a rfl
    cases e
  subst hx0
  have hq : ∀ w, (binOp .eql 26 (.slice none 0 c) (.slice none 0 0)).run Tryz.prog w = .ok (.bool true) w := fun w => by kernel_rfl
  go_enter Tryz.func29, Tryz.ntmps29
  go_wp2_with fail
  go_ret
  exact ⟨none, 0, rfl, (Hp.start W).nilrow 89 2⟩
 | some ad =>
  have hq : ∀ (n : Nat) w, (binOp .eql 26 (.slice (some ad) n c) (.slice none 0 0)).run Tryz.prog w = .ok (.bool false) w := fun n w => by kernel_rfl
  cases hxx : decide (x = []) with
  | true =>
   obtain rfl : x = [] := of_decide_eq_true hxx
   have hap : ∀ (g : Nat) (w : World), (Builtin.append_ #[26, 26] 26 #[.slice (some ⟨g, 0, none⟩) 0 0, .slice (some ad) 0 c]).run Tryz.prog w = .ok (.slice (some ⟨g, 0, none⟩) 0 0) w := fun g w => by
    have := run_append_room_cells (P := Tryz.prog) (w := w) 26 26 89 j0 Tryz.underlying26 hj0 g 0 0 0 ad 0 c [] (by simp) (by simp) (by simp) (by simp) (by simp) (by simp)
    exact this
   go_enter Tryz.func29, Tryz.ntmps29
   go_wp2_with fail
   go_ret
   exact ⟨_, _, rfl, (Hp.start W).emptyrow 89 2⟩
  | false =>
   have hpos : 0 < x.length := by
    cases x with
    | nil => simp at hxx
    | cons a l => simp
   have hk0 := (Hp.start W).emptyrow 89 2
   have hcl := bcells_of (hx.up ((Below.refl W.heap.size W).alloc (Nat.le_refl _) (.cells #[] 89)))
   go_enter Tryz.func29, Tryz.ntmps29
   go_wp2_with (first | (at_builtin; refine zac rfl _ _ 26 rfl 0 89 j0 _ 2 32 Tryz.underlying26 hj0 hy0 hy1 hy2 rfl (by decide) _ 0 [] rfl (hk0.row 0 rfl) ad x.length c (zbe x) rfl (bcells_len x) hcl (by intro u hu; obtain ⟨y, _, hy⟩ := List.mem_flatMap.1 hu; simp at hy; rcases hy with rfl | rfl <;> rfl) hpos (by unfold maxLen; omega) (by omega) (Nat.zero_le _) ?_; intro v' w2 hown hgrow hat; obtain ⟨A2, ca2, rfl⟩ := zag hown))
   go_ret
   have hk1 := hk0.grown 0 rfl hown hgrow hat
   rw [Nat.zero_add, List.nil_append] at hk1
   exact ⟨_, _, by first | rfl | (rw [Nat.zero_add]; rfl) | simp, hk1⟩
theorem svals_len (l : List ByteArray) : (svals l).length = l.length * 1 := by simp [svals]
theorem svals_of {W : World} {ad : Addr} {l : List ByteArray} (h : Strs W (some ad) l) : ∀ j u, (svals l)[j]? = some u → W.cell? (ad.add j) = some u := by
 intro j u hu
 rw [List.getElem?_map, Option.map_eq_some_iff] at hu
 obtain ⟨s, hs, rfl⟩ := hu
 obtain ⟨ad', e, h1⟩ := h.at_ j s hs
 cases e
 exact h1
theorem clstr_info : (Tryz.prog.info? 9).map (fun i => (i.zero, i.size, i.bytes)) = some (some (.string ⟨#[]⟩), 1, 16) := by kernel_rfl
theorem clone_str (A : Option Addr) (c : Nat) (x : List ByteArray) (W : World) (hx : Strs W A x) (hxl : x.length ≤ 1000000) :
 Calls Tryz.prog 110 #[.slice A x.length c] W fun e w' => ∃ A' c', e = .returned (.slice A' x.length c') ∧ Hp [] W [irow 9 1 (.slice A' x.length c') x.length (svals x)] w' := by
 obtain ⟨j0, hj0, hy0, hy1, hy2⟩ := info3 clstr_info
 cases A with
 | none =>
  have hx0 : x = [] := by
   cases x with
   | nil => rfl
   | cons a l =>
    obtain ⟨ad, e, -⟩ := hx.at_ 0 a rfl
    cases e
  subst hx0
  have hq : ∀ w, (binOp .eql 55 (.slice none 0 c) (.slice none 0 0)).run Tryz.prog w = .ok (.bool true) w := fun w => by kernel_rfl
  go_enter Tryz.func110, Tryz.ntmps110
  go_wp2_with fail
  go_ret
  exact ⟨none, 0, rfl, (Hp.start W).nilrow 9 1⟩
 | some ad =>
  have hq : ∀ (n : Nat) w, (binOp .eql 55 (.slice (some ad) n c) (.slice none 0 0)).run Tryz.prog w = .ok (.bool false) w := fun n w => by kernel_rfl
  cases hxx : decide (x = []) with
  | true =>
   obtain rfl : x = [] := of_decide_eq_true hxx
   have hap : ∀ (g : Nat) (w : World), (Builtin.append_ #[55, 55] 55 #[.slice (some ⟨g, 0, none⟩) 0 0, .slice (some ad) 0 c]).run Tryz.prog w = .ok (.slice (some ⟨g, 0, none⟩) 0 0) w := fun g w => by
    have := run_append_room_cells (P := Tryz.prog) (w := w) 55 55 9 j0 Tryz.underlying55 hj0 g 0 0 0 ad 0 c [] (by simp) (by simp) (by simp) (by simp) (by simp) (by simp)
    exact this
   go_enter Tryz.func110, Tryz.ntmps110
   go_wp2_with fail
   go_ret
   exact ⟨_, _, rfl, (Hp.start W).emptyrow 9 1⟩
  | false =>
   have hpos : 0 < x.length := by
    cases x with
    | nil => simp at hxx
    | cons a l => simp
   have hk0 := (Hp.start W).emptyrow 9 1
   have hcl := svals_of (hx.up ((Below.refl W.heap.size W).alloc (Nat.le_refl _) (.cells #[] 9)))
   go_enter Tryz.func110, Tryz.ntmps110
   go_wp2_with (first | (at_builtin; refine zac rfl _ _ 55 rfl 0 9 j0 _ 1 16 Tryz.underlying55 hj0 hy0 hy1 hy2 rfl (by decide) _ 0 [] rfl (hk0.row 0 rfl) ad x.length c (svals x) rfl (svals_len x) hcl (by intro u hu; obtain ⟨y, _, rfl⟩ := List.mem_map.1 hu; rfl) hpos (by unfold maxLen; omega) (by omega) (Nat.zero_le _) ?_; intro v' w2 hown hgrow hat; obtain ⟨A2, ca2, rfl⟩ := zag hown))
   go_ret
   have hk1 := hk0.grown 0 rfl hown hgrow hat
   rw [Nat.zero_add, List.nil_append] at hk1
   exact ⟨_, _, by first | rfl | (rw [Nat.zero_add]; rfl) | simp, hk1⟩
end Go.Proofs.YtekkapgknohadaaGreatDoor
namespace Go.Proofs.YtekkapgknohadaaGreatDoor.Nf
open Go.RowKit Go.Shelf
theorem tfield_any {d : Po} {L : Lp} {A : Option Addr} {c : Nat} {S : List Sm} {w0 : World} (E : Env w0 d L A c S) (hR : za9 chkB S d = true) (a t : ByteArray) (fd : Fd) (hf : findS S d.uses a t = some fd) (hwl : fd.words.length ≤ 1000000) (w : World) (h0 : Below w0.heap.size w0 w) :
 Calls Tryz.prog 52 #[polV d L, .slice A S.length c, .agg #[.string a, .string t]] w fun e w' => (∃ x y CA cc, e = .returned (.tuple #[plV x y, .agg (fcs fd CA cc).toArray, .int .i64 0])) ∧ Below w.heap.size w w' := by
 have hk := (((((Hp.start w).new 29 (polcs d L)).new 89 [.string a, .string t]).new 122 [.int .i64 0, .int .i64 0]).new 57 zFl)
 obtain ⟨g, hg⟩ : ∃ g, w.heap.size = g := ⟨_, rfl⟩
 simp only [sizeA, hg] at hk
 go_enter Tryz.func52, Tryz.ntmps52
 go_upto_region 1 with fail
 obtain ⟨q, hq⟩ : ∃ f, g + 1 = f := ⟨_, rfl⟩
 obtain ⟨h, hh⟩ : ∃ f, q + 1 = f := ⟨_, rfl⟩
 obtain ⟨o, ho⟩ : ∃ f, h + 1 = f := ⟨_, rfl⟩
 simp only [hq, hh, ho] at hk ⊢
 generalize hW : (((w.alloc (.cells #[.string d.name, .slice L.ua d.uses.length L.uc, .slice L.ra d.reveal.length L.rc, .slice L.na d.nodes.length L.nc, .int .i64 d.root, .string d.scope, .int .i64 d.limit, .string d.escrow] 29)).alloc (.cells #[.string a, .string t] 89)).alloc (.cells #[.int .i64 0, .int .i64 0] 122)).alloc (.cells #[.string ⟨#[]⟩, .int .i64 0, .int .i64 0, .int .i64 0, .slice none 0 0] 57) = W1 at *
 have hk0 : Hp [] w [iblk o 57 zFl, iblk h 122 [.int .i64 0, .int .i64 0], iblk q 89 [.string a, .string t], iblk g 29 (polcs d L)] W1 := hk
 clear hk hW hq hh ho
 obtain ⟨c0, c1, c2, c3, c4, c5, c6, c7⟩ := (hk0.blk 3 rfl).get8
 have HC := Lib.hid (ready_any d L A c S E.sl E.cap E.m E.pd w0 W1 E.s E.p (h0.trans (hk0.below0.mono h0.size)))
 rw [hR] at HC
 have HF := Lib.hid (fun W (hb : Below w.heap.size w W) => find_fit d L A c S a t E.sl (fun m hm => (E.m m hm).len) E.pd.ul w0 W E.s E.p.us (h0.trans (hb.mono h0.size)))
 rw [hf] at HF
 clear E hR hf
 go_wp2_with fail
 refine HC.out.mono ?_
 rintro e w2 ⟨⟨y, rfl, hy⟩, hb2⟩
 obtain rfl : y = 0 := hy.2 rfl
 have hk2 := (hk0.next hb2).new 172 (fitC d L A S.length c)
 clear HC hk0 hb2 c0 c1 c2 c3 c4 c5 c6 c7 hy
 go_upto_region 4 with fail
 generalize w2.alloc (.cells #[.string d.name, .slice L.ua d.uses.length L.uc, .slice L.ra d.reveal.length L.rc, .slice L.na d.nodes.length L.nc, .int .i64 d.root, .string d.scope, .int .i64 d.limit, .string d.escrow, .slice A S.length c] 172) = W3 at *
 generalize w2.heap.size = gf at *
 obtain ⟨c0, c1, c2, c3, c4, c5, c6, c7, c8⟩ := blk9 (hk2.blk 0 rfl)
 have r0 := (hk2.blk 3 rfl).cell 0
 have r1 := (hk2.blk 3 rfl).cell 1
 simp only [List.getElem?_cons_zero, List.getElem?_cons_succ] at r0 r1
 go_wp2_with fail
 refine (HF.out _ hk2.below0).mono ?_
 rintro e w4 ⟨⟨WA, wc, x, y, h1, hs⟩, hb4⟩
 subst h1
 have hk4 := ((hk2.next hb4).new 122 [.int .i64 x, .int .i64 y]).new 57 (fcs fd WA wc)
 simp only [sizeA] at hk4
 clear hk2 hb4 c0 c1 c2 c3 c4 c5 c6 c7 c8 r0 r1 HF
 go_upto_region 7 with fail
 generalize (w4.alloc (.cells #[.int .i64 x, .int .i64 y] 122)).alloc (.cells #[.string fd.name, .int .i64 fd.kind, .int .i64 fd.min, .int .i64 fd.max, .slice WA fd.words.length wc] 57) = W5 at *
 obtain ⟨fb, hfb⟩ : ∃ f, w4.heap.size + 1 = f := ⟨_, rfl⟩
 simp only [hfb] at hk4 ⊢
 clear hfb
 generalize w4.heap.size = pb at *
 have f4 := (hk4.blk 0 rfl).cell 4
 simp only [List.getElem?_cons_zero, List.getElem?_cons_succ] at f4
 have HX := Lib.hid (clone_str WA wc fd.words W5 ((hs.up h0).up hk4.below0) hwl)
 go_wp2_with fail
 refine HX.out.mono ?_
 rintro e w6 ⟨CA, cc, rfl, hH⟩
 have hk5 := hk4.next hH.below0
 have f5 := (hk5.blk 0 rfl).cell 4
 have z5 := (hk5.blk 0 rfl).frozen 4
 simp only [List.getElem?_cons_zero, List.getElem?_cons_succ] at f5
 have hk6 := hk5.set 0 rfl 4 (.slice CA fd.words.length cc)
 clear HX hH hk4 f4
 go_upto_region 8 with fail
 generalize w6.setCell ⟨fb, 4, none⟩ (.slice CA fd.words.length cc) = W7 at *
 have hk6 : Hp [] w [iblk fb 57 (fcs fd CA cc), iblk pb 122 [.int .i64 x, .int .i64 y], iblk gf 172 (fitC d L A S.length c), iblk o 57 zFl, iblk h 122 [.int .i64 0, .int .i64 0], iblk q 89 [.string a, .string t], iblk g 29 (polcs d L)] W7 := hk6
 obtain ⟨d0, d1, d2, d3, d4⟩ := Blk.get5 (hk6.blk 0 rfl)
 have p0 := (hk6.blk 1 rfl).cell 0
 have p1 := (hk6.blk 1 rfl).cell 1
 simp only [List.getElem?_cons_zero, List.getElem?_cons_succ] at p0 p1
 have hD := hk6.drew
 clear hk5 f5 z5
 refine wp_region_held_drew (S := (fun w' => w'.cell? ⟨fb, 0, none⟩ = some (.string fd.name) ∧ w'.cell? ⟨fb, 1, none⟩ = some (.int .i64 fd.kind) ∧ w'.cell? ⟨fb, 2, none⟩ = some (.int .i64 fd.min) ∧ w'.cell? ⟨fb, 3, none⟩ = some (.int .i64 fd.max) ∧ w'.cell? ⟨fb, 4, none⟩ = some (.slice CA fd.words.length cc) ∧ w'.cell? ⟨pb, 0, none⟩ = some (.int .i64 x) ∧ w'.cell? ⟨pb, 1, none⟩ = some (.int .i64 y))) (by kernel_rfl) ?_ (fun hHeld => ?_)
 ·exact ⟨d0, d1, d2, d3, d4, p0, p1⟩
 refine tkW 0 (v := ?_) rfl (Or.inl ⟨by rfl, ?_⟩) ?_
 rotate_left
 ·(intro w hSw; (try dsimp only at hSw); (obtain ⟨q0, q1, q2, q3, q4, q5, q6⟩ := hSw); go_simp; (try with_reducible rfl))
 try simp only [Act.put, tS1, tS2, tS4, tS5, tS6]
 refine tkW 1 (v := ?_) rfl (Or.inl ⟨by rfl, ?_⟩) ?_
 rotate_left
 ·(intro w hSw; (try dsimp only at hSw); (obtain ⟨q0, q1, q2, q3, q4, q5, q6⟩ := hSw); go_simp; (try with_reducible rfl))
 try simp only [Act.put, tS1, tS2, tS3, tS4, tS5, tS6]
 refine tkO 2 rfl fun K hK => ?_
 rw [if_pos (by rfl)]
 refine wp_store_row 122 (.tmp 6) (.tmp 40) (by rfl) h [.int .i64 x, .int .i64 y].toArray (by rfl) (by rfl) 122 [.int .i64 0, .int .i64 0].toArray (hD.blk 4 rfl) (by kernel_rfl) (by kernel_rfl) (by kernel_rfl) ?_
 have hD2 := hD.rowAt 4 rfl [.int .i64 x, .int .i64 y]
 refine hK.out _ _ ⟨(hD2.blk 0 rfl).cell 0, (hD2.blk 0 rfl).cell 1, (hD2.blk 0 rfl).cell 2, (hD2.blk 0 rfl).cell 3, (hD2.blk 0 rfl).cell 4, (hD2.blk 1 rfl).cell 0, (hD2.blk 1 rfl).cell 1⟩ fun hHeld => ?_
 clear hK K
 refine tkO 3 rfl fun K hK => ?_
 rw [if_pos (by rfl)]
 refine wp_store_row 57 (.tmp 7) (.tmp 41) (by rfl) o (fcs fd CA cc).toArray (by rfl) (by rfl) 57 zFl.toArray (hD2.blk 3 rfl) (by kernel_rfl) (by kernel_rfl) (by kernel_rfl) ?_
 have hD3 := hD2.rowAt 3 rfl (fcs fd CA cc)
 refine hK.out _ _ ⟨(hD3.blk 0 rfl).cell 0, (hD3.blk 0 rfl).cell 1, (hD3.blk 0 rfl).cell 2, (hD3.blk 0 rfl).cell 3, (hD3.blk 0 rfl).cell 4, (hD3.blk 1 rfl).cell 0, (hD3.blk 1 rfl).cell 1⟩ fun hHeld => ?_
 clear hK K
 refine tkW 4 (v := ?_) rfl (Or.inl ⟨by rfl, ?_⟩) ?_
 rotate_left
 ·(intro w hSw; (try dsimp only at hSw); (obtain ⟨q0, q1, q2, q3, q4, q5, q6⟩ := hSw); go_simp; (try with_reducible rfl))
 try simp only [Act.put, tS1, tS2, tS3, tS4, tS5, tS6]
 refine wpAnyH_done (by kernel_rfl) ?_ _
 go_wp2_with fail
 have e0 := (hD3.blk 4 rfl).cell 0
 have e1 := (hD3.blk 4 rfl).cell 1
 obtain ⟨m0, m1, m2, m3, m4⟩ := Blk.get5 (hD3.blk 3 rfl)
 simp only [List.getElem?_cons_zero, List.getElem?_cons_succ] at e0 e1
 refine bodyPost_ret (v := .tuple #[plV x y, .agg (fcs fd CA cc).toArray, .int .i64 0]) (by simp [results, Tryz.results52, go_sem, e0, e1, m0, m1, m2, m3, m4]) rfl ?_
 have hb : Below w.heap.size w _ := hD3.below0
 exact ⟨⟨x, y, CA, cc, rfl⟩, by first | exact hb | (subst hg; exact hb)⟩
end Go.Proofs.YtekkapgknohadaaGreatDoor.Nf
