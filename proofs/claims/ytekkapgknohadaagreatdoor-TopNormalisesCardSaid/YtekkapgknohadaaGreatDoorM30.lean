/- typing.value, numbers, first. -/
import Derived.Test.YtekkapgknohadaaGreatDoorM29
set_option linter.unusedVariables false
set_option maxRecDepth 20000
set_option maxHeartbeats 8000000
namespace Go.Proofs.YtekkapgknohadaaGreatDoor.Nf
open Go.RowKit Go.Shelf
structure Env (w0 : World) (d : Po) (L : Lp) (A : Option Addr) (c : Nat) (S : List Sm) : Prop where
 s : Schs w0 A S
 p : PolM w0 d L
 sl : S.length ≤ 1000000
 cap : S.length ≤ c
 m : ∀ m ∈ S, MBd m
 pd : PBd d
 words : ∀ a t fd, findS S d.uses a t = some fd → fd.kind ≠ 0 → 0 < fd.words.length ∧ fd.words.length ≤ 64
def tyK (S : List Sm) (U : List Bp) (n : Nk) : Option Ty := if n.kind = 10 then some .num else if n.kind = 11 then some (.word n.name) else (findS S U n.name n.attr).map fun f => if f.kind = 0 then .num else .ref f.words
def ValOut (w0 : World) (o : Option Ty) (e : Ending) : Prop := match o with
 | some t => ∃ b A n c s, e = .returned (.tuple #[.agg (tyC b A n c s).toArray, .bool true]) ∧ TyIs w0 t b A n c s
 | none => ∃ b A n c s, e = .returned (.tuple #[.agg (tyC b A n c s).toArray, .bool false])
theorem value_any {d : Po} {L : Lp} {A : Option Addr} {c : Nat} {S : List Sm} {w0 : World} (E : Env w0 d L A c S) (i : Nat) (n : Nk) (hn : d.nodes[i]? = some n) (w : World) (h0 : Below w0.heap.size w0 w) :
 Calls Tryz.prog 209 #[fitV d L A S.length c, .int .i64 (i : Int)] w fun e w' => ValOut w0 (tyK S d.uses n) e ∧ Below w.heap.size w w' := by
 obtain ⟨ua, uc, ra, rc, na, nc⟩ := L
 obtain ⟨ad, KA, kc, hA, hN0⟩ := E.p.ns.at_ i n hn
 change na = some ad at hA
 subst hA
 have hil := (List.getElem?_eq_some_iff.1 hn).1
 have hii : (i : Int) < (d.nodes.length : Int) := by omega
 have hi0 : (0 : Int) ≤ (i : Int) := by omega
 have hk := (((Hp.start w).new 172 (fitC d ⟨ua, uc, ra, rc, some ad, nc⟩ A S.length c)).new 275 (tyC false none 0 0 ⟨#[]⟩)).new 68 (nkcs n KA kc)
 have hN := (hN0.up h0).up (((Hp.start w).new 172 (fitC d ⟨ua, uc, ra, rc, some ad, nc⟩ A S.length c)).new 275 (tyC false none 0 0 ⟨#[]⟩)).below0
 obtain ⟨g, hg⟩ : ∃ g, w.heap.size = g := ⟨_, rfl⟩
 simp only [sizeA, hg] at hk
 have d0 := hN.kind
 have d1 := hN.num
 have d2 := hN.name
 have d3 := hN.attr
 have d4 := hN.kids
 have d5 := hN.at_
 clear hn hN hN0 hil
 go_enter Tryz.func209, Tryz.ntmps209
 go_upto_region 2 with fail
 obtain ⟨q, hq⟩ : ∃ f, g + 1 = f := ⟨_, rfl⟩
 obtain ⟨h, hh⟩ : ∃ f, q + 1 = f := ⟨_, rfl⟩
 simp only [hq, hh] at hk ⊢
 generalize hW : ((w.alloc (.cells #[.string d.name, .slice ua d.uses.length uc, .slice ra d.reveal.length rc, .slice (some ad) d.nodes.length nc, .int .i64 d.root, .string d.scope, .int .i64 d.limit, .string d.escrow, .slice A S.length c] 172)).alloc (.cells #[.bool false, .slice none 0 0, .string ⟨#[]⟩] 275)).alloc (.cells #[.int .i64 n.kind, .int .i64 n.num, .string n.name, .string n.attr, .slice KA n.kids.length kc, .int .i64 n.at_] 68) = W1 at *
 have hk0 : Hp [] w [iblk h 68 (nkcs n KA kc), iblk q 275 (tyC false none 0 0 ⟨#[]⟩), iblk g 172 (fitC d ⟨ua, uc, ra, rc, some ad, nc⟩ A S.length c)] W1 := hk
 clear hk hW hq hh d0 d1 d2 d3 d4 d5
 obtain ⟨d0, d1, d2, d3, d4, d5⟩ := Blk.get6 (hk0.blk 0 rfl)
 have HV : Hid (tyK S d.uses n = if n.kind = 10 then some .num else if n.kind = 11 then some (.word n.name) else (findS S d.uses n.name n.attr).map fun f => if f.kind = 0 then .num else .ref f.words) := Lib.hid rfl
 cases hk1 : (n.kind == 10) with
 | true =>
   rw [if_pos (by simpa using hk1)] at HV
   go_wp2_with (refine wpList_store_row rfl 275 (.tmp 4) (.tmp 20) rfl q (tyC true none 0 0 ⟨#[]⟩).toArray rfl rfl 275 (tyC false none 0 0 ⟨#[]⟩).toArray (hk0.blk 1 rfl) (by kernel_rfl) (by kernel_rfl) (by kernel_rfl) ?_)
   have hK9 := hk0.rowAt 1 rfl (tyC true none 0 0 ⟨#[]⟩)
   have e0 := (hK9.blk 1 rfl).cell 0
   have e1 := (hK9.blk 1 rfl).cell 1
   have e2 := (hK9.blk 1 rfl).cell 2
   simp only [List.getElem?_cons_zero, List.getElem?_cons_succ] at e0 e1 e2
   refine bodyPost_ret (v := .tuple #[.agg (tyC true none 0 0 ⟨#[]⟩).toArray, .bool true]) (by simp [results, Tryz.results209, go_sem, e0, e1, e2]) rfl ?_
   have hb : Below w.heap.size w _ := hK9.below0
   rw [HV.out]
   refine ⟨⟨true, none, 0, 0, ⟨#[]⟩, rfl, .num ..⟩, by first | exact hb | (subst hg; exact hb)⟩
 | false =>
   rw [if_neg (by simpa using hk1)] at HV
   cases hk2 : (n.kind == 11) with
   | true =>
     rw [if_pos (by simpa using hk2)] at HV
     go_wp2_with (refine wpList_store_row rfl 275 (.tmp 4) (.tmp 25) rfl q (tyC false none 0 0 n.name).toArray rfl rfl 275 (tyC false none 0 0 ⟨#[]⟩).toArray (hk0.blk 1 rfl) (by kernel_rfl) (by kernel_rfl) (by kernel_rfl) ?_)
     have hK9 := hk0.rowAt 1 rfl (tyC false none 0 0 n.name)
     have e0 := (hK9.blk 1 rfl).cell 0
     have e1 := (hK9.blk 1 rfl).cell 1
     have e2 := (hK9.blk 1 rfl).cell 2
     simp only [List.getElem?_cons_zero, List.getElem?_cons_succ] at e0 e1 e2
     refine bodyPost_ret (v := .tuple #[.agg (tyC false none 0 0 n.name).toArray, .bool true]) (by simp [results, Tryz.results209, go_sem, e0, e1, e2]) rfl ?_
     have hb : Below w.heap.size w _ := hK9.below0
     rw [HV.out]
     refine ⟨⟨false, none, 0, 0, n.name, rfl, .word _⟩, by first | exact hb | (subst hg; exact hb)⟩
   | false =>
     rw [if_neg (by simpa using hk2)] at HV
     have HF := Lib.hid (find_fit d ⟨ua, uc, ra, rc, some ad, nc⟩ A c S n.name n.attr E.sl (fun m hm => (E.m m hm).len) E.pd.ul w0 W1 E.s E.p.us (h0.trans (hk0.below0.mono h0.size)))
     have HWD := Lib.hid (E.words n.name n.attr)
     obtain ⟨c0, c1, c2, c3, c4, c5, c6, c7, c8⟩ := blk9 (hk0.blk 2 rfl)
     clear E
     obtain ⟨O, hO⟩ : ∃ O, findS S d.uses n.name n.attr = O := ⟨_, rfl⟩
     rw [hO] at HV HF HWD
     clear hO
     go_wp2_with fail
     refine HF.out.mono ?_
     rintro e w3 ⟨ho, hb3⟩
     have hk3 := hk0.next hb3
     clear hk0 HF hb3 c0 c1 c2 c3 c4 c5 c6 c7 c8 d0 d1 d2 d3 d4 d5
     cases O with
     | none =>
       obtain rfl : e = _ := ho
       have hk4 := (hk3.new 122 [.int .i64 0, .int .i64 0]).new 57 zFl
       simp only [sizeA] at hk4
       have f0 := (hk4.blk 0 rfl).cell 1
       have f1 := (hk4.blk 0 rfl).cell 4
       simp only [List.getElem?_cons_zero, List.getElem?_cons_succ] at f0 f1
       clear hk3
       go_wp2_with (refine wpList_store_row rfl 275 (.tmp 4) (.tmp 42) rfl q (tyC true none 0 0 ⟨#[]⟩).toArray rfl rfl 275 (tyC false none 0 0 ⟨#[]⟩).toArray (hk4.blk 3 rfl) (by kernel_rfl) (by kernel_rfl) (by kernel_rfl) ?_)
       have hK9 := hk4.rowAt 3 rfl (tyC true none 0 0 ⟨#[]⟩)
       have e0 := (hK9.blk 3 rfl).cell 0
       have e1 := (hK9.blk 3 rfl).cell 1
       have e2 := (hK9.blk 3 rfl).cell 2
       simp only [List.getElem?_cons_zero, List.getElem?_cons_succ] at e0 e1 e2
       refine bodyPost_ret (v := .tuple #[.agg (tyC true none 0 0 ⟨#[]⟩).toArray, .bool false]) (by simp [results, Tryz.results209, go_sem, e0, e1, e2]) rfl ?_
       have hb : Below w.heap.size w _ := hK9.below0
       rw [HV.out]
       refine ⟨⟨_, _, _, _, _, rfl⟩, by first | exact hb | (subst hg; exact hb)⟩
     | some fd =>
       obtain ⟨WA, wc, x, y, h1, hs⟩ := ho
       subst h1
       have hk4 := (hk3.new 122 [.int .i64 x, .int .i64 y]).new 57 (fcs fd WA wc)
       simp only [sizeA] at hk4
       have f0 := (hk4.blk 0 rfl).cell 1
       have f1 := (hk4.blk 0 rfl).cell 4
       simp only [List.getElem?_cons_zero, List.getElem?_cons_succ] at f0 f1
       clear hk3
       cases hz : (fd.kind == 0) with
       | true =>
         have HV : Hid (tyK S d.uses n = some .num) := Lib.hid (by rw [HV.out, Option.map_some, if_pos (by simpa using hz)])
         go_wp2_with (refine wpList_store_row rfl 275 (.tmp 4) (.tmp 42) rfl q (tyC true WA fd.words.length wc ⟨#[]⟩).toArray rfl rfl 275 (tyC false none 0 0 ⟨#[]⟩).toArray (hk4.blk 3 rfl) (by kernel_rfl) (by kernel_rfl) (by kernel_rfl) ?_)
         have hK9 := hk4.rowAt 3 rfl (tyC true WA fd.words.length wc ⟨#[]⟩)
         have e0 := (hK9.blk 3 rfl).cell 0
         have e1 := (hK9.blk 3 rfl).cell 1
         have e2 := (hK9.blk 3 rfl).cell 2
         simp only [List.getElem?_cons_zero, List.getElem?_cons_succ] at e0 e1 e2
         refine bodyPost_ret (v := .tuple #[.agg (tyC true WA fd.words.length wc ⟨#[]⟩).toArray, .bool true]) (by simp [results, Tryz.results209, go_sem, e0, e1, e2]) rfl ?_
         have hb : Below w.heap.size w _ := hK9.below0
         rw [HV.out]
         refine ⟨⟨_, _, _, _, _, rfl, .num ..⟩, by first | exact hb | (subst hg; exact hb)⟩
       | false =>
         have hz0 : ¬ fd.kind = 0 := by simpa using hz
         have HV : Hid (tyK S d.uses n = some (.ref fd.words)) := Lib.hid (by rw [HV.out, Option.map_some, if_neg hz0])
         obtain ⟨l1, l2⟩ := HWD.out fd rfl hz0
         obtain ⟨wa, rfl, -⟩ := hs.at_ 0 _ (List.getElem?_eq_getElem l1)
         clear hz0 l1
         go_wp2_with (refine wpList_store_row rfl 275 (.tmp 4) (.tmp 42) rfl q (tyC false (some wa) fd.words.length wc ⟨#[]⟩).toArray rfl rfl 275 (tyC false none 0 0 ⟨#[]⟩).toArray (hk4.blk 3 rfl) (by kernel_rfl) (by kernel_rfl) (by kernel_rfl) ?_)
         have hK9 := hk4.rowAt 3 rfl (tyC false (some wa) fd.words.length wc ⟨#[]⟩)
         have e0 := (hK9.blk 3 rfl).cell 0
         have e1 := (hK9.blk 3 rfl).cell 1
         have e2 := (hK9.blk 3 rfl).cell 2
         simp only [List.getElem?_cons_zero, List.getElem?_cons_succ] at e0 e1 e2
         refine bodyPost_ret (v := .tuple #[.agg (tyC false (some wa) fd.words.length wc ⟨#[]⟩).toArray, .bool true]) (by simp [results, Tryz.results209, go_sem, e0, e1, e2]) rfl ?_
         have hb : Below w.heap.size w _ := hK9.below0
         rw [HV.out]
         refine ⟨⟨_, _, _, _, _, rfl, .ref wa fd.words wc hs l2⟩, by first | exact hb | (subst hg; exact hb)⟩
end Go.Proofs.YtekkapgknohadaaGreatDoor.Nf
