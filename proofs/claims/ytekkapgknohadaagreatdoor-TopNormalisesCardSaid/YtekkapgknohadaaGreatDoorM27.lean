/- Schemas in memory; typing: named, find, ready. -/
import Derived.Test.YtekkapgknohadaaGreatDoorM3
import Derived.Test.YtekkapgknohadaaGreatDoorM25
import Derived.Test.YtekkapgknohadaaGreatDoorM26
import Derived.Test.YtekkapgknohadaaGreatDoorM1
import Derived.Lib.SmallJoins
import Derived.Lib.LaidTab
import Derived.Deep.Slices
import Derived.Deep.Fields
import Derived.ChangeSame
import Derived.Stop.LaidErr
import Derived.MakeChecks
set_option linter.unusedVariables false
set_option maxRecDepth 20000
set_option maxHeartbeats 8000000
namespace Go.Proofs.YtekkapgknohadaaGreatDoor.Nf
open Go.RowKit Go.Shelf
open Lib (hid)
structure Schs (W : World) (A : Option Addr) (S : List Sm) : Prop where
 at_ : ∀ i m, S[i]? = some m → ∃ ad FA c, A = some ad ∧ W.cell? (ad.add (i * 2)) = some (.string m.name) ∧ W.cell? ⟨(ad.add (i * 2)).block, (ad.add (i * 2)).off + 1, none⟩ = some (.slice FA m.fields.length c) ∧ Flds W FA m.fields
theorem Schs.up {W W' : World} {A : Option Addr} {S : List Sm} (h : Schs W A S) (hb : Below W.heap.size W W') : Schs W' A S := ⟨fun i m hm => by
 obtain ⟨ad, FA, c, h1, h2, h3, h4⟩ := h.at_ i m hm
 exact ⟨ad, FA, c, h1, zaa h2 hb, zaa h3 hb, h4.up hb⟩⟩
theorem Schs.take {W : World} {A : Option Addr} {S : List Sm} (h : Schs W A S) (n : Nat) : Schs W A (S.take n) := ⟨fun i m hm => h.at_ i m (by
 rw [List.getElem?_take] at hm
 split at hm
 ·exact hm
 ·cases hm)⟩
structure MBd (m : Sm) : Prop where
 name : m.name.size ≤ 1000000
 len : m.fields.length ≤ 1000000
 fld : ∀ f ∈ m.fields, FBd f
theorem MBd.sbd {m : Sm} (h : MBd m) : SBd m.name m.fields := ⟨h.name, h.len, h.fld⟩
abbrev zS : List Value := [.string ⟨#[]⟩, .slice none 0 0]
abbrev smV (m : Sm) (FA : Option Addr) (c : Nat) : Value := .agg #[.string m.name, .slice FA m.fields.length c]
def NamedOut (w0 : World) (o : Option Sm) (e : Ending) : Prop := match o with
 | some m => ∃ FA c, e = .returned (.tuple #[smV m FA c, .bool true]) ∧ Flds w0 FA m.fields
 | none => e = .returned (.tuple #[.agg zS.toArray, .bool false])
theorem find_take {α : Type} {p : α → Bool} {l : List α} {i : Nat} {x : α} (h : l[i]? = some x) (hn : (l.take i).find? p = none) : (if p x then l.find? p = some x else (l.take (i + 1)).find? p = none) := by
 have e : l = l.take i ++ x :: l.drop (i + 1) := by rw [← zc7 h, List.take_append_drop]
 split
 ·rename_i hp
  rw [e, List.find?_append, hn, List.find?_cons_of_pos hp]; rfl
 ·rename_i hp
  rw [zbb h, List.find?_append, hn, List.find?_cons_of_neg hp]; rfl
theorem zbx (A : Option Addr) (c : Nat) (S : List Sm) (s : ByteArray) (hL : S.length ≤ 1000000) (w0 w : World) (hS : Schs w0 A S) (h0 : Below w0.heap.size w0 w) :
 Calls Tryz.prog 154 #[.slice A S.length c, .string s] w fun e w' => NamedOut w0 (zba S s) e ∧ Below w.heap.size w w' := by
 have hk := (Hp.start w).new 53 zS
 obtain ⟨g, hg⟩ : ∃ g, w.heap.size = g := ⟨_, rfl⟩
 rw [hg] at hk
 go_enter Tryz.func154, Tryz.ntmps154
 go_upto_region 2 with fail
 try simp only [hg]
 have hk0 : Hp [] w [iblk g 53 zS] (w.alloc (.cells #[.string ⟨#[]⟩, .slice none 0 0] 53)) := hk
 clear hk
 generalize w.alloc (.cells #[.string ⟨#[]⟩, .slice none 0 0] 53) = W1 at *
 go_loopg [10] S.length (fun m s10 wx => ∃ i : Nat, i ≤ S.length ∧ m = S.length - i ∧ s10 = .int .i64 (i : Int) ∧ Hp [] w [iblk g 53 zS] wx ∧ Hid (zba (S.take i) s = none))
 case atStart => exact ⟨0, Nat.zero_le _, rfl, rfl, hk0, hid rfl⟩
 case round =>
  obtain ⟨i, hi, rfl, rfl, hM, HE⟩ := hrel
  clear hk0
  by_cases hil : i < S.length
  ·have hii : (i : Int) < (S.length : Int) := by omega
   have hi0 : (0 : Int) ≤ (i : Int) := by omega
   obtain ⟨m, hm⟩ : ∃ m, S[i]? = some m := ⟨_, List.getElem?_eq_getElem hil⟩
   obtain ⟨ad, FA, fc, rfl, c0, c1, hF⟩ := hS.at_ i m hm
   replace c0 := zaa (zaa c0 h0) hM.below0
   replace c1 := zaa (zaa c1 h0) hM.below0
   have HT := hid (find_take (p := fun (m : Sm) => decide (m.name = s)) hm HE.out)
   have hM1 := hM.new 53 [.string m.name, .slice FA m.fields.length fc]
   have hee := @strs_eq m.name s
   clear hm HE
   go_upto_region 4 with fail
   generalize wr.alloc (.cells #[.string m.name, .slice FA m.fields.length fc] 53) = W2 at *
   generalize wr.heap.size = g2 at *
   have d0 := (hM1.blk 0 rfl).cell 0
   have d1 := (hM1.blk 0 rfl).cell 1
   simp only [List.getElem?_cons_zero, List.getElem?_cons_succ] at d0 d1
   clear c0 c1 hM
   by_cases hq : m.name = s
   ·rw [decide_eq_true hq] at hee
    rw [if_pos (by simpa using hq)] at HT
    clear hq
    go_wp2_with (refine wpList_store_row rfl 53 (.tmp 4) (.tmp 18) rfl g [.string m.name, .slice FA m.fields.length fc].toArray rfl rfl 53 zS.toArray (hM1.blk 1 rfl) (by kernel_rfl) (by kernel_rfl) (by kernel_rfl) ?_)
    have hM2 := hM1.rowAt 1 rfl [.string m.name, .slice FA m.fields.length fc]
    have e0 := (hM2.blk 1 rfl).cell 0
    have e1 := (hM2.blk 1 rfl).cell 1
    simp only [List.getElem?_cons_zero, List.getElem?_cons_succ] at e0 e1
    refine bodyPost_ret (v := .tuple #[smV m FA fc, .bool true]) (by simp [results, go_sem, e0, e1]) rfl ?_
    have e : zba S s = some m := HT.out
    rw [e]
    have hb : Below w.heap.size w _ := hM2.below0
    exact ⟨⟨FA, fc, rfl, hF⟩, by first | exact hb | (subst hg; exact hb)⟩
   ·rw [decide_eq_false hq] at hee
    rw [if_neg (by simpa using hq)] at HT
    clear hq
    go_wp2_with fail
    go_roundg (S.length - (i + 1))
    case measure => omega
    case rel => exact ⟨i + 1, hil, rfl, by first | rfl | simp, hM1.tail, HT⟩
  ·have hii : ¬ (i : Int) < (S.length : Int) := by omega
   have HR : Hid (zba S s = none) := hid (by rw [← HE.out, List.take_of_length_le (by omega)])
   clear HE
   go_wp2_with (refine wpList_store_row rfl 53 (.tmp 4) (.tmp 20) rfl g zS.toArray rfl rfl 53 zS.toArray (hM.blk 0 rfl) (by kernel_rfl) (by kernel_rfl) (by kernel_rfl) ?_)
   have hM2 := hM.rowAt 0 rfl zS
   have e0 := (hM2.blk 0 rfl).cell 0
   have e1 := (hM2.blk 0 rfl).cell 1
   simp only [List.getElem?_cons_zero, List.getElem?_cons_succ] at e0 e1
   refine bodyPost_ret (v := .tuple #[.agg zS.toArray, .bool false]) (by simp [results, go_sem, e0, e1]) rfl ?_
   rw [HR.out]
   exact ⟨rfl, by first | exact hM2.below0 | (subst hg; exact hM2.below0)⟩
abbrev zFl : List Value := [.string ⟨#[]⟩, .int .i64 0, .int .i64 0, .int .i64 0, .slice none 0 0]
abbrev fitV (d : Po) (L : Lp) (A : Option Addr) (n c : Nat) : Value := .agg #[.string d.name, .slice L.ua d.uses.length L.uc, .slice L.ra d.reveal.length L.rc, .slice L.na d.nodes.length L.nc, .int .i64 d.root, .string d.scope, .int .i64 d.limit, .string d.escrow, .slice A n c]
abbrev fitC (d : Po) (L : Lp) (A : Option Addr) (n c : Nat) : List Value := [.string d.name, .slice L.ua d.uses.length L.uc, .slice L.ra d.reveal.length L.rc, .slice L.na d.nodes.length L.nc, .int .i64 d.root, .string d.scope, .int .i64 d.limit, .string d.escrow, .slice A n c]
abbrev plV (x y : Int) : Value := .agg #[.int .i64 x, .int .i64 y]
def FindOut (w0 : World) (o : Option Fd) (e : Ending) : Prop := match o with
 | some f => ∃ WA wc x y, e = .returned (.tuple #[plV x y, .agg (fcs f WA wc).toArray, .bool true]) ∧ Strs w0 WA f.words
 | none => e = .returned (.tuple #[plV 0 0, .agg zFl.toArray, .bool false])
theorem findF_at : ∀ (l : List Fd) (s : ByteArray), l.find? (fun f => decide (f.name = s)) = (findF l s).bind fun k => l[k]?
 | [], s => rfl
 | f :: l, s => by
   rw [findF]
   by_cases h : f.name = s
   ·rw [List.find?_cons_of_pos (by simpa using h), if_pos h]; rfl
   ·rw [List.find?_cons_of_neg (by simpa using h), if_neg h, findF_at l s]
    cases findF l s <;> simp
theorem blk9 {w : World} {g : Nat} {t : TypeId} {a b c d e f i j k : Value} (h : Blk w g t [a, b, c, d, e, f, i, j, k]) : w.cell? ⟨g, 0, none⟩ = some a ∧ w.cell? ⟨g, 1, none⟩ = some b ∧ w.cell? ⟨g, 2, none⟩ = some c ∧ w.cell? ⟨g, 3, none⟩ = some d ∧ w.cell? ⟨g, 4, none⟩ = some e ∧ w.cell? ⟨g, 5, none⟩ = some f ∧ w.cell? ⟨g, 6, none⟩ = some i ∧ w.cell? ⟨g, 7, none⟩ = some j ∧ w.cell? ⟨g, 8, none⟩ = some k :=
 ⟨h.cell 0, h.cell 1, h.cell 2, h.cell 3, h.cell 4, h.cell 5, h.cell 6, h.cell 7, h.cell 8⟩
theorem find_fit (d : Po) (L : Lp) (A : Option Addr) (c : Nat) (S : List Sm) (a t : ByteArray) (hL : S.length ≤ 1000000) (hM : ∀ m ∈ S, m.fields.length ≤ 1000000) (hU : d.uses.length ≤ 1000000) (w0 w : World) (hS : Schs w0 A S) (hP : Prs w0 L.ua d.uses) (h0 : Below w0.heap.size w0 w) :
 Calls Tryz.prog 88 #[fitV d L A S.length c, .agg #[.string a, .string t]] w fun e w' => FindOut w0 (findS S d.uses a t) e ∧ Below w.heap.size w w' := by
 have hk := ((((Hp.start w).new 172 (fitC d L A S.length c)).new 89 [.string a, .string t]).new 122 [.int .i64 0, .int .i64 0]).new 57 zFl
 obtain ⟨g, hg⟩ : ∃ g, w.heap.size = g := ⟨_, rfl⟩
 simp only [sizeA, hg] at hk
 go_enter Tryz.func88, Tryz.ntmps88
 go_upto_region 1 with fail
 obtain ⟨r, hr⟩ : ∃ f, g + 1 = f := ⟨_, rfl⟩
 obtain ⟨p, hp⟩ : ∃ f, r + 1 = f := ⟨_, rfl⟩
 obtain ⟨f, hf⟩ : ∃ f, p + 1 = f := ⟨_, rfl⟩
 simp only [hf, hp, hr] at hk ⊢
 generalize hW : (((w.alloc (.cells #[.string d.name, .slice L.ua d.uses.length L.uc, .slice L.ra d.reveal.length L.rc, .slice L.na d.nodes.length L.nc, .int .i64 d.root, .string d.scope, .int .i64 d.limit, .string d.escrow, .slice A S.length c] 172)).alloc (.cells #[.string a, .string t] 89)).alloc (.cells #[.int .i64 0, .int .i64 0] 122)).alloc (.cells #[.string ⟨#[]⟩, .int .i64 0, .int .i64 0, .int .i64 0, .slice none 0 0] 57) = W1 at *
 have hk0 : Hp [] w [iblk f 57 zFl, iblk p 122 [.int .i64 0, .int .i64 0], iblk r 89 [.string a, .string t], iblk g 172 (fitC d L A S.length c)] W1 := hk
 clear hk hW hf hp hr
 obtain ⟨c0, c1, c2, c3, c4, c5, c6, c7, c8⟩ := blk9 (hk0.blk 3 rfl)
 go_upto_region 2 with fail
 clear c0 c1 c2 c3 c4 c5 c6 c7 c8
 go_loopg [17] d.uses.length (fun m s17 wx => ∃ i : Nat, i ≤ d.uses.length ∧ m = d.uses.length - i ∧ s17 = .int .i64 (i : Int) ∧ Hp [] w [iblk f 57 zFl, iblk p 122 [.int .i64 0, .int .i64 0], iblk r 89 [.string a, .string t], iblk g 172 (fitC d L A S.length c)] wx ∧ Hid ((d.uses.take i).find? (fun u => decide (u.1 = a)) = none))
 case atStart => exact ⟨0, Nat.zero_le _, rfl, rfl, hk0, hid rfl⟩
 case round =>
  obtain ⟨i, hi, rfl, rfl, hK, HE⟩ := hrel
  clear hk0
  by_cases hil : i < d.uses.length
  ·have hii : (i : Int) < (d.uses.length : Int) := by omega
   have hi0 : (0 : Int) ≤ (i : Int) := by omega
   obtain ⟨⟨x1, x2⟩, hx⟩ : ∃ x, d.uses[i]? = some x := ⟨_, List.getElem?_eq_getElem hil⟩
   obtain ⟨ad, hA, ca, cb⟩ := (((hP.up h0).up hK.below0).at_ i _ hx)
   have HT := hid (find_take (p := fun (u : Bp) => decide (u.1 = a)) hx HE.out)
   obtain ⟨c0, c1, c2, c3, c4, c5, c6, c7, c8⟩ := blk9 (hK.blk 3 rfl)
   rw [hA] at c1
   simp only at ca cb
   have hM1 := hK.new 50 [.string x1, .string x2]
   have hee := @strs_eq x1 a
   clear hx HE
   go_upto_region 4 with fail
   generalize wr.alloc (.cells #[.string x1, .string x2] 50) = W2 at *
   generalize wr.heap.size = g2 at *
   clear hK ca cb c0 c1 c2 c3 c4 c5 c6 c7 c8
   obtain ⟨c0, c1, c2, c3, c4, c5, c6, c7, c8⟩ := blk9 (hM1.blk 4 rfl)
   have r0 := (hM1.blk 3 rfl).cell 0
   have r1 := (hM1.blk 3 rfl).cell 1
   have v0 := (hM1.blk 0 rfl).cell 0
   have v1 := (hM1.blk 0 rfl).cell 1
   simp only [List.getElem?_cons_zero, List.getElem?_cons_succ] at r0 r1 v0 v1
   by_cases hq : x1 = a
   ·rw [decide_eq_true hq] at hee
    rw [if_pos (by simpa using hq)] at HT
    clear hq
    have HT : Hid (d.uses.find? (fun u => decide (u.1 = a)) = some (x1, x2)) := HT
    have HN := hid (zbx A c S x2 hL w0 W2 hS (h0.trans (hM1.below0.mono h0.size)))
    have HF : Hid (findS S d.uses a t = match zba S x2 with | none => none | some m => m.fields.find? fun f => decide (f.name = t)) := hid (by unfold findS; rw [HT.out]; rfl)
    cases hn : zba S x2 with
    | none =>
      rw [hn] at HN HF
      go_wp2_with fail
      refine HN.out.mono ?_
      rintro e w3 ⟨h1, hb3⟩
      obtain rfl : e = _ := h1
      have hM2 := hM1.next hb3
      have hM3 := hM2.new 53 zS
      clear HN hM1 hb3 c0 c1 c2 c3 c4 c5 c6 c7 c8 r0 r1 v0 v1 hn
      have HR := HF
      go_wp2_with (first | (refine wpList_store_row rfl 122 (.tmp 4) (.tmp 55) rfl p [.int .i64 0, .int .i64 0].toArray rfl rfl 122 [.int .i64 0, .int .i64 0].toArray (hM3.blk 3 rfl) (by kernel_rfl) (by kernel_rfl) (by kernel_rfl) ?_) | (refine wpList_store_row rfl 57 (.tmp 5) (.tmp 56) rfl f zFl.toArray rfl rfl 57 zFl.toArray ((hM3.rowAt 3 rfl [.int .i64 0, .int .i64 0]).blk 2 rfl) (by kernel_rfl) (by kernel_rfl) (by kernel_rfl) ?_))
      have hK9 := (hM3.rowAt 3 rfl [.int .i64 0, .int .i64 0]).rowAt 2 rfl zFl
      have e0 := (hK9.blk 3 rfl).cell 0
      have e1 := (hK9.blk 3 rfl).cell 1
      obtain ⟨f0, f1, f2, f3, f4⟩ := Blk.get5 (hK9.blk 2 rfl)
      simp only [List.getElem?_cons_zero, List.getElem?_cons_succ] at e0 e1
      refine bodyPost_ret (v := .tuple #[plV 0 0, .agg zFl.toArray, .bool false]) (by simp [results, Tryz.results88, go_sem, e0, e1, f0, f1, f2, f3, f4]) rfl ?_
      rw [HR.out]
      have hb : Below w.heap.size w _ := hK9.below0
      exact ⟨rfl, by first | exact hb | (subst hg; exact hb)⟩
    | some m =>
      rw [hn] at HN HF
      have hml := hM m (by unfold zba at hn; exact List.mem_of_find?_eq_some hn)
      have HF : Hid (findS S d.uses a t = m.fields.find? fun f => decide (f.name = t)) := HF
      rw [findF_at] at HF
      go_wp2_with fail
      refine HN.out.mono ?_
      rintro e w3 ⟨⟨FA, fc, h1, hFl⟩, hb3⟩
      obtain rfl : e = _ := h1
      have hM2 := hM1.next hb3
      have hM3 := hM2.new 53 [.string m.name, .slice FA m.fields.length fc]
      clear HN hM1 hb3 c0 c1 c2 c3 c4 c5 c6 c7 c8 r0 r1 v0 v1 hn
      go_upto_region 7 with fail
      generalize w3.alloc (.cells #[.string m.name, .slice FA m.fields.length fc] 53) = W4 at *
      generalize w3.heap.size = g4 at *
      have r1 := (hM3.blk 4 rfl).cell 1
      have s0 := (hM3.blk 0 rfl).cell 0
      have s1 := (hM3.blk 0 rfl).cell 1
      simp only [List.getElem?_cons_zero, List.getElem?_cons_succ] at r1 s0 s1
      have HG := hid (find_any m.name t FA fc m.fields hml W4 (hFl.up (h0.trans (hM3.below0.mono h0.size))))
      have HV : Hid (findV m.fields t = match findF m.fields t with | some k => .tuple #[.int .i64 (k : Int), .bool true] | none => .tuple #[.int .i64 0, .bool false]) := hid rfl
      cases hf : findF m.fields t with
      | none =>
        rw [hf] at HF HV
        rw [HV.out] at HG
        have HR : Hid (findS S d.uses a t = none) := HF
        go_wp2_with fail
        refine HG.out.mono ?_
        rintro e w5 ⟨rfl, hb5⟩
        have hM5 := hM3.next hb5
        clear HG hM3 hM2 hb5 r1 s0 s1 hf HV
        go_wp2_with (first | (refine wpList_store_row rfl 122 (.tmp 4) (.tmp 55) rfl p [.int .i64 0, .int .i64 0].toArray rfl rfl 122 [.int .i64 0, .int .i64 0].toArray (hM5.blk 3 rfl) (by kernel_rfl) (by kernel_rfl) (by kernel_rfl) ?_) | (refine wpList_store_row rfl 57 (.tmp 5) (.tmp 56) rfl f zFl.toArray rfl rfl 57 zFl.toArray ((hM5.rowAt 3 rfl [.int .i64 0, .int .i64 0]).blk 2 rfl) (by kernel_rfl) (by kernel_rfl) (by kernel_rfl) ?_))
        have hK9 := (hM5.rowAt 3 rfl [.int .i64 0, .int .i64 0]).rowAt 2 rfl zFl
        have e0 := (hK9.blk 3 rfl).cell 0
        have e1 := (hK9.blk 3 rfl).cell 1
        obtain ⟨f0, f1, f2, f3, f4⟩ := Blk.get5 (hK9.blk 2 rfl)
        simp only [List.getElem?_cons_zero, List.getElem?_cons_succ] at e0 e1
        refine bodyPost_ret (v := .tuple #[plV 0 0, .agg zFl.toArray, .bool false]) (by simp [results, Tryz.results88, go_sem, e0, e1, f0, f1, f2, f3, f4]) rfl ?_
        rw [HR.out]
        have hb : Below w.heap.size w _ := hK9.below0
        exact ⟨rfl, by first | exact hb | (subst hg; exact hb)⟩
      | some k =>
        obtain ⟨hkl, ⟨fd, hfd, -⟩, -⟩ := find_lt _ _ _ hf
        rw [hf] at HF HV
        rw [HV.out] at HG
        have HR : Hid (findS S d.uses a t = some fd) := hid (by rw [HF.out, Option.bind_some, hfd])
        have hk0 : (0 : Int) ≤ (k : Int) := by omega
        have hki : (k : Int) < (m.fields.length : Int) := by omega
        go_wp2_with fail
        refine HG.out.mono ?_
        rintro e w5 ⟨rfl, hb5⟩
        have hM5 := hM3.next hb5
        obtain ⟨fad, WA, wc, rfl, hFA0⟩ := hFl.at_ k fd hfd
        have hFA := (hFA0.up h0).up hM5.below0
        have HW := hid hFA0.strs
        clear HG hM3 hM2 hb5 r1 s0 s1 hf HV hfd
        go_upto_region 9 with fail
        have s1 := (hM5.blk 0 rfl).cell 1
        simp only [List.getElem?_cons_zero, List.getElem?_cons_succ] at s1
        have d0 := hFA.name
        have d1 := hFA.kind
        have d2 := hFA.min
        have d3 := hFA.max
        have d4 := hFA.words
        have hw2 : IntKind.i64.wrap ((k : Int) + 2) = (k : Int) + 2 := IntWalk.i64_in _ (by omega)
        have hD := hM5.drew
        refine wp_region_held_drew (S := (fun w' => w'.cell? ⟨g4, 1, none⟩ = some (.slice (some fad) m.fields.length fc) ∧ FieldAt w' (fad.add (k * 5)) fd WA wc)) (by kernel_rfl) ?_ (fun hHeld => ?_)
        ·exact ⟨s1, (hFA0.up h0).up hD.below0⟩
        refine tkW 0 (v := ?_) rfl (Or.inl ⟨by rfl, ?_⟩) ?_
        rotate_left
        ·(intro w hSw; (try dsimp only at hSw); (obtain ⟨q0, q9⟩ := hSw; have q1 := q9.name; have q2 := q9.kind; have q3 := q9.min; have q4 := q9.max; have q5 := q9.words); go_simp; (try with_reducible rfl))
        try simp only [Act.put, tS1, tS2, tS4, tS5, tS6]
        refine tkW 1 (v := ?_) rfl (Or.inl ⟨by rfl, ?_⟩) ?_
        rotate_left
        ·(intro w hSw; (try dsimp only at hSw); (obtain ⟨q0, q9⟩ := hSw; have q1 := q9.name; have q2 := q9.kind; have q3 := q9.min; have q4 := q9.max; have q5 := q9.words); go_simp; (try with_reducible rfl))
        try simp only [Act.put, tS1, tS2, tS3, tS4, tS5, tS6]
        refine tkW 2 (v := ?_) rfl (Or.inl ⟨by rfl, ?_⟩) ?_
        rotate_left
        ·(intro w hSw; (try dsimp only at hSw); (obtain ⟨q0, q9⟩ := hSw; have q1 := q9.name; have q2 := q9.kind; have q3 := q9.min; have q4 := q9.max; have q5 := q9.words); go_simp; (try with_reducible rfl))
        try simp only [Act.put, tS1, tS2, tS3, tS4, tS5, tS6]
        refine tkW 3 (v := ?_) rfl (Or.inl ⟨by rfl, ?_⟩) ?_
        rotate_left
        ·(intro w hSw; (try dsimp only at hSw); (obtain ⟨q0, q9⟩ := hSw; have q1 := q9.name; have q2 := q9.kind; have q3 := q9.min; have q4 := q9.max; have q5 := q9.words); go_simp; (try with_reducible rfl))
        try simp only [Act.put, tS1, tS2, tS3, tS4, tS5, tS6]
        refine tkW 4 (v := ?_) rfl (Or.inl ⟨by rfl, ?_⟩) ?_
        rotate_left
        ·(intro w hSw; (try dsimp only at hSw); (obtain ⟨q0, q9⟩ := hSw; have q1 := q9.name; have q2 := q9.kind; have q3 := q9.min; have q4 := q9.max; have q5 := q9.words); go_simp; (try with_reducible rfl))
        try simp only [Act.put, tS1, tS2, tS3, tS4, tS5, tS6]
        refine tkW 5 (v := ?_) rfl (Or.inl ⟨by rfl, ?_⟩) ?_
        rotate_left
        ·(intro w hSw; (try dsimp only at hSw); (obtain ⟨q0, q9⟩ := hSw; have q1 := q9.name; have q2 := q9.kind; have q3 := q9.min; have q4 := q9.max; have q5 := q9.words); go_simp; (try with_reducible rfl))
        try simp only [Act.put, tS1, tS2, tS3, tS4, tS5, tS6]
        refine tkW 6 (v := ?_) rfl (Or.inl ⟨by rfl, ?_⟩) ?_
        rotate_left
        ·(intro w hSw; (try dsimp only at hSw); (obtain ⟨q0, q9⟩ := hSw; have q1 := q9.name; have q2 := q9.kind; have q3 := q9.min; have q4 := q9.max; have q5 := q9.words); go_simp; (try with_reducible rfl))
        try simp only [Act.put, tS1, tS2, tS3, tS4, tS5, tS6]
        refine tkW 7 (v := ?_) rfl (Or.inl ⟨by rfl, ?_⟩) ?_
        rotate_left
        ·(intro w hSw; (try dsimp only at hSw); (obtain ⟨q0, q9⟩ := hSw; have q1 := q9.name; have q2 := q9.kind; have q3 := q9.min; have q4 := q9.max; have q5 := q9.words); go_simp; (try with_reducible rfl))
        try simp only [Act.put, tS1, tS2, tS3, tS4, tS5, tS6]
        refine tkW 8 (v := ?_) rfl (Or.inl ⟨by rfl, ?_⟩) ?_
        rotate_left
        ·(intro w hSw; (try dsimp only at hSw); (obtain ⟨q0, q9⟩ := hSw; have q1 := q9.name; have q2 := q9.kind; have q3 := q9.min; have q4 := q9.max; have q5 := q9.words); go_simp; (try with_reducible rfl))
        try simp only [Act.put, tS1, tS2, tS3, tS4, tS5, tS6]
        refine tkO 9 rfl fun K hK => ?_
        rw [if_pos (by rfl)]
        refine wp_store_row 122 (.tmp 4) (.tmp 48) (by rfl) p [.int .i64 (i : Int), .int .i64 ((k : Int) + 2)].toArray (by rfl) (by rfl) 122 [.int .i64 0, .int .i64 0].toArray (hD.blk 3 rfl) (by kernel_rfl) (by kernel_rfl) (by kernel_rfl) ?_
        have hD2 := hD.rowAt 3 rfl [.int .i64 (i : Int), .int .i64 ((k : Int) + 2)]
        refine hK.out _ _ ⟨(hD2.blk 0 rfl).cell 1, (hFA0.up h0).up hD2.below0⟩ fun hHeld => ?_
        clear hK K
        refine tkO 10 rfl fun K hK => ?_
        rw [if_pos (by rfl)]
        refine wp_store_row 57 (.tmp 5) (.tmp 53) (by rfl) f (fcs fd WA wc).toArray (by rfl) (by rfl) 57 zFl.toArray (hD2.blk 2 rfl) (by kernel_rfl) (by kernel_rfl) (by kernel_rfl) ?_
        have hD3 := hD2.rowAt 2 rfl (fcs fd WA wc)
        refine hK.out _ _ ⟨(hD3.blk 0 rfl).cell 1, (hFA0.up h0).up hD3.below0⟩ fun hHeld => ?_
        clear hK K
        refine tkW 11 (v := ?_) rfl (Or.inl ⟨by rfl, ?_⟩) ?_
        rotate_left
        ·(intro w hSw; (try dsimp only at hSw); (obtain ⟨q0, q9⟩ := hSw; have q1 := q9.name; have q2 := q9.kind; have q3 := q9.min; have q4 := q9.max; have q5 := q9.words); go_simp; (try with_reducible rfl))
        try simp only [Act.put, tS1, tS2, tS3, tS4, tS5, tS6]
        refine wpAnyH_done (by kernel_rfl) ?_ _
        go_wp2_with fail
        have e0 := (hD3.blk 3 rfl).cell 0
        have e1 := (hD3.blk 3 rfl).cell 1
        obtain ⟨f0, f1, f2, f3, f4⟩ := Blk.get5 (hD3.blk 2 rfl)
        simp only [List.getElem?_cons_zero, List.getElem?_cons_succ] at e0 e1
        refine bodyPost_ret (v := .tuple #[plV i (k + 2), .agg (fcs fd WA wc).toArray, .bool true]) (by simp [results, Tryz.results88, go_sem, e0, e1, f0, f1, f2, f3, f4]) rfl ?_
        rw [HR.out]
        have hb : Below w.heap.size w _ := hD3.below0
        exact ⟨⟨WA, wc, _, _, rfl, HW.out⟩, by first | exact hb | (subst hg; exact hb)⟩
   ·rw [decide_eq_false hq] at hee
    rw [if_neg (by simpa using hq)] at HT
    clear hq
    go_wp2_with fail
    go_roundg (d.uses.length - (i + 1))
    case measure => omega
    case rel => exact ⟨i + 1, hil, rfl, by first | rfl | simp, hM1.tail, HT⟩
  ·have hii : ¬ (i : Int) < (d.uses.length : Int) := by omega
   have HR : Hid (findS S d.uses a t = none) := hid (by unfold findS; have := HE.out; rw [List.take_of_length_le (by omega)] at this; rw [this])
   clear HE
   go_wp2_with (first | (refine wpList_store_row rfl 122 (.tmp 4) (.tmp 55) rfl p [.int .i64 0, .int .i64 0].toArray rfl rfl 122 [.int .i64 0, .int .i64 0].toArray (hK.blk 1 rfl) (by kernel_rfl) (by kernel_rfl) (by kernel_rfl) ?_) | (refine wpList_store_row rfl 57 (.tmp 5) (.tmp 56) rfl f zFl.toArray rfl rfl 57 zFl.toArray ((hK.rowAt 1 rfl [.int .i64 0, .int .i64 0]).blk 0 rfl) (by kernel_rfl) (by kernel_rfl) (by kernel_rfl) ?_))
   have hK9 := (hK.rowAt 1 rfl [.int .i64 0, .int .i64 0]).rowAt 0 rfl zFl
   have e0 := (hK9.blk 1 rfl).cell 0
   have e1 := (hK9.blk 1 rfl).cell 1
   obtain ⟨f0, f1, f2, f3, f4⟩ := Blk.get5 (hK9.blk 0 rfl)
   simp only [List.getElem?_cons_zero, List.getElem?_cons_succ] at e0 e1
   refine bodyPost_ret (v := .tuple #[plV 0 0, .agg zFl.toArray, .bool false]) (by simp [results, Tryz.results88, go_sem, e0, e1, f0, f1, f2, f3, f4]) rfl ?_
   rw [HR.out]
   have hb : Below w.heap.size w _ := hK9.below0
   exact ⟨rfl, by first | exact hb | (subst hg; exact hb)⟩
open Go.RowKit Go.ChangeShapes Go.WideShapes Go.Deep Go.Joins
theorem glob_of_laid {W : World} {x1 x2 : String × DataW Unit} {rest : List (String × DataW Unit)}
 (h : laidMet Tryz.prog (x1 :: x2 :: ("internal/strconv.uint64pow10", Lib.tabData .u64 Lib.pow10Tab) :: rest) W) : Glob W := by
 have h3 := h.tail.tail
 have hT : (Tryz.prog.globalNamed "internal/strconv.uint64pow10").bind (fun g => (Tryz.prog.globals[g]?).map (·.type)) = some 303 := by kernel_rfl
 cases hg : Tryz.prog.globalNamed "internal/strconv.uint64pow10" with
 | none => rw [hg] at hT; cases hT
 | some g =>
  rw [hg] at hT
  exact ⟨Lib.tabIs_of_head (t := 303) (e := 279) (n := 20) hg hT (by kernel_rfl) (by kernel_rfl) (by kernel_rfl) (by kernel_rfl) h3⟩
theorem zc9 {α : Type} {R : Nat → α → Prop} : ∀ (n : Nat), (∀ i, i < n → ∃ x, R i x) → ∃ l : List α, l.length = n ∧ ∀ i x, l[i]? = some x → R i x
 | 0, _ => ⟨[], rfl, fun i x h => by simp at h⟩
 | n + 1, h => by
  obtain ⟨l, h1, h2⟩ := zc9 n (fun i hi => h i (by omega))
  obtain ⟨x, hx⟩ := h n (by omega)
  refine ⟨l ++ [x], by simp [h1], fun i y hy => ?_⟩
  rcases Nat.lt_or_ge i l.length with hl | hl
  ·rw [List.getElem?_append_left hl] at hy; exact h2 i y hy
  ·rw [List.getElem?_append_right hl] at hy
   rcases Nat.eq_zero_or_pos (i - l.length) with h0 | h0
   ·rw [h0] at hy
    cases hy
    rw [show i = n by omega]; exact hx
   ·rw [List.getElem?_eq_none (by simp; omega)] at hy; cases hy
theorem five_of {α : Type} {l : List α} (h : l.length = 5) : ∃ a b c d e, l = [a, b, c, d, e] := by
 match l, h with
 | [a, b, c, d, e], _ => exact ⟨a, b, c, d, e, rfl⟩
theorem two_of {α : Type} {l : List α} (h : l.length = 2) : ∃ a b, l = [a, b] := by
 match l, h with
 | [a, b], _ => exact ⟨a, b, rfl⟩
theorem add_at (a : Addr) (k : Nat) (hk : 0 < k) : a.add k = ⟨a.block, a.off + k, none⟩ := by
 unfold Addr.add
 rw [if_neg (by omega)]
theorem add_zero (a : Addr) : a.add 0 = a := by simp [Addr.add]
section
variable {H : Type} {enc : TypeId × Value → H} {P : Program} {W : World} {base : Nat} {spare : Nat → Bool} {held : Bool}
theorem trod_struct5 {t : TypeId} {f0 f1 f2 f3 f4 : Field} {fuel : Nat} {cs : List Value} {x : DataW H × List MemPlace} (ht : P.underlying t = some (.struct #[f0, f1, f2, f3, f4])) (h : DataW.trod enc P W base spare held fuel t cs = some x) :
 ∃ y0 y1 y2 y3 y4 n, DataW.trod enc P W base spare held n f0.type ((cs.drop f0.offset).take (P.cellsOf f0.type)) = some y0 ∧
  DataW.trod enc P W base spare held n f1.type ((cs.drop f1.offset).take (P.cellsOf f1.type)) = some y1 ∧ DataW.trod enc P W base spare held n f2.type ((cs.drop f2.offset).take (P.cellsOf f2.type)) = some y2 ∧
  DataW.trod enc P W base spare held n f3.type ((cs.drop f3.offset).take (P.cellsOf f3.type)) = some y3 ∧ DataW.trod enc P W base spare held n f4.type ((cs.drop f4.offset).take (P.cellsOf f4.type)) = some y4 := by
 obtain ⟨xs, n, _, rfl, hl, hlen, hf⟩ := DataW.trod_struct ht h
 match xs, hlen with
 | [y0, y1, y2, y3, y4], _ => exact ⟨y0, y1, y2, y3, y4, n, by simpa using hf 0 f0 rfl, by simpa using hf 1 f1 rfl, by simpa using hf 2 f2 rfl, by simpa using hf 3 f3 rfl, by simpa using hf 4 f4 rfl⟩
end
section
variable {H : Type} {enc : TypeId × Value → H} {W : World} {base : Nat} {spare : Nat → Bool} {held : Bool}
theorem open_strs {fuel : Nat} {cs : List Value} {x : DataW H × List MemPlace} (h : DataW.trod enc Tryz.prog W base spare held fuel 55 cs = some x) : ∃ A c l, cs = [.slice A l.length c] ∧ Strs W A l := by
 rcases open_slice Tryz.underlying55 h with ⟨rfl, _⟩ | ⟨a, len, cap, m, n, D, Pl, rfl, hb, hl, hm, hmm, hx, hi⟩
 ·exact ⟨none, 0, [], rfl, ⟨fun i s hs => by simp at hs⟩⟩
 ·obtain ⟨l, h1, h2⟩ := zc9 (R := fun i (z : ByteArray) => W.cell? (a.add i) = some (.string z)) len (fun i hi' => by
   obtain ⟨cs', hc, ht⟩ := hi i (by rw [hmm]; split <;> omega)
   obtain ⟨z, rfl, -, -⟩ := DataW.trod_string Tryz.underlying9 ht
   have hcl : Tryz.prog.cellsOf 9 = 1 := by kernel_rfl
   rw [hcl] at hc
   obtain ⟨_, _, hat⟩ := World.cells?_some hc
   have h9 := hat 0 (by omega)
   rw [Nat.mul_one, add_zero] at h9
   exact ⟨z, h9⟩)
  exact ⟨some a, cap, l, by rw [h1], ⟨fun i s hs => ⟨a, rfl, h2 i s hs⟩⟩⟩
theorem open_flds {fuel : Nat} {cs : List Value} {x : DataW H × List MemPlace} (h : DataW.trod enc Tryz.prog W base spare held fuel 51 cs = some x) : ∃ A c L, cs = [.slice A L.length c] ∧ Flds W A L := by
 rcases open_slice Tryz.underlying51 h with ⟨rfl, _⟩ | ⟨a, len, cap, m, n, D, Pl, rfl, hb, hl, hm, hmm, hx, hi⟩
 ·exact ⟨none, 0, [], rfl, ⟨fun i s hs => by simp at hs⟩⟩
 ·obtain ⟨l, h1, h2⟩ := zc9 (R := fun i (f : Fd) => ∃ WA c, FieldAt W (a.add (i * 5)) f WA c) len (fun i hi' => by
   obtain ⟨cs', hc, ht⟩ := hi i (by rw [hmm]; split <;> omega)
   have hcl : Tryz.prog.cellsOf 57 = 5 := by kernel_rfl
   rw [hcl] at hc
   obtain ⟨_, hlen, hat⟩ := World.cells?_some hc
   obtain ⟨y0, y1, y2, y3, y4, k, q0, q1, q2, q3, q4⟩ := trod_struct5 Tryz.underlying57 ht
   obtain ⟨u0, u1, u2, u3, u4, rfl⟩ := five_of hlen
   have e0 : Tryz.prog.cellsOf 3 = 1 := by kernel_rfl
   have e1 : Tryz.prog.cellsOf 9 = 1 := by kernel_rfl
   have e2 : Tryz.prog.cellsOf 55 = 1 := by kernel_rfl
   simp only [e0, e1, e2, List.drop_zero, List.take_succ_cons, List.take_zero, List.drop_succ_cons] at q0 q1 q2 q3 q4
   obtain ⟨z0, r0, -, -⟩ := DataW.trod_string Tryz.underlying9 q0
   obtain ⟨z1, r1, -, -⟩ := DataW.trod_int Tryz.underlying3 q1
   obtain ⟨z2, r2, -, -⟩ := DataW.trod_int Tryz.underlying3 q2
   obtain ⟨z3, r3, -, -⟩ := DataW.trod_int Tryz.underlying3 q3
   obtain ⟨KA, kc, kl, r4, hk⟩ := open_strs q4
   cases r0
   cases r1
   cases r2
   cases r3
   cases r4
   have hat' : ∀ j, 0 < j → j < 5 → W.cell? ⟨(a.add (i * 5)).block, (a.add (i * 5)).off + j, none⟩ = ([.string z0, .int .i64 z1, .int .i64 z2, .int .i64 z3, .slice KA kl.length kc] : List Value)[j]? := fun j h0 h5 => by
    have h9 := hat j (by omega)
    rw [add_at _ j h0] at h9
    exact h9
   have h9 := hat 0 (by omega)
   rw [add_zero] at h9
   exact ⟨⟨z0, z1, z2, z3, kl⟩, KA, kc, h9, hat' 1 (by omega) (by omega), hat' 2 (by omega) (by omega), hat' 3 (by omega) (by omega), hat' 4 (by omega) (by omega), hk⟩)
  refine ⟨some a, cap, l, by rw [h1], ⟨fun i f hf => ?_⟩⟩
  obtain ⟨WA, c, hh⟩ := h2 i f hf
  exact ⟨a, WA, c, rfl, hh⟩
theorem open_sms {fuel : Nat} {cs : List Value} {x : DataW H × List MemPlace} (h : DataW.trod enc Tryz.prog W base spare held fuel 22 cs = some x) : ∃ A c S, cs = [.slice A S.length c] ∧ Schs W A S ∧ S.length ≤ c := by
 rcases open_slice Tryz.underlying22 h with ⟨rfl, _⟩ | ⟨a, len, cap, m, n, D, Pl, rfl, hb, hl, hm, hmm, hx, hi⟩
 ·exact ⟨none, 0, [], rfl, ⟨fun i s hs => by simp at hs⟩, Nat.le_refl _⟩
 ·obtain ⟨l, h1, h2⟩ := zc9 (R := fun i (m : Sm) => ∃ FA c, W.cell? (a.add (i * 2)) = some (.string m.name) ∧ W.cell? ⟨(a.add (i * 2)).block, (a.add (i * 2)).off + 1, none⟩ = some (.slice FA m.fields.length c) ∧ Flds W FA m.fields) len (fun i hi' => by
   obtain ⟨cs', hc, ht⟩ := hi i (by rw [hmm]; split <;> omega)
   have hcl : Tryz.prog.cellsOf 53 = 2 := by kernel_rfl
   rw [hcl] at hc
   obtain ⟨_, hlen, hat⟩ := World.cells?_some hc
   obtain ⟨y0, y1, n, -, -, q0, q1⟩ := trod_struct2 Tryz.underlying53 ht
   obtain ⟨u0, u1, rfl⟩ := two_of hlen
   have e0 : Tryz.prog.cellsOf 9 = 1 := by kernel_rfl
   have e1 : Tryz.prog.cellsOf 51 = 1 := by kernel_rfl
   simp only [e0, e1, List.drop_zero, List.take_succ_cons, List.take_zero, List.drop_succ_cons] at q0 q1
   obtain ⟨z0, r0, -, -⟩ := DataW.trod_string Tryz.underlying9 q0
   obtain ⟨FA, fc, F, h1, h2⟩ := open_flds q1
   cases r0
   cases h1
   have h9 := hat 0 (by omega)
   rw [add_zero] at h9
   have h8 := hat 1 (by omega)
   rw [add_at _ 1 (by omega)] at h8
   exact ⟨⟨z0, F⟩, FA, fc, h9, h8, h2⟩)
  refine ⟨some a, cap, l, by rw [h1], ⟨fun i f hf => ?_⟩, by omega⟩
  obtain ⟨FA, c, hh⟩ := h2 i f hf
  exact ⟨a, FA, c, rfl, hh⟩
theorem open_schemas {v : Value} {d : DataW H} {p : List MemPlace} {r : Reach} {b0 : Nat} (hv : Value.okWide Tryz.prog W r b0 22 v) (h : DataW.Trod enc Tryz.prog W base spare held 22 v d p) : ∃ A c S, v = .slice A S.length c ∧ Schs W A S ∧ S.length ≤ c := by
 obtain ⟨fuel, hf⟩ := h
 obtain ⟨A, c, l, h1, h2⟩ := open_sms hf
 obtain ⟨b, n, k, rfl⟩ := okWide_slice Tryz.underlying22 hv
 simp only [Value.cells] at h1
 cases h1
 exact ⟨A, c, l, rfl, h2⟩
end
end Go.Proofs.YtekkapgknohadaaGreatDoor.Nf
