/- A node's text is written: (*writer).node, up to the call of its kind's closure. Printed by mkwrh.py. -/
import Derived.Test.YtekkapgknohadaaGreatDoorM3
import Derived.Test.YtekkapgknohadaaGreatDoorM4
set_option linter.unusedVariables false
set_option maxRecDepth 20000
set_option maxHeartbeats 16000000
namespace Go.Proofs.YtekkapgknohadaaGreatDoor
open Go.Shelf Go.RowKit
open Lib (hid)
set_option linter.unusedSimpArgs false
theorem IsW.nodes {B b : Nat} {d : Po} {L : Lp} {l : List UInt8} {W : World} (h : IsW B b (polcs d L) l W) : W.cell? ⟨b, 5, none⟩ = some (.slice L.na d.nodes.length L.nc) := by
 rcases h with ⟨_, _, v, hb, _⟩ | ⟨_, _, v, hb, _⟩
 all_goals (rw [Lib.cell_of_heap hb]; rfl)
theorem IsW.up {B b : Nat} {Q : List Value} {l : List UInt8} {W W' : World} (h : IsW B b Q l W) (hb : Below W.heap.size W W') : IsW B b Q l W' := by
 have key : ∀ p, WrAt B b p Q l W → WrAt B b p Q l W' := fun p h => by
  have hlt := h.lt
  obtain ⟨hB, hQ, v, hbk, hown, hne⟩ := h
  exact ⟨hB, hQ, v, (hb.block b hlt).trans hbk, hown.kept (row := none) ⟨hb.os, hb.tape, hb.output, hb.size, fun k hk _ => hb.block k hk⟩ (by cases hv : v.ownBlock <;> simp), hne⟩
 exact h.imp (key _) (key _)
theorem oth_below {b : Nat} {W W' : World} (hb : Below W.heap.size W W') : OthW b W W' := fun g o hg _ _ => by
 have hlt : g < W.heap.size := by
  rcases Nat.lt_or_ge g W.heap.size with h1 | h1
  ·exact h1
  ·rw [Array.getElem?_eq_none h1] at hg; cases hg
 exact (hb.block g hlt).trans hg
theorem cat_lit (l m : List UInt8) : (⟨l.toArray⟩ : ByteArray) ++ bs m = bs (l ++ m) := by
 apply ByteArray.ext
 rw [ByteArray.data_append]; simp [bs]
theorem cat_dot (s u : ByteArray) (l : List UInt8) : s ++ (⟨l.toArray⟩ : ByteArray) ++ u = ⟨(tl s ++ l ++ tl u).toArray⟩ := by
 apply ByteArray.ext
 rw [ByteArray.data_append, ByteArray.data_append]; simp [tl]
theorem cat_quote (s : ByteArray) (l m : List UInt8) : (⟨l.toArray⟩ : ByteArray) ++ s ++ (⟨m.toArray⟩ : ByteArray) = ⟨(l ++ tl s ++ m).toArray⟩ := by
 apply ByteArray.ext
 rw [ByteArray.data_append, ByteArray.data_append]; simp [tl]
theorem zaj {w W : World} {it : List It} (h : Hp [] w it W) (s : ByteArray) (gw : Nat) : Calls Tryz.prog 102 #[.string s, .pointer (some ⟨gw, 0, none⟩)] W fun e w' =>
 ∃ g, e = .returned (.func (.func 103) #[] #[.pointer (some ⟨gw, 0, none⟩), .pointer (some ⟨g, 0, none⟩)]) ∧ Hp [] w (iblk g 9 [.string s] :: it) w' := by
 refine (wword_any s gw W).mono ?_
 rintro e w' ⟨rfl, rfl⟩
 exact ⟨_, rfl, h.new 9 [.string s]⟩
theorem za2 {w W : World} {it : List It} (h : Hp [] w it W) (s : ByteArray) (gw gn : Nat) : Calls Tryz.prog 99 #[.string s, .pointer (some ⟨gw, 0, none⟩), .pointer (some ⟨gn, 0, none⟩)] W fun e w' =>
 ∃ g, e = .returned (.func (.func 100) #[] #[.pointer (some ⟨gw, 0, none⟩), .pointer (some ⟨g, 0, none⟩), .pointer (some ⟨gn, 0, none⟩)]) ∧ Hp [] w (iblk g 9 [.string s] :: it) w' := by
 refine (gate_any s gw gn W).mono ?_
 rintro e w' ⟨rfl, rfl⟩
 exact ⟨_, rfl, h.new 9 [.string s]⟩
theorem zci (f0 f1 f2 f3 f4 f5 f6 f7 f8 f9 f10 f11 : Fn) (c0 c1 c2 c3 c4 c5 c6 c7 c8 c9 c10 c11 : Array Value) : Tryz.prog.built 190 [(0, .func f0 #[] c0), (1, .func f1 #[] c1), (2, .func f2 #[] c2), (3, .func f3 #[] c3), (4, .func f4 #[] c4), (5, .func f5 #[] c5), (6, .func f6 #[] c6), (7, .func f7 #[] c7), (8, .func f8 #[] c8), (9, .func f9 #[] c9), (10, .func f10 #[] c10), (11, .func f11 #[] c11)] = some #[.func f0 #[] c0, .func f1 #[] c1, .func f2 #[] c2, .func f3 #[] c3, .func f4 #[] c4, .func f5 #[] c5, .func f6 #[] c6, .func f7 #[] c7, .func f8 #[] c8, .func f9 #[] c9, .func f10 #[] c10, .func f11 #[] c11] := by kernel_rfl
theorem zat {P : Program} {o : Oper} {a : Act} {t : TypeId} {x0 x1 x2 x3 x4 x5 x6 x7 x8 x9 x10 x11 : Operand} {v0 v1 v2 v3 v4 v5 v6 v7 v8 v9 v10 v11 : Value} {cells : Array Value} (ho : o.op = .build t #[(0, x0), (1, x1), (2, x2), (3, x3), (4, x4), (5, x5), (6, x6), (7, x7), (8, x8), (9, x9), (10, x10), (11, x11)]) (e0 : a.eval x0 = v0) (e1 : a.eval x1 = v1) (e2 : a.eval x2 = v2) (e3 : a.eval x3 = v3) (e4 : a.eval x4 = v4) (e5 : a.eval x5 = v5) (e6 : a.eval x6 = v6) (e7 : a.eval x7 = v7) (e8 : a.eval x8 = v8) (e9 : a.eval x9 = v9) (e10 : a.eval x10 = v10) (e11 : a.eval x11 = v11) (hb : P.built t [(0, v0), (1, v1), (2, v2), (3, v3), (4, v4), (5, v5), (6, v6), (7, v7), (8, v8), (9, v9), (10, v10), (11, v11)] = some cells) (w : World) : (execOp a.eval o).run P w = .ok (.value (.agg cells)) w := by
 subst e0 e1 e2 e3 e4 e5 e6 e7 e8 e9 e10 e11
 unfold execOp
 simp only [ho]
 rw [Sem.run_bind, run_build w t _ cells (by simpa using hb)]
 rfl
theorem len1w {l : List Int} (h : l.length = 1) : ∃ a, l = [a] := List.length_eq_one_iff.1 h
theorem len2w {l : List Int} (h : l.length = 2) : ∃ a b, l = [a, b] := by
 match l, h with
 | [a, b], _ => exact ⟨a, b, rfl⟩
theorem len3w {l : List Int} (h : l.length = 3) : ∃ a b c, l = [a, b, c] := by
 match l, h with
 | [a, b, c], _ => exact ⟨a, b, c, rfl⟩
theorem len2w' {l : List Int} (h : 2 ≤ l.length) : ∃ a r, l = a :: r ∧ 1 ≤ r.length := by
 match l, h with
 | a :: b :: r, _ => exact ⟨a, b :: r, rfl, by simp⟩
abbrev Z12 : List Value := List.replicate 12 .nilFunc
abbrev F12 (gw gn g0 g1 g3 g4 g5 g9 g10 g11 : Nat) : List Value :=
 let p := fun g : Nat => Value.pointer (some ⟨g, 0, none⟩)
 let wd := fun g : Nat => Value.func (.func 103) #[] #[p gw, p g]
 let gt := fun g : Nat => Value.func (.func 100) #[] #[p gw, p g, p gn]
 let fn := fun f : FuncId => Value.func (.func f) #[] #[p gw, p gn]
 [wd g0, wd g1, fn 104, gt g3, gt g4, gt g5, fn 105, fn 107, fn 108, wd g9, wd g10, wd g11]
theorem node_step (W0 : World) (b : Nat) (d : Po) (L : Lp) (hM : Nks W0 L.na d.nodes) (hG : Glob W0) (hnl : d.nodes.length ≤ 1000000) (i : Nat) (n : Nk) (hn : d.nodes[i]? = some n) (hb : NBd n) (hm0 : -2147483648 ≤ n.num) (hm1 : n.num ≤ 2147483647) (hkd0 : 0 ≤ n.kind) (hkd1 : n.kind < 12) (hkp : kidsP n.kind n.kids.length = true) (hcmp : n.kind = 6 → 0 ≤ n.num ∧ n.num ≤ 5) (tt : Int → List UInt8)
 (hk : ∀ k ∈ n.kids, zak W0.heap.size b (polcs d L) (fun W => Below W0.heap.size W0 W) 40 #[.pointer (some ⟨b, 0, none⟩), .int .i64 k] (tt k)) :
 zak W0.heap.size b (polcs d L) (fun W => Below W0.heap.size W0 W) 40 #[.pointer (some ⟨b, 0, none⟩), .int .i64 (i : Int)] (nodeW n.kind n.num (tl n.name) (tl n.attr) (n.kids.map tt)) := by
 intro l W hS hI hB hlen
 have hil := (List.getElem?_eq_some_iff.1 hn).1
 obtain ⟨ad, KA, kc, hA, hN⟩ := hM.at_ i n hn
 obtain ⟨gw, hgw⟩ : ∃ x, W.heap.size = x := ⟨_, rfl⟩
 have hk1 := (Hp.start W).new 96 [.pointer (some ⟨b, 0, none⟩)]
 rw [hgw] at hk1
 have hi0 : (0 : Int) ≤ (i : Int) := by omega
 have hi1 : (i : Int) < (d.nodes.length : Int) := by omega
 have hz1 : ¬ 9223372036854775807 < n.name.size + 1 := by have := hb.name; omega
 have hz2 : ¬ 9223372036854775807 < n.name.size + 1 + n.attr.size := by have := hb.name; have := hb.attr; omega
 have hz3 : ¬ 9223372036854775807 < 1 + n.name.size := by have := hb.name; omega
 have hz4 : ¬ 9223372036854775807 < 1 + n.name.size + 1 := by have := hb.name; omega
 have hz5 : ¬ 9223372036854775807 < 8 + (bs (Lib.itoa n.num)).size := by
  have := Lib.itoa_length_le n.num (by omega) (by omega)
  rw [zbc]; omega
 have HI : Hid (∀ (it : List It) (V : World), Hp [] W it V → Calls Tryz.prog 42 #[.int .i64 n.num] V fun e w' => e = .returned (.string (bs (Lib.itoa n.num))) ∧ Hp [] W it w') := hid fun it V h =>
  (itoa_any n.num (by omega) (by omega) V (hG.up (hS.trans (h.below (n := W0.heap.size) hS.size (fun _ h => (List.not_mem_nil h).elim))))).mono fun e w' h9 => ⟨h9.1, h.next h9.2⟩
 go_enter Tryz.func40, Tryz.ntmps40
 go_upto_region 1 with fail
 try simp only [hgw]
 have hI1 := hI.alloc (.cells #[.pointer (some ⟨b, 0, none⟩)] 96)
 have hk1 : Hp [] W [iblk gw 96 [.pointer (some ⟨b, 0, none⟩)]] (W.alloc (.cells #[.pointer (some ⟨b, 0, none⟩)] 96)) := hk1
 generalize W.alloc (.cells #[.pointer (some ⟨b, 0, none⟩)] 96) = W1 at *
 have hS1 := hS.trans (hk1.below (n := W0.heap.size) hS.size (fun _ h => (List.not_mem_nil h).elim))
 obtain ⟨e0, e1, e2, e3, e4, e5, eI⟩ := hN.up hS1
 have q5 := hI1.nodes
 rw [hA] at q5
 have q0 := (hk1.blk 0 rfl).cell 0
 simp only [List.getElem?_cons_zero] at q0
 obtain ⟨gn, hgn⟩ : ∃ x, W1.heap.size = x := ⟨_, rfl⟩
 have hk2 := hk1.new 68 [.int .i64 n.kind, .int .i64 n.num, .string n.name, .string n.attr, .slice KA n.kids.length kc, .int .i64 n.at_]
 rw [hgn] at hk2
 go_upto_region 2 with fail
 try simp only [hgn]
 have hk2 : Hp [] W [iblk gn 68 [.int .i64 n.kind, .int .i64 n.num, .string n.name, .string n.attr, .slice KA n.kids.length kc, .int .i64 n.at_], iblk gw 96 [.pointer (some ⟨b, 0, none⟩)]] (W1.alloc (.cells #[.int .i64 n.kind, .int .i64 n.num, .string n.name, .string n.attr, .slice KA n.kids.length kc, .int .i64 n.at_] 68)) := hk2
 generalize W1.alloc (.cells #[.int .i64 n.kind, .int .i64 n.num, .string n.name, .string n.attr, .slice KA n.kids.length kc, .int .i64 n.at_] 68) = W2 at *
 clear e0 e1 e2 e3 e4 e5 eI q5 q0 hI1 hS1 hk1 hgn hA
 go_upto_region 4 with fail
 go_cut [7] (fun s7 wx => (∃ gA g0 g1 g3 g4 g5 g9 g10 g11 : Nat, s7 = .pointer (some ⟨gA, 0, none⟩) ∧ Blk wx gA 190 (F12 gw gn g0 g1 g3 g4 g5 g9 g10 g11) ∧ Blk wx gn 68 [.int .i64 n.kind, .int .i64 n.num, .string n.name, .string n.attr, .slice KA n.kids.length kc, .int .i64 n.at_] ∧ Wbox b gw wx ∧ Blk wx g0 9 [.string ⟨#[116, 114, 117, 101]⟩] ∧ Blk wx g1 9 [.string ⟨#[102, 97, 108, 115, 101]⟩] ∧ Blk wx g3 9 [.string ⟨#[97, 108, 108]⟩] ∧ Blk wx g4 9 [.string ⟨#[97, 110, 121]⟩] ∧ Blk wx g5 9 [.string ((⟨#[97, 116, 108, 101, 97, 115, 116, 32]⟩ : ByteArray) ++ bs (Lib.itoa n.num))] ∧ Blk wx g9 9 [.string (n.name ++ (⟨#[46]⟩ : ByteArray) ++ n.attr)] ∧ Blk wx g10 9 [.string (bs (Lib.itoa n.num))] ∧ Blk wx g11 9 [.string ((⟨#[39]⟩ : ByteArray) ++ n.name ++ (⟨#[39]⟩ : ByteArray))] ∧ Below W.heap.size W wx))
 case first => as_aux_lemma =>
  have hk0 := hk2.drew
  clear hk2
  refine wp_region_held_drew (S := (fun w' => w'.cell? ⟨gn, 1, none⟩ = some (.int .i64 n.num) ∧ w'.cell? ⟨gn, 2, none⟩ = some (.string n.name) ∧ w'.cell? ⟨gn, 3, none⟩ = some (.string n.attr))) (by kernel_rfl) ?_ (fun hHeld => ?_)
  ·exact (c3 (hk0.blk 0 rfl))
  refine tk3 0 rfl ?_
  try simp only [Act.put, tS1, tS2, tS4, tS5, tS6]
  refine tk3 2 rfl ?_
  try simp only [Act.put, tS1, tS2, tS3, tS4, tS5, tS6]
  refine tk3 4 rfl ?_
  try simp only [Act.put, tS1, tS2, tS3, tS4, tS5, tS6]
  refine tk3 5 rfl ?_
  try simp only [Act.put, tS1, tS2, tS3, tS4, tS5, tS6]
  refine tk3 7 rfl ?_
  try simp only [Act.put, tS1, tS2, tS3, tS4, tS5, tS6]
  refine tk3 9 rfl ?_
  try simp only [Act.put, tS1, tS2, tS3, tS4, tS5, tS6]
  refine tk3 10 rfl ?_
  try simp only [Act.put, tS1, tS2, tS3, tS4, tS5, tS6]
  refine tk3 11 rfl ?_
  try simp only [Act.put, tS1, tS2, tS3, tS4, tS5, tS6]
  refine tk3 15 rfl ?_
  try simp only [Act.put, tS1, tS2, tS3, tS4, tS5, tS6]
  refine tk3 16 rfl ?_
  try simp only [Act.put, tS1, tS2, tS3, tS4, tS5, tS6]
  refine tk3 17 rfl ?_
  try simp only [Act.put, tS1, tS2, tS3, tS4, tS5, tS6]
  refine tk3 18 rfl ?_
  try simp only [Act.put, tS1, tS2, tS3, tS4, tS5, tS6]
  refine tk3 19 rfl ?_
  try simp only [Act.put, tS1, tS2, tS3, tS4, tS5, tS6]
  refine tk3 20 rfl ?_
  try simp only [Act.put, tS1, tS2, tS3, tS4, tS5, tS6]
  refine tk3 21 rfl ?_
  try simp only [Act.put, tS1, tS2, tS3, tS4, tS5, tS6]
  refine tk3 22 rfl ?_
  try simp only [Act.put, tS1, tS2, tS3, tS4, tS5, tS6]
  refine tk3 23 rfl ?_
  try simp only [Act.put, tS1, tS2, tS3, tS4, tS5, tS6]
  refine tk3 24 rfl ?_
  try simp only [Act.put, tS1, tS2, tS3, tS4, tS5, tS6]
  refine tk3 26 rfl ?_
  try simp only [Act.put, tS1, tS2, tS3, tS4, tS5, tS6]
  refine tk3 27 rfl ?_
  try simp only [Act.put, tS1, tS2, tS3, tS4, tS5, tS6]
  refine tk3 28 rfl ?_
  try simp only [Act.put, tS1, tS2, tS3, tS4, tS5, tS6]
  refine tk3 31 rfl ?_
  try simp only [Act.put, tS1, tS2, tS3, tS4, tS5, tS6]
  refine tk3 32 rfl ?_
  try simp only [Act.put, tS1, tS2, tS3, tS4, tS5, tS6]
  refine tk3 33 rfl ?_
  try simp only [Act.put, tS1, tS2, tS3, tS4, tS5, tS6]
  refine tk3 34 rfl ?_
  try simp only [Act.put, tS1, tS2, tS3, tS4, tS5, tS6]
  refine tk3 35 rfl ?_
  try simp only [Act.put, tS1, tS2, tS3, tS4, tS5, tS6]
  refine tkR [1, 38] ?_
  refine AllReadyH.cons rfl (fun K hK => ?_) ?_
  ·go_simp
   refine (zaj hk0 ⟨#[116, 114, 117, 101]⟩ gw).mono ?_
   rintro e w1 ⟨g0, rfl, hk1⟩
   clear hk0
   clear hHeld
   refine hK.out _ _ (c3 (hk1.blk 1 rfl)) fun hHeld => ?_
   clear hK K
   refine tkR [3, 38] ?_
   refine AllReadyH.cons rfl (fun K hK => ?_) ?_
   ·go_simp
    refine (zaj hk1 ⟨#[102, 97, 108, 115, 101]⟩ gw).mono ?_
    rintro e w2 ⟨g1, rfl, hk2⟩
    clear hk1
    clear hHeld
    refine hK.out _ _ (c3 (hk2.blk 2 rfl)) fun hHeld => ?_
    clear hK K
    refine tkR [6, 38] ?_
    refine AllReadyH.cons rfl (fun K hK => ?_) ?_
    ·go_simp
     refine (za2 hk2 ⟨#[97, 108, 108]⟩ gw gn).mono ?_
     rintro e w3 ⟨g3, rfl, hk3⟩
     clear hk2
     clear hHeld
     refine hK.out _ _ (c3 (hk3.blk 3 rfl)) fun hHeld => ?_
     clear hK K
     refine tkR [8, 38] ?_
     refine AllReadyH.cons rfl (fun K hK => ?_) ?_
     ·go_simp
      refine (za2 hk3 ⟨#[97, 110, 121]⟩ gw gn).mono ?_
      rintro e w4 ⟨g4, rfl, hk4⟩
      clear hk3
      clear hHeld
      refine hK.out _ _ (c3 (hk4.blk 4 rfl)) fun hHeld => ?_
      clear hK K
      refine tkR [12, 38] ?_
      refine AllReadyH.cons rfl (fun K hK => ?_) ?_
      ·go_simp
       refine (HI.out _ _ hk4).mono ?_
       rintro e w5 ⟨rfl, hk5⟩
       clear hk4
       clear hHeld
       refine hK.out _ _ (c3 (hk5.blk 4 rfl)) fun hHeld => ?_
       clear hK K
       refine tk3 13 rfl ?_
       try simp only [Act.put, tS1, tS2, tS3, tS4, tS5, tS6]
       refine tkR [14, 38] ?_
       refine AllReadyH.cons rfl (fun K hK => ?_) ?_
       ·go_simp
        refine (za2 hk5 ((⟨#[97, 116, 108, 101, 97, 115, 116, 32]⟩ : ByteArray) ++ bs (Lib.itoa n.num)) gw gn).mono ?_
        rintro e w6 ⟨g5, rfl, hk6⟩
        clear hk5
        clear hHeld
        refine hK.out _ _ (c3 (hk6.blk 5 rfl)) fun hHeld => ?_
        clear hK K
        refine tkR [25, 38] ?_
        refine AllReadyH.cons rfl (fun K hK => ?_) ?_
        ·go_simp
         refine (zaj hk6 (n.name ++ (⟨#[46]⟩ : ByteArray) ++ n.attr) gw).mono ?_
         rintro e w7 ⟨g9, rfl, hk7⟩
         clear hk6
         clear hHeld
         refine hK.out _ _ (c3 (hk7.blk 6 rfl)) fun hHeld => ?_
         clear hK K
         refine tkR [29, 38] ?_
         refine AllReadyH.cons rfl (fun K hK => ?_) ?_
         ·go_simp
          refine (HI.out _ _ hk7).mono ?_
          rintro e w8 ⟨rfl, hk8⟩
          clear hk7
          clear hHeld
          refine hK.out _ _ (c3 (hk8.blk 6 rfl)) fun hHeld => ?_
          clear hK K
          refine tkR [30, 38] ?_
          refine AllReadyH.cons rfl (fun K hK => ?_) ?_
          ·go_simp
           refine (zaj hk8 (bs (Lib.itoa n.num)) gw).mono ?_
           rintro e w9 ⟨g10, rfl, hk9⟩
           clear hk8
           clear hHeld
           refine hK.out _ _ (c3 (hk9.blk 7 rfl)) fun hHeld => ?_
           clear hK K
           refine tkR [36, 38] ?_
           refine AllReadyH.cons rfl (fun K hK => ?_) ?_
           ·go_simp
            refine (zaj hk9 ((⟨#[39]⟩ : ByteArray) ++ n.name ++ (⟨#[39]⟩ : ByteArray)) gw).mono ?_
            rintro e w10 ⟨g11, rfl, hk10⟩
            clear hk9
            clear hHeld
            refine hK.out _ _ (c3 (hk10.blk 8 rfl)) fun hHeld => ?_
            clear hK K
            refine tkW 37 (v := .agg (F12 gw gn g0 g1 g3 g4 g5 g9 g10 g11).toArray) rfl (Or.inl ⟨by rfl, fun w hSw => ?_⟩) ?_
            ·exact zat rfl (by rfl) (by rfl) (by rfl) (by rfl) (by rfl) (by rfl) (by rfl) (by rfl) (by rfl) (by rfl) (by rfl) (by rfl) (zci ..) w
            try simp only [Act.put, tS1, tS2, tS3, tS4, tS5, tS6]
            refine tkO 38 rfl fun K hK => ?_
            go_simp
            obtain ⟨gA, hgA⟩ : ∃ x, w10.heap.size = x := ⟨_, rfl⟩
            have hk11 : Hp [] W (iblk gA 190 Z12 :: iblk g11 9 [.string ((⟨#[39]⟩ : ByteArray) ++ n.name ++ (⟨#[39]⟩ : ByteArray))] :: iblk g10 9 [.string (bs (Lib.itoa n.num))] :: iblk g9 9 [.string (n.name ++ (⟨#[46]⟩ : ByteArray) ++ n.attr)] :: iblk g5 9 [.string ((⟨#[97, 116, 108, 101, 97, 115, 116, 32]⟩ : ByteArray) ++ bs (Lib.itoa n.num))] :: iblk g4 9 [.string ⟨#[97, 110, 121]⟩] :: iblk g3 9 [.string ⟨#[97, 108, 108]⟩] :: iblk g1 9 [.string ⟨#[102, 97, 108, 115, 101]⟩] :: iblk g0 9 [.string ⟨#[116, 114, 117, 101]⟩] :: iblk gn 68 [.int .i64 n.kind, .int .i64 n.num, .string n.name, .string n.attr, .slice KA n.kids.length kc, .int .i64 n.at_] :: iblk gw 96 [.pointer (some ⟨b, 0, none⟩)] :: []) (w10.alloc (.cells Z12.toArray 190)) := by have h9 := hk10.new 190 Z12; rw [show w10.heap.size = gA from hgA] at h9; exact h9
            simp only [hgA]
            generalize hZ : w10.alloc (.cells #[.nilFunc, .nilFunc, .nilFunc, .nilFunc, .nilFunc, .nilFunc, .nilFunc, .nilFunc, .nilFunc, .nilFunc, .nilFunc, .nilFunc] 190) = w11
            have hk11 : Hp [] W (iblk gA 190 Z12 :: iblk g11 9 [.string ((⟨#[39]⟩ : ByteArray) ++ n.name ++ (⟨#[39]⟩ : ByteArray))] :: iblk g10 9 [.string (bs (Lib.itoa n.num))] :: iblk g9 9 [.string (n.name ++ (⟨#[46]⟩ : ByteArray) ++ n.attr)] :: iblk g5 9 [.string ((⟨#[97, 116, 108, 101, 97, 115, 116, 32]⟩ : ByteArray) ++ bs (Lib.itoa n.num))] :: iblk g4 9 [.string ⟨#[97, 110, 121]⟩] :: iblk g3 9 [.string ⟨#[97, 108, 108]⟩] :: iblk g1 9 [.string ⟨#[102, 97, 108, 115, 101]⟩] :: iblk g0 9 [.string ⟨#[116, 114, 117, 101]⟩] :: iblk gn 68 [.int .i64 n.kind, .int .i64 n.num, .string n.name, .string n.attr, .slice KA n.kids.length kc, .int .i64 n.at_] :: iblk gw 96 [.pointer (some ⟨b, 0, none⟩)] :: []) w11 := hZ ▸ hk11
            clear hk10 hZ hgA
            clear hHeld
            refine hK.out _ _ (c3 (hk11.blk 9 rfl)) fun hHeld => ?_
            clear hK K
            refine tkO 39 rfl fun K hK => ?_
            rw [if_pos (by rfl)]
            refine wp_store_row 190 (.tmp 7) (.tmp 55) (by rfl) gA (F12 gw gn g0 g1 g3 g4 g5 g9 g10 g11).toArray (by rfl) (by rfl) 190 Z12.toArray (hk11.blk 0 rfl) (by kernel_rfl) (by kernel_rfl) (by kernel_rfl) ?_
            have hk12 := hk11.rowAt 0 rfl (F12 gw gn g0 g1 g3 g4 g5 g9 g10 g11)
            clear hHeld
            refine hK.out _ _ (c3 (hk12.blk 9 rfl)) fun hHeld => ?_
            clear hK K hHeld
            refine wpAnyH_done (by kernel_rfl) ?_ _
            go_wp2_with fail
            go_meet
            exact ⟨gA, g0, g1, g3, g4, g5, g9, g10, g11, rfl, hk12.blk 0 rfl, hk12.blk 9 rfl, hk12.blk 10 rfl, hk12.blk 8 rfl, hk12.blk 7 rfl, hk12.blk 6 rfl, hk12.blk 5 rfl, hk12.blk 4 rfl, hk12.blk 3 rfl, hk12.blk 2 rfl, hk12.blk 1 rfl, hk12.below0⟩
           refine AllReadyH.cons rfl (fun K hK => ?_) ?_
           ·go_simp
            obtain ⟨gA, hgA⟩ : ∃ x, w9.heap.size = x := ⟨_, rfl⟩
            have hk10 : Hp [] W (iblk gA 190 Z12 :: iblk g10 9 [.string (bs (Lib.itoa n.num))] :: iblk g9 9 [.string (n.name ++ (⟨#[46]⟩ : ByteArray) ++ n.attr)] :: iblk g5 9 [.string ((⟨#[97, 116, 108, 101, 97, 115, 116, 32]⟩ : ByteArray) ++ bs (Lib.itoa n.num))] :: iblk g4 9 [.string ⟨#[97, 110, 121]⟩] :: iblk g3 9 [.string ⟨#[97, 108, 108]⟩] :: iblk g1 9 [.string ⟨#[102, 97, 108, 115, 101]⟩] :: iblk g0 9 [.string ⟨#[116, 114, 117, 101]⟩] :: iblk gn 68 [.int .i64 n.kind, .int .i64 n.num, .string n.name, .string n.attr, .slice KA n.kids.length kc, .int .i64 n.at_] :: iblk gw 96 [.pointer (some ⟨b, 0, none⟩)] :: []) (w9.alloc (.cells Z12.toArray 190)) := by have h9 := hk9.new 190 Z12; rw [show w9.heap.size = gA from hgA] at h9; exact h9
            simp only [hgA]
            generalize hZ : w9.alloc (.cells #[.nilFunc, .nilFunc, .nilFunc, .nilFunc, .nilFunc, .nilFunc, .nilFunc, .nilFunc, .nilFunc, .nilFunc, .nilFunc, .nilFunc] 190) = w10
            have hk10 : Hp [] W (iblk gA 190 Z12 :: iblk g10 9 [.string (bs (Lib.itoa n.num))] :: iblk g9 9 [.string (n.name ++ (⟨#[46]⟩ : ByteArray) ++ n.attr)] :: iblk g5 9 [.string ((⟨#[97, 116, 108, 101, 97, 115, 116, 32]⟩ : ByteArray) ++ bs (Lib.itoa n.num))] :: iblk g4 9 [.string ⟨#[97, 110, 121]⟩] :: iblk g3 9 [.string ⟨#[97, 108, 108]⟩] :: iblk g1 9 [.string ⟨#[102, 97, 108, 115, 101]⟩] :: iblk g0 9 [.string ⟨#[116, 114, 117, 101]⟩] :: iblk gn 68 [.int .i64 n.kind, .int .i64 n.num, .string n.name, .string n.attr, .slice KA n.kids.length kc, .int .i64 n.at_] :: iblk gw 96 [.pointer (some ⟨b, 0, none⟩)] :: []) w10 := hZ ▸ hk10
            clear hk9 hZ hgA
            clear hHeld
            refine hK.out _ _ (c3 (hk10.blk 8 rfl)) fun hHeld => ?_
            clear hK K
            refine tkO 36 rfl fun K hK => ?_
            go_simp
            refine (zaj hk10 ((⟨#[39]⟩ : ByteArray) ++ n.name ++ (⟨#[39]⟩ : ByteArray)) gw).mono ?_
            rintro e w11 ⟨g11, rfl, hk11⟩
            clear hk10
            clear hHeld
            refine hK.out _ _ (c3 (hk11.blk 9 rfl)) fun hHeld => ?_
            clear hK K
            refine tkW 37 (v := .agg (F12 gw gn g0 g1 g3 g4 g5 g9 g10 g11).toArray) rfl (Or.inl ⟨by rfl, fun w hSw => ?_⟩) ?_
            ·exact zat rfl (by rfl) (by rfl) (by rfl) (by rfl) (by rfl) (by rfl) (by rfl) (by rfl) (by rfl) (by rfl) (by rfl) (by rfl) (zci ..) w
            try simp only [Act.put, tS1, tS2, tS3, tS4, tS5, tS6]
            refine tkO 39 rfl fun K hK => ?_
            rw [if_pos (by rfl)]
            refine wp_store_row 190 (.tmp 7) (.tmp 55) (by rfl) gA (F12 gw gn g0 g1 g3 g4 g5 g9 g10 g11).toArray (by rfl) (by rfl) 190 Z12.toArray (hk11.blk 1 rfl) (by kernel_rfl) (by kernel_rfl) (by kernel_rfl) ?_
            have hk12 := hk11.rowAt 1 rfl (F12 gw gn g0 g1 g3 g4 g5 g9 g10 g11)
            clear hHeld
            refine hK.out _ _ (c3 (hk12.blk 9 rfl)) fun hHeld => ?_
            clear hK K hHeld
            refine wpAnyH_done (by kernel_rfl) ?_ _
            go_wp2_with fail
            go_meet
            exact ⟨gA, g0, g1, g3, g4, g5, g9, g10, g11, rfl, hk12.blk 1 rfl, hk12.blk 9 rfl, hk12.blk 10 rfl, hk12.blk 8 rfl, hk12.blk 7 rfl, hk12.blk 6 rfl, hk12.blk 5 rfl, hk12.blk 4 rfl, hk12.blk 3 rfl, hk12.blk 2 rfl, hk12.blk 0 rfl, hk12.below0⟩
           exact AllReadyH.nil
          refine AllReadyH.cons rfl (fun K hK => ?_) ?_
          ·go_simp
           obtain ⟨gA, hgA⟩ : ∃ x, w8.heap.size = x := ⟨_, rfl⟩
           have hk9 : Hp [] W (iblk gA 190 Z12 :: iblk g9 9 [.string (n.name ++ (⟨#[46]⟩ : ByteArray) ++ n.attr)] :: iblk g5 9 [.string ((⟨#[97, 116, 108, 101, 97, 115, 116, 32]⟩ : ByteArray) ++ bs (Lib.itoa n.num))] :: iblk g4 9 [.string ⟨#[97, 110, 121]⟩] :: iblk g3 9 [.string ⟨#[97, 108, 108]⟩] :: iblk g1 9 [.string ⟨#[102, 97, 108, 115, 101]⟩] :: iblk g0 9 [.string ⟨#[116, 114, 117, 101]⟩] :: iblk gn 68 [.int .i64 n.kind, .int .i64 n.num, .string n.name, .string n.attr, .slice KA n.kids.length kc, .int .i64 n.at_] :: iblk gw 96 [.pointer (some ⟨b, 0, none⟩)] :: []) (w8.alloc (.cells Z12.toArray 190)) := by have h9 := hk8.new 190 Z12; rw [show w8.heap.size = gA from hgA] at h9; exact h9
           simp only [hgA]
           generalize hZ : w8.alloc (.cells #[.nilFunc, .nilFunc, .nilFunc, .nilFunc, .nilFunc, .nilFunc, .nilFunc, .nilFunc, .nilFunc, .nilFunc, .nilFunc, .nilFunc] 190) = w9
           have hk9 : Hp [] W (iblk gA 190 Z12 :: iblk g9 9 [.string (n.name ++ (⟨#[46]⟩ : ByteArray) ++ n.attr)] :: iblk g5 9 [.string ((⟨#[97, 116, 108, 101, 97, 115, 116, 32]⟩ : ByteArray) ++ bs (Lib.itoa n.num))] :: iblk g4 9 [.string ⟨#[97, 110, 121]⟩] :: iblk g3 9 [.string ⟨#[97, 108, 108]⟩] :: iblk g1 9 [.string ⟨#[102, 97, 108, 115, 101]⟩] :: iblk g0 9 [.string ⟨#[116, 114, 117, 101]⟩] :: iblk gn 68 [.int .i64 n.kind, .int .i64 n.num, .string n.name, .string n.attr, .slice KA n.kids.length kc, .int .i64 n.at_] :: iblk gw 96 [.pointer (some ⟨b, 0, none⟩)] :: []) w9 := hZ ▸ hk9
           clear hk8 hZ hgA
           clear hHeld
           refine hK.out _ _ (c3 (hk9.blk 7 rfl)) fun hHeld => ?_
           clear hK K
           refine tkO 30 rfl fun K hK => ?_
           go_simp
           refine (zaj hk9 (bs (Lib.itoa n.num)) gw).mono ?_
           rintro e w10 ⟨g10, rfl, hk10⟩
           clear hk9
           clear hHeld
           refine hK.out _ _ (c3 (hk10.blk 8 rfl)) fun hHeld => ?_
           clear hK K
           refine tkO 36 rfl fun K hK => ?_
           go_simp
           refine (zaj hk10 ((⟨#[39]⟩ : ByteArray) ++ n.name ++ (⟨#[39]⟩ : ByteArray)) gw).mono ?_
           rintro e w11 ⟨g11, rfl, hk11⟩
           clear hk10
           clear hHeld
           refine hK.out _ _ (c3 (hk11.blk 9 rfl)) fun hHeld => ?_
           clear hK K
           refine tkW 37 (v := .agg (F12 gw gn g0 g1 g3 g4 g5 g9 g10 g11).toArray) rfl (Or.inl ⟨by rfl, fun w hSw => ?_⟩) ?_
           ·exact zat rfl (by rfl) (by rfl) (by rfl) (by rfl) (by rfl) (by rfl) (by rfl) (by rfl) (by rfl) (by rfl) (by rfl) (by rfl) (zci ..) w
           try simp only [Act.put, tS1, tS2, tS3, tS4, tS5, tS6]
           refine tkO 39 rfl fun K hK => ?_
           rw [if_pos (by rfl)]
           refine wp_store_row 190 (.tmp 7) (.tmp 55) (by rfl) gA (F12 gw gn g0 g1 g3 g4 g5 g9 g10 g11).toArray (by rfl) (by rfl) 190 Z12.toArray (hk11.blk 2 rfl) (by kernel_rfl) (by kernel_rfl) (by kernel_rfl) ?_
           have hk12 := hk11.rowAt 2 rfl (F12 gw gn g0 g1 g3 g4 g5 g9 g10 g11)
           clear hHeld
           refine hK.out _ _ (c3 (hk12.blk 9 rfl)) fun hHeld => ?_
           clear hK K hHeld
           refine wpAnyH_done (by kernel_rfl) ?_ _
           go_wp2_with fail
           go_meet
           exact ⟨gA, g0, g1, g3, g4, g5, g9, g10, g11, rfl, hk12.blk 2 rfl, hk12.blk 9 rfl, hk12.blk 10 rfl, hk12.blk 8 rfl, hk12.blk 7 rfl, hk12.blk 6 rfl, hk12.blk 5 rfl, hk12.blk 4 rfl, hk12.blk 3 rfl, hk12.blk 1 rfl, hk12.blk 0 rfl, hk12.below0⟩
          exact AllReadyH.nil
         refine AllReadyH.cons rfl (fun K hK => ?_) ?_
         ·go_simp
          obtain ⟨gA, hgA⟩ : ∃ x, w7.heap.size = x := ⟨_, rfl⟩
          have hk8 : Hp [] W (iblk gA 190 Z12 :: iblk g9 9 [.string (n.name ++ (⟨#[46]⟩ : ByteArray) ++ n.attr)] :: iblk g5 9 [.string ((⟨#[97, 116, 108, 101, 97, 115, 116, 32]⟩ : ByteArray) ++ bs (Lib.itoa n.num))] :: iblk g4 9 [.string ⟨#[97, 110, 121]⟩] :: iblk g3 9 [.string ⟨#[97, 108, 108]⟩] :: iblk g1 9 [.string ⟨#[102, 97, 108, 115, 101]⟩] :: iblk g0 9 [.string ⟨#[116, 114, 117, 101]⟩] :: iblk gn 68 [.int .i64 n.kind, .int .i64 n.num, .string n.name, .string n.attr, .slice KA n.kids.length kc, .int .i64 n.at_] :: iblk gw 96 [.pointer (some ⟨b, 0, none⟩)] :: []) (w7.alloc (.cells Z12.toArray 190)) := by have h9 := hk7.new 190 Z12; rw [show w7.heap.size = gA from hgA] at h9; exact h9
          simp only [hgA]
          generalize hZ : w7.alloc (.cells #[.nilFunc, .nilFunc, .nilFunc, .nilFunc, .nilFunc, .nilFunc, .nilFunc, .nilFunc, .nilFunc, .nilFunc, .nilFunc, .nilFunc] 190) = w8
          have hk8 : Hp [] W (iblk gA 190 Z12 :: iblk g9 9 [.string (n.name ++ (⟨#[46]⟩ : ByteArray) ++ n.attr)] :: iblk g5 9 [.string ((⟨#[97, 116, 108, 101, 97, 115, 116, 32]⟩ : ByteArray) ++ bs (Lib.itoa n.num))] :: iblk g4 9 [.string ⟨#[97, 110, 121]⟩] :: iblk g3 9 [.string ⟨#[97, 108, 108]⟩] :: iblk g1 9 [.string ⟨#[102, 97, 108, 115, 101]⟩] :: iblk g0 9 [.string ⟨#[116, 114, 117, 101]⟩] :: iblk gn 68 [.int .i64 n.kind, .int .i64 n.num, .string n.name, .string n.attr, .slice KA n.kids.length kc, .int .i64 n.at_] :: iblk gw 96 [.pointer (some ⟨b, 0, none⟩)] :: []) w8 := hZ ▸ hk8
          clear hk7 hZ hgA
          clear hHeld
          refine hK.out _ _ (c3 (hk8.blk 7 rfl)) fun hHeld => ?_
          clear hK K
          refine tkO 29 rfl fun K hK => ?_
          go_simp
          refine (HI.out _ _ hk8).mono ?_
          rintro e w9 ⟨rfl, hk9⟩
          clear hk8
          clear hHeld
          refine hK.out _ _ (c3 (hk9.blk 7 rfl)) fun hHeld => ?_
          clear hK K
          refine tkO 30 rfl fun K hK => ?_
          go_simp
          refine (zaj hk9 (bs (Lib.itoa n.num)) gw).mono ?_
          rintro e w10 ⟨g10, rfl, hk10⟩
          clear hk9
          clear hHeld
          refine hK.out _ _ (c3 (hk10.blk 8 rfl)) fun hHeld => ?_
          clear hK K
          refine tkO 36 rfl fun K hK => ?_
          go_simp
          refine (zaj hk10 ((⟨#[39]⟩ : ByteArray) ++ n.name ++ (⟨#[39]⟩ : ByteArray)) gw).mono ?_
          rintro e w11 ⟨g11, rfl, hk11⟩
          clear hk10
          clear hHeld
          refine hK.out _ _ (c3 (hk11.blk 9 rfl)) fun hHeld => ?_
          clear hK K
          refine tkW 37 (v := .agg (F12 gw gn g0 g1 g3 g4 g5 g9 g10 g11).toArray) rfl (Or.inl ⟨by rfl, fun w hSw => ?_⟩) ?_
          ·exact zat rfl (by rfl) (by rfl) (by rfl) (by rfl) (by rfl) (by rfl) (by rfl) (by rfl) (by rfl) (by rfl) (by rfl) (by rfl) (zci ..) w
          try simp only [Act.put, tS1, tS2, tS3, tS4, tS5, tS6]
          refine tkO 39 rfl fun K hK => ?_
          rw [if_pos (by rfl)]
          refine wp_store_row 190 (.tmp 7) (.tmp 55) (by rfl) gA (F12 gw gn g0 g1 g3 g4 g5 g9 g10 g11).toArray (by rfl) (by rfl) 190 Z12.toArray (hk11.blk 2 rfl) (by kernel_rfl) (by kernel_rfl) (by kernel_rfl) ?_
          have hk12 := hk11.rowAt 2 rfl (F12 gw gn g0 g1 g3 g4 g5 g9 g10 g11)
          clear hHeld
          refine hK.out _ _ (c3 (hk12.blk 9 rfl)) fun hHeld => ?_
          clear hK K hHeld
          refine wpAnyH_done (by kernel_rfl) ?_ _
          go_wp2_with fail
          go_meet
          exact ⟨gA, g0, g1, g3, g4, g5, g9, g10, g11, rfl, hk12.blk 2 rfl, hk12.blk 9 rfl, hk12.blk 10 rfl, hk12.blk 8 rfl, hk12.blk 7 rfl, hk12.blk 6 rfl, hk12.blk 5 rfl, hk12.blk 4 rfl, hk12.blk 3 rfl, hk12.blk 1 rfl, hk12.blk 0 rfl, hk12.below0⟩
         exact AllReadyH.nil
        refine AllReadyH.cons rfl (fun K hK => ?_) ?_
        ·go_simp
         obtain ⟨gA, hgA⟩ : ∃ x, w6.heap.size = x := ⟨_, rfl⟩
         have hk7 : Hp [] W (iblk gA 190 Z12 :: iblk g5 9 [.string ((⟨#[97, 116, 108, 101, 97, 115, 116, 32]⟩ : ByteArray) ++ bs (Lib.itoa n.num))] :: iblk g4 9 [.string ⟨#[97, 110, 121]⟩] :: iblk g3 9 [.string ⟨#[97, 108, 108]⟩] :: iblk g1 9 [.string ⟨#[102, 97, 108, 115, 101]⟩] :: iblk g0 9 [.string ⟨#[116, 114, 117, 101]⟩] :: iblk gn 68 [.int .i64 n.kind, .int .i64 n.num, .string n.name, .string n.attr, .slice KA n.kids.length kc, .int .i64 n.at_] :: iblk gw 96 [.pointer (some ⟨b, 0, none⟩)] :: []) (w6.alloc (.cells Z12.toArray 190)) := by have h9 := hk6.new 190 Z12; rw [show w6.heap.size = gA from hgA] at h9; exact h9
         simp only [hgA]
         generalize hZ : w6.alloc (.cells #[.nilFunc, .nilFunc, .nilFunc, .nilFunc, .nilFunc, .nilFunc, .nilFunc, .nilFunc, .nilFunc, .nilFunc, .nilFunc, .nilFunc] 190) = w7
         have hk7 : Hp [] W (iblk gA 190 Z12 :: iblk g5 9 [.string ((⟨#[97, 116, 108, 101, 97, 115, 116, 32]⟩ : ByteArray) ++ bs (Lib.itoa n.num))] :: iblk g4 9 [.string ⟨#[97, 110, 121]⟩] :: iblk g3 9 [.string ⟨#[97, 108, 108]⟩] :: iblk g1 9 [.string ⟨#[102, 97, 108, 115, 101]⟩] :: iblk g0 9 [.string ⟨#[116, 114, 117, 101]⟩] :: iblk gn 68 [.int .i64 n.kind, .int .i64 n.num, .string n.name, .string n.attr, .slice KA n.kids.length kc, .int .i64 n.at_] :: iblk gw 96 [.pointer (some ⟨b, 0, none⟩)] :: []) w7 := hZ ▸ hk7
         clear hk6 hZ hgA
         clear hHeld
         refine hK.out _ _ (c3 (hk7.blk 6 rfl)) fun hHeld => ?_
         clear hK K
         refine tkO 25 rfl fun K hK => ?_
         go_simp
         refine (zaj hk7 (n.name ++ (⟨#[46]⟩ : ByteArray) ++ n.attr) gw).mono ?_
         rintro e w8 ⟨g9, rfl, hk8⟩
         clear hk7
         clear hHeld
         refine hK.out _ _ (c3 (hk8.blk 7 rfl)) fun hHeld => ?_
         clear hK K
         refine tkO 29 rfl fun K hK => ?_
         go_simp
         refine (HI.out _ _ hk8).mono ?_
         rintro e w9 ⟨rfl, hk9⟩
         clear hk8
         clear hHeld
         refine hK.out _ _ (c3 (hk9.blk 7 rfl)) fun hHeld => ?_
         clear hK K
         refine tkO 30 rfl fun K hK => ?_
         go_simp
         refine (zaj hk9 (bs (Lib.itoa n.num)) gw).mono ?_
         rintro e w10 ⟨g10, rfl, hk10⟩
         clear hk9
         clear hHeld
         refine hK.out _ _ (c3 (hk10.blk 8 rfl)) fun hHeld => ?_
         clear hK K
         refine tkO 36 rfl fun K hK => ?_
         go_simp
         refine (zaj hk10 ((⟨#[39]⟩ : ByteArray) ++ n.name ++ (⟨#[39]⟩ : ByteArray)) gw).mono ?_
         rintro e w11 ⟨g11, rfl, hk11⟩
         clear hk10
         clear hHeld
         refine hK.out _ _ (c3 (hk11.blk 9 rfl)) fun hHeld => ?_
         clear hK K
         refine tkW 37 (v := .agg (F12 gw gn g0 g1 g3 g4 g5 g9 g10 g11).toArray) rfl (Or.inl ⟨by rfl, fun w hSw => ?_⟩) ?_
         ·exact zat rfl (by rfl) (by rfl) (by rfl) (by rfl) (by rfl) (by rfl) (by rfl) (by rfl) (by rfl) (by rfl) (by rfl) (by rfl) (zci ..) w
         try simp only [Act.put, tS1, tS2, tS3, tS4, tS5, tS6]
         refine tkO 39 rfl fun K hK => ?_
         rw [if_pos (by rfl)]
         refine wp_store_row 190 (.tmp 7) (.tmp 55) (by rfl) gA (F12 gw gn g0 g1 g3 g4 g5 g9 g10 g11).toArray (by rfl) (by rfl) 190 Z12.toArray (hk11.blk 3 rfl) (by kernel_rfl) (by kernel_rfl) (by kernel_rfl) ?_
         have hk12 := hk11.rowAt 3 rfl (F12 gw gn g0 g1 g3 g4 g5 g9 g10 g11)
         clear hHeld
         refine hK.out _ _ (c3 (hk12.blk 9 rfl)) fun hHeld => ?_
         clear hK K hHeld
         refine wpAnyH_done (by kernel_rfl) ?_ _
         go_wp2_with fail
         go_meet
         exact ⟨gA, g0, g1, g3, g4, g5, g9, g10, g11, rfl, hk12.blk 3 rfl, hk12.blk 9 rfl, hk12.blk 10 rfl, hk12.blk 8 rfl, hk12.blk 7 rfl, hk12.blk 6 rfl, hk12.blk 5 rfl, hk12.blk 4 rfl, hk12.blk 2 rfl, hk12.blk 1 rfl, hk12.blk 0 rfl, hk12.below0⟩
        exact AllReadyH.nil
       refine AllReadyH.cons rfl (fun K hK => ?_) ?_
       ·go_simp
        obtain ⟨gA, hgA⟩ : ∃ x, w5.heap.size = x := ⟨_, rfl⟩
        have hk6 : Hp [] W (iblk gA 190 Z12 :: iblk g4 9 [.string ⟨#[97, 110, 121]⟩] :: iblk g3 9 [.string ⟨#[97, 108, 108]⟩] :: iblk g1 9 [.string ⟨#[102, 97, 108, 115, 101]⟩] :: iblk g0 9 [.string ⟨#[116, 114, 117, 101]⟩] :: iblk gn 68 [.int .i64 n.kind, .int .i64 n.num, .string n.name, .string n.attr, .slice KA n.kids.length kc, .int .i64 n.at_] :: iblk gw 96 [.pointer (some ⟨b, 0, none⟩)] :: []) (w5.alloc (.cells Z12.toArray 190)) := by have h9 := hk5.new 190 Z12; rw [show w5.heap.size = gA from hgA] at h9; exact h9
        simp only [hgA]
        generalize hZ : w5.alloc (.cells #[.nilFunc, .nilFunc, .nilFunc, .nilFunc, .nilFunc, .nilFunc, .nilFunc, .nilFunc, .nilFunc, .nilFunc, .nilFunc, .nilFunc] 190) = w6
        have hk6 : Hp [] W (iblk gA 190 Z12 :: iblk g4 9 [.string ⟨#[97, 110, 121]⟩] :: iblk g3 9 [.string ⟨#[97, 108, 108]⟩] :: iblk g1 9 [.string ⟨#[102, 97, 108, 115, 101]⟩] :: iblk g0 9 [.string ⟨#[116, 114, 117, 101]⟩] :: iblk gn 68 [.int .i64 n.kind, .int .i64 n.num, .string n.name, .string n.attr, .slice KA n.kids.length kc, .int .i64 n.at_] :: iblk gw 96 [.pointer (some ⟨b, 0, none⟩)] :: []) w6 := hZ ▸ hk6
        clear hk5 hZ hgA
        clear hHeld
        refine hK.out _ _ (c3 (hk6.blk 5 rfl)) fun hHeld => ?_
        clear hK K
        refine tkO 14 rfl fun K hK => ?_
        go_simp
        refine (za2 hk6 ((⟨#[97, 116, 108, 101, 97, 115, 116, 32]⟩ : ByteArray) ++ bs (Lib.itoa n.num)) gw gn).mono ?_
        rintro e w7 ⟨g5, rfl, hk7⟩
        clear hk6
        clear hHeld
        refine hK.out _ _ (c3 (hk7.blk 6 rfl)) fun hHeld => ?_
        clear hK K
        refine tkO 25 rfl fun K hK => ?_
        go_simp
        refine (zaj hk7 (n.name ++ (⟨#[46]⟩ : ByteArray) ++ n.attr) gw).mono ?_
        rintro e w8 ⟨g9, rfl, hk8⟩
        clear hk7
        clear hHeld
        refine hK.out _ _ (c3 (hk8.blk 7 rfl)) fun hHeld => ?_
        clear hK K
        refine tkO 29 rfl fun K hK => ?_
        go_simp
        refine (HI.out _ _ hk8).mono ?_
        rintro e w9 ⟨rfl, hk9⟩
        clear hk8
        clear hHeld
        refine hK.out _ _ (c3 (hk9.blk 7 rfl)) fun hHeld => ?_
        clear hK K
        refine tkO 30 rfl fun K hK => ?_
        go_simp
        refine (zaj hk9 (bs (Lib.itoa n.num)) gw).mono ?_
        rintro e w10 ⟨g10, rfl, hk10⟩
        clear hk9
        clear hHeld
        refine hK.out _ _ (c3 (hk10.blk 8 rfl)) fun hHeld => ?_
        clear hK K
        refine tkO 36 rfl fun K hK => ?_
        go_simp
        refine (zaj hk10 ((⟨#[39]⟩ : ByteArray) ++ n.name ++ (⟨#[39]⟩ : ByteArray)) gw).mono ?_
        rintro e w11 ⟨g11, rfl, hk11⟩
        clear hk10
        clear hHeld
        refine hK.out _ _ (c3 (hk11.blk 9 rfl)) fun hHeld => ?_
        clear hK K
        refine tkW 37 (v := .agg (F12 gw gn g0 g1 g3 g4 g5 g9 g10 g11).toArray) rfl (Or.inl ⟨by rfl, fun w hSw => ?_⟩) ?_
        ·exact zat rfl (by rfl) (by rfl) (by rfl) (by rfl) (by rfl) (by rfl) (by rfl) (by rfl) (by rfl) (by rfl) (by rfl) (by rfl) (zci ..) w
        try simp only [Act.put, tS1, tS2, tS3, tS4, tS5, tS6]
        refine tkO 39 rfl fun K hK => ?_
        rw [if_pos (by rfl)]
        refine wp_store_row 190 (.tmp 7) (.tmp 55) (by rfl) gA (F12 gw gn g0 g1 g3 g4 g5 g9 g10 g11).toArray (by rfl) (by rfl) 190 Z12.toArray (hk11.blk 4 rfl) (by kernel_rfl) (by kernel_rfl) (by kernel_rfl) ?_
        have hk12 := hk11.rowAt 4 rfl (F12 gw gn g0 g1 g3 g4 g5 g9 g10 g11)
        clear hHeld
        refine hK.out _ _ (c3 (hk12.blk 9 rfl)) fun hHeld => ?_
        clear hK K hHeld
        refine wpAnyH_done (by kernel_rfl) ?_ _
        go_wp2_with fail
        go_meet
        exact ⟨gA, g0, g1, g3, g4, g5, g9, g10, g11, rfl, hk12.blk 4 rfl, hk12.blk 9 rfl, hk12.blk 10 rfl, hk12.blk 8 rfl, hk12.blk 7 rfl, hk12.blk 6 rfl, hk12.blk 5 rfl, hk12.blk 3 rfl, hk12.blk 2 rfl, hk12.blk 1 rfl, hk12.blk 0 rfl, hk12.below0⟩
       exact AllReadyH.nil
      refine AllReadyH.cons rfl (fun K hK => ?_) ?_
      ·go_simp
       obtain ⟨gA, hgA⟩ : ∃ x, w4.heap.size = x := ⟨_, rfl⟩
       have hk5 : Hp [] W (iblk gA 190 Z12 :: iblk g4 9 [.string ⟨#[97, 110, 121]⟩] :: iblk g3 9 [.string ⟨#[97, 108, 108]⟩] :: iblk g1 9 [.string ⟨#[102, 97, 108, 115, 101]⟩] :: iblk g0 9 [.string ⟨#[116, 114, 117, 101]⟩] :: iblk gn 68 [.int .i64 n.kind, .int .i64 n.num, .string n.name, .string n.attr, .slice KA n.kids.length kc, .int .i64 n.at_] :: iblk gw 96 [.pointer (some ⟨b, 0, none⟩)] :: []) (w4.alloc (.cells Z12.toArray 190)) := by have h9 := hk4.new 190 Z12; rw [show w4.heap.size = gA from hgA] at h9; exact h9
       simp only [hgA]
       generalize hZ : w4.alloc (.cells #[.nilFunc, .nilFunc, .nilFunc, .nilFunc, .nilFunc, .nilFunc, .nilFunc, .nilFunc, .nilFunc, .nilFunc, .nilFunc, .nilFunc] 190) = w5
       have hk5 : Hp [] W (iblk gA 190 Z12 :: iblk g4 9 [.string ⟨#[97, 110, 121]⟩] :: iblk g3 9 [.string ⟨#[97, 108, 108]⟩] :: iblk g1 9 [.string ⟨#[102, 97, 108, 115, 101]⟩] :: iblk g0 9 [.string ⟨#[116, 114, 117, 101]⟩] :: iblk gn 68 [.int .i64 n.kind, .int .i64 n.num, .string n.name, .string n.attr, .slice KA n.kids.length kc, .int .i64 n.at_] :: iblk gw 96 [.pointer (some ⟨b, 0, none⟩)] :: []) w5 := hZ ▸ hk5
       clear hk4 hZ hgA
       clear hHeld
       refine hK.out _ _ (c3 (hk5.blk 5 rfl)) fun hHeld => ?_
       clear hK K
       refine tkO 12 rfl fun K hK => ?_
       go_simp
       refine (HI.out _ _ hk5).mono ?_
       rintro e w6 ⟨rfl, hk6⟩
       clear hk5
       clear hHeld
       refine hK.out _ _ (c3 (hk6.blk 5 rfl)) fun hHeld => ?_
       clear hK K
       refine tk3 13 rfl ?_
       try simp only [Act.put, tS1, tS2, tS3, tS4, tS5, tS6]
       refine tkO 14 rfl fun K hK => ?_
       go_simp
       refine (za2 hk6 ((⟨#[97, 116, 108, 101, 97, 115, 116, 32]⟩ : ByteArray) ++ bs (Lib.itoa n.num)) gw gn).mono ?_
       rintro e w7 ⟨g5, rfl, hk7⟩
       clear hk6
       clear hHeld
       refine hK.out _ _ (c3 (hk7.blk 6 rfl)) fun hHeld => ?_
       clear hK K
       refine tkO 25 rfl fun K hK => ?_
       go_simp
       refine (zaj hk7 (n.name ++ (⟨#[46]⟩ : ByteArray) ++ n.attr) gw).mono ?_
       rintro e w8 ⟨g9, rfl, hk8⟩
       clear hk7
       clear hHeld
       refine hK.out _ _ (c3 (hk8.blk 7 rfl)) fun hHeld => ?_
       clear hK K
       refine tkO 29 rfl fun K hK => ?_
       go_simp
       refine (HI.out _ _ hk8).mono ?_
       rintro e w9 ⟨rfl, hk9⟩
       clear hk8
       clear hHeld
       refine hK.out _ _ (c3 (hk9.blk 7 rfl)) fun hHeld => ?_
       clear hK K
       refine tkO 30 rfl fun K hK => ?_
       go_simp
       refine (zaj hk9 (bs (Lib.itoa n.num)) gw).mono ?_
       rintro e w10 ⟨g10, rfl, hk10⟩
       clear hk9
       clear hHeld
       refine hK.out _ _ (c3 (hk10.blk 8 rfl)) fun hHeld => ?_
       clear hK K
       refine tkO 36 rfl fun K hK => ?_
       go_simp
       refine (zaj hk10 ((⟨#[39]⟩ : ByteArray) ++ n.name ++ (⟨#[39]⟩ : ByteArray)) gw).mono ?_
       rintro e w11 ⟨g11, rfl, hk11⟩
       clear hk10
       clear hHeld
       refine hK.out _ _ (c3 (hk11.blk 9 rfl)) fun hHeld => ?_
       clear hK K
       refine tkW 37 (v := .agg (F12 gw gn g0 g1 g3 g4 g5 g9 g10 g11).toArray) rfl (Or.inl ⟨by rfl, fun w hSw => ?_⟩) ?_
       ·exact zat rfl (by rfl) (by rfl) (by rfl) (by rfl) (by rfl) (by rfl) (by rfl) (by rfl) (by rfl) (by rfl) (by rfl) (by rfl) (zci ..) w
       try simp only [Act.put, tS1, tS2, tS3, tS4, tS5, tS6]
       refine tkO 39 rfl fun K hK => ?_
       rw [if_pos (by rfl)]
       refine wp_store_row 190 (.tmp 7) (.tmp 55) (by rfl) gA (F12 gw gn g0 g1 g3 g4 g5 g9 g10 g11).toArray (by rfl) (by rfl) 190 Z12.toArray (hk11.blk 4 rfl) (by kernel_rfl) (by kernel_rfl) (by kernel_rfl) ?_
       have hk12 := hk11.rowAt 4 rfl (F12 gw gn g0 g1 g3 g4 g5 g9 g10 g11)
       clear hHeld
       refine hK.out _ _ (c3 (hk12.blk 9 rfl)) fun hHeld => ?_
       clear hK K hHeld
       refine wpAnyH_done (by kernel_rfl) ?_ _
       go_wp2_with fail
       go_meet
       exact ⟨gA, g0, g1, g3, g4, g5, g9, g10, g11, rfl, hk12.blk 4 rfl, hk12.blk 9 rfl, hk12.blk 10 rfl, hk12.blk 8 rfl, hk12.blk 7 rfl, hk12.blk 6 rfl, hk12.blk 5 rfl, hk12.blk 3 rfl, hk12.blk 2 rfl, hk12.blk 1 rfl, hk12.blk 0 rfl, hk12.below0⟩
      exact AllReadyH.nil
     refine AllReadyH.cons rfl (fun K hK => ?_) ?_
     ·go_simp
      obtain ⟨gA, hgA⟩ : ∃ x, w3.heap.size = x := ⟨_, rfl⟩
      have hk4 : Hp [] W (iblk gA 190 Z12 :: iblk g3 9 [.string ⟨#[97, 108, 108]⟩] :: iblk g1 9 [.string ⟨#[102, 97, 108, 115, 101]⟩] :: iblk g0 9 [.string ⟨#[116, 114, 117, 101]⟩] :: iblk gn 68 [.int .i64 n.kind, .int .i64 n.num, .string n.name, .string n.attr, .slice KA n.kids.length kc, .int .i64 n.at_] :: iblk gw 96 [.pointer (some ⟨b, 0, none⟩)] :: []) (w3.alloc (.cells Z12.toArray 190)) := by have h9 := hk3.new 190 Z12; rw [show w3.heap.size = gA from hgA] at h9; exact h9
      simp only [hgA]
      generalize hZ : w3.alloc (.cells #[.nilFunc, .nilFunc, .nilFunc, .nilFunc, .nilFunc, .nilFunc, .nilFunc, .nilFunc, .nilFunc, .nilFunc, .nilFunc, .nilFunc] 190) = w4
      have hk4 : Hp [] W (iblk gA 190 Z12 :: iblk g3 9 [.string ⟨#[97, 108, 108]⟩] :: iblk g1 9 [.string ⟨#[102, 97, 108, 115, 101]⟩] :: iblk g0 9 [.string ⟨#[116, 114, 117, 101]⟩] :: iblk gn 68 [.int .i64 n.kind, .int .i64 n.num, .string n.name, .string n.attr, .slice KA n.kids.length kc, .int .i64 n.at_] :: iblk gw 96 [.pointer (some ⟨b, 0, none⟩)] :: []) w4 := hZ ▸ hk4
      clear hk3 hZ hgA
      clear hHeld
      refine hK.out _ _ (c3 (hk4.blk 4 rfl)) fun hHeld => ?_
      clear hK K
      refine tkO 8 rfl fun K hK => ?_
      go_simp
      refine (za2 hk4 ⟨#[97, 110, 121]⟩ gw gn).mono ?_
      rintro e w5 ⟨g4, rfl, hk5⟩
      clear hk4
      clear hHeld
      refine hK.out _ _ (c3 (hk5.blk 5 rfl)) fun hHeld => ?_
      clear hK K
      refine tkO 12 rfl fun K hK => ?_
      go_simp
      refine (HI.out _ _ hk5).mono ?_
      rintro e w6 ⟨rfl, hk6⟩
      clear hk5
      clear hHeld
      refine hK.out _ _ (c3 (hk6.blk 5 rfl)) fun hHeld => ?_
      clear hK K
      refine tk3 13 rfl ?_
      try simp only [Act.put, tS1, tS2, tS3, tS4, tS5, tS6]
      refine tkO 14 rfl fun K hK => ?_
      go_simp
      refine (za2 hk6 ((⟨#[97, 116, 108, 101, 97, 115, 116, 32]⟩ : ByteArray) ++ bs (Lib.itoa n.num)) gw gn).mono ?_
      rintro e w7 ⟨g5, rfl, hk7⟩
      clear hk6
      clear hHeld
      refine hK.out _ _ (c3 (hk7.blk 6 rfl)) fun hHeld => ?_
      clear hK K
      refine tkO 25 rfl fun K hK => ?_
      go_simp
      refine (zaj hk7 (n.name ++ (⟨#[46]⟩ : ByteArray) ++ n.attr) gw).mono ?_
      rintro e w8 ⟨g9, rfl, hk8⟩
      clear hk7
      clear hHeld
      refine hK.out _ _ (c3 (hk8.blk 7 rfl)) fun hHeld => ?_
      clear hK K
      refine tkO 29 rfl fun K hK => ?_
      go_simp
      refine (HI.out _ _ hk8).mono ?_
      rintro e w9 ⟨rfl, hk9⟩
      clear hk8
      clear hHeld
      refine hK.out _ _ (c3 (hk9.blk 7 rfl)) fun hHeld => ?_
      clear hK K
      refine tkO 30 rfl fun K hK => ?_
      go_simp
      refine (zaj hk9 (bs (Lib.itoa n.num)) gw).mono ?_
      rintro e w10 ⟨g10, rfl, hk10⟩
      clear hk9
      clear hHeld
      refine hK.out _ _ (c3 (hk10.blk 8 rfl)) fun hHeld => ?_
      clear hK K
      refine tkO 36 rfl fun K hK => ?_
      go_simp
      refine (zaj hk10 ((⟨#[39]⟩ : ByteArray) ++ n.name ++ (⟨#[39]⟩ : ByteArray)) gw).mono ?_
      rintro e w11 ⟨g11, rfl, hk11⟩
      clear hk10
      clear hHeld
      refine hK.out _ _ (c3 (hk11.blk 9 rfl)) fun hHeld => ?_
      clear hK K
      refine tkW 37 (v := .agg (F12 gw gn g0 g1 g3 g4 g5 g9 g10 g11).toArray) rfl (Or.inl ⟨by rfl, fun w hSw => ?_⟩) ?_
      ·exact zat rfl (by rfl) (by rfl) (by rfl) (by rfl) (by rfl) (by rfl) (by rfl) (by rfl) (by rfl) (by rfl) (by rfl) (by rfl) (zci ..) w
      try simp only [Act.put, tS1, tS2, tS3, tS4, tS5, tS6]
      refine tkO 39 rfl fun K hK => ?_
      rw [if_pos (by rfl)]
      refine wp_store_row 190 (.tmp 7) (.tmp 55) (by rfl) gA (F12 gw gn g0 g1 g3 g4 g5 g9 g10 g11).toArray (by rfl) (by rfl) 190 Z12.toArray (hk11.blk 5 rfl) (by kernel_rfl) (by kernel_rfl) (by kernel_rfl) ?_
      have hk12 := hk11.rowAt 5 rfl (F12 gw gn g0 g1 g3 g4 g5 g9 g10 g11)
      clear hHeld
      refine hK.out _ _ (c3 (hk12.blk 9 rfl)) fun hHeld => ?_
      clear hK K hHeld
      refine wpAnyH_done (by kernel_rfl) ?_ _
      go_wp2_with fail
      go_meet
      exact ⟨gA, g0, g1, g3, g4, g5, g9, g10, g11, rfl, hk12.blk 5 rfl, hk12.blk 9 rfl, hk12.blk 10 rfl, hk12.blk 8 rfl, hk12.blk 7 rfl, hk12.blk 6 rfl, hk12.blk 4 rfl, hk12.blk 3 rfl, hk12.blk 2 rfl, hk12.blk 1 rfl, hk12.blk 0 rfl, hk12.below0⟩
     exact AllReadyH.nil
    refine AllReadyH.cons rfl (fun K hK => ?_) ?_
    ·go_simp
     obtain ⟨gA, hgA⟩ : ∃ x, w2.heap.size = x := ⟨_, rfl⟩
     have hk3 : Hp [] W (iblk gA 190 Z12 :: iblk g1 9 [.string ⟨#[102, 97, 108, 115, 101]⟩] :: iblk g0 9 [.string ⟨#[116, 114, 117, 101]⟩] :: iblk gn 68 [.int .i64 n.kind, .int .i64 n.num, .string n.name, .string n.attr, .slice KA n.kids.length kc, .int .i64 n.at_] :: iblk gw 96 [.pointer (some ⟨b, 0, none⟩)] :: []) (w2.alloc (.cells Z12.toArray 190)) := by have h9 := hk2.new 190 Z12; rw [show w2.heap.size = gA from hgA] at h9; exact h9
     simp only [hgA]
     generalize hZ : w2.alloc (.cells #[.nilFunc, .nilFunc, .nilFunc, .nilFunc, .nilFunc, .nilFunc, .nilFunc, .nilFunc, .nilFunc, .nilFunc, .nilFunc, .nilFunc] 190) = w3
     have hk3 : Hp [] W (iblk gA 190 Z12 :: iblk g1 9 [.string ⟨#[102, 97, 108, 115, 101]⟩] :: iblk g0 9 [.string ⟨#[116, 114, 117, 101]⟩] :: iblk gn 68 [.int .i64 n.kind, .int .i64 n.num, .string n.name, .string n.attr, .slice KA n.kids.length kc, .int .i64 n.at_] :: iblk gw 96 [.pointer (some ⟨b, 0, none⟩)] :: []) w3 := hZ ▸ hk3
     clear hk2 hZ hgA
     clear hHeld
     refine hK.out _ _ (c3 (hk3.blk 3 rfl)) fun hHeld => ?_
     clear hK K
     refine tkO 6 rfl fun K hK => ?_
     go_simp
     refine (za2 hk3 ⟨#[97, 108, 108]⟩ gw gn).mono ?_
     rintro e w4 ⟨g3, rfl, hk4⟩
     clear hk3
     clear hHeld
     refine hK.out _ _ (c3 (hk4.blk 4 rfl)) fun hHeld => ?_
     clear hK K
     refine tkO 8 rfl fun K hK => ?_
     go_simp
     refine (za2 hk4 ⟨#[97, 110, 121]⟩ gw gn).mono ?_
     rintro e w5 ⟨g4, rfl, hk5⟩
     clear hk4
     clear hHeld
     refine hK.out _ _ (c3 (hk5.blk 5 rfl)) fun hHeld => ?_
     clear hK K
     refine tkO 12 rfl fun K hK => ?_
     go_simp
     refine (HI.out _ _ hk5).mono ?_
     rintro e w6 ⟨rfl, hk6⟩
     clear hk5
     clear hHeld
     refine hK.out _ _ (c3 (hk6.blk 5 rfl)) fun hHeld => ?_
     clear hK K
     refine tk3 13 rfl ?_
     try simp only [Act.put, tS1, tS2, tS3, tS4, tS5, tS6]
     refine tkO 14 rfl fun K hK => ?_
     go_simp
     refine (za2 hk6 ((⟨#[97, 116, 108, 101, 97, 115, 116, 32]⟩ : ByteArray) ++ bs (Lib.itoa n.num)) gw gn).mono ?_
     rintro e w7 ⟨g5, rfl, hk7⟩
     clear hk6
     clear hHeld
     refine hK.out _ _ (c3 (hk7.blk 6 rfl)) fun hHeld => ?_
     clear hK K
     refine tkO 25 rfl fun K hK => ?_
     go_simp
     refine (zaj hk7 (n.name ++ (⟨#[46]⟩ : ByteArray) ++ n.attr) gw).mono ?_
     rintro e w8 ⟨g9, rfl, hk8⟩
     clear hk7
     clear hHeld
     refine hK.out _ _ (c3 (hk8.blk 7 rfl)) fun hHeld => ?_
     clear hK K
     refine tkO 29 rfl fun K hK => ?_
     go_simp
     refine (HI.out _ _ hk8).mono ?_
     rintro e w9 ⟨rfl, hk9⟩
     clear hk8
     clear hHeld
     refine hK.out _ _ (c3 (hk9.blk 7 rfl)) fun hHeld => ?_
     clear hK K
     refine tkO 30 rfl fun K hK => ?_
     go_simp
     refine (zaj hk9 (bs (Lib.itoa n.num)) gw).mono ?_
     rintro e w10 ⟨g10, rfl, hk10⟩
     clear hk9
     clear hHeld
     refine hK.out _ _ (c3 (hk10.blk 8 rfl)) fun hHeld => ?_
     clear hK K
     refine tkO 36 rfl fun K hK => ?_
     go_simp
     refine (zaj hk10 ((⟨#[39]⟩ : ByteArray) ++ n.name ++ (⟨#[39]⟩ : ByteArray)) gw).mono ?_
     rintro e w11 ⟨g11, rfl, hk11⟩
     clear hk10
     clear hHeld
     refine hK.out _ _ (c3 (hk11.blk 9 rfl)) fun hHeld => ?_
     clear hK K
     refine tkW 37 (v := .agg (F12 gw gn g0 g1 g3 g4 g5 g9 g10 g11).toArray) rfl (Or.inl ⟨by rfl, fun w hSw => ?_⟩) ?_
     ·exact zat rfl (by rfl) (by rfl) (by rfl) (by rfl) (by rfl) (by rfl) (by rfl) (by rfl) (by rfl) (by rfl) (by rfl) (by rfl) (zci ..) w
     try simp only [Act.put, tS1, tS2, tS3, tS4, tS5, tS6]
     refine tkO 39 rfl fun K hK => ?_
     rw [if_pos (by rfl)]
     refine wp_store_row 190 (.tmp 7) (.tmp 55) (by rfl) gA (F12 gw gn g0 g1 g3 g4 g5 g9 g10 g11).toArray (by rfl) (by rfl) 190 Z12.toArray (hk11.blk 6 rfl) (by kernel_rfl) (by kernel_rfl) (by kernel_rfl) ?_
     have hk12 := hk11.rowAt 6 rfl (F12 gw gn g0 g1 g3 g4 g5 g9 g10 g11)
     clear hHeld
     refine hK.out _ _ (c3 (hk12.blk 9 rfl)) fun hHeld => ?_
     clear hK K hHeld
     refine wpAnyH_done (by kernel_rfl) ?_ _
     go_wp2_with fail
     go_meet
     exact ⟨gA, g0, g1, g3, g4, g5, g9, g10, g11, rfl, hk12.blk 6 rfl, hk12.blk 9 rfl, hk12.blk 10 rfl, hk12.blk 8 rfl, hk12.blk 7 rfl, hk12.blk 5 rfl, hk12.blk 4 rfl, hk12.blk 3 rfl, hk12.blk 2 rfl, hk12.blk 1 rfl, hk12.blk 0 rfl, hk12.below0⟩
    exact AllReadyH.nil
   refine AllReadyH.cons rfl (fun K hK => ?_) ?_
   ·go_simp
    obtain ⟨gA, hgA⟩ : ∃ x, w1.heap.size = x := ⟨_, rfl⟩
    have hk2 : Hp [] W (iblk gA 190 Z12 :: iblk g0 9 [.string ⟨#[116, 114, 117, 101]⟩] :: iblk gn 68 [.int .i64 n.kind, .int .i64 n.num, .string n.name, .string n.attr, .slice KA n.kids.length kc, .int .i64 n.at_] :: iblk gw 96 [.pointer (some ⟨b, 0, none⟩)] :: []) (w1.alloc (.cells Z12.toArray 190)) := by have h9 := hk1.new 190 Z12; rw [show w1.heap.size = gA from hgA] at h9; exact h9
    simp only [hgA]
    generalize hZ : w1.alloc (.cells #[.nilFunc, .nilFunc, .nilFunc, .nilFunc, .nilFunc, .nilFunc, .nilFunc, .nilFunc, .nilFunc, .nilFunc, .nilFunc, .nilFunc] 190) = w2
    have hk2 : Hp [] W (iblk gA 190 Z12 :: iblk g0 9 [.string ⟨#[116, 114, 117, 101]⟩] :: iblk gn 68 [.int .i64 n.kind, .int .i64 n.num, .string n.name, .string n.attr, .slice KA n.kids.length kc, .int .i64 n.at_] :: iblk gw 96 [.pointer (some ⟨b, 0, none⟩)] :: []) w2 := hZ ▸ hk2
    clear hk1 hZ hgA
    clear hHeld
    refine hK.out _ _ (c3 (hk2.blk 2 rfl)) fun hHeld => ?_
    clear hK K
    refine tkO 3 rfl fun K hK => ?_
    go_simp
    refine (zaj hk2 ⟨#[102, 97, 108, 115, 101]⟩ gw).mono ?_
    rintro e w3 ⟨g1, rfl, hk3⟩
    clear hk2
    clear hHeld
    refine hK.out _ _ (c3 (hk3.blk 3 rfl)) fun hHeld => ?_
    clear hK K
    refine tkO 6 rfl fun K hK => ?_
    go_simp
    refine (za2 hk3 ⟨#[97, 108, 108]⟩ gw gn).mono ?_
    rintro e w4 ⟨g3, rfl, hk4⟩
    clear hk3
    clear hHeld
    refine hK.out _ _ (c3 (hk4.blk 4 rfl)) fun hHeld => ?_
    clear hK K
    refine tkO 8 rfl fun K hK => ?_
    go_simp
    refine (za2 hk4 ⟨#[97, 110, 121]⟩ gw gn).mono ?_
    rintro e w5 ⟨g4, rfl, hk5⟩
    clear hk4
    clear hHeld
    refine hK.out _ _ (c3 (hk5.blk 5 rfl)) fun hHeld => ?_
    clear hK K
    refine tkO 12 rfl fun K hK => ?_
    go_simp
    refine (HI.out _ _ hk5).mono ?_
    rintro e w6 ⟨rfl, hk6⟩
    clear hk5
    clear hHeld
    refine hK.out _ _ (c3 (hk6.blk 5 rfl)) fun hHeld => ?_
    clear hK K
    refine tk3 13 rfl ?_
    try simp only [Act.put, tS1, tS2, tS3, tS4, tS5, tS6]
    refine tkO 14 rfl fun K hK => ?_
    go_simp
    refine (za2 hk6 ((⟨#[97, 116, 108, 101, 97, 115, 116, 32]⟩ : ByteArray) ++ bs (Lib.itoa n.num)) gw gn).mono ?_
    rintro e w7 ⟨g5, rfl, hk7⟩
    clear hk6
    clear hHeld
    refine hK.out _ _ (c3 (hk7.blk 6 rfl)) fun hHeld => ?_
    clear hK K
    refine tkO 25 rfl fun K hK => ?_
    go_simp
    refine (zaj hk7 (n.name ++ (⟨#[46]⟩ : ByteArray) ++ n.attr) gw).mono ?_
    rintro e w8 ⟨g9, rfl, hk8⟩
    clear hk7
    clear hHeld
    refine hK.out _ _ (c3 (hk8.blk 7 rfl)) fun hHeld => ?_
    clear hK K
    refine tkO 29 rfl fun K hK => ?_
    go_simp
    refine (HI.out _ _ hk8).mono ?_
    rintro e w9 ⟨rfl, hk9⟩
    clear hk8
    clear hHeld
    refine hK.out _ _ (c3 (hk9.blk 7 rfl)) fun hHeld => ?_
    clear hK K
    refine tkO 30 rfl fun K hK => ?_
    go_simp
    refine (zaj hk9 (bs (Lib.itoa n.num)) gw).mono ?_
    rintro e w10 ⟨g10, rfl, hk10⟩
    clear hk9
    clear hHeld
    refine hK.out _ _ (c3 (hk10.blk 8 rfl)) fun hHeld => ?_
    clear hK K
    refine tkO 36 rfl fun K hK => ?_
    go_simp
    refine (zaj hk10 ((⟨#[39]⟩ : ByteArray) ++ n.name ++ (⟨#[39]⟩ : ByteArray)) gw).mono ?_
    rintro e w11 ⟨g11, rfl, hk11⟩
    clear hk10
    clear hHeld
    refine hK.out _ _ (c3 (hk11.blk 9 rfl)) fun hHeld => ?_
    clear hK K
    refine tkW 37 (v := .agg (F12 gw gn g0 g1 g3 g4 g5 g9 g10 g11).toArray) rfl (Or.inl ⟨by rfl, fun w hSw => ?_⟩) ?_
    ·exact zat rfl (by rfl) (by rfl) (by rfl) (by rfl) (by rfl) (by rfl) (by rfl) (by rfl) (by rfl) (by rfl) (by rfl) (by rfl) (zci ..) w
    try simp only [Act.put, tS1, tS2, tS3, tS4, tS5, tS6]
    refine tkO 39 rfl fun K hK => ?_
    rw [if_pos (by rfl)]
    refine wp_store_row 190 (.tmp 7) (.tmp 55) (by rfl) gA (F12 gw gn g0 g1 g3 g4 g5 g9 g10 g11).toArray (by rfl) (by rfl) 190 Z12.toArray (hk11.blk 7 rfl) (by kernel_rfl) (by kernel_rfl) (by kernel_rfl) ?_
    have hk12 := hk11.rowAt 7 rfl (F12 gw gn g0 g1 g3 g4 g5 g9 g10 g11)
    clear hHeld
    refine hK.out _ _ (c3 (hk12.blk 9 rfl)) fun hHeld => ?_
    clear hK K hHeld
    refine wpAnyH_done (by kernel_rfl) ?_ _
    go_wp2_with fail
    go_meet
    exact ⟨gA, g0, g1, g3, g4, g5, g9, g10, g11, rfl, hk12.blk 7 rfl, hk12.blk 9 rfl, hk12.blk 10 rfl, hk12.blk 8 rfl, hk12.blk 6 rfl, hk12.blk 5 rfl, hk12.blk 4 rfl, hk12.blk 3 rfl, hk12.blk 2 rfl, hk12.blk 1 rfl, hk12.blk 0 rfl, hk12.below0⟩
   exact AllReadyH.nil
  refine AllReadyH.cons rfl (fun K hK => ?_) ?_
  ·go_simp
   obtain ⟨gA, hgA⟩ : ∃ x, W2.heap.size = x := ⟨_, rfl⟩
   have hk1 : Hp [] W (iblk gA 190 Z12 :: iblk gn 68 [.int .i64 n.kind, .int .i64 n.num, .string n.name, .string n.attr, .slice KA n.kids.length kc, .int .i64 n.at_] :: iblk gw 96 [.pointer (some ⟨b, 0, none⟩)] :: []) (W2.drew.alloc (.cells Z12.toArray 190)) := by have h9 := hk0.new 190 Z12; rw [show W2.drew.heap.size = gA from hgA] at h9; exact h9
   simp only [hgA]
   have hk1 : Hp [] W (iblk gA 190 Z12 :: iblk gn 68 [.int .i64 n.kind, .int .i64 n.num, .string n.name, .string n.attr, .slice KA n.kids.length kc, .int .i64 n.at_] :: iblk gw 96 [.pointer (some ⟨b, 0, none⟩)] :: []) (W2.alloc (.cells Z12.toArray 190)).drew := hk1
   generalize hZ : (W2.alloc (.cells #[.nilFunc, .nilFunc, .nilFunc, .nilFunc, .nilFunc, .nilFunc, .nilFunc, .nilFunc, .nilFunc, .nilFunc, .nilFunc, .nilFunc] 190)).drew = w1
   have hk1 : Hp [] W (iblk gA 190 Z12 :: iblk gn 68 [.int .i64 n.kind, .int .i64 n.num, .string n.name, .string n.attr, .slice KA n.kids.length kc, .int .i64 n.at_] :: iblk gw 96 [.pointer (some ⟨b, 0, none⟩)] :: []) w1 := hZ ▸ hk1
   clear hk0 hZ hgA
   clear hHeld
   refine hK.out _ _ (c3 (hk1.blk 1 rfl)) fun hHeld => ?_
   clear hK K
   refine tkO 1 rfl fun K hK => ?_
   go_simp
   refine (zaj hk1 ⟨#[116, 114, 117, 101]⟩ gw).mono ?_
   rintro e w2 ⟨g0, rfl, hk2⟩
   clear hk1
   clear hHeld
   refine hK.out _ _ (c3 (hk2.blk 2 rfl)) fun hHeld => ?_
   clear hK K
   refine tkO 3 rfl fun K hK => ?_
   go_simp
   refine (zaj hk2 ⟨#[102, 97, 108, 115, 101]⟩ gw).mono ?_
   rintro e w3 ⟨g1, rfl, hk3⟩
   clear hk2
   clear hHeld
   refine hK.out _ _ (c3 (hk3.blk 3 rfl)) fun hHeld => ?_
   clear hK K
   refine tkO 6 rfl fun K hK => ?_
   go_simp
   refine (za2 hk3 ⟨#[97, 108, 108]⟩ gw gn).mono ?_
   rintro e w4 ⟨g3, rfl, hk4⟩
   clear hk3
   clear hHeld
   refine hK.out _ _ (c3 (hk4.blk 4 rfl)) fun hHeld => ?_
   clear hK K
   refine tkO 8 rfl fun K hK => ?_
   go_simp
   refine (za2 hk4 ⟨#[97, 110, 121]⟩ gw gn).mono ?_
   rintro e w5 ⟨g4, rfl, hk5⟩
   clear hk4
   clear hHeld
   refine hK.out _ _ (c3 (hk5.blk 5 rfl)) fun hHeld => ?_
   clear hK K
   refine tkO 12 rfl fun K hK => ?_
   go_simp
   refine (HI.out _ _ hk5).mono ?_
   rintro e w6 ⟨rfl, hk6⟩
   clear hk5
   clear hHeld
   refine hK.out _ _ (c3 (hk6.blk 5 rfl)) fun hHeld => ?_
   clear hK K
   refine tk3 13 rfl ?_
   try simp only [Act.put, tS1, tS2, tS3, tS4, tS5, tS6]
   refine tkO 14 rfl fun K hK => ?_
   go_simp
   refine (za2 hk6 ((⟨#[97, 116, 108, 101, 97, 115, 116, 32]⟩ : ByteArray) ++ bs (Lib.itoa n.num)) gw gn).mono ?_
   rintro e w7 ⟨g5, rfl, hk7⟩
   clear hk6
   clear hHeld
   refine hK.out _ _ (c3 (hk7.blk 6 rfl)) fun hHeld => ?_
   clear hK K
   refine tkO 25 rfl fun K hK => ?_
   go_simp
   refine (zaj hk7 (n.name ++ (⟨#[46]⟩ : ByteArray) ++ n.attr) gw).mono ?_
   rintro e w8 ⟨g9, rfl, hk8⟩
   clear hk7
   clear hHeld
   refine hK.out _ _ (c3 (hk8.blk 7 rfl)) fun hHeld => ?_
   clear hK K
   refine tkO 29 rfl fun K hK => ?_
   go_simp
   refine (HI.out _ _ hk8).mono ?_
   rintro e w9 ⟨rfl, hk9⟩
   clear hk8
   clear hHeld
   refine hK.out _ _ (c3 (hk9.blk 7 rfl)) fun hHeld => ?_
   clear hK K
   refine tkO 30 rfl fun K hK => ?_
   go_simp
   refine (zaj hk9 (bs (Lib.itoa n.num)) gw).mono ?_
   rintro e w10 ⟨g10, rfl, hk10⟩
   clear hk9
   clear hHeld
   refine hK.out _ _ (c3 (hk10.blk 8 rfl)) fun hHeld => ?_
   clear hK K
   refine tkO 36 rfl fun K hK => ?_
   go_simp
   refine (zaj hk10 ((⟨#[39]⟩ : ByteArray) ++ n.name ++ (⟨#[39]⟩ : ByteArray)) gw).mono ?_
   rintro e w11 ⟨g11, rfl, hk11⟩
   clear hk10
   clear hHeld
   refine hK.out _ _ (c3 (hk11.blk 9 rfl)) fun hHeld => ?_
   clear hK K
   refine tkW 37 (v := .agg (F12 gw gn g0 g1 g3 g4 g5 g9 g10 g11).toArray) rfl (Or.inl ⟨by rfl, fun w hSw => ?_⟩) ?_
   ·exact zat rfl (by rfl) (by rfl) (by rfl) (by rfl) (by rfl) (by rfl) (by rfl) (by rfl) (by rfl) (by rfl) (by rfl) (by rfl) (zci ..) w
   try simp only [Act.put, tS1, tS2, tS3, tS4, tS5, tS6]
   refine tkO 39 rfl fun K hK => ?_
   rw [if_pos (by rfl)]
   refine wp_store_row 190 (.tmp 7) (.tmp 55) (by rfl) gA (F12 gw gn g0 g1 g3 g4 g5 g9 g10 g11).toArray (by rfl) (by rfl) 190 Z12.toArray (hk11.blk 8 rfl) (by kernel_rfl) (by kernel_rfl) (by kernel_rfl) ?_
   have hk12 := hk11.rowAt 8 rfl (F12 gw gn g0 g1 g3 g4 g5 g9 g10 g11)
   clear hHeld
   refine hK.out _ _ (c3 (hk12.blk 9 rfl)) fun hHeld => ?_
   clear hK K hHeld
   refine wpAnyH_done (by kernel_rfl) ?_ _
   go_wp2_with fail
   go_meet
   exact ⟨gA, g0, g1, g3, g4, g5, g9, g10, g11, rfl, hk12.blk 8 rfl, hk12.blk 9 rfl, hk12.blk 10 rfl, hk12.blk 7 rfl, hk12.blk 6 rfl, hk12.blk 5 rfl, hk12.blk 4 rfl, hk12.blk 3 rfl, hk12.blk 2 rfl, hk12.blk 1 rfl, hk12.blk 0 rfl, hk12.below0⟩
  exact AllReadyH.nil
 case rest => as_aux_lemma =>
  obtain ⟨gA, g0, g1, g3, g4, g5, g9, g10, g11, rfl, bA, bN, bW, b0, b1, b3, b4, b5, b9, b10, b11, hbel⟩ := hcut
  clear hk2 HI hz1 hz2 hz3 hz4 hz5
  have hBW : W0.heap.size ≤ wc.heap.size := Nat.le_trans hB hbel.size
  have hSc : Below W0.heap.size W0 wc := hS.trans (hbel.mono hB)
  have hIc := hI.up hbel
  have hoc : OthW b W wc := oth_below hbel
  have hK : KeepS W0.heap.size b (fun W => Below W0.heap.size W0 W) := fun _ _ h hb _ => h.trans hb
  have hs : ShowsI (fun W => Below W0.heap.size W0 W) KA n.kids := fun V hV j x hx => (hN.ints.up hV).at_ j x hx
  rcases (by omega : n.kind = 0 ∨ n.kind = 1 ∨ n.kind = 2 ∨ n.kind = 3 ∨ n.kind = 4 ∨ n.kind = 5 ∨ n.kind = 6 ∨ n.kind = 7 ∨ n.kind = 8 ∨ n.kind = 9 ∨ n.kind = 10 ∨ n.kind = 11) with hkind | hkind | hkind | hkind | hkind | hkind | hkind | hkind | hkind | hkind | hkind | hkind
  ·as_aux_lemma =>
   have k0 : wc.cell? ⟨gn, 0, none⟩ = some (.int .i64 0) := by rw [← hkind]; exact bN.cell 0
   have hT : nodeW n.kind n.num (tl n.name) (tl n.attr) (n.kids.map tt) = [116, 114, 117, 101] := by rw [hkind]; rfl
   have hlen2 : l.length + ([116, 114, 117, 101]).length ≤ 1000000 := by rw [hT] at hlen; exact hlen
   have HA := hid (word_run W0.heap.size b (polcs d L) gw g0 [116, 114, 117, 101] _ (rfl) l wc ⟨bW, b0⟩ hIc hBW hlen2)
   have k1 := bA.cell 0
   simp only [List.getElem?_cons_zero, List.getElem?_cons_succ] at k1
   have HT := hid hT
   clear hT bA bN bW b0 b1 b3 b4 b5 b9 b10 b11 hs hkp hcmp hk hM hN
   go_wp2_with fail
   refine HA.out.mono ?_
   rintro e w5 ⟨rfl, r1, r2, r3⟩
   go_wp2_with fail
   go_end0
   exact ⟨rfl, HT.out ▸ r1, (hbel.mono hB).trans r2, OthW.trans2 hoc r3⟩
  ·as_aux_lemma =>
   have k0 : wc.cell? ⟨gn, 0, none⟩ = some (.int .i64 1) := by rw [← hkind]; exact bN.cell 0
   have hT : nodeW n.kind n.num (tl n.name) (tl n.attr) (n.kids.map tt) = [102, 97, 108, 115, 101] := by rw [hkind]; rfl
   have hlen2 : l.length + ([102, 97, 108, 115, 101]).length ≤ 1000000 := by rw [hT] at hlen; exact hlen
   have HA := hid (word_run W0.heap.size b (polcs d L) gw g1 [102, 97, 108, 115, 101] _ (rfl) l wc ⟨bW, b1⟩ hIc hBW hlen2)
   have k1 := bA.cell 1
   simp only [List.getElem?_cons_zero, List.getElem?_cons_succ] at k1
   have HT := hid hT
   clear hT bA bN bW b0 b1 b3 b4 b5 b9 b10 b11 hs hkp hcmp hk hM hN
   go_wp2_with fail
   refine HA.out.mono ?_
   rintro e w5 ⟨rfl, r1, r2, r3⟩
   go_wp2_with fail
   go_end0
   exact ⟨rfl, HT.out ▸ r1, (hbel.mono hB).trans r2, OthW.trans2 hoc r3⟩
  ·as_aux_lemma =>
   obtain ⟨x, hkx⟩ := len1w (l := n.kids) (of_decide_eq_true (by rw [hkind] at hkp; exact hkp))
   have k0 : wc.cell? ⟨gn, 0, none⟩ = some (.int .i64 2) := by rw [← hkind]; exact bN.cell 0
   have hT : nodeW n.kind n.num (tl n.name) (tl n.attr) (n.kids.map tt) = [110, 111, 116, 32] ++ tt x := by rw [hkind, hkx]; rfl
   have hlen2 : l.length + ([110, 111, 116, 32] ++ tt x).length ≤ 1000000 := by rw [hT] at hlen; exact hlen
   have HA := hid (not_run W0.heap.size b (polcs d L) _ hK gw gn _ _ _ _ _ KA kc n.kids hs x (by rw [hkx]; rfl) (tt x) (hk x (by rw [hkx]; exact List.mem_cons_self ..)) l wc ⟨hSc, bW, bN⟩ hIc hBW hlen2)
   have k1 := bA.cell 2
   simp only [List.getElem?_cons_zero, List.getElem?_cons_succ] at k1
   have HT := hid hT
   clear hT bA bN bW b0 b1 b3 b4 b5 b9 b10 b11 hs hkp hcmp hk hM hN
   go_wp2_with fail
   refine HA.out.mono ?_
   rintro e w5 ⟨rfl, r1, r2, r3⟩
   go_wp2_with fail
   go_end0
   exact ⟨rfl, HT.out ▸ r1, (hbel.mono hB).trans r2, OthW.trans2 hoc r3⟩
  ·as_aux_lemma =>
   have k0 : wc.cell? ⟨gn, 0, none⟩ = some (.int .i64 3) := by rw [← hkind]; exact bN.cell 0
   have hT : nodeW n.kind n.num (tl n.name) (tl n.attr) (n.kids.map tt) = [97, 108, 108] ++ [40] ++ cms (n.kids.map tt) ++ [41] := by rw [hkind]; rfl
   have hlen2 : l.length + ([97, 108, 108] ++ [40] ++ cms (n.kids.map tt) ++ [41]).length ≤ 1000000 := by rw [hT] at hlen; exact hlen
   have HA := hid (gate_run W0.heap.size b (polcs d L) _ hK gw g3 gn ([97, 108, 108]) (by decide) _ _ _ _ _ KA kc n.kids hs hb.kids tt (fun x hx => hk x hx) l wc ⟨hSc, bW, b3, bN⟩ hIc hBW hlen2)
   have k1 := bA.cell 3
   simp only [List.getElem?_cons_zero, List.getElem?_cons_succ] at k1
   have HT := hid hT
   clear hT bA bN bW b0 b1 b3 b4 b5 b9 b10 b11 hs hkp hcmp hk hM hN
   go_wp2_with fail
   refine HA.out.mono ?_
   rintro e w5 ⟨rfl, r1, r2, r3⟩
   go_wp2_with fail
   go_end0
   exact ⟨rfl, HT.out ▸ r1, (hbel.mono hB).trans r2, OthW.trans2 hoc r3⟩
  ·as_aux_lemma =>
   have k0 : wc.cell? ⟨gn, 0, none⟩ = some (.int .i64 4) := by rw [← hkind]; exact bN.cell 0
   have hT : nodeW n.kind n.num (tl n.name) (tl n.attr) (n.kids.map tt) = [97, 110, 121] ++ [40] ++ cms (n.kids.map tt) ++ [41] := by rw [hkind]; rfl
   have hlen2 : l.length + ([97, 110, 121] ++ [40] ++ cms (n.kids.map tt) ++ [41]).length ≤ 1000000 := by rw [hT] at hlen; exact hlen
   have HA := hid (gate_run W0.heap.size b (polcs d L) _ hK gw g4 gn ([97, 110, 121]) (by decide) _ _ _ _ _ KA kc n.kids hs hb.kids tt (fun x hx => hk x hx) l wc ⟨hSc, bW, b4, bN⟩ hIc hBW hlen2)
   have k1 := bA.cell 4
   simp only [List.getElem?_cons_zero, List.getElem?_cons_succ] at k1
   have HT := hid hT
   clear hT bA bN bW b0 b1 b3 b4 b5 b9 b10 b11 hs hkp hcmp hk hM hN
   go_wp2_with fail
   refine HA.out.mono ?_
   rintro e w5 ⟨rfl, r1, r2, r3⟩
   go_wp2_with fail
   go_end0
   exact ⟨rfl, HT.out ▸ r1, (hbel.mono hB).trans r2, OthW.trans2 hoc r3⟩
  ·as_aux_lemma =>
   have k0 : wc.cell? ⟨gn, 0, none⟩ = some (.int .i64 5) := by rw [← hkind]; exact bN.cell 0
   have b5 : Blk wc g5 9 [.string (bs ([97, 116, 108, 101, 97, 115, 116, 32] ++ Lib.itoa n.num))] := by rw [cat_lit [97, 116, 108, 101, 97, 115, 116, 32]] at b5; exact b5
   have hT : nodeW n.kind n.num (tl n.name) (tl n.attr) (n.kids.map tt) = [97, 116, 108, 101, 97, 115, 116, 32] ++ Lib.itoa n.num ++ [40] ++ cms (n.kids.map tt) ++ [41] := by rw [hkind]; rfl
   have hlen2 : l.length + ([97, 116, 108, 101, 97, 115, 116, 32] ++ Lib.itoa n.num ++ [40] ++ cms (n.kids.map tt) ++ [41]).length ≤ 1000000 := by rw [hT] at hlen; exact hlen
   have HA := hid (gate_run W0.heap.size b (polcs d L) _ hK gw g5 gn ([97, 116, 108, 101, 97, 115, 116, 32] ++ Lib.itoa n.num) (by have := Lib.itoa_length_le n.num (by omega) (by omega); simp only [List.length_append, List.length_cons, List.length_nil]; omega) _ _ _ _ _ KA kc n.kids hs hb.kids tt (fun x hx => hk x hx) l wc ⟨hSc, bW, b5, bN⟩ hIc hBW hlen2)
   have k1 := bA.cell 5
   simp only [List.getElem?_cons_zero, List.getElem?_cons_succ] at k1
   have HT := hid hT
   clear hT bA bN bW b0 b1 b3 b4 b5 b9 b10 b11 hs hkp hcmp hk hM hN
   go_wp2_with fail
   refine HA.out.mono ?_
   rintro e w5 ⟨rfl, r1, r2, r3⟩
   go_wp2_with fail
   go_end0
   exact ⟨rfl, HT.out ▸ r1, (hbel.mono hB).trans r2, OthW.trans2 hoc r3⟩
  ·as_aux_lemma =>
   obtain ⟨x, y, hkx⟩ := len2w (l := n.kids) (of_decide_eq_true (by rw [hkind] at hkp; exact hkp))
   have hkl : n.kids.length = 2 := by rw [hkx]; rfl
   obtain ⟨hc0, hc1⟩ := hcmp hkind
   rw [hkx] at hs
   rcases (by omega : n.num = 0 ∨ n.num = 1 ∨ n.num = 2 ∨ n.num = 3 ∨ n.num = 4 ∨ n.num = 5) with hnum | hnum | hnum | hnum | hnum | hnum
   ·have bN : Blk wc gn 68 [.int .i64 n.kind, .int .i64 0, .string n.name, .string n.attr, .slice KA 2 kc, .int .i64 n.at_] := by rw [hnum, hkl] at bN; exact bN
    have k0 : wc.cell? ⟨gn, 0, none⟩ = some (.int .i64 6) := by rw [← hkind]; exact bN.cell 0
    have hT : nodeW n.kind n.num (tl n.name) (tl n.attr) (n.kids.map tt) = tt x ++ ([32] ++ [61] ++ [32]) ++ tt y := by rw [hkind, hnum, hkx]; rfl
    have hlen2 : l.length + (tt x ++ ([32] ++ [61] ++ [32]) ++ tt y).length ≤ 1000000 := by rw [hT] at hlen; exact hlen
    have HA := hid (cmp_run0 W0.heap.size b (polcs d L) _ hK gw gn _ _ _ _ KA kc x y hs (tt x) (tt y) (hk x (by rw [hkx]; exact List.mem_cons_self ..)) (hk y (by rw [hkx]; exact List.mem_cons_of_mem _ (List.mem_cons_self ..))) l wc ⟨hSc, bW, bN⟩ hIc hBW hlen2)
    have k1 := bA.cell 6
    simp only [List.getElem?_cons_zero, List.getElem?_cons_succ] at k1
    have HT := hid hT
    clear hT bA bN bW b0 b1 b3 b4 b5 b9 b10 b11 hs hkp hcmp hk hM hN
    go_wp2_with fail
    refine HA.out.mono ?_
    rintro e w5 ⟨rfl, r1, r2, r3⟩
    go_wp2_with fail
    go_end0
    exact ⟨rfl, HT.out ▸ r1, (hbel.mono hB).trans r2, OthW.trans2 hoc r3⟩
   ·have bN : Blk wc gn 68 [.int .i64 n.kind, .int .i64 1, .string n.name, .string n.attr, .slice KA 2 kc, .int .i64 n.at_] := by rw [hnum, hkl] at bN; exact bN
    have k0 : wc.cell? ⟨gn, 0, none⟩ = some (.int .i64 6) := by rw [← hkind]; exact bN.cell 0
    have hT : nodeW n.kind n.num (tl n.name) (tl n.attr) (n.kids.map tt) = tt x ++ ([32] ++ [33, 61] ++ [32]) ++ tt y := by rw [hkind, hnum, hkx]; rfl
    have hlen2 : l.length + (tt x ++ ([32] ++ [33, 61] ++ [32]) ++ tt y).length ≤ 1000000 := by rw [hT] at hlen; exact hlen
    have HA := hid (cmp_run1 W0.heap.size b (polcs d L) _ hK gw gn _ _ _ _ KA kc x y hs (tt x) (tt y) (hk x (by rw [hkx]; exact List.mem_cons_self ..)) (hk y (by rw [hkx]; exact List.mem_cons_of_mem _ (List.mem_cons_self ..))) l wc ⟨hSc, bW, bN⟩ hIc hBW hlen2)
    have k1 := bA.cell 6
    simp only [List.getElem?_cons_zero, List.getElem?_cons_succ] at k1
    have HT := hid hT
    clear hT bA bN bW b0 b1 b3 b4 b5 b9 b10 b11 hs hkp hcmp hk hM hN
    go_wp2_with fail
    refine HA.out.mono ?_
    rintro e w5 ⟨rfl, r1, r2, r3⟩
    go_wp2_with fail
    go_end0
    exact ⟨rfl, HT.out ▸ r1, (hbel.mono hB).trans r2, OthW.trans2 hoc r3⟩
   ·have bN : Blk wc gn 68 [.int .i64 n.kind, .int .i64 2, .string n.name, .string n.attr, .slice KA 2 kc, .int .i64 n.at_] := by rw [hnum, hkl] at bN; exact bN
    have k0 : wc.cell? ⟨gn, 0, none⟩ = some (.int .i64 6) := by rw [← hkind]; exact bN.cell 0
    have hT : nodeW n.kind n.num (tl n.name) (tl n.attr) (n.kids.map tt) = tt x ++ ([32] ++ [60] ++ [32]) ++ tt y := by rw [hkind, hnum, hkx]; rfl
    have hlen2 : l.length + (tt x ++ ([32] ++ [60] ++ [32]) ++ tt y).length ≤ 1000000 := by rw [hT] at hlen; exact hlen
    have HA := hid (cmp_run2 W0.heap.size b (polcs d L) _ hK gw gn _ _ _ _ KA kc x y hs (tt x) (tt y) (hk x (by rw [hkx]; exact List.mem_cons_self ..)) (hk y (by rw [hkx]; exact List.mem_cons_of_mem _ (List.mem_cons_self ..))) l wc ⟨hSc, bW, bN⟩ hIc hBW hlen2)
    have k1 := bA.cell 6
    simp only [List.getElem?_cons_zero, List.getElem?_cons_succ] at k1
    have HT := hid hT
    clear hT bA bN bW b0 b1 b3 b4 b5 b9 b10 b11 hs hkp hcmp hk hM hN
    go_wp2_with fail
    refine HA.out.mono ?_
    rintro e w5 ⟨rfl, r1, r2, r3⟩
    go_wp2_with fail
    go_end0
    exact ⟨rfl, HT.out ▸ r1, (hbel.mono hB).trans r2, OthW.trans2 hoc r3⟩
   ·have bN : Blk wc gn 68 [.int .i64 n.kind, .int .i64 3, .string n.name, .string n.attr, .slice KA 2 kc, .int .i64 n.at_] := by rw [hnum, hkl] at bN; exact bN
    have k0 : wc.cell? ⟨gn, 0, none⟩ = some (.int .i64 6) := by rw [← hkind]; exact bN.cell 0
    have hT : nodeW n.kind n.num (tl n.name) (tl n.attr) (n.kids.map tt) = tt x ++ ([32] ++ [60, 61] ++ [32]) ++ tt y := by rw [hkind, hnum, hkx]; rfl
    have hlen2 : l.length + (tt x ++ ([32] ++ [60, 61] ++ [32]) ++ tt y).length ≤ 1000000 := by rw [hT] at hlen; exact hlen
    have HA := hid (cmp_run3 W0.heap.size b (polcs d L) _ hK gw gn _ _ _ _ KA kc x y hs (tt x) (tt y) (hk x (by rw [hkx]; exact List.mem_cons_self ..)) (hk y (by rw [hkx]; exact List.mem_cons_of_mem _ (List.mem_cons_self ..))) l wc ⟨hSc, bW, bN⟩ hIc hBW hlen2)
    have k1 := bA.cell 6
    simp only [List.getElem?_cons_zero, List.getElem?_cons_succ] at k1
    have HT := hid hT
    clear hT bA bN bW b0 b1 b3 b4 b5 b9 b10 b11 hs hkp hcmp hk hM hN
    go_wp2_with fail
    refine HA.out.mono ?_
    rintro e w5 ⟨rfl, r1, r2, r3⟩
    go_wp2_with fail
    go_end0
    exact ⟨rfl, HT.out ▸ r1, (hbel.mono hB).trans r2, OthW.trans2 hoc r3⟩
   ·have bN : Blk wc gn 68 [.int .i64 n.kind, .int .i64 4, .string n.name, .string n.attr, .slice KA 2 kc, .int .i64 n.at_] := by rw [hnum, hkl] at bN; exact bN
    have k0 : wc.cell? ⟨gn, 0, none⟩ = some (.int .i64 6) := by rw [← hkind]; exact bN.cell 0
    have hT : nodeW n.kind n.num (tl n.name) (tl n.attr) (n.kids.map tt) = tt x ++ ([32] ++ [62] ++ [32]) ++ tt y := by rw [hkind, hnum, hkx]; rfl
    have hlen2 : l.length + (tt x ++ ([32] ++ [62] ++ [32]) ++ tt y).length ≤ 1000000 := by rw [hT] at hlen; exact hlen
    have HA := hid (cmp_run4 W0.heap.size b (polcs d L) _ hK gw gn _ _ _ _ KA kc x y hs (tt x) (tt y) (hk x (by rw [hkx]; exact List.mem_cons_self ..)) (hk y (by rw [hkx]; exact List.mem_cons_of_mem _ (List.mem_cons_self ..))) l wc ⟨hSc, bW, bN⟩ hIc hBW hlen2)
    have k1 := bA.cell 6
    simp only [List.getElem?_cons_zero, List.getElem?_cons_succ] at k1
    have HT := hid hT
    clear hT bA bN bW b0 b1 b3 b4 b5 b9 b10 b11 hs hkp hcmp hk hM hN
    go_wp2_with fail
    refine HA.out.mono ?_
    rintro e w5 ⟨rfl, r1, r2, r3⟩
    go_wp2_with fail
    go_end0
    exact ⟨rfl, HT.out ▸ r1, (hbel.mono hB).trans r2, OthW.trans2 hoc r3⟩
   ·have bN : Blk wc gn 68 [.int .i64 n.kind, .int .i64 5, .string n.name, .string n.attr, .slice KA 2 kc, .int .i64 n.at_] := by rw [hnum, hkl] at bN; exact bN
    have k0 : wc.cell? ⟨gn, 0, none⟩ = some (.int .i64 6) := by rw [← hkind]; exact bN.cell 0
    have hT : nodeW n.kind n.num (tl n.name) (tl n.attr) (n.kids.map tt) = tt x ++ ([32] ++ [62, 61] ++ [32]) ++ tt y := by rw [hkind, hnum, hkx]; rfl
    have hlen2 : l.length + (tt x ++ ([32] ++ [62, 61] ++ [32]) ++ tt y).length ≤ 1000000 := by rw [hT] at hlen; exact hlen
    have HA := hid (cmp_run5 W0.heap.size b (polcs d L) _ hK gw gn _ _ _ _ KA kc x y hs (tt x) (tt y) (hk x (by rw [hkx]; exact List.mem_cons_self ..)) (hk y (by rw [hkx]; exact List.mem_cons_of_mem _ (List.mem_cons_self ..))) l wc ⟨hSc, bW, bN⟩ hIc hBW hlen2)
    have k1 := bA.cell 6
    simp only [List.getElem?_cons_zero, List.getElem?_cons_succ] at k1
    have HT := hid hT
    clear hT bA bN bW b0 b1 b3 b4 b5 b9 b10 b11 hs hkp hcmp hk hM hN
    go_wp2_with fail
    refine HA.out.mono ?_
    rintro e w5 ⟨rfl, r1, r2, r3⟩
    go_wp2_with fail
    go_end0
    exact ⟨rfl, HT.out ▸ r1, (hbel.mono hB).trans r2, OthW.trans2 hoc r3⟩
  ·as_aux_lemma =>
   obtain ⟨x, y, z, hkx⟩ := len3w (l := n.kids) (of_decide_eq_true (by rw [hkind] at hkp; exact hkp))
   have hkl : n.kids.length = 3 := by rw [hkx]; rfl
   rw [hkx] at hs
   have bN : Blk wc gn 68 [.int .i64 n.kind, .int .i64 n.num, .string n.name, .string n.attr, .slice KA 3 kc, .int .i64 n.at_] := by rw [hkl] at bN; exact bN
   have k0 : wc.cell? ⟨gn, 0, none⟩ = some (.int .i64 7) := by rw [← hkind]; exact bN.cell 0
   have hT : nodeW n.kind n.num (tl n.name) (tl n.attr) (n.kids.map tt) = tt x ++ ([32] ++ [98, 101, 116, 119, 101, 101, 110] ++ [32]) ++ tt y ++ [32, 97, 110, 100, 32] ++ tt z := by rw [hkind, hkx]; rfl
   have hlen2 : l.length + (tt x ++ ([32] ++ [98, 101, 116, 119, 101, 101, 110] ++ [32]) ++ tt y ++ [32, 97, 110, 100, 32] ++ tt z).length ≤ 1000000 := by rw [hT] at hlen; exact hlen
   have HA := hid (between_run W0.heap.size b (polcs d L) _ hK gw gn _ _ _ _ _ KA kc x y z hs (tt x) (tt y) (tt z) (hk x (by rw [hkx]; exact List.mem_cons_self ..)) (hk y (by rw [hkx]; exact List.mem_cons_of_mem _ (List.mem_cons_self ..))) (hk z (by rw [hkx]; exact List.mem_cons_of_mem _ (List.mem_cons_of_mem _ (List.mem_cons_self ..)))) l wc ⟨hSc, bW, bN⟩ hIc hBW hlen2)
   have k1 := bA.cell 7
   simp only [List.getElem?_cons_zero, List.getElem?_cons_succ] at k1
   have HT := hid hT
   clear hT bA bN bW b0 b1 b3 b4 b5 b9 b10 b11 hs hkp hcmp hk hM hN
   go_wp2_with fail
   refine HA.out.mono ?_
   rintro e w5 ⟨rfl, r1, r2, r3⟩
   go_wp2_with fail
   go_end0
   exact ⟨rfl, HT.out ▸ r1, (hbel.mono hB).trans r2, OthW.trans2 hoc r3⟩
  ·as_aux_lemma =>
   obtain ⟨x, ks, hkx, hk1⟩ := len2w' (l := n.kids) (of_decide_eq_true (by rw [hkind] at hkp; exact hkp))
   have hkl : n.kids.length = ks.length + 1 := by rw [hkx]; rfl
   have hkb := hb.kids
   have hcap2 : ks.length + 1 ≤ kc := by rw [← hkl]; exact hN.cap
   rw [hkx] at hs
   obtain ⟨ad2, rfl, -⟩ := hs wc hSc 0 x rfl
   have bN : Blk wc gn 68 [.int .i64 n.kind, .int .i64 n.num, .string n.name, .string n.attr, .slice (some ad2) (ks.length + 1) kc, .int .i64 n.at_] := by rw [hkl] at bN; exact bN
   have k0 : wc.cell? ⟨gn, 0, none⟩ = some (.int .i64 8) := by rw [← hkind]; exact bN.cell 0
   have hT : nodeW n.kind n.num (tl n.name) (tl n.attr) (n.kids.map tt) = tt x ++ [32, 105, 110, 32, 123] ++ cms (ks.map tt) ++ [125] := by rw [hkind, hkx]; rfl
   have hlen2 : l.length + (tt x ++ [32, 105, 110, 32, 123] ++ cms (ks.map tt) ++ [125]).length ≤ 1000000 := by rw [hT] at hlen; exact hlen
   have HA := hid (in_run W0.heap.size b (polcs d L) _ hK gw gn _ _ _ _ _ ad2 kc x ks hs (by omega) hk1 hcap2 tt (fun z hz => hk z (by rw [hkx]; exact hz)) l wc ⟨hSc, bW, bN⟩ hIc hBW hlen2)
   have k1 := bA.cell 8
   simp only [List.getElem?_cons_zero, List.getElem?_cons_succ] at k1
   have HT := hid hT
   clear hT bA bN bW b0 b1 b3 b4 b5 b9 b10 b11 hs hkp hcmp hk hM hN
   go_wp2_with fail
   refine HA.out.mono ?_
   rintro e w5 ⟨rfl, r1, r2, r3⟩
   go_wp2_with fail
   go_end0
   exact ⟨rfl, HT.out ▸ r1, (hbel.mono hB).trans r2, OthW.trans2 hoc r3⟩
  ·as_aux_lemma =>
   have k0 : wc.cell? ⟨gn, 0, none⟩ = some (.int .i64 9) := by rw [← hkind]; exact bN.cell 0
   have hT : nodeW n.kind n.num (tl n.name) (tl n.attr) (n.kids.map tt) = (tl n.name ++ [46] ++ tl n.attr) := by rw [hkind]; rfl
   have hlen2 : l.length + ((tl n.name ++ [46] ++ tl n.attr)).length ≤ 1000000 := by rw [hT] at hlen; exact hlen
   have HA := hid (word_run W0.heap.size b (polcs d L) gw g9 (tl n.name ++ [46] ++ tl n.attr) _ (cat_dot ..) l wc ⟨bW, b9⟩ hIc hBW hlen2)
   have k1 := bA.cell 9
   simp only [List.getElem?_cons_zero, List.getElem?_cons_succ] at k1
   have HT := hid hT
   clear hT bA bN bW b0 b1 b3 b4 b5 b9 b10 b11 hs hkp hcmp hk hM hN
   go_wp2_with fail
   refine HA.out.mono ?_
   rintro e w5 ⟨rfl, r1, r2, r3⟩
   go_wp2_with fail
   go_end0
   exact ⟨rfl, HT.out ▸ r1, (hbel.mono hB).trans r2, OthW.trans2 hoc r3⟩
  ·as_aux_lemma =>
   have k0 : wc.cell? ⟨gn, 0, none⟩ = some (.int .i64 10) := by rw [← hkind]; exact bN.cell 0
   have hT : nodeW n.kind n.num (tl n.name) (tl n.attr) (n.kids.map tt) = (Lib.itoa n.num) := by rw [hkind]; rfl
   have hlen2 : l.length + ((Lib.itoa n.num)).length ≤ 1000000 := by rw [hT] at hlen; exact hlen
   have HA := hid (word_run W0.heap.size b (polcs d L) gw g10 (Lib.itoa n.num) _ (rfl) l wc ⟨bW, b10⟩ hIc hBW hlen2)
   have k1 := bA.cell 10
   simp only [List.getElem?_cons_zero, List.getElem?_cons_succ] at k1
   have HT := hid hT
   clear hT bA bN bW b0 b1 b3 b4 b5 b9 b10 b11 hs hkp hcmp hk hM hN
   go_wp2_with fail
   refine HA.out.mono ?_
   rintro e w5 ⟨rfl, r1, r2, r3⟩
   go_wp2_with fail
   go_end0
   exact ⟨rfl, HT.out ▸ r1, (hbel.mono hB).trans r2, OthW.trans2 hoc r3⟩
  ·as_aux_lemma =>
   have k0 : wc.cell? ⟨gn, 0, none⟩ = some (.int .i64 11) := by rw [← hkind]; exact bN.cell 0
   have hT : nodeW n.kind n.num (tl n.name) (tl n.attr) (n.kids.map tt) = ([39] ++ tl n.name ++ [39]) := by rw [hkind]; rfl
   have hlen2 : l.length + (([39] ++ tl n.name ++ [39])).length ≤ 1000000 := by rw [hT] at hlen; exact hlen
   have HA := hid (word_run W0.heap.size b (polcs d L) gw g11 ([39] ++ tl n.name ++ [39]) _ (cat_quote ..) l wc ⟨bW, b11⟩ hIc hBW hlen2)
   have k1 := bA.cell 11
   simp only [List.getElem?_cons_zero, List.getElem?_cons_succ] at k1
   have HT := hid hT
   clear hT bA bN bW b0 b1 b3 b4 b5 b9 b10 b11 hs hkp hcmp hk hM hN
   go_wp2_with fail
   refine HA.out.mono ?_
   rintro e w5 ⟨rfl, r1, r2, r3⟩
   go_wp2_with fail
   go_end0
   exact ⟨rfl, HT.out ▸ r1, (hbel.mono hB).trans r2, OthW.trans2 hoc r3⟩
end Go.Proofs.YtekkapgknohadaaGreatDoor
