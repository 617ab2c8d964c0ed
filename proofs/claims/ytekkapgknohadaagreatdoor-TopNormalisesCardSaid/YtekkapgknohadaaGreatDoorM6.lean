/- The lexer: Scan. -/
import Derived.Test.YtekkapgknohadaaGreatDoorM5
import Derived.Great.BuildSlice
import Derived.LoopN
set_option linter.unusedVariables false
set_option maxRecDepth 100000
set_option maxHeartbeats 2000000
namespace Go.Proofs.YtekkapgknohadaaGreatDoor
open Go.RowKit
open Lib (hid)
section
variable {P : Program}
theorem run_loadVar_part (w : World) (g off : Nat) (ty : TypeId) (cs : List Value) (d : TypeDesc) (hg : ∀ j v, cs[j]? = some v → w.cell? ⟨g, off + j, none⟩ = some v)
 (hu : P.underlying ty = some d) (hd : (match d with | .struct _ | .array _ _ => true | _ => false) = true) (hi : (P.info? ty).map (·.size) = some cs.length) :
 (loadVar ty ⟨g, off, none⟩).run P w = .ok (.agg cs.toArray) w := by
 have hl : (loadCells ⟨g, off, none⟩ cs.length).run P w = .ok cs.toArray w :=
  run_loadCells_list (P := P) w ⟨g, off, none⟩ cs (fun j v hv => by
   have hadd : (⟨g, off, none⟩ : Addr).add j = ⟨g, off + j, none⟩ := by unfold Addr.add; split <;> simp_all
   rw [hadd]
   exact hg j v hv)
 cases hq : P.info? ty with
 | none => simp [hq] at hi
 | some i =>
  have hs : i.size = cs.length := by simpa [hq] using hi
  have hagg : (isAgg ty).run P w = .ok true w := by
   unfold isAgg
   rw [Sem.run_bind, run_underlying hu w]
   cases d <;> simp_all
  simp [loadVar, Sem.run_bind, hagg, sizeOf, typeInfo, hq, hs, hl]
theorem wpList_load_part {ops : Array Oper} {rest : List Oper} {o : Oper} {a : Act} {w : World} {Q : Exit → Act → World → Prop} (hgd : o.guard = none) (ty : TypeId) (x : Operand) (ho : o.op = .load ty x)
 (g off : Nat) (hx : a.eval x = .pointer (some ⟨g, off, none⟩)) (cs : List Value) (d : TypeDesc) (hg : ∀ j v, cs[j]? = some v → w.cell? ⟨g, off + j, none⟩ = some v)
 (hu : P.underlying ty = some d) (hd : (match d with | .struct _ | .array _ _ => true | _ => false) = true) (hi : (P.info? ty).map (·.size) = some cs.length)
 (h : wpList P ops Q rest (a.put o.dst (.agg cs.toArray)) w) : wpList P ops Q (o :: rest) a w :=
 wpList_plain hgd fun _ hK => by
  unfold Oper.wp execOp
  simp only [ho, hx, Instr.loadAt, Instr.sureAddr, Sem.run_bind, Sem.run_pure, Result.andThen_ok, run_loadVar_part w g off ty cs d hg hu hd hi]
  exact hK _ _ h
end
def scn0 : List Value := .string ⟨#[]⟩ :: (zeroL ++ [.int .i64 0])
theorem scn_fold (s : ByteArray) : List.foldl (fun (cs : Array Value) (x : Value × Nat) => cs.setIfInBounds (1 + x.snd) x.fst) (scn0.toArray.setIfInBounds 0 (.string s)) tabV.zipIdx = (scnL s 0).toArray := by kernel_rfl
theorem scn_tab {w : World} {g : Nat} {s : ByteArray} {a : Nat} (h : Scn w g s a) : ∀ j v, tabV[j]? = some v → w.cell? ⟨g, 1 + j, none⟩ = some v := by
 intro j v hv
 have h2 : tabV.length = 256 := by simp [tabV]
 have h3 : j < tabV.length := (List.getElem?_eq_some_iff.1 hv).1
 rw [h.cell, scnL, Nat.add_comm 1 j, List.getElem?_cons_succ, List.getElem?_append_left h3]
 exact hv
theorem sk_zero (l : List UInt8) (a : Nat) : Lx.sk false (l.drop (a + Lx.sk false (l.drop a))) = 0 := by
 obtain ⟨b', h1, h2⟩ := Lx.sk_own (l.drop a)
 rw [List.drop_drop] at h2
 cases b' with
 | false => exact h2
 | true => rw [Lx.sk_true_pos h2]; rfl
def tokL (l : List Lx.Tok) : List Value := l.flatMap fun t => [.int .i64 (t.kind : Int), .string (bs t.text), .int .i64 (t.at_ : Int)]
theorem tokL_len (l : List Lx.Tok) : (tokL l).length = l.length * 3 := by
 induction l with
 | nil => rfl
 | cons t l ih => simp only [tokL, List.flatMap_cons, List.length_append, List.length_cons, List.length_nil] at ih ⊢; omega
theorem tokL_snoc (l : List Lx.Tok) (t : Lx.Tok) : tokL (l ++ [t]) = tokL l ++ [.int .i64 (t.kind : Int), .string (bs t.text), .int .i64 (t.at_ : Int)] := by simp [tokL]
def frmL (g : Nat) : List Value := [.func (.func 66) #[.pointer (some ⟨g, 0, none⟩)] #[], .func (.func 67) #[.pointer (some ⟨g, 0, none⟩)] #[], .func (.func 68) #[.pointer (some ⟨g, 0, none⟩)] #[], .func (.func 69) #[.pointer (some ⟨g, 0, none⟩)] #[]]
structure LS (w : World) (g : Nat) (s : ByteArray) (a : Nat) (v : Value) (out : List Lx.Tok) (W : World) : Prop where
 scn : Scn W g s a
 tab : Blk W (g + 1) 147 tabV
 frm : Blk W (g + 1 + 1) 152 (frmL g)
 own : W.ownsRow (g + 3) 154 3 v out.length (tokL out)
 below : Below w.heap.size w W
 hg : w.heap.size ≤ g
def ScanPost (s : ByteArray) (w : World) (e : Ending) (w' : World) : Prop := match Lx.sc (tl s) with
 | .ok ts => ∃ v, e = .returned (.tuple #[v, .int .i64 0, .int .i64 0]) ∧ w'.ownsRow w.heap.size 154 3 v ts.length (tokL ts) ∧ Below w.heap.size w w'
 | .err a n => e = .returned (.tuple #[.slice none 0 0, .int .i64 (a : Int), .int .i64 (n : Int)]) ∧ Below w.heap.size w w'
def ScRel (w : World) (g : Nat) (s : ByteArray) (v : Value) (W : World) : Prop := ∃ a out, LS w g s a v out W ∧ Lx.SI (tl s) a out ∧ out.length ≤ a
theorem LS.start {w w1 : World} {s : ByteArray} {S T Z : List Value} (hb : Below w.heap.size w w1) (hS : S = scnL s 0) (hT : T = tabV) (hZ : Z = zeroL) (o : Array Value) :
 LS w w1.heap.size s 0 (.slice none 0 0) [] (((((w1.alloc (.cells S.toArray 150)).alloc (.cells Z.toArray 147)).setRow (w1.heap.size + 1) T.toArray).alloc (.cells o 152)).setRow (w1.heap.size + 1 + 1) (frmL w1.heap.size).toArray) := by
 subst hS hT hZ
 have e2 : (((w1.alloc (.cells (scnL s 0).toArray 150)).alloc (.cells zeroL.toArray 147)).setRow (w1.heap.size + 1) tabV.toArray).heap.size = w1.heap.size + 1 + 1 := by simp
 have hsz := hb.size
 refine ⟨?_, ?_, ?_, World.ownsRow_nil _ _ _ _, ?_, hb.size⟩
 ·unfold Scn Blk
  rw [setRow_other _ _ _ _ (by omega), Below.heap_alloc _ _ _ (by rw [e2]; omega), setRow_other _ _ _ _ (by omega)]
  exact (Blk.new w1 150 (scnL s 0)).alloc _
 ·unfold Blk
  rw [setRow_other _ _ _ _ (by omega), Below.heap_alloc _ _ _ (by rw [e2]; omega)]
  exact setRow_heap _ _ _ _ _ _ (heap_alloc2_new _ _ _)
 ·unfold Blk
  refine setRow_heap _ _ o _ _ _ ?_
  rw [← e2]
  exact heap_alloc_new _ _
 ·refine below_setRow (Below.alloc (below_setRow ((hb.alloc hsz _).alloc (by simp; omega) _) (by omega) _) (by rw [e2]; omega) _) (by omega) _
theorem LS.far {w : World} {g : Nat} {s : ByteArray} {a : Nat} {v : Value} {out : List Lx.Tok} {W : World} (h : LS w g s a v out W) : v.ownBlock = none ∨ v.ownBlock ≠ some g := by
 cases hv : v.ownBlock with
 | none => exact .inl rfl
 | some k => exact .inr (by intro h2; have := (h.own.lt k hv).1; simp at h2; omega)
theorem LS.grow {w : World} {g : Nat} {s : ByteArray} {a b : Nat} {v : Value} {out : List Lx.Tok} {W W' : World} (h : LS w g s a v out W) (hS : Scn W' g s b) (hg : W.grownBy W' (some g)) : LS w g s b v out W' :=
 ⟨hS, (hg.block _ h.tab.lt (by simp)).trans h.tab, (hg.block _ h.frm.lt (by simp; omega)).trans h.frm, h.own.kept hg h.far, h.below.grown hg (Nat.le_trans h.hg (Nat.le_of_lt h.scn.lt)) (fun k hk => by cases hk; exact h.hg), h.hg⟩
theorem LS.next {w : World} {g : Nat} {s : ByteArray} {a : Nat} {v : Value} {out : List Lx.Tok} {W W' : World} (h : LS w g s a v out W) (hb : Below W.heap.size W W') : LS w g s a v out W' :=
 h.grow (h.scn.below hb h.scn.lt) (gb_below hb)
theorem LS.setAt {w : World} {g : Nat} {s : ByteArray} {a : Nat} {v : Value} {out : List Lx.Tok} {W : World} (h : LS w g s a v out W) (b : Nat) : LS w g s b v out (W.setCell ⟨g, 257, none⟩ (.int .i64 (b : Int))) :=
 h.grow (h.scn.set b) (gb_set _)
theorem LS.push {w : World} {g : Nat} {s : ByteArray} {a : Nat} {v v' : Value} {out : List Lx.Tok} {W W' : World} (t : Lx.Tok) (o : Obj) (h : LS w g s a v out W) (hown : W'.ownsRow (g + 3) 154 3 v' (out.length + 1) (tokL out ++ [.int .i64 (t.kind : Int), .string (bs t.text), .int .i64 (t.at_ : Int)])) (hg : (W.alloc o).grownBy W' v.ownBlock) : LS w g s a v' (out ++ [t]) W' := by
 have hlt := h.scn.lt
 have htl := h.tab.lt
 have hfl := h.frm.lt
 have hne : ∀ k, k < g + 3 → some k ≠ v.ownBlock := fun k hk h2 => by have := (h.own.lt k h2.symm).1; omega
 refine ⟨(hg.block _ (by simp; omega) (hne g (by omega))).trans (h.scn.alloc o), (hg.block _ (by simp; omega) (hne _ (by omega))).trans (h.tab.alloc o), (hg.block _ (by simp; omega) (hne _ (by omega))).trans (h.frm.alloc o), ?_, ?_, h.hg⟩
 ·rw [tokL_snoc, List.length_append]
  exact hown
 ·exact (h.below.alloc (by have := h.hg; omega) o).grown hg (by have := h.hg; simp; omega) (fun k hk => by have := (h.own.lt k hk).1; have := h.hg; omega)
theorem ext_str (s : ByteArray) (b n : Nat) : Value.string (s.extract b (b + n)) = .string (bs (((tl s).drop b).take n)) := by rw [← bs_tl (s.extract b (b + n)), zbo, Nat.add_sub_cancel_left]
theorem tok_info : (Tryz.prog.info? 154).map (fun i => (i.zero, i.size, i.bytes)) = some (some (.agg #[.int .i64 0, .string ⟨#[]⟩, .int .i64 0]), 3, 32) := by kernel_rfl
theorem addr_add (g o i : Nat) : (⟨g, o, none⟩ : Addr).add i = ⟨g, o + i, none⟩ := by unfold Addr.add; split <;> simp_all
theorem new3 (W : World) (t : TypeId) (x y z : Value) : ∀ j u, [x, y, z][j]? = some u → (W.alloc (.cells #[x, y, z] t)).cell? ((⟨W.heap.size, 0, none⟩ : Addr).add j) = some u := by
 intro j u hu
 rw [addr_add, Nat.zero_add]
 exact ((Blk.new W t [x, y, z]).cell j).trans hu
theorem ScanPost.ok {s : ByteArray} {w w' : World} {v : Value} {ts : List Lx.Tok} {b : Nat} (h : Lx.sc (tl s) = .ok ts) (hown : w'.ownsRow b 154 3 v ts.length (tokL ts)) (hb : w.heap.size ≤ b) (hbe : Below w.heap.size w w') : ScanPost s w (.returned (.tuple #[v, .int .i64 0, .int .i64 0])) w' := by
 unfold ScanPost
 rw [h]
 exact ⟨v, rfl, Joins.ownsRow_le hown hb, hbe⟩
theorem ScanPost.err {s : ByteArray} {w w' : World} {a n : Nat} {x y : Int} (h : Lx.sc (tl s) = .err a n) (hx : x = a) (hy : y = n) (hbe : Below w.heap.size w w') : ScanPost s w (.returned (.tuple #[.slice none 0 0, .int .i64 x, .int .i64 y])) w' := by
 unfold ScanPost
 rw [h, hx, hy]
 exact ⟨rfl, hbe⟩
theorem scan_any (s : ByteArray) (w : World) (hs : s.size ≤ 65536) : Calls Tryz.prog 23 #[.string s] w (ScanPost s w) := by
 obtain ⟨T, hT⟩ : ∃ T, T = tabV := ⟨_, rfl⟩
 obtain ⟨S, hS⟩ : ∃ S, S = scnL s 0 := ⟨_, rfl⟩
 obtain ⟨Z, hZ⟩ : ∃ Z, Z = zeroL := ⟨_, rfl⟩
 obtain ⟨Z4, hZ4⟩ : ∃ Z, Z = scn0.toArray := ⟨_, rfl⟩
 have hfold : List.foldl (fun (cs : Array Value) (x : Value × Nat) => cs.setIfInBounds (1 + x.snd) x.fst) (Z4.setIfInBounds 0 (.string s)) T.zipIdx = S.toArray := by rw [hT, hS, hZ4]; exact scn_fold s
 have hT6 : T.toArray.size = 256 := by rw [hT]; kernel_rfl
 have hT7 : T.length = 256 := by rw [hT]; kernel_rfl
 have hZ6 : Z.toArray.size = T.toArray.size := by rw [hT6, hZ]; kernel_rfl
 have hZ46 : Z4.size = 258 := by rw [hZ4]; kernel_rfl
 have hne : (Z4 = #[]) = False := by rw [eq_iff_iff, iff_false]; intro h; rw [h] at hZ46; exact absurd hZ46 (by decide)
 have hcl : ∀ W : World, Calls Tryz.prog 65 #[] W fun e w' => e = .returned (.agg T.toArray) ∧ Below W.heap.size W w' := by rw [hT]; exact classes_any
 have hz : ∀ W : World, (zeroValue 147).run Tryz.prog W = .ok (.agg Z.toArray) W := fun _ => by rw [hZ]; kernel_rfl
 have hz4 : ∀ W : World, (zeroValue 150).run Tryz.prog W = .ok (.agg Z4) W := fun _ => by rw [hZ4]; kernel_rfl
 have h1c : T.toArray.all (·.oneCell') = true := by rw [hT]; kernel_rfl
 have hsz : (Tryz.prog.info? 147).map (·.size) = some T.length := by rw [hT7]; kernel_rfl
 have hsz2 : (Tryz.prog.info? 147).map (·.size) = some T.toArray.size := by rw [hT6]; kernel_rfl
 have HC := hid hcl
 have HS := hid hS
 have HT := hid hT
 have HZ := hid hZ
 have HZ6 := hid hZ6
 have H1 := hid h1c
 have HSZ := hid hsz
 have HSZ2 := hid hsz2
 clear hcl hS hT hZ hZ4 hZ6 h1c hsz hsz2
 go_enter Tryz.func23, Tryz.ntmps23
 go_wp2_with fail
 go_step3
 go_wp2_with fail
 refine (HC.out _).mono ?_
 rintro e w1 ⟨rfl, hb1⟩
 have hp : Hid (∀ j v, T[j]? = some v → (w1.alloc (.cells S.toArray 150)).cell? ⟨w1.heap.size, 1 + j, none⟩ = some v) := by
  have h := scn_tab (Blk.new w1 150 (scnL s 0))
  rw [← HS.out, ← HT.out] at h
  exact h
 have hq : Hid (((w1.alloc (.cells S.toArray 150)).alloc (.cells Z.toArray 147)).heap[w1.heap.size + 1]? = some (.cells Z.toArray 147 (0, 0))) := heap_alloc2_new _ _ _
 have hr : Hid (((((w1.alloc (.cells S.toArray 150)).alloc (.cells Z.toArray 147)).setRow (w1.heap.size + 1) T.toArray).alloc (.cells #[.nilFunc, .nilFunc, .nilFunc, .nilFunc] 152)).heap[w1.heap.size + 1 + 1]? = some (.cells #[.nilFunc, .nilFunc, .nilFunc, .nilFunc] 152 (0, 0))) := by
  have e : (((w1.alloc (.cells S.toArray 150)).alloc (.cells Z.toArray 147)).setRow (w1.heap.size + 1) T.toArray).heap.size = w1.heap.size + 1 + 1 := by simp
  show _ = _
  rw [← e]
  exact heap_alloc_new _ _
 have hfr1 : Hid ((Tryz.prog.info? 152).map (·.size) = some (frmL w1.heap.size).toArray.size) := hid (by kernel_rfl)
 have hfr2 : Hid ((#[.nilFunc, .nilFunc, .nilFunc, .nilFunc] : Array Value).size = (frmL w1.heap.size).toArray.size) := rfl
 have hfr3 : Hid ((frmL w1.heap.size).toArray.all (·.oneCell') = true) := hid (by kernel_rfl)
 go_wp2_with (first | (refine wpList_load_part rfl 147 (.tmp 24) rfl w1.heap.size 1 rfl T _ hp.out Tryz.underlying147 rfl HSZ.out ?_) | (refine wpList_store_row rfl 147 (.tmp 6) (.tmp 25) rfl (w1.heap.size + 1) T.toArray rfl rfl 147 Z.toArray hq.out HSZ2.out HZ6.out H1.out ?_) | (refine wpList_store_row rfl 152 (.tmp 7) (.tmp 34) rfl (w1.heap.size + 1 + 1) (frmL w1.heap.size).toArray rfl rfl 152 #[.nilFunc, .nilFunc, .nilFunc, .nilFunc] hr.out hfr1.out hfr2.out hfr3.out ?_))
 have hL := LS.start hb1 HS.out HT.out HZ.out #[.nilFunc, .nilFunc, .nilFunc, .nilFunc]
 clear hp hq hr hfr1 hfr2 hfr3 HS HT HZ HZ6 H1 HSZ HSZ2 HC hfold hT6 hT7 hZ46 hne hz hz4
 have hsz1 := hb1.size
 clear hb1
 generalize ((((w1.alloc (.cells S.toArray 150)).alloc (.cells Z.toArray 147)).setRow (w1.heap.size + 1) T.toArray).alloc (.cells #[.nilFunc, .nilFunc, .nilFunc, .nilFunc] 152)).setRow (w1.heap.size + 1 + 1) (frmL w1.heap.size).toArray = W0 at *
 generalize w1.heap.size = g at *
 go_step3
 go_wp2_with fail
 go_loopw [8] (ScRel w g s) (fun _ W => s.size - atOf g W)
 case atStart => exact ⟨0, [], hL, Lx.SI.start _, Nat.le_refl _⟩
 case round =>
  clear hL
  obtain ⟨a, out, hL, hI, hol⟩ := hrel
  have HM := hid (zb3 hL.scn)
  have hle := hI.le
  rw [zab] at hle
  go_wp2_with fail
  refine (skip_any g s a _ hL.scn hs hle).mono ?_
  rintro e w2 ⟨rfl, hS2, hg2⟩
  have hL2 := hL.grow hS2 hg2
  have hI2 := hI.skipAll
  have hk2 := hid (sk_zero (tl s) a)
  clear hL hI hS2 hg2
  have hab : a ≤ a + Lx.sk false ((tl s).drop a) := Nat.le_add_right _ _
  generalize a + Lx.sk false ((tl s).drop a) = b at *
  have hle2 := hI2.le
  rw [zab] at hle2
  have c2 : w2.cell? ⟨g, 257, none⟩ = some (.int .i64 (b : Int)) := (hL2.scn.cell _).trans (zaq s b)
  obtain ⟨i0, hi0, hz0, hz1, hz2⟩ := info_parts tok_info
  by_cases hend : b = s.size
  ·have h1 : ((b : Int) == (s.size : Int)) = true := by simp; omega
   have HE := hid hend
   clear hend
   go_wp2_with (first | (at_builtin; refine wpList_append_own _ rfl _ _ 73 rfl (g + 3) 154 i0 _ 3 32 Tryz.underlying73 hi0 hz0 hz1 hz2 rfl (by decide) _ _ _ rfl (hL2.own.alloc _) ⟨w2.heap.size, 0, none⟩ 1 1 [.int .i64 3, .string ⟨#[]⟩, .int .i64 (b : Int)] rfl rfl (new3 _ _ _ _ _) ?c2 ?c3 ?c4 ?c5 ?_))
   case c2 => intro u hu; simp at hu; rcases hu with rfl | rfl | rfl <;> rfl
   case c3 => unfold maxLen; omega
   case c4 => omega
   case c5 => have := hL2.frm.lt; simp; omega
   intro v' w3 hown3 hg3 _
   have hL3 := hL2.push ⟨3, [], b⟩ _ hown3 hg3
   clear hown3 hg3
   go_wp2_with fail
   rw [Exit.noGoto_ret]
   go_ret3
   exact ScanPost.ok (hI2.atEnd (by rw [zab]; exact HE.out)) hL3.own (by omega) hL3.below
  ·have h1 : ((b : Int) == (s.size : Int)) = false := by simp; omega
   have hb : b < s.size := by omega
   clear hend
   have hfi : Hid ((Tryz.prog.info? 152).map (·.size) = some (frmL g).toArray.size) := hid (by kernel_rfl)
   have hO := out_of g s b hs hb
   go_wp2_with (refine wpList_load_row rfl 152 (.tmp 7) rfl (g + 1 + 1) rfl 152 (frmL g).toArray (0, 0) _ hL2.frm Tryz.underlying152 rfl hfi.out ?_)
   refine wp_loop_rounds 5 ?_
   rw [rounds_succ]
   have hix0 : ∀ W : World, (Instr.index 152 (.agg (frmL g).toArray) (.int .i64 0)).run Tryz.prog W = .ok (.func (.func 66) #[.pointer (some ⟨g, 0, none⟩)] #[]) W := fun _ => by kernel_rfl
   have hix1 : ∀ W : World, (Instr.index 152 (.agg (frmL g).toArray) (.int .i64 1)).run Tryz.prog W = .ok (.func (.func 67) #[.pointer (some ⟨g, 0, none⟩)] #[]) W := fun _ => by kernel_rfl
   have hix2 : ∀ W : World, (Instr.index 152 (.agg (frmL g).toArray) (.int .i64 2)).run Tryz.prog W = .ok (.func (.func 68) #[.pointer (some ⟨g, 0, none⟩)] #[]) W := fun _ => by kernel_rfl
   have hix3 : ∀ W : World, (Instr.index 152 (.agg (frmL g).toArray) (.int .i64 3)).run Tryz.prog W = .ok (.func (.func 69) #[.pointer (some ⟨g, 0, none⟩)] #[]) W := fun _ => by kernel_rfl
   cases hO with
   | err0 e he h0 ht =>
    have he2 : ((e : Int) != 0) = true := by simp; omega
    have H0 := hid h0
    clear h0 hix1 hix2 hix3
    go_wp2_with fail
    refine (H0.out _ hL2.scn).mono ?_
    rintro e' w3 ⟨rfl, hb3⟩
    go_wp2_with fail
    rw [Exit.noGoto_ret]
    go_ret3
    exact ScanPost.err (hI2.error (by rw [zab]; exact hb) hk2.out ht) rfl rfl (hL2.next hb3).below
   | err1 e he h0 h1 ht =>
    have he2 : ((e : Int) != 0) = true := by simp; omega
    have H0 := hid h0
    have H1 := hid h1
    clear h0 h1 c2
    go_wp2_with fail
    refine (H0.out _ hL2.scn).mono ?_
    rintro e' w3 ⟨rfl, hb3⟩
    have hL3 := hL2.next hb3
    clear hb3 hL2
    go_wp2_with fail
    rw [rounds_succ]
    go_wp2_with fail
    refine (H1.out _ hL3.scn).mono ?_
    rintro e' w4 ⟨rfl, hb4⟩
    go_wp2_with fail
    rw [Exit.noGoto_ret]
    go_ret3
    exact ScanPost.err (hI2.error (by rw [zab]; exact hb) hk2.out ht) rfl rfl (hL3.next hb4).below
   | err2 e he h0 h1 h2 ht =>
    have he2 : ((e : Int) != 0) = true := by simp; omega
    have H0 := hid h0
    have H1 := hid h1
    have H2 := hid h2
    clear h0 h1 h2 c2
    go_wp2_with fail
    refine (H0.out _ hL2.scn).mono ?_
    rintro e' w3 ⟨rfl, hb3⟩
    have hL3 := hL2.next hb3
    clear hb3 hL2
    go_wp2_with fail
    rw [rounds_succ]
    go_wp2_with fail
    refine (H1.out _ hL3.scn).mono ?_
    rintro e' w4 ⟨rfl, hb4⟩
    have hL4 := hL3.next hb4
    clear hb4 hL3
    go_wp2_with fail
    rw [rounds_succ]
    go_wp2_with fail
    refine (H2.out _ hL4.scn).mono ?_
    rintro e' w5 ⟨rfl, hb5⟩
    go_wp2_with fail
    rw [Exit.noGoto_ret]
    go_ret3
    exact ScanPost.err (hI2.error (by rw [zab]; exact hb) hk2.out ht) rfl rfl (hL4.next hb5).below
   | tok0 k n hk h0 ht =>
    have hk2' : ((k : Int) == 1) = false := by simp; omega
    have hng : ¬ (k = 1 ∧ Lx.luAt ((tl s).drop (b + n)) = true) := fun h => hk h.1
    have HN := hid hng
    clear hng
    have H0 := hid h0
    clear h0 c2
    have hln := Lx.tk_len ht
    rw [List.length_drop, zab] at hln
    have hne : (((b : Int) + n) == (b : Int)) = false := by simp; omega
    have HT := hid ht
    go_wp2_with fail
    refine (H0.out _ hL2.scn).mono ?_
    rintro e' w3 ⟨rfl, hb3⟩
    have hL3 := hL2.next hb3
    clear hb3 hL2
    go_wp2_with (first | (at_builtin; refine wpList_append_own _ rfl _ _ 73 rfl (g + 3) 154 i0 _ 3 32 Tryz.underlying73 hi0 hz0 hz1 hz2 rfl (by decide) _ _ _ rfl (hL3.own.alloc _) ⟨w3.heap.size, 0, none⟩ 1 1 [.int .i64 (k : Int), .string (s.extract b (b + n)), .int .i64 (b : Int)] rfl rfl (new3 _ _ _ _ _) ?c2 ?c3 ?c4 ?c5 ?_))
    case c2 => intro u hu; simp at hu; rcases hu with rfl | rfl | rfl <;> rfl
    case c3 => unfold maxLen; omega
    case c4 => omega
    case c5 => have := hL3.frm.lt; simp; omega
    intro v' w4 hown hg _
    rw [ext_str s b n] at hown hg
    have hL4 := hL3.push ⟨k, ((tl s).drop b).take n, b⟩ _ hown hg
    clear hown hg hL3
    have d2 : w4.cell? ⟨g, 257, none⟩ = some (.int .i64 (b : Int)) := (hL4.scn.cell _).trans (zaq s b)
    have d3 : w4.frozen? ⟨g, 257, none⟩ = false := hL4.scn.frozen _
    go_wp2_with fail
    go_roundw
    case rel =>
     refine ⟨b + n, out ++ [⟨k, ((tl s).drop b).take n, b⟩], ?_, hI2.token (by rw [zab]; exact hb) hk2.out ht HN.out, ?_⟩
     ·have h := hL4.setAt (b + n)
      rw [Int.natCast_add] at h
      exact h
     ·rw [List.length_append]; simp; omega
    case measure =>
     have h := (hL4.setAt (b + n)).scn
     rw [Int.natCast_add] at h
     rw [zb3 h, HM.out]
     omega
   | tok1 n h0 h1 ht =>
    have hng : ¬ (0 = 1 ∧ Lx.luAt ((tl s).drop (b + n)) = true) := fun h => absurd h.1 (by decide)
    have HN := hid hng
    clear hng
    have H0 := hid h0
    have H1 := hid h1
    clear h0 h1 c2
    have hln := Lx.tk_len ht
    rw [List.length_drop, zab] at hln
    have hne : (((b : Int) + n) == (b : Int)) = false := by simp; omega
    have HT := hid ht
    go_wp2_with fail
    refine (H0.out _ hL2.scn).mono ?_
    rintro e' w3 ⟨rfl, hb3⟩
    have hL3 := hL2.next hb3
    clear hb3 hL2
    go_wp2_with fail
    rw [rounds_succ]
    go_wp2_with fail
    refine (H1.out _ hL3.scn).mono ?_
    rintro e' w4 ⟨rfl, hb4⟩
    have hL4 := hL3.next hb4
    clear hb4 hL3
    go_wp2_with (first | (at_builtin; refine wpList_append_own _ rfl _ _ 73 rfl (g + 3) 154 i0 _ 3 32 Tryz.underlying73 hi0 hz0 hz1 hz2 rfl (by decide) _ _ _ rfl (hL4.own.alloc _) ⟨w4.heap.size, 0, none⟩ 1 1 [.int .i64 0, .string (s.extract b (b + n)), .int .i64 (b : Int)] rfl rfl (new3 _ _ _ _ _) ?c2 ?c3 ?c4 ?c5 ?_))
    case c2 => intro u hu; simp at hu; rcases hu with rfl | rfl | rfl <;> rfl
    case c3 => unfold maxLen; omega
    case c4 => omega
    case c5 => have := hL4.frm.lt; simp; omega
    intro v' w5 hown hg _
    rw [ext_str s b n] at hown hg
    have hL5 := hL4.push ⟨0, ((tl s).drop b).take n, b⟩ _ hown hg
    clear hown hg hL4
    have d2 : w5.cell? ⟨g, 257, none⟩ = some (.int .i64 (b : Int)) := (hL5.scn.cell _).trans (zaq s b)
    have d3 : w5.frozen? ⟨g, 257, none⟩ = false := hL5.scn.frozen _
    go_wp2_with fail
    go_roundw
    case rel =>
     refine ⟨b + n, out ++ [⟨0, ((tl s).drop b).take n, b⟩], ?_, hI2.token (by rw [zab]; exact hb) hk2.out ht HN.out, ?_⟩
     ·have h := hL5.setAt (b + n)
      rw [Int.natCast_add] at h
      exact h
     ·rw [List.length_append]; simp; omega
    case measure =>
     have h := (hL5.setAt (b + n)).scn
     rw [Int.natCast_add] at h
     rw [zb3 h, HM.out]
     omega
   | tok2 n h0 h1 h2 ht =>
    have hfit := (Lx.tk_len ht).2
    rw [List.length_drop, zab] at hfit
    by_cases hz : b + n = s.size
    ·have hng : ¬ Lx.luAt ((tl s).drop (b + n)) = true := by
      rw [List.drop_eq_nil_of_le (by rw [zab]; omega)]
      exact fun h => absurd h (by decide)
     have HZ := hid hz
     have hz2' : decide ((b : Int) + n < (s.size : Int)) = false := by simp; omega
     clear hz
     have HN := hid hng
     clear hng
     have H0 := hid h0
     have H1 := hid h1
     have H2 := hid h2
     clear h0 h1 h2 c2
     have hln := Lx.tk_len ht
     rw [List.length_drop, zab] at hln
     have hne : (((b : Int) + n) == (b : Int)) = false := by simp; omega
     have HT := hid ht
     go_wp2_with fail
     refine (H0.out _ hL2.scn).mono ?_
     rintro e' w3 ⟨rfl, hb3⟩
     have hL3 := hL2.next hb3
     clear hb3 hL2
     go_wp2_with fail
     rw [rounds_succ]
     go_wp2_with fail
     refine (H1.out _ hL3.scn).mono ?_
     rintro e' w4 ⟨rfl, hb4⟩
     have hL4 := hL3.next hb4
     clear hb4 hL3
     go_wp2_with fail
     rw [rounds_succ]
     go_wp2_with fail
     refine (H2.out _ hL4.scn).mono ?_
     rintro e' w5 ⟨rfl, hb5⟩
     have hL5 := hL4.next hb5
     clear hb5 hL4
     go_wp2_with (first | (at_builtin; refine wpList_append_own _ rfl _ _ 73 rfl (g + 3) 154 i0 _ 3 32 Tryz.underlying73 hi0 hz0 hz1 hz2 rfl (by decide) _ _ _ rfl (hL5.own.alloc _) ⟨w5.heap.size, 0, none⟩ 1 1 [.int .i64 1, .string (s.extract b (b + n)), .int .i64 (b : Int)] rfl rfl (new3 _ _ _ _ _) ?c2 ?c3 ?c4 ?c5 ?_))
     case c2 => intro u hu; simp at hu; rcases hu with rfl | rfl | rfl <;> rfl
     case c3 => unfold maxLen; omega
     case c4 => omega
     case c5 => have := hL5.frm.lt; simp; omega
     intro v' w6 hown hg _
     rw [ext_str s b n] at hown hg
     have hL6 := hL5.push ⟨1, ((tl s).drop b).take n, b⟩ _ hown hg
     clear hown hg hL5
     have d2 : w6.cell? ⟨g, 257, none⟩ = some (.int .i64 (b : Int)) := (hL6.scn.cell _).trans (zaq s b)
     have d3 : w6.frozen? ⟨g, 257, none⟩ = false := hL6.scn.frozen _
     go_wp2_with fail
     go_roundw
     case rel =>
      refine ⟨b + n, out ++ [⟨1, ((tl s).drop b).take n, b⟩], ?_, hI2.token (by rw [zab]; exact hb) hk2.out ht (fun h => HN.out h.2), ?_⟩
      ·have h := hL6.setAt (b + n)
       rw [Int.natCast_add] at h
       exact h
      ·rw [List.length_append]; simp; omega
     case measure =>
      have h := (hL6.setAt (b + n)).scn
      rw [Int.natCast_add] at h
      rw [zb3 h, HM.out]
      omega
    ·have hz2' : b + n < s.size := by omega
     have hhd : Lx.luAt ((tl s).drop (b + n)) = Lx.isLU s[b + n] := by rw [drop_cons s hz2']; rfl
     have hcl := cls_lu s[b + n]
     clear hz
     by_cases hA : clsN s[b + n].toNat = 2
     ·have hlu : Lx.luAt ((tl s).drop (b + n)) = true := by rw [hhd, hcl]; simp [hA]
      have hA2 : ((clsN s[b + n].toNat : Int) == 2) = true := by simp; omega
      clear hhd hcl hA
      have H0 := hid h0
      have H1 := hid h1
      have H2 := hid h2
      clear h0 h1 h2 c2
      have hln := Lx.tk_len ht
      rw [List.length_drop, zab] at hln
      have hne : (((b : Int) + n) == (b : Int)) = false := by simp; omega
      have HT := hid ht
      go_wp2_with fail
      refine (H0.out _ hL2.scn).mono ?_
      rintro e' w3 ⟨rfl, hb3⟩
      have hL3 := hL2.next hb3
      clear hb3 hL2
      go_wp2_with fail
      rw [rounds_succ]
      go_wp2_with fail
      refine (H1.out _ hL3.scn).mono ?_
      rintro e' w4 ⟨rfl, hb4⟩
      have hL4 := hL3.next hb4
      clear hb4 hL3
      go_wp2_with fail
      rw [rounds_succ]
      go_wp2_with fail
      refine (H2.out _ hL4.scn).mono ?_
      rintro e' w5 ⟨rfl, hb5⟩
      have hL5 := hL4.next hb5
      clear hb5 hL4
      go_wp2_with (first | (at_builtin; refine wpList_append_own _ rfl _ _ 73 rfl (g + 3) 154 i0 _ 3 32 Tryz.underlying73 hi0 hz0 hz1 hz2 rfl (by decide) _ _ _ rfl (hL5.own.alloc _) ⟨w5.heap.size, 0, none⟩ 1 1 [.int .i64 1, .string (s.extract b (b + n)), .int .i64 (b : Int)] rfl rfl (new3 _ _ _ _ _) ?c2 ?c3 ?c4 ?c5 ?_))
      case c2 => intro u hu; simp at hu; rcases hu with rfl | rfl | rfl <;> rfl
      case c3 => unfold maxLen; omega
      case c4 => omega
      case c5 => have := hL5.frm.lt; simp; omega
      intro v' w6 hown hg _
      rw [ext_str s b n] at hown hg
      have hL6 := hL5.push ⟨1, ((tl s).drop b).take n, b⟩ _ hown hg
      clear hown hg hL5
      have d2 : w6.cell? ⟨g, 257, none⟩ = some (.int .i64 (b : Int)) := (hL6.scn.cell _).trans (zaq s b)
      have d3 : w6.frozen? ⟨g, 257, none⟩ = false := hL6.scn.frozen _
      have d4 : w6.cell? ⟨g + 1, s[b + n].toNat, none⟩ = some (.int .u8 (clsN s[b + n].toNat : Int)) := (hL6.tab.cell _).trans (tabV_at _)
      have h5 := zch s[b + n].toNat
      have h6 := s[b + n].toNat_lt
      go_wp2_with fail
      rw [Exit.noGoto_ret]
      go_ret3
      have h := hL6.setAt (b + n)
      rw [Int.natCast_add] at h
      exact ScanPost.err (hI2.glued (by rw [zab]; exact hb) hk2.out ht hlu) (by omega) rfl h.below
     ·by_cases hB : clsN s[b + n].toNat = 4
      ·have hlu : Lx.luAt ((tl s).drop (b + n)) = true := by rw [hhd, hcl]; simp [hB]
       have hA2 : ((clsN s[b + n].toNat : Int) == 2) = false := by simp; omega
       have hB2 : ((clsN s[b + n].toNat : Int) == 4) = true := by simp; omega
       clear hhd hcl hA hB
       have H0 := hid h0
       have H1 := hid h1
       have H2 := hid h2
       clear h0 h1 h2 c2
       have hln := Lx.tk_len ht
       rw [List.length_drop, zab] at hln
       have hne : (((b : Int) + n) == (b : Int)) = false := by simp; omega
       have HT := hid ht
       go_wp2_with fail
       refine (H0.out _ hL2.scn).mono ?_
       rintro e' w3 ⟨rfl, hb3⟩
       have hL3 := hL2.next hb3
       clear hb3 hL2
       go_wp2_with fail
       rw [rounds_succ]
       go_wp2_with fail
       refine (H1.out _ hL3.scn).mono ?_
       rintro e' w4 ⟨rfl, hb4⟩
       have hL4 := hL3.next hb4
       clear hb4 hL3
       go_wp2_with fail
       rw [rounds_succ]
       go_wp2_with fail
       refine (H2.out _ hL4.scn).mono ?_
       rintro e' w5 ⟨rfl, hb5⟩
       have hL5 := hL4.next hb5
       clear hb5 hL4
       go_wp2_with (first | (at_builtin; refine wpList_append_own _ rfl _ _ 73 rfl (g + 3) 154 i0 _ 3 32 Tryz.underlying73 hi0 hz0 hz1 hz2 rfl (by decide) _ _ _ rfl (hL5.own.alloc _) ⟨w5.heap.size, 0, none⟩ 1 1 [.int .i64 1, .string (s.extract b (b + n)), .int .i64 (b : Int)] rfl rfl (new3 _ _ _ _ _) ?c2 ?c3 ?c4 ?c5 ?_))
       case c2 => intro u hu; simp at hu; rcases hu with rfl | rfl | rfl <;> rfl
       case c3 => unfold maxLen; omega
       case c4 => omega
       case c5 => have := hL5.frm.lt; simp; omega
       intro v' w6 hown hg _
       rw [ext_str s b n] at hown hg
       have hL6 := hL5.push ⟨1, ((tl s).drop b).take n, b⟩ _ hown hg
       clear hown hg hL5
       have d2 : w6.cell? ⟨g, 257, none⟩ = some (.int .i64 (b : Int)) := (hL6.scn.cell _).trans (zaq s b)
       have d3 : w6.frozen? ⟨g, 257, none⟩ = false := hL6.scn.frozen _
       have d4 : w6.cell? ⟨g + 1, s[b + n].toNat, none⟩ = some (.int .u8 (clsN s[b + n].toNat : Int)) := (hL6.tab.cell _).trans (tabV_at _)
       have h5 := zch s[b + n].toNat
       have h6 := s[b + n].toNat_lt
       go_wp2_with fail
       rw [Exit.noGoto_ret]
       go_ret3
       have h := hL6.setAt (b + n)
       rw [Int.natCast_add] at h
       exact ScanPost.err (hI2.glued (by rw [zab]; exact hb) hk2.out ht hlu) (by omega) rfl h.below
      ·have hng : ¬ Lx.luAt ((tl s).drop (b + n)) = true := by rw [hhd, hcl]; simp [hA, hB]
       have hA2 : ((clsN s[b + n].toNat : Int) == 2) = false := by simp; omega
       have hB2 : ((clsN s[b + n].toNat : Int) == 4) = false := by simp; omega
       clear hhd hcl hA hB
       have HN := hid hng
       clear hng
       have H0 := hid h0
       have H1 := hid h1
       have H2 := hid h2
       clear h0 h1 h2 c2
       have hln := Lx.tk_len ht
       rw [List.length_drop, zab] at hln
       have hne : (((b : Int) + n) == (b : Int)) = false := by simp; omega
       have HT := hid ht
       go_wp2_with fail
       refine (H0.out _ hL2.scn).mono ?_
       rintro e' w3 ⟨rfl, hb3⟩
       have hL3 := hL2.next hb3
       clear hb3 hL2
       go_wp2_with fail
       rw [rounds_succ]
       go_wp2_with fail
       refine (H1.out _ hL3.scn).mono ?_
       rintro e' w4 ⟨rfl, hb4⟩
       have hL4 := hL3.next hb4
       clear hb4 hL3
       go_wp2_with fail
       rw [rounds_succ]
       go_wp2_with fail
       refine (H2.out _ hL4.scn).mono ?_
       rintro e' w5 ⟨rfl, hb5⟩
       have hL5 := hL4.next hb5
       clear hb5 hL4
       go_wp2_with (first | (at_builtin; refine wpList_append_own _ rfl _ _ 73 rfl (g + 3) 154 i0 _ 3 32 Tryz.underlying73 hi0 hz0 hz1 hz2 rfl (by decide) _ _ _ rfl (hL5.own.alloc _) ⟨w5.heap.size, 0, none⟩ 1 1 [.int .i64 1, .string (s.extract b (b + n)), .int .i64 (b : Int)] rfl rfl (new3 _ _ _ _ _) ?c2 ?c3 ?c4 ?c5 ?_))
       case c2 => intro u hu; simp at hu; rcases hu with rfl | rfl | rfl <;> rfl
       case c3 => unfold maxLen; omega
       case c4 => omega
       case c5 => have := hL5.frm.lt; simp; omega
       intro v' w6 hown hg _
       rw [ext_str s b n] at hown hg
       have hL6 := hL5.push ⟨1, ((tl s).drop b).take n, b⟩ _ hown hg
       clear hown hg hL5
       have d2 : w6.cell? ⟨g, 257, none⟩ = some (.int .i64 (b : Int)) := (hL6.scn.cell _).trans (zaq s b)
       have d3 : w6.frozen? ⟨g, 257, none⟩ = false := hL6.scn.frozen _
       have d4 : w6.cell? ⟨g + 1, s[b + n].toNat, none⟩ = some (.int .u8 (clsN s[b + n].toNat : Int)) := (hL6.tab.cell _).trans (tabV_at _)
       have h5 := zch s[b + n].toNat
       have h6 := s[b + n].toNat_lt
       go_wp2_with fail
       go_roundw
       case rel =>
        refine ⟨b + n, out ++ [⟨1, ((tl s).drop b).take n, b⟩], ?_, hI2.token (by rw [zab]; exact hb) hk2.out ht (fun h => HN.out h.2), ?_⟩
        ·have h := hL6.setAt (b + n)
         rw [Int.natCast_add] at h
         exact h
        ·rw [List.length_append]; simp; omega
       case measure =>
        have h := (hL6.setAt (b + n)).scn
        rw [Int.natCast_add] at h
        rw [zb3 h, HM.out]
        omega
   | tok3 n h0 h1 h2 h3 ht =>
    have hng : ¬ (2 = 1 ∧ Lx.luAt ((tl s).drop (b + n)) = true) := fun h => absurd h.1 (by decide)
    have HN := hid hng
    clear hng
    have H0 := hid h0
    have H1 := hid h1
    have H2 := hid h2
    have H3 := hid h3
    clear h0 h1 h2 h3 c2
    have hln := Lx.tk_len ht
    rw [List.length_drop, zab] at hln
    have hne : (((b : Int) + n) == (b : Int)) = false := by simp; omega
    have HT := hid ht
    go_wp2_with fail
    refine (H0.out _ hL2.scn).mono ?_
    rintro e' w3 ⟨rfl, hb3⟩
    have hL3 := hL2.next hb3
    clear hb3 hL2
    go_wp2_with fail
    rw [rounds_succ]
    go_wp2_with fail
    refine (H1.out _ hL3.scn).mono ?_
    rintro e' w4 ⟨rfl, hb4⟩
    have hL4 := hL3.next hb4
    clear hb4 hL3
    go_wp2_with fail
    rw [rounds_succ]
    go_wp2_with fail
    refine (H2.out _ hL4.scn).mono ?_
    rintro e' w5 ⟨rfl, hb5⟩
    have hL5 := hL4.next hb5
    clear hb5 hL4
    go_wp2_with fail
    rw [rounds_succ]
    go_wp2_with fail
    refine (H3.out _ hL5.scn).mono ?_
    rintro e' w6 ⟨rfl, hb6⟩
    have hL6 := hL5.next hb6
    clear hb6 hL5
    go_wp2_with (first | (at_builtin; refine wpList_append_own _ rfl _ _ 73 rfl (g + 3) 154 i0 _ 3 32 Tryz.underlying73 hi0 hz0 hz1 hz2 rfl (by decide) _ _ _ rfl (hL6.own.alloc _) ⟨w6.heap.size, 0, none⟩ 1 1 [.int .i64 2, .string (s.extract b (b + n)), .int .i64 (b : Int)] rfl rfl (new3 _ _ _ _ _) ?c2 ?c3 ?c4 ?c5 ?_))
    case c2 => intro u hu; simp at hu; rcases hu with rfl | rfl | rfl <;> rfl
    case c3 => unfold maxLen; omega
    case c4 => omega
    case c5 => have := hL6.frm.lt; simp; omega
    intro v' w7 hown hg _
    rw [ext_str s b n] at hown hg
    have hL7 := hL6.push ⟨2, ((tl s).drop b).take n, b⟩ _ hown hg
    clear hown hg hL6
    have d2 : w7.cell? ⟨g, 257, none⟩ = some (.int .i64 (b : Int)) := (hL7.scn.cell _).trans (zaq s b)
    have d3 : w7.frozen? ⟨g, 257, none⟩ = false := hL7.scn.frozen _
    go_wp2_with fail
    go_roundw
    case rel =>
     refine ⟨b + n, out ++ [⟨2, ((tl s).drop b).take n, b⟩], ?_, hI2.token (by rw [zab]; exact hb) hk2.out ht HN.out, ?_⟩
     ·have h := hL7.setAt (b + n)
      rw [Int.natCast_add] at h
      exact h
     ·rw [List.length_append]; simp; omega
    case measure =>
     have h := (hL7.setAt (b + n)).scn
     rw [Int.natCast_add] at h
     rw [zb3 h, HM.out]
     omega
   | none h0 h1 h2 h3 ht =>
    have H0 := hid h0
    have H1 := hid h1
    have H2 := hid h2
    have H3 := hid h3
    clear h0 h1 h2 h3 c2
    go_wp2_with fail
    refine (H0.out _ hL2.scn).mono ?_
    rintro e' w3 ⟨rfl, hb3⟩
    have hL3 := hL2.next hb3
    clear hb3 hL2
    go_wp2_with fail
    rw [rounds_succ]
    go_wp2_with fail
    refine (H1.out _ hL3.scn).mono ?_
    rintro e' w4 ⟨rfl, hb4⟩
    have hL4 := hL3.next hb4
    clear hb4 hL3
    go_wp2_with fail
    rw [rounds_succ]
    go_wp2_with fail
    refine (H2.out _ hL4.scn).mono ?_
    rintro e' w5 ⟨rfl, hb5⟩
    have hL5 := hL4.next hb5
    clear hb5 hL4
    go_wp2_with fail
    rw [rounds_succ]
    go_wp2_with fail
    refine (H3.out _ hL5.scn).mono ?_
    rintro e' w6 ⟨rfl, hb6⟩
    have hL6 := hL5.next hb6
    clear hb6 hL5
    go_wp2_with fail
    rw [rounds_succ]
    go_wp2_with fail
    rw [Exit.noGoto_ret]
    go_ret3
    exact ScanPost.err (hI2.error (by rw [zab]; exact hb) hk2.out ht) rfl rfl hL6.below
end Go.Proofs.YtekkapgknohadaaGreatDoor
