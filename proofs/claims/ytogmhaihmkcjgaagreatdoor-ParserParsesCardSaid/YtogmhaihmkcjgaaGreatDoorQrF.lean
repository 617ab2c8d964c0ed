/-
  dominoref42: exprs, from a contract of expr. Printed by mkqrf.py.
-/
import Derived.Test.YtogmhaihmkcjgaaGreatDoorQrE
import Derived.Deep.LoopGhost
namespace Go.Proofs.YtogmhaihmkcjgaaGreatDoor
open Go.RowKit Go.Shelf
set_option linter.unusedVariables false

theorem krows_get {P : List NV} {n : Nat} {x : NV} (h : P[n]? = some x) : (krows P)[n]? = some (inats (.slice x.2.1 x.1.2.length x.2.2) x.1.2) := by
  unfold krows
  rw [List.getElem?_map, h]
  rfl
theorem krows_set (F : NV → NV) : ∀ (P : List NV) (n : Nat) (x : NV), P[n]? = some x → (krows P).set n (inats (.slice (F x).2.1 (F x).1.2.length (F x).2.2) (F x).1.2) = krows (P.modify n F)
  | [], n, x, h => by simp at h
  | y :: P, 0, x, h => by
    have h : y = x := by simpa using h
    subst h
    rw [List.modify_zero_cons]
    rfl
  | y :: P, n + 1, x, h => by
    rw [List.modify_succ_cons]
    show _ :: (krows P).set n _ = _ :: krows _
    rw [krows_set F P n x (by simpa using h)]
theorem fst_modF (F : NV → NV) (f : Pa.Nw → Pa.Nw) (h : ∀ x, (F x).1 = f x.1) : ∀ (P : List NV) (i : Nat), (P.modify i F).map Prod.fst = (P.map Prod.fst).modify i f
  | [], i => by cases i <;> rfl
  | y :: P, 0 => by simp [h]
  | y :: P, i + 1 => by simp [fst_modF F f h P i]
/-- the node with a longer row of kids -/
abbrev kidF (k gn cn : Nat) (x : NV) : NV := ((x.1.1, x.1.2 ++ [k]), (some ⟨gn, 0, none⟩, cn))
section
variable {o : List Nat} {w W W' : World} {R : PR} {D : QD} {P : List NV} {q : Pa.QS} {r : List It} {g c : Nat}
theorem QX.krow {nv : Value} (h : QX o w R D nv P q r W) {n : Nat} {x : NV} (hx : P[n]? = some x) : (iqr R D nv q.ts q.bad :: inodes nv P :: (krows P ++ r))[n + 2]? = some (inats (.slice x.2.1 x.1.2.length x.2.2) x.1.2) := by
  have hn := (List.getElem?_eq_some_iff.1 hx).1
  show (krows P ++ r)[n]? = _
  rw [List.getElem?_append_left (by unfold krows; rw [List.length_map]; exact hn)]
  exact krows_get hx
/-- after the append, ahead of the store -/
structure KidA (o : List Nat) (w : World) (R : PR) (D : QD) (g c : Nat) (P : List NV) (q : Pa.QS) (r : List It) (n k gn cn : Nat) (W : World) : Prop where
  c5 : W.cell? ⟨R.gp, 5, none⟩ = some (.slice (some ⟨g, 0, none⟩) P.length c)
  cell : ∃ u, W.cell? ⟨g, n * 6 + 4, none⟩ = some u
  fr : W.frozen? ⟨g, n * 6 + 4, none⟩ = false
  next : ∀ m, m = k → ∀ ln, ln = (P.getD n ((⟨0, 0, [], [], 0⟩, []), (none, 0))).1.2.length + 1 → QX o w R D (.slice (some ⟨g, 0, none⟩) P.length c) (P.modify n (kidF k gn cn)) (q.upd n (Pa.aKid k)) r (W.setCell ⟨g, n * 6 + 4, none⟩ (.slice (some ⟨gn, 0, none⟩) ln cn))
theorem QX.kid (h : QX o w R D (.slice (some ⟨g, 0, none⟩) P.length c) P q r W) {n : Nat} {x : NV} (hx : P[n]? = some x) {k gn cn m : Nat} (hm : m = x.1.2.length + 1) (hr : W'.ownsRow 0 3 1 (.slice (some ⟨gn, 0, none⟩) m cn) m (nats x.1.2 ++ [.int .i64 (k : Int)])) (hg : W.grownBy W' (Value.slice x.2.1 x.1.2.length x.2.2).ownBlock)
    (hv : (Value.slice (some ⟨gn, 0, none⟩) m cn).ownBlock = (Value.slice x.2.1 x.1.2.length x.2.2).ownBlock ∨ ∀ g, (Value.slice (some ⟨gn, 0, none⟩) m cn).ownBlock = some g → W.heap.size ≤ g) : KidA o w R D g c P q r n k gn cn W' := by
  subst hm
  have hn := (List.getElem?_eq_some_iff.1 hx).1
  have h1 := h.hp.grown (n + 2) (h.krow hx) hr hg hv
  have e1 : (iqr R D (.slice (some ⟨g, 0, none⟩) P.length c) q.ts q.bad :: inodes (.slice (some ⟨g, 0, none⟩) P.length c) P :: (krows P ++ r)).set (n + 2) (irow 3 1 (.slice (some ⟨gn, 0, none⟩) (x.1.2.length + 1) cn) (x.1.2.length + 1) (nats x.1.2 ++ [.int .i64 (k : Int)])) =
      iqr R D (.slice (some ⟨g, 0, none⟩) P.length c) q.ts q.bad :: inodes (.slice (some ⟨g, 0, none⟩) P.length c) P :: (krows (P.modify n (kidF k gn cn)) ++ r) := by
    show _ :: _ :: (krows P ++ r).set n _ = _
    rw [List.set_append_left _ _ (by unfold krows; rw [List.length_map]; exact hn), ← krows_set (kidF k gn cn) P n x hx]
    have e2 : (kidF k gn cn x).1.2.length = x.1.2.length + 1 := by simp
    have e3 : nats (kidF k gn cn x).1.2 = nats x.1.2 ++ [.int .i64 (k : Int)] := by simp [nats]
    unfold inats
    rw [e2, e3]
  rw [e1] at h1
  refine ⟨h1.qok.blk.cell 5, ?_, row_frozen (h1.row 1 rfl) _, fun m hm ln hln => ?_⟩
  · refine ⟨_, row_cell (h1.row 1 rfl) (ncells_at' hx 4 (by decide))⟩
  · have hl : ln = x.1.2.length + 1 := by
      rw [hln, List.getD_eq_getElem?_getD, hx]; rfl
    subst hl
    have h2 := h1.rowset 1 rfl (n * 6 + 4) (by omega) (.slice (some ⟨gn, 0, none⟩) (x.1.2.length + 1) cn)
    refine ⟨?_, ?_⟩
    · rw [fst_modF (kidF k gn cn) (Pa.aKid k) (fun _ => rfl), h.ns]; rfl
    · have e : (P.modify n (kidF k gn cn)).length = P.length := by simp
      unfold inodes
      rw [e, ← ncells_set (kidF k gn cn) 4 (by decide) (.slice (some ⟨gn, 0, none⟩) (x.1.2.length + 1) cn) P n x hx (by simp [nvc])]
      exact h2
theorem new1q' (w : World) (t : TypeId) (a : Value) : ∀ (j : Nat) u, [a][j]? = some u → (w.alloc (.cells #[a] t)).cell? ((⟨w.heap.size, 0, none⟩ : Addr).add j) = some u := by
  intro j u hu
  rw [paddr0, (show Blk (w.alloc (.cells #[a] t)) w.heap.size t [a] from Blk.new w t [a]).cell j]
  exact hu
theorem new1k (w : World) (t : TypeId) (a : Value) : ∀ (j : Nat) u, [a][j]? = some u → (w.alloc (.cells #[a] t)).drew.cell? ((⟨w.heap.size, 0, none⟩ : Addr).add j) = some u := new1q' w t a
/-- what is asked of expr -/
def ExprOk (f : Nat) : Prop := ∀ (o : List Nat) (w : World) (R : PR) (D : QD) (r : List It) (q : Pa.QS) (W : World), q.wt ≤ 500000 → q.ts.length < f → QH o w R D q r W → Calls Tryz.prog 160 #[ptr R.gp] W fun e w' => e = .returned (.int .i64 (Pa.exprX f q : Int)) ∧ QH o w R D (Pa.exprS f q) r w'
set_option maxRecDepth 20000 in
set_option maxHeartbeats 16000000 in
theorem qexprs (f : Nat) (hE : ExprOk f) (n k : Nat) (hw : q.wt ≤ 500000) (hn : n < q.ns.length) (hk : q.ts.length < k) (hf : q.ts.length < f) (h : QH o w R D q r W) : Calls Tryz.prog 227 #[ptr R.gp, .int .i64 (n : Int)] W fun e w' => e = .returned (.tuple #[]) ∧ QH o w R D (Pa.exprsS (Pa.exprX f) (Pa.exprS f) n k q) r w' := by
  obtain ⟨nv, P, h⟩ := h
  have HE := Lib.hid hE
  have hF := Pa.take_fw Pa.sOpen q
  have HT := Lib.hid (qtake Pa.sOpen h)
  have HR : Hid (Pa.exprsS (Pa.exprX f) (Pa.exprS f) n k q = Pa.takeS Pa.sClose (Pa.moreS (Pa.exprX f) (Pa.exprS f) n k (Pa.takeS Pa.sOpen q))) := Lib.hid rfl
  have hw1 : (Pa.takeS Pa.sOpen q).wt ≤ 500000 := by have := hF.wt; omega
  have hn1 : n < (Pa.takeS Pa.sOpen q).ns.length := by have := hF.len; omega
  have hk1 : (Pa.takeS Pa.sOpen q).ts.length < k := by have := hF.tok; omega
  have hf1 : (Pa.takeS Pa.sOpen q).ts.length < f := by have := hF.tok; omega
  have hn0 : (0 : Int) ≤ (n : Int) := by omega
  obtain ⟨j0, hj0, hy0, hy1, hy2⟩ := info_parts int_info
  clear h hE hF hw hn hk hf
  generalize Pa.takeS Pa.sOpen q = q1 at *
  generalize Pa.exprsS (Pa.exprX f) (Pa.exprS f) n k q = QF at *
  go_enter Tryz.func227, Tryz.ntmps227
  go_wp2_with fail
  refine HT.out.mono ?_
  rintro e w1 ⟨rfl, hX1⟩
  clear HT
  go_upto_region 2 with fail
  go_loopg [4, 5] (q1.ts.length + 1) (fun m s4 s5 wx => ∃ (b : Bool) (qi : Pa.QS) (j : Nat), m = (if b then qi.ts.length + 1 else 0) ∧ s4 = .bool b ∧ QH o w R D qi r wx ∧ qi.wt ≤ (if b then 500000 else 500001) ∧ n < qi.ns.length ∧ qi.ts.length < f ∧ Hid (if b then Pa.moreS (Pa.exprX f) (Pa.exprS f) n k q1 = Pa.moreS (Pa.exprX f) (Pa.exprS f) n j qi ∧ qi.ts.length < j else Pa.moreS (Pa.exprX f) (Pa.exprS f) n k q1 = qi))
  case atStart => exact ⟨true, q1, k, rfl, rfl, hX1.qh, hw1, hn1, hf1, Lib.hid ⟨rfl, hk1⟩⟩
  case round =>
    obtain ⟨b, qi, j, rfl, rfl, hQ, hwi, hni, hfi, HM⟩ := hrel
    clear hX1 hw1 hn1 hk1 hf1
    cases b with
    | false =>
      obtain ⟨nv2, P2, hX⟩ := hQ
      have HT := Lib.hid (qtake Pa.sClose hX)
      have HR2 : Hid (QF = Pa.takeS Pa.sClose qi) := Lib.hid (by rw [HR.out]; have := HM.out; simp only [Bool.false_eq_true, if_false] at this; rw [this])
      clear hX HR HM
      go_wp2_with fail
      refine HT.out.mono ?_
      rintro e w2 ⟨rfl, hX2⟩
      go_wp2_with fail
      go_end0
      rw [HR2.out]
      exact ⟨rfl, hX2.qh⟩
    | true =>
      have HC := Lib.hid (HE.out o w R D r qi wr hwi hfi hQ)
      have hFw := Pa.expr_fw f qi
      have hn2 : n < (Pa.exprS f qi).ns.length := by have := hFw.len; omega
      have hw2 : (Pa.exprS f qi).wt ≤ 500000 := by have := hFw.wt; simp only [if_true] at hwi; omega
      have ht2 : (Pa.exprS f qi).ts.length ≤ qi.ts.length := hFw.tok
      have HM2 : Hid (∃ j', j = j' + 1 ∧ Pa.moreS (Pa.exprX f) (Pa.exprS f) n k q1 = (if ((Pa.exprS f qi).upd n (Pa.aKid (Pa.exprX f qi))).isS Pa.sComma then Pa.moreS (Pa.exprX f) (Pa.exprS f) n j' ((Pa.exprS f qi).upd n (Pa.aKid (Pa.exprX f qi))).step else ((Pa.exprS f qi).upd n (Pa.aKid (Pa.exprX f qi)))) ∧ qi.ts.length < j) := Lib.hid (by
        obtain ⟨h1, h2⟩ := (by simpa using HM.out : _ ∧ _)
        obtain ⟨j', rfl⟩ : ∃ j', j = j' + 1 := ⟨j - 1, by omega⟩
        exact ⟨j', rfl, by rw [h1, Pa.moreS], h2⟩)
      clear hQ HM hFw hwi
      generalize Pa.exprX f qi = ki at *
      generalize Pa.exprS f qi = qs at *
      go_wp2_with fail
      refine HC.out.mono ?_
      rintro e w2 ⟨rfl, hQ2⟩
      clear HC
      obtain ⟨g, c, P1, hX⟩ := hQ2.open (by omega)
      obtain ⟨x, hx⟩ := hX.get (n := n) (by omega)
      have hnP : (n : Int) < (P1.length : Int) := by have := (List.getElem?_eq_some_iff.1 hx).1; omega
      have hkl : x.1.2.length ≤ 600000 := by
        have h1 : qs.ns[n]? = some x.1 := by rw [← hX.ns, List.getElem?_map, hx]; rfl
        have h2 := Pa.nsW_at h1
        have h3 : Pa.nsW qs.ns ≤ qs.wt := by unfold Pa.QS.wt; omega
        omega
      have HX := Lib.hid hX
      have HB1 : Hid (Below w2.heap.size w2 (w2.alloc (.cells #[.int .i64 (ki : Int)] 3)).drew) := Lib.hid (((Below.refl _ _).alloc (Nat.le_refl _) _).drew)
      have HX2 := Lib.hid (hX.next HB1.out)
      have k5 := hX.cell5
      have y4 : w2.cell? ⟨g, n * 6 + 4, none⟩ = some (.slice x.2.1 x.1.2.length x.2.2) := hX.fcell hx 4 (by decide)
      clear hQ2 hX
      go_upto_region 4 with fail
      refine wp_region_held_drew (S := (fun w' => w'.cell? ⟨R.gp, 5, none⟩ = some (.slice (some ⟨g, 0, none⟩) P1.length c))) (by kernel_rfl) ?_ (fun hHeld => ?_)
      · exact k5
      refine wpAnyH_take (i := 0) (v := ?_) rfl (by kernel_rfl) (by kernel_rfl) (by kernel_rfl) (fun _ _ _ h => h) (Or.inl ⟨by rfl, ?_⟩) (by assumption) ?_
      rotate_left
      · (intro w hSw; (try dsimp only at hSw); (try obtain ⟨hSw1, hSw2⟩ := hSw); go_simp; (try with_reducible rfl))
      try simp only [Act.put, List.getElem_toArray, List.getElem_cons_zero, List.setIfInBounds_toArray, List.set_cons_zero, List.set_cons_succ]
      refine wpAnyH_take (i := 1) (v := ?_) rfl (by kernel_rfl) (by kernel_rfl) (by kernel_rfl) (fun _ _ _ h => h) (Or.inl ⟨by rfl, ?_⟩) (by assumption) ?_
      rotate_left
      · (intro w hSw; (try dsimp only at hSw); (try obtain ⟨hSw1, hSw2⟩ := hSw); go_simp; (try with_reducible rfl))
      try simp only [Act.put, List.getElem_toArray, List.getElem_cons_zero, List.getElem_cons_succ, List.setIfInBounds_toArray, List.set_cons_zero, List.set_cons_succ]
      refine wpAnyH_take (i := 2) (v := ?_) rfl (by kernel_rfl) (by kernel_rfl) (by kernel_rfl) (fun _ _ _ h => h) (Or.inl ⟨by rfl, ?_⟩) (by assumption) ?_
      rotate_left
      · (intro w hSw; (try dsimp only at hSw); (try obtain ⟨hSw1, hSw2⟩ := hSw); go_simp; (try with_reducible rfl))
      try simp only [Act.put, List.getElem_toArray, List.getElem_cons_zero, List.getElem_cons_succ, List.setIfInBounds_toArray, List.set_cons_zero, List.set_cons_succ]
      refine wpAnyH_take (i := 3) (v := ?_) rfl (by kernel_rfl) (by kernel_rfl) (by kernel_rfl) (fun _ _ _ h => h) (Or.inl ⟨by rfl, ?_⟩) (by assumption) ?_
      rotate_left
      · (intro w hSw; (try dsimp only at hSw); (try obtain ⟨hSw1, hSw2⟩ := hSw); go_simp; (try with_reducible rfl))
      try simp only [Act.put, List.getElem_toArray, List.getElem_cons_zero, List.getElem_cons_succ, List.setIfInBounds_toArray, List.set_cons_zero, List.set_cons_succ]
      refine wpAnyH_take (i := 4) (v := ?_) rfl (by kernel_rfl) (by kernel_rfl) (by kernel_rfl) (fun _ _ _ h => h) (Or.inl ⟨by rfl, ?_⟩) (by assumption) ?_
      rotate_left
      · (intro w hSw; (try dsimp only at hSw); (try obtain ⟨hSw1, hSw2⟩ := hSw); go_simp; (try with_reducible rfl))
      try simp only [Act.put, List.getElem_toArray, List.getElem_cons_zero, List.getElem_cons_succ, List.setIfInBounds_toArray, List.set_cons_zero, List.set_cons_succ]
      refine wpAnyH_take (i := 5) (v := ?_) rfl (by kernel_rfl) (by kernel_rfl) (by kernel_rfl) (fun _ _ _ h => h) (Or.inl ⟨by rfl, ?_⟩) (by assumption) ?_
      rotate_left
      · (intro w hSw; (try dsimp only at hSw); (try obtain ⟨hSw1, hSw2⟩ := hSw); go_simp; (try with_reducible rfl))
      try simp only [Act.put, List.getElem_toArray, List.getElem_cons_zero, List.getElem_cons_succ, List.setIfInBounds_toArray, List.set_cons_zero, List.set_cons_succ]
      refine wpAnyH_take (i := 6) (v := ?_) rfl (by kernel_rfl) (by kernel_rfl) (by kernel_rfl) (fun _ _ _ h => h) (Or.inl ⟨by rfl, ?_⟩) (by assumption) ?_
      rotate_left
      · (intro w hSw; (try dsimp only at hSw); (try obtain ⟨hSw1, hSw2⟩ := hSw); go_simp; (try with_reducible rfl))
      try simp only [Act.put, List.getElem_toArray, List.getElem_cons_zero, List.getElem_cons_succ, List.setIfInBounds_toArray, List.set_cons_zero, List.set_cons_succ]
      refine wpAnyH_take (i := 7) (v := ?_) rfl (by kernel_rfl) (by kernel_rfl) (by kernel_rfl) (fun _ _ _ h => h) (Or.inl ⟨by rfl, ?_⟩) (by assumption) ?_
      rotate_left
      · (intro w hSw; (try dsimp only at hSw); (try obtain ⟨hSw1, hSw2⟩ := hSw); go_simp; (try with_reducible rfl))
      try simp only [Act.put, List.getElem_toArray, List.getElem_cons_zero, List.getElem_cons_succ, List.setIfInBounds_toArray, List.set_cons_zero, List.set_cons_succ]
      refine wpAnyH_take (i := 8) (v := ?_) rfl (by kernel_rfl) (by kernel_rfl) (by kernel_rfl) (fun _ _ _ h => h) (Or.inl ⟨by rfl, ?_⟩) (by assumption) ?_
      rotate_left
      · (intro w hSw; (try dsimp only at hSw); (try obtain ⟨hSw1, hSw2⟩ := hSw); go_simp; (try with_reducible rfl))
      try simp only [Act.put, List.getElem_toArray, List.getElem_cons_zero, List.getElem_cons_succ, List.setIfInBounds_toArray, List.set_cons_zero, List.set_cons_succ]
      refine wpAnyH_take (i := 9) (v := ?_) rfl (by kernel_rfl) (by kernel_rfl) (by kernel_rfl) (fun _ _ _ h => h) (Or.inl ⟨by rfl, ?_⟩) (by assumption) ?_
      rotate_left
      · (intro w hSw; (try dsimp only at hSw); (try obtain ⟨hSw1, hSw2⟩ := hSw); go_simp; (try with_reducible rfl))
      try simp only [Act.put, List.getElem_toArray, List.getElem_cons_zero, List.getElem_cons_succ, List.setIfInBounds_toArray, List.set_cons_zero, List.set_cons_succ]
      refine wpAnyH_take (i := 10) (v := ?_) rfl (by kernel_rfl) (by kernel_rfl) (by kernel_rfl) (fun _ _ _ h => h) (Or.inl ⟨by rfl, ?_⟩) (by assumption) ?_
      rotate_left
      · (intro w hSw; (try dsimp only at hSw); (try obtain ⟨hSw1, hSw2⟩ := hSw); go_simp; (try with_reducible rfl))
      try simp only [Act.put, List.getElem_toArray, List.getElem_cons_zero, List.getElem_cons_succ, List.setIfInBounds_toArray, List.set_cons_zero, List.set_cons_succ]
      refine wpAnyH_take (i := 11) (v := ?_) rfl (by kernel_rfl) (by kernel_rfl) (by kernel_rfl) (fun _ _ _ h => h) (Or.inl ⟨by rfl, ?_⟩) (by assumption) ?_
      rotate_left
      · (intro w hSw; (try dsimp only at hSw); (try obtain ⟨hSw1, hSw2⟩ := hSw); go_simp; (try with_reducible rfl))
      try simp only [Act.put, List.getElem_toArray, List.getElem_cons_zero, List.getElem_cons_succ, List.setIfInBounds_toArray, List.set_cons_zero, List.set_cons_succ]
      refine wpAnyH_take (i := 12) (v := ?_) rfl (by kernel_rfl) (by kernel_rfl) (by kernel_rfl) (fun _ _ _ h => h) (Or.inl ⟨by rfl, ?_⟩) (by assumption) ?_
      rotate_left
      · (intro w hSw; (try dsimp only at hSw); (try obtain ⟨hSw1, hSw2⟩ := hSw); go_simp; (try with_reducible rfl))
      try simp only [Act.put, List.getElem_toArray, List.getElem_cons_zero, List.getElem_cons_succ, List.setIfInBounds_toArray, List.set_cons_zero, List.set_cons_succ]
      refine wpAnyH_take (i := 13) (v := ?_) rfl (by kernel_rfl) (by kernel_rfl) (by kernel_rfl) (fun _ _ _ h => h) (Or.inl ⟨by rfl, ?_⟩) (by assumption) ?_
      rotate_left
      · (intro w hSw; (try dsimp only at hSw); (try obtain ⟨hSw1, hSw2⟩ := hSw); go_simp; (try with_reducible rfl))
      try simp only [Act.put, List.getElem_toArray, List.getElem_cons_zero, List.getElem_cons_succ, List.setIfInBounds_toArray, List.set_cons_zero, List.set_cons_succ]
      refine wpAnyH_take (i := 15) (v := ?_) rfl (by kernel_rfl) (by kernel_rfl) (by kernel_rfl) (fun _ _ _ h => h) (Or.inl ⟨by rfl, ?_⟩) (by assumption) ?_
      rotate_left
      · (intro w hSw; (try dsimp only at hSw); (try obtain ⟨hSw1, hSw2⟩ := hSw); go_simp; (try with_reducible rfl))
      try simp only [Act.put, List.getElem_toArray, List.getElem_cons_zero, List.getElem_cons_succ, List.setIfInBounds_toArray, List.set_cons_zero, List.set_cons_succ]
      refine wpAnyH_ready (rs := [14, 16]) (by kernel_rfl) (by simp) ?_
      refine AllReadyH.cons rfl (fun K hK => ?_) ?_
      · go_simp
        refine hK.out _ _ ?_ (fun hHeld => ?_)
        · exact k5
        clear hK K
        refine wpAnyH_ready (rs := [16]) (by kernel_rfl) (by simp) ?_
        refine AllReadyH.cons rfl (fun K hK => ?_) ?_
        · go_simp
          have d5 := HX2.out.cell5
          have e4 : (w2.alloc (.cells #[.int .i64 (ki : Int)] 3)).drew.cell? ⟨g, n * 6 + 4, none⟩ = some (.slice x.2.1 x.1.2.length x.2.2) := HX2.out.fcell hx 4 (by decide)
          refine hK.out _ _ ?_ (fun hHeld => ?_)
          · exact d5
          clear hK K
          refine wpAnyH_ready (rs := [17]) (by kernel_rfl) (by simp) ?_
          refine AllReadyH.cons rfl (fun K hK => ?_) ?_
          · refine step_append_lies _ (by rfl) (.tmp 25) (.tmp 27) 61 (by rfl) 0 3 j0 _ 1 8 Tryz.underlying61 hj0 hy0 hy1 hy2 rfl (by decide) (.slice x.2.1 x.1.2.length x.2.2) x.1.2.length (nats x.1.2) (by rfl) ?o1 _ 1 1 [.int .i64 (ki : Int)] (by rfl) (by rfl) ?nw ?oc (by decide) ?l1 ?l2 ?l3 _ (by rfl) ?_
            case o1 => exact HX2.out.hp.row (n + 2) (HX2.out.krow hx)
            case nw => exact new1k _ _ _
            case oc => (intro u hu; simp at hu; rw [hu]; rfl)
            case l1 => (unfold maxLen; omega)
            case l2 => omega
            case l3 => exact Nat.zero_le _
            intro gn cn w3 hownn hgrow hat hltn
            have hK := HX2.out.kid hx rfl hownn hgrow (at_of hat)
            have m5 := hK.c5
            obtain ⟨u4, m4⟩ := hK.cell
            have mf := hK.fr
            have hX5 := hK.next ki rfl (x.1.2.length + 1) (by rw [List.getD_eq_getElem?_getD, hx]; rfl)
            have n5 := hX5.cell5
            have HX5 := Lib.hid hX5
            clear hownn hgrow hat hltn hK hX5
            refine hK.out _ _ ?_ (fun hHeld => ?_)
            · exact m5
            clear hK K
            refine wpAnyH_take (i := 18) (v := ?_) rfl (by kernel_rfl) (by kernel_rfl) (by kernel_rfl) (fun _ _ _ h => h) (Or.inl ⟨by rfl, ?_⟩) (by assumption) ?_
            rotate_left
            · (intro w hSw; (try dsimp only at hSw); (try obtain ⟨hSw1, hSw2⟩ := hSw); go_simp; (try with_reducible rfl))
            try simp only [Act.put, List.getElem_toArray, List.getElem_cons_zero, List.getElem_cons_succ, List.setIfInBounds_toArray, List.set_cons_zero, List.set_cons_succ]
            refine wpAnyH_take (i := 19) (v := ?_) rfl (by kernel_rfl) (by kernel_rfl) (by kernel_rfl) (fun _ _ _ h => h) (Or.inl ⟨by rfl, ?_⟩) (by assumption) ?_
            rotate_left
            · (intro w hSw; (try dsimp only at hSw); (try obtain ⟨hSw1, hSw2⟩ := hSw); go_simp; (try with_reducible rfl))
            try simp only [Act.put, List.getElem_toArray, List.getElem_cons_zero, List.getElem_cons_succ, List.setIfInBounds_toArray, List.set_cons_zero, List.set_cons_succ]
            refine wpAnyH_ready (rs := [20]) (by kernel_rfl) (by simp) ?_
            refine AllReadyH.cons rfl (fun K hK => ?_) ?_
            · go_simp
              refine hK.out _ _ ?_ (fun hHeld => ?_)
              · exact n5
              clear hK K
              refine wpAnyH_done (by kernel_rfl) ?_ _
              clear HX HX2 HB1
              have hX := HX5.out
              clear HX5 n5 m5 m4 mf d5 e4 k5 y4
              generalize w3.setCell _ _ = w5 at *
              have hFk := Pa.akid_fw n ki qs
              have hn3 : n < (qs.upd n (Pa.aKid ki)).ns.length := by have := hFk.len; omega
              have hw3 : (qs.upd n (Pa.aKid ki)).wt ≤ 500001 := by have := hFk.wt; omega
              have ht3 : (qs.upd n (Pa.aKid ki)).ts = qs.ts := rfl
              clear hFk
              generalize qs.upd n (Pa.aKid ki) = qk at *
              have HS := Lib.hid (qskip Pa.sComma hX)
              clear hX
              cases hc : qk.isS Pa.sComma with
              | true =>
                rw [hc] at HS HM2
                have hsl := Pa.isS_len hc
                have hsw := Pa.isS_wt hc
                have e : Pa.skipS Pa.sComma qk = qk.step := by unfold Pa.skipS; rw [hc]; rfl
                rw [e] at HS
                have hsn : qk.step.ns = qk.ns := rfl
                clear hc e
                generalize qk.step = qn at *
                go_wp2_with fail
                refine HS.out.mono ?_
                rintro e w6 ⟨rfl, hX6⟩
                go_wp2_with fail
                go_roundg (qn.ts.length + 1)
                case measure => (try simp only [if_true]); rw [ht3] at hsl; omega
                case rel =>
                  obtain ⟨j', e1, e2, e3⟩ := HM2.out
                  exact ⟨true, qn, j', rfl, rfl, hX6.qh, by simp only [if_true]; omega, by rw [hsn]; exact hn3, by rw [ht3] at hsl; omega, Lib.hid (by simp only [if_true]; exact ⟨by rw [e2]; simp, by rw [ht3] at hsl; omega⟩)⟩
              | false =>
                rw [hc] at HS HM2
                have e : Pa.skipS Pa.sComma qk = qk := by unfold Pa.skipS; rw [hc]; rfl
                rw [e] at HS
                clear hc e
                go_wp2_with fail
                refine HS.out.mono ?_
                rintro e w6 ⟨rfl, hX6⟩
                go_wp2_with fail
                go_roundg 0
                case measure => (try simp only [if_true]); omega
                case rel =>
                  obtain ⟨j', e1, e2, e3⟩ := HM2.out
                  exact ⟨false, qk, 0, rfl, rfl, hX6.qh, hw3, hn3, by rw [ht3]; omega, Lib.hid (by simp only [Bool.false_eq_true, if_false]; rw [e2]; simp)⟩
            exact AllReadyH.nil
          exact AllReadyH.nil
        exact AllReadyH.nil
      refine AllReadyH.cons rfl (fun K hK => ?_) ?_
      · go_simp
        have d5 := HX2.out.cell5
        have e4 : (w2.alloc (.cells #[.int .i64 (ki : Int)] 3)).drew.cell? ⟨g, n * 6 + 4, none⟩ = some (.slice x.2.1 x.1.2.length x.2.2) := HX2.out.fcell hx 4 (by decide)
        refine hK.out _ _ ?_ (fun hHeld => ?_)
        · exact d5
        clear hK K
        refine wpAnyH_ready (rs := [14]) (by kernel_rfl) (by simp) ?_
        refine AllReadyH.cons rfl (fun K hK => ?_) ?_
        · go_simp
          refine hK.out _ _ ?_ (fun hHeld => ?_)
          · exact d5
          clear hK K
          refine wpAnyH_ready (rs := [17]) (by kernel_rfl) (by simp) ?_
          refine AllReadyH.cons rfl (fun K hK => ?_) ?_
          · refine step_append_lies _ (by rfl) (.tmp 25) (.tmp 27) 61 (by rfl) 0 3 j0 _ 1 8 Tryz.underlying61 hj0 hy0 hy1 hy2 rfl (by decide) (.slice x.2.1 x.1.2.length x.2.2) x.1.2.length (nats x.1.2) (by rfl) ?o1 _ 1 1 [.int .i64 (ki : Int)] (by rfl) (by rfl) ?nw ?oc (by decide) ?l1 ?l2 ?l3 _ (by rfl) ?_
            case o1 => exact HX2.out.hp.row (n + 2) (HX2.out.krow hx)
            case nw => exact new1k _ _ _
            case oc => (intro u hu; simp at hu; rw [hu]; rfl)
            case l1 => (unfold maxLen; omega)
            case l2 => omega
            case l3 => exact Nat.zero_le _
            intro gn cn w3 hownn hgrow hat hltn
            have hK := HX2.out.kid hx rfl hownn hgrow (at_of hat)
            have m5 := hK.c5
            obtain ⟨u4, m4⟩ := hK.cell
            have mf := hK.fr
            have hX5 := hK.next ki rfl (x.1.2.length + 1) (by rw [List.getD_eq_getElem?_getD, hx]; rfl)
            have n5 := hX5.cell5
            have HX5 := Lib.hid hX5
            clear hownn hgrow hat hltn hK hX5
            refine hK.out _ _ ?_ (fun hHeld => ?_)
            · exact m5
            clear hK K
            refine wpAnyH_take (i := 18) (v := ?_) rfl (by kernel_rfl) (by kernel_rfl) (by kernel_rfl) (fun _ _ _ h => h) (Or.inl ⟨by rfl, ?_⟩) (by assumption) ?_
            rotate_left
            · (intro w hSw; (try dsimp only at hSw); (try obtain ⟨hSw1, hSw2⟩ := hSw); go_simp; (try with_reducible rfl))
            try simp only [Act.put, List.getElem_toArray, List.getElem_cons_zero, List.getElem_cons_succ, List.setIfInBounds_toArray, List.set_cons_zero, List.set_cons_succ]
            refine wpAnyH_take (i := 19) (v := ?_) rfl (by kernel_rfl) (by kernel_rfl) (by kernel_rfl) (fun _ _ _ h => h) (Or.inl ⟨by rfl, ?_⟩) (by assumption) ?_
            rotate_left
            · (intro w hSw; (try dsimp only at hSw); (try obtain ⟨hSw1, hSw2⟩ := hSw); go_simp; (try with_reducible rfl))
            try simp only [Act.put, List.getElem_toArray, List.getElem_cons_zero, List.getElem_cons_succ, List.setIfInBounds_toArray, List.set_cons_zero, List.set_cons_succ]
            refine wpAnyH_ready (rs := [20]) (by kernel_rfl) (by simp) ?_
            refine AllReadyH.cons rfl (fun K hK => ?_) ?_
            · go_simp
              refine hK.out _ _ ?_ (fun hHeld => ?_)
              · exact n5
              clear hK K
              refine wpAnyH_done (by kernel_rfl) ?_ _
              clear HX HX2 HB1
              have hX := HX5.out
              clear HX5 n5 m5 m4 mf d5 e4 k5 y4
              generalize w3.setCell _ _ = w5 at *
              have hFk := Pa.akid_fw n ki qs
              have hn3 : n < (qs.upd n (Pa.aKid ki)).ns.length := by have := hFk.len; omega
              have hw3 : (qs.upd n (Pa.aKid ki)).wt ≤ 500001 := by have := hFk.wt; omega
              have ht3 : (qs.upd n (Pa.aKid ki)).ts = qs.ts := rfl
              clear hFk
              generalize qs.upd n (Pa.aKid ki) = qk at *
              have HS := Lib.hid (qskip Pa.sComma hX)
              clear hX
              cases hc : qk.isS Pa.sComma with
              | true =>
                rw [hc] at HS HM2
                have hsl := Pa.isS_len hc
                have hsw := Pa.isS_wt hc
                have e : Pa.skipS Pa.sComma qk = qk.step := by unfold Pa.skipS; rw [hc]; rfl
                rw [e] at HS
                have hsn : qk.step.ns = qk.ns := rfl
                clear hc e
                generalize qk.step = qn at *
                go_wp2_with fail
                refine HS.out.mono ?_
                rintro e w6 ⟨rfl, hX6⟩
                go_wp2_with fail
                go_roundg (qn.ts.length + 1)
                case measure => (try simp only [if_true]); rw [ht3] at hsl; omega
                case rel =>
                  obtain ⟨j', e1, e2, e3⟩ := HM2.out
                  exact ⟨true, qn, j', rfl, rfl, hX6.qh, by simp only [if_true]; omega, by rw [hsn]; exact hn3, by rw [ht3] at hsl; omega, Lib.hid (by simp only [if_true]; exact ⟨by rw [e2]; simp, by rw [ht3] at hsl; omega⟩)⟩
              | false =>
                rw [hc] at HS HM2
                have e : Pa.skipS Pa.sComma qk = qk := by unfold Pa.skipS; rw [hc]; rfl
                rw [e] at HS
                clear hc e
                go_wp2_with fail
                refine HS.out.mono ?_
                rintro e w6 ⟨rfl, hX6⟩
                go_wp2_with fail
                go_roundg 0
                case measure => (try simp only [if_true]); omega
                case rel =>
                  obtain ⟨j', e1, e2, e3⟩ := HM2.out
                  exact ⟨false, qk, 0, rfl, rfl, hX6.qh, hw3, hn3, by rw [ht3]; omega, Lib.hid (by simp only [Bool.false_eq_true, if_false]; rw [e2]; simp)⟩
            exact AllReadyH.nil
          exact AllReadyH.nil
        exact AllReadyH.nil
      exact AllReadyH.nil
end
end Go.Proofs.YtogmhaihmkcjgaaGreatDoor
