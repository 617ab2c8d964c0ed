/-
  dominoref42: value. Printed by mkqre.py.
-/
import Derived.Test.YtogmhaihmkcjgaaGreatDoorQrX
namespace Go.Proofs.YtogmhaihmkcjgaaGreatDoor
open Go.RowKit Go.Shelf
set_option linter.unusedVariables false

section
variable {o : List Nat} {w W W' : World} {R : PR} {D : QD} {P : List NV} {q : Pa.QS} {r : List It} {nv : Value}
theorem set_mid {α : Type} (a b x x' : α) (K r : List α) : (a :: b :: (K ++ x :: r)).set (K.length + 2) x' = a :: b :: (K ++ x' :: r) := by
  simp
theorem get_mid {α : Type} (a b x : α) (K r : List α) : (a :: b :: (K ++ x :: r))[K.length + 2]? = some x := by
  simp
/-- a further piece -/
theorem QX.new (h : QX o w R D nv P q r W) (t : TypeId) (cs : List Value) : QX o w R D nv P q (iblk W.heap.size t cs :: r) (W.alloc (.cells cs.toArray t)) :=
  ⟨h.ns, (h.hp.new t cs).perm (List.perm_middle (a := iblk W.heap.size t cs) (l₁ := _ :: _ :: krows P) (l₂ := r)).symm⟩
theorem QX.drop {x : It} (h : QX o w R D nv P q (x :: r) W) : QX o w R D nv P q r W :=
  ⟨h.ns, (h.hp.perm (List.perm_middle (a := x) (l₁ := _ :: _ :: krows P) (l₂ := r))).tail⟩
theorem QX.rblk {g : Nat} {t : TypeId} {cs : List Value} (h : QX o w R D nv P q (iblk g t cs :: r) W) : Blk W g t cs := h.hp.blk ((krows P).length + 2) (get_mid _ _ _ _ _)
theorem QX.rset {g : Nat} {t : TypeId} {cs : List Value} (h : QX o w R D nv P q (iblk g t cs :: r) W) (ds : List Value) : QX o w R D nv P q (iblk g t ds :: r) (W.setRow g ds.toArray) := by
  refine ⟨h.ns, ?_⟩
  have h1 := h.hp.upd ((krows P).length + 2) (get_mid _ _ _ _ _) (x' := iblk g t ds) (W' := W.setRow g ds.toArray) (Blk.row h.rblk ds)
    ⟨below_row (Nat.zero_le _) _, fun k hk ho => by simp only [World.setRow, Array.getElem?_modify]; rw [if_neg (by simp [iblk] at ho; omega)], fun b hb => .inl hb⟩ (by simp [iblk])
  rw [set_mid] at h1
  exact h1
theorem QH.open {q' : Pa.QS} (h : QH o w R D q' r W) (h0 : 0 < q'.ns.length) : ∃ g c P, QX o w R D (.slice (some ⟨g, 0, none⟩) P.length c) P q' r W := by
  obtain ⟨nv, P, h⟩ := h
  obtain ⟨g, c, rfl⟩ := h.form (by rw [h.len]; exact h0)
  exact ⟨g, c, P, h⟩
theorem QX.get {n : Nat} (h : QX o w R D nv P q r W) (hn : n < q.ns.length) : ∃ x, P[n]? = some x := ⟨_, List.getElem?_eq_getElem (by rw [h.len]; exact hn)⟩
theorem tok_kind (n : Nat) (k : Nat) : ((k : Int) == (n : Int)) = (k == n) := kindI
set_option maxRecDepth 20000 in
set_option maxHeartbeats 16000000 in
theorem qvalue (hw : q.wt ≤ 700000) (h : QH o w R D q r W) : Calls Tryz.prog 279 #[ptr R.gp] W fun e w' => e = .returned (.int .i64 (Pa.valueX q : Int)) ∧ QH o w R D (Pa.valueS q) r w' := by
  obtain ⟨nv, P, h⟩ := h
  cases hbad : q.bad with
  | true =>
    have cb := h.ok.cbad
    rw [hbad] at cb
    have HR : Hid (Pa.valueX q = 0 ∧ Pa.valueS q = q) := Lib.hid ⟨by unfold Pa.valueX; rw [if_pos hbad], Pa.value_bad hbad⟩
    have HX := Lib.hid h
    clear h hbad
    go_enter Tryz.func279, Tryz.ntmps279
    go_wp2_with fail
    go_ret
    rw [HR.out.1, HR.out.2]
    exact ⟨rfl, HX.out.qh⟩
  | false =>
    obtain ⟨t, l, ht⟩ := h.ok.cons
    have h9 := h.ok
    rw [ht] at h9
    obtain ⟨k, hA, e1, e2, hk3, hf⟩ := h9.at
    obtain ⟨c0, c1, c5, cb, f1, fb, k0, k1, t0, t1, t2⟩ := hA
    rw [hbad] at cb
    have HN : Hid (q.ns.length = Pa.valueX q) := Lib.hid (by unfold Pa.valueX; rw [if_neg (by rw [hbad]; exact Bool.false_ne_true)])
    have HV : Hid (Pa.valueS q = Pa.valN q.ns.length (Pa.beginS 9 q)) := Lib.hid (by unfold Pa.valueS; rw [if_neg (by rw [hbad]; exact Bool.false_ne_true)])
    have hX0 := (h.new 158 [.int .i64 0, .string ⟨#[]⟩, .int .i64 0])
    have hB0 : Blk (W.alloc (.cells #[.int .i64 0, .string ⟨#[]⟩, .int .i64 0] 158)).drew W.heap.size 158 [.int .i64 0, .string ⟨#[]⟩, .int .i64 0] := Blk.new _ _ _
    have HX1 := Lib.hid ((hX0.drew).rset [.int .i64 (t.kind : Int), .string (bs t.text), .int .i64 (t.at_ : Int)])
    have HBL : Hid (Below W.heap.size W (W.alloc (.cells #[.int .i64 0, .string ⟨#[]⟩, .int .i64 0] 158)).drew) := Lib.hid (((Below.refl _ _).alloc (Nat.le_refl _) _).drew)
    have b0 := scell_up c0 HBL.out
    have b1 := scell_up c1 HBL.out
    have bt0 := scell_up t0 HBL.out
    have bt1 := scell_up t1 HBL.out
    have bt2 := scell_up t2 HBL.out
    have HC := Lib.hid (show ∀ V, QX o w R D nv P q (iblk W.heap.size 158 [.int .i64 (t.kind : Int), .string (bs t.text), .int .i64 (t.at_ : Int)] :: r) V → V.cell? ⟨R.gp, 0, none⟩ = some (.slice (some ⟨R.gt, 0, none⟩) R.all.length R.cap) ∧ V.cell? ⟨R.gp, 1, none⟩ = some (.int .i64 (k : Int)) ∧ V.cell? ⟨R.gt, k * 3, none⟩ = some (.int .i64 (t.kind : Int)) ∧ V.cell? ⟨R.gt, k * 3 + 1, none⟩ = some (.string (bs t.text)) ∧ V.cell? ⟨R.gt, k * 3 + 2, none⟩ = some (.int .i64 (t.at_ : Int)) from fun V hV => by
      have h8 := hV.ok
      rw [ht] at h8
      obtain ⟨k', hA, e3, -, -, -⟩ := h8.at
      obtain rfl : k = k' := e1.symm.trans e3
      exact ⟨hA.c0, hA.c1, hA.t0, hA.t1, hA.t2⟩)
    have hkind : Hid (((t.kind : Int) == 1) = Pa.isM q.ts ∧ Pa.isW (t :: l) = Pa.isW q.ts) := Lib.hid ⟨by rw [ht]; exact tok_kind 1 _, by rw [ht]⟩
    have HW := Lib.hid (fun w => qisWord t l hf w)
    have HQ9 := Lib.hid h.ok.good
    clear h h9 e1 e2 hf hX0 f1 fb c5 ht
    go_enter Tryz.func279, Tryz.ntmps279
    go_upto_region 3 with fail
    refine wp_region_held_drew (S := (fun w' => w'.cell? ⟨R.gp, 0, none⟩ = some (.slice (some ⟨R.gt, 0, none⟩) R.all.length R.cap) ∧ w'.cell? ⟨R.gp, 1, none⟩ = some (.int .i64 (k : Int)) ∧ w'.cell? ⟨R.gt, k * 3, none⟩ = some (.int .i64 (t.kind : Int)) ∧ w'.cell? ⟨R.gt, k * 3 + 1, none⟩ = some (.string (bs t.text)) ∧ w'.cell? ⟨R.gt, k * 3 + 2, none⟩ = some (.int .i64 (t.at_ : Int)))) (by kernel_rfl) ?_ (fun hHeld => ?_)
    · exact ⟨c0, c1, t0, t1, t2⟩
    refine wpAnyH_take (i := 0) (v := ?_) rfl (by kernel_rfl) (by kernel_rfl) (by kernel_rfl) (fun _ _ _ h => h) (Or.inl ⟨by rfl, ?_⟩) (by assumption) ?_
    rotate_left
    · (intro w hSw; (try dsimp only at hSw); (try obtain ⟨hSw1, hSw2⟩ := hSw); go_simp; (try with_reducible rfl))
    try simp only [Act.put, List.getElem_toArray, List.getElem_cons_zero, List.setIfInBounds_toArray, List.set_cons_zero, List.set_cons_succ]
    refine wpAnyH_take (i := 1) (v := ?_) rfl (by kernel_rfl) (by kernel_rfl) (by kernel_rfl) (fun _ _ _ h => h) (Or.inl ⟨by rfl, ?_⟩) (by assumption) ?_
    rotate_left
    · (intro w hSw; (try dsimp only at hSw); (try obtain ⟨hSw1, hSw2⟩ := hSw); go_simp; (try with_reducible rfl))
    try simp only [Act.put, List.getElem_toArray, List.getElem_cons_zero, List.getElem_cons_succ, List.setIfInBounds_toArray, List.set_cons_zero, List.set_cons_succ]
    refine wpAnyH_take (i := 2) (v := ?_) rfl (by kernel_rfl) (by kernel_rfl) (by kernel_rfl) (fun _ _ _ h => h) (Or.inl ⟨by rfl, ?_⟩) (by assumption) ?_
    rotate_left
    · (intro w hSw; (try dsimp only at hSw); (try obtain ⟨hSw1, hSw2⟩ := hSw); go_simp; (try with_reducible rfl))
    try simp only [Act.put, List.getElem_toArray, List.getElem_cons_zero, List.getElem_cons_succ, List.setIfInBounds_toArray, List.set_cons_zero, List.set_cons_succ]
    refine wpAnyH_take (i := 3) (v := ?_) rfl (by kernel_rfl) (by kernel_rfl) (by kernel_rfl) (fun _ _ _ h => h) (Or.inl ⟨by rfl, ?_⟩) (by assumption) ?_
    rotate_left
    · (intro w hSw; (try dsimp only at hSw); (try obtain ⟨hSw1, hSw2⟩ := hSw); go_simp; (try with_reducible rfl))
    try simp only [Act.put, List.getElem_toArray, List.getElem_cons_zero, List.getElem_cons_succ, List.setIfInBounds_toArray, List.set_cons_zero, List.set_cons_succ]
    refine wpAnyH_take (i := 4) (v := ?_) rfl (by kernel_rfl) (by kernel_rfl) (by kernel_rfl) (fun _ _ _ h => h) (Or.inl ⟨by rfl, ?_⟩) (by assumption) ?_
    rotate_left
    · (intro w hSw; (try dsimp only at hSw); (try obtain ⟨hSw1, hSw2⟩ := hSw); go_simp; (try with_reducible rfl))
    try simp only [Act.put, List.getElem_toArray, List.getElem_cons_zero, List.getElem_cons_succ, List.setIfInBounds_toArray, List.set_cons_zero, List.set_cons_succ]
    refine wpAnyH_take (i := 5) (v := ?_) rfl (by kernel_rfl) (by kernel_rfl) (by kernel_rfl) (fun _ _ _ h => h) (Or.inl ⟨by rfl, ?_⟩) (by assumption) ?_
    rotate_left
    · (intro w hSw; (try dsimp only at hSw); (try obtain ⟨hSw1, hSw2⟩ := hSw); go_simp; (try with_reducible rfl))
    try simp only [Act.put, List.getElem_toArray, List.getElem_cons_zero, List.getElem_cons_succ, List.setIfInBounds_toArray, List.set_cons_zero, List.set_cons_succ]
    refine wpAnyH_take (i := 6) (v := ?_) rfl (by kernel_rfl) (by kernel_rfl) (by kernel_rfl) (fun _ _ _ h => h) (Or.inl ⟨by rfl, ?_⟩) (by assumption) ?_
    rotate_left
    · (intro w hSw; (try dsimp only at hSw); (try obtain ⟨hSw1, hSw2⟩ := hSw); go_simp; (try with_reducible rfl))
    try simp only [Act.put, List.getElem_toArray, List.getElem_cons_zero, List.getElem_cons_succ, List.setIfInBounds_toArray, List.set_cons_zero, List.set_cons_succ]
    refine wpAnyH_take (i := 7) (v := ?_) rfl (by kernel_rfl) (by kernel_rfl) (by kernel_rfl) (fun _ _ _ h => h) (Or.inl ⟨by rfl, ?_⟩) (by assumption) ?_
    rotate_left
    · (intro w hSw; (try dsimp only at hSw); (try obtain ⟨hSw1, hSw2⟩ := hSw); go_simp; (try with_reducible rfl))
    try simp only [Act.put, List.getElem_toArray, List.getElem_cons_zero, List.getElem_cons_succ, List.setIfInBounds_toArray, List.set_cons_zero, List.set_cons_succ]
    refine wpAnyH_take (i := 8) (v := ?_) rfl (by kernel_rfl) (by kernel_rfl) (by kernel_rfl) (fun _ _ _ h => h) (Or.inl ⟨by rfl, ?_⟩) (by assumption) ?_
    rotate_left
    · (intro w hSw; (try dsimp only at hSw); (try obtain ⟨hSw1, hSw2⟩ := hSw); go_simp; (try with_reducible rfl))
    try simp only [Act.put, List.getElem_toArray, List.getElem_cons_zero, List.getElem_cons_succ, List.setIfInBounds_toArray, List.set_cons_zero, List.set_cons_succ]
    refine wpAnyH_take (i := 9) (v := ?_) rfl (by kernel_rfl) (by kernel_rfl) (by kernel_rfl) (fun _ _ _ h => h) (Or.inl ⟨by rfl, ?_⟩) (by assumption) ?_
    rotate_left
    · (intro w hSw; (try dsimp only at hSw); (try obtain ⟨hSw1, hSw2⟩ := hSw); go_simp; (try with_reducible rfl))
    try simp only [Act.put, List.getElem_toArray, List.getElem_cons_zero, List.getElem_cons_succ, List.setIfInBounds_toArray, List.set_cons_zero, List.set_cons_succ]
    refine wpAnyH_ready (rs := [10]) (by kernel_rfl) (by simp) ?_
    refine AllReadyH.cons rfl (fun K hK => ?_) ?_
    · go_simp
      refine hK.out _ _ ?_ (fun hHeld => ?_)
      · exact ⟨b0, b1, bt0, bt1, bt2⟩
      clear hK K
      refine wpAnyH_ready (rs := [11]) (by kernel_rfl) (by simp) ?_
      refine AllReadyH.cons rfl (fun K hK => ?_) ?_
      · try rw [if_pos (by rfl)]
        refine wp_store_row 158 (.tmp 3) (.tmp 18) (by rfl) W.heap.size ([.int .i64 (t.kind : Int), .string (bs t.text), .int .i64 (t.at_ : Int)] : List Value).toArray (by rfl) (by rfl) 158 ([.int .i64 0, .string ⟨#[]⟩, .int .i64 0] : List Value).toArray hB0 (by kernel_rfl) (by kernel_rfl) (by kernel_rfl) ?_
        obtain ⟨d0, d1, d2, d3, d4⟩ := HC.out _ HX1.out
        refine hK.out _ _ ?_ (fun hHeld => ?_)
        · exact ⟨d0, d1, d2, d3, d4⟩
        clear hK K
        refine wpAnyH_done (by kernel_rfl) ?_ _
        clear b0 b1 bt0 bt1 bt2 c0 c1 t0 t1 t2 k0 k1 cb hB0 HC HBL
        go_upto_region 4 with fail
        have HX1 := HX1.out
        generalize (((W.alloc _).drew).setRow _ _) = W1 at *
        generalize W.heap.size = gt at *
        have HB := Lib.hid (qbegin 9 (by omega) HX1)
        have hn0 : (0 : Int) ≤ (q.ns.length : Int) := by omega
        have hqn : (Pa.beginS 9 q).ns.length = q.ns.length + 1 := by simp [Pa.beginS]
        have hqt : (Pa.beginS 9 q).ts = q.ts := rfl
        have hqb : (Pa.beginS 9 q).bad = false := hbad
        generalize hq1 : Pa.beginS 9 q = q1 at *
        generalize hnn : q.ns.length = n at *
        go_wp2_with fail
        refine HB.out.mono ?_
        rintro e w2 ⟨rfl, hQ⟩
        obtain ⟨g, c, P1, hX⟩ := hQ.open (by omega)
        clear HB HX1 hQ hq1 hnn
        have ht0 : w2.cell? ⟨gt, 0, none⟩ = some (.int .i64 (t.kind : Int)) := hX.rblk.cell 0
        have ht1 : w2.cell? ⟨gt, 1, none⟩ = some (.string (bs t.text)) := hX.rblk.cell 1
        have ht2 : w2.cell? ⟨gt, 2, none⟩ = some (.int .i64 (t.at_ : Int)) := hX.rblk.cell 2
        have k5 := hX.cell5
        have hl5 : P1.length = n + 1 := by rw [hX.len, hqn]
        obtain ⟨x, hx⟩ := hX.get (n := n) (by omega)
        have hn1 : (n : Int) < (P1.length : Int) := by omega
        clear hl5
        have hkk := hkind.out.1
        cases hM : Pa.isM q.ts with
        | true =>
          rw [hM] at hkk
          have y0 : w2.cell? ⟨g, n * 6, none⟩ = some _ := hX.fcell hx 0 (by decide)
          have fy := hX.ffroz (n * 6)
          have HX2 := Lib.hid (hX.put hx (Pa.sKind 10) 0 (by decide) (.int .i64 10) rfl (fun _ => rfl))
          have HVN : Hid (Pa.valueS q = (Pa.numS (q1.upd n (Pa.sKind 10))).upd n (Pa.sNum (Pa.numX (q1.upd n (Pa.sKind 10))))) := Lib.hid (by rw [HV.out]; unfold Pa.valN; rw [hqt, hM, if_pos rfl])
          clear hX hkind HW ht1 ht2 hx
          go_upto_region 10 with fail
          have hX := HX2.out
          generalize w2.setCell _ _ = w4 at *
          have hl6 : (P1.modify n fun x => (Pa.sKind 10 x.1, x.2)).length = P1.length := by simp
          rw [← hl6] at hX hn1
          generalize (P1.modify n fun x => (Pa.sKind 10 x.1, x.2)) = P2 at *
          clear HX2 k5 y0 fy ht0 hl6
          have k5 := hX.cell5
          obtain ⟨x, hx⟩ := hX.get (n := n) (by rw [Pa.upd_len]; omega)
          refine wp_region_held_drew (S := (fun w' => w'.cell? ⟨R.gp, 5, none⟩ = some (.slice (some ⟨g, 0, none⟩) P2.length c))) (by kernel_rfl) ?_ (fun hHeld => ?_)
          · exact k5
          refine wpAnyH_take (i := 0) (v := ?_) rfl (by kernel_rfl) (by kernel_rfl) (by kernel_rfl) (fun _ _ _ h => h) (Or.inl ⟨by rfl, ?_⟩) (by assumption) ?_
          rotate_left
          · (intro w hSw; (try dsimp only at hSw); (try obtain ⟨hSw1, hSw2⟩ := hSw); go_simp; (try with_reducible rfl))
          try simp only [Act.put, List.getElem_toArray, List.getElem_cons_zero, List.setIfInBounds_toArray, List.set_cons_zero, List.set_cons_succ]
          refine wpAnyH_take (i := 1) (v := ?_) rfl (by kernel_rfl) (by kernel_rfl) (by kernel_rfl) (fun _ _ _ h => h) (Or.inl ⟨by rfl, ?_⟩) (by assumption) ?_
          rotate_left
          · (intro w hSw; (try dsimp only at hSw); (try obtain ⟨hSw1, hSw2⟩ := hSw); go_simp; (try with_reducible rfl))
          try simp only [Act.put, List.getElem_toArray, List.getElem_cons_zero, List.getElem_cons_succ, List.setIfInBounds_toArray, List.set_cons_zero, List.set_cons_succ]
          refine wpAnyH_take (i := 2) (v := ?_) rfl (by kernel_rfl) (by kernel_rfl) (by kernel_rfl) (fun _ _ _ h => h) (Or.inl ⟨by rfl, ?_⟩) (by assumption) ?_
          rotate_left
          · (intro w hSw; (try dsimp only at hSw); (try obtain ⟨hSw1, hSw2⟩ := hSw); go_simp; (try with_reducible rfl))
          try simp only [Act.put, List.getElem_toArray, List.getElem_cons_zero, List.getElem_cons_succ, List.setIfInBounds_toArray, List.set_cons_zero, List.set_cons_succ]
          refine wpAnyH_take (i := 3) (v := ?_) rfl (by kernel_rfl) (by kernel_rfl) (by kernel_rfl) (fun _ _ _ h => h) (Or.inl ⟨by rfl, ?_⟩) (by assumption) ?_
          rotate_left
          · (intro w hSw; (try dsimp only at hSw); (try obtain ⟨hSw1, hSw2⟩ := hSw); go_simp; (try with_reducible rfl))
          try simp only [Act.put, List.getElem_toArray, List.getElem_cons_zero, List.getElem_cons_succ, List.setIfInBounds_toArray, List.set_cons_zero, List.set_cons_succ]
          refine wpAnyH_take (i := 4) (v := ?_) rfl (by kernel_rfl) (by kernel_rfl) (by kernel_rfl) (fun _ _ _ h => h) (Or.inl ⟨by rfl, ?_⟩) (by assumption) ?_
          rotate_left
          · (intro w hSw; (try dsimp only at hSw); (try obtain ⟨hSw1, hSw2⟩ := hSw); go_simp; (try with_reducible rfl))
          try simp only [Act.put, List.getElem_toArray, List.getElem_cons_zero, List.getElem_cons_succ, List.setIfInBounds_toArray, List.set_cons_zero, List.set_cons_succ]
          refine wpAnyH_take (i := 5) (v := ?_) rfl (by kernel_rfl) (by kernel_rfl) (by kernel_rfl) (fun _ _ _ h => h) (Or.inl ⟨by rfl, ?_⟩) (by assumption) ?_
          rotate_left
          · (intro w hSw; (try dsimp only at hSw); (try obtain ⟨hSw1, hSw2⟩ := hSw); go_simp; (try with_reducible rfl))
          try simp only [Act.put, List.getElem_toArray, List.getElem_cons_zero, List.getElem_cons_succ, List.setIfInBounds_toArray, List.set_cons_zero, List.set_cons_succ]
          refine wpAnyH_take (i := 6) (v := ?_) rfl (by kernel_rfl) (by kernel_rfl) (by kernel_rfl) (fun _ _ _ h => h) (Or.inl ⟨by rfl, ?_⟩) (by assumption) ?_
          rotate_left
          · (intro w hSw; (try dsimp only at hSw); (try obtain ⟨hSw1, hSw2⟩ := hSw); go_simp; (try with_reducible rfl))
          try simp only [Act.put, List.getElem_toArray, List.getElem_cons_zero, List.getElem_cons_succ, List.setIfInBounds_toArray, List.set_cons_zero, List.set_cons_succ]
          refine wpAnyH_ready (rs := [7]) (by kernel_rfl) (by simp) ?_
          refine AllReadyH.cons rfl (fun K hK => ?_) ?_
          · go_simp
            refine (qnumber hX.drew).mono ?_
            rintro e w3 ⟨rfl, hX3⟩
            have k6 := hX3.cell5
            have y1 : w3.cell? ⟨g, n * 6 + 1, none⟩ = some _ := hX3.fcell hx 1 (by decide)
            have fy := hX3.ffroz (n * 6 + 1)
            have HX4 := Lib.hid (hX3.put hx (Pa.sNum (Pa.numX (q1.upd n (Pa.sKind 10)))) 1 (by decide) (.int .i64 (Pa.numX (q1.upd n (Pa.sKind 10)))) rfl (fun _ => rfl))
            have k7 := HX4.out.cell5
            refine hK.out _ _ ?_ (fun hHeld => ?_)
            · exact k6
            clear hK K
            refine wpAnyH_take (i := 8) (v := ?_) rfl (by kernel_rfl) (by kernel_rfl) (by kernel_rfl) (fun _ _ _ h => h) (Or.inl ⟨by rfl, ?_⟩) (by assumption) ?_
            rotate_left
            · (intro w hSw; (try dsimp only at hSw); (try obtain ⟨hSw1, hSw2⟩ := hSw); go_simp; (try with_reducible rfl))
            try simp only [Act.put, List.getElem_toArray, List.getElem_cons_zero, List.getElem_cons_succ, List.setIfInBounds_toArray, List.set_cons_zero, List.set_cons_succ]
            refine wpAnyH_take (i := 9) (v := ?_) rfl (by kernel_rfl) (by kernel_rfl) (by kernel_rfl) (fun _ _ _ h => h) (Or.inl ⟨by rfl, ?_⟩) (by assumption) ?_
            rotate_left
            · (intro w hSw; (try dsimp only at hSw); (try obtain ⟨hSw1, hSw2⟩ := hSw); go_simp; (try with_reducible rfl))
            try simp only [Act.put, List.getElem_toArray, List.getElem_cons_zero, List.getElem_cons_succ, List.setIfInBounds_toArray, List.set_cons_zero, List.set_cons_succ]
            refine wpAnyH_ready (rs := [10]) (by kernel_rfl) (by simp) ?_
            refine AllReadyH.cons rfl (fun K hK => ?_) ?_
            · go_simp
              refine hK.out _ _ ?_ (fun hHeld => ?_)
              · exact k7
              clear hK K
              refine wpAnyH_done (by kernel_rfl) ?_ _
              go_wp2_with fail
              go_ret
              rw [HVN.out]
              exact ⟨ret_val (congrArg (Value.int .i64) (congrArg Nat.cast HN.out)), HX4.out.drop.qh⟩
            exact AllReadyH.nil
          exact AllReadyH.nil
        | false =>
          rw [hM] at hkk
          have HVF : Hid (Pa.valueS q = if Pa.isW q.ts then (Pa.wordS (q1.upd n (Pa.sKind 11))).upd n (Pa.sName (Pa.wordX (q1.upd n (Pa.sKind 11)))) else (Pa.nameS (Pa.takeS Pa.sDot ((Pa.nameS q1).upd n (Pa.sName (Pa.nameX q1))))).upd n (Pa.sAttr (Pa.nameX (Pa.takeS Pa.sDot ((Pa.nameS q1).upd n (Pa.sName (Pa.nameX q1))))))) := Lib.hid (by rw [HV.out]; unfold Pa.valN; rw [hqt, hM, if_neg Bool.false_ne_true])
          rw [hkind.out.2] at HW
          clear HV hkind
          cases hWd : Pa.isW q.ts with
          | true =>
            rw [hWd] at HW HVF
            have HVN : Hid (Pa.valueS q = (Pa.wordS (q1.upd n (Pa.sKind 11))).upd n (Pa.sName (Pa.wordX (q1.upd n (Pa.sKind 11))))) := Lib.hid (by rw [HVF.out, if_pos rfl])
            go_wp2_with fail
            refine (HW.out _).mono ?_
            rintro e w3 ⟨rfl, hb3⟩
            replace hX := hX.next hb3
            have k5 := hX.cell5
            have y0 : w3.cell? ⟨g, n * 6, none⟩ = some _ := hX.fcell hx 0 (by decide)
            have fy := hX.ffroz (n * 6)
            have HX2 := Lib.hid (hX.put hx (Pa.sKind 11) 0 (by decide) (.int .i64 11) rfl (fun _ => rfl))
            clear hX HW ht0 ht1 ht2 hx hb3 HVF
            go_upto_region 13 with fail
            have hX := HX2.out
            generalize w3.setCell _ _ = w4 at *
            have hl6 : (P1.modify n fun x => (Pa.sKind 11 x.1, x.2)).length = P1.length := by simp
            rw [← hl6] at hX hn1
            generalize (P1.modify n fun x => (Pa.sKind 11 x.1, x.2)) = P2 at *
            clear HX2 k5 y0 fy hl6
            have k5 := hX.cell5
            obtain ⟨x, hx⟩ := hX.get (n := n) (by rw [Pa.upd_len]; omega)
            refine wp_region_held_drew (S := (fun w' => w'.cell? ⟨R.gp, 5, none⟩ = some (.slice (some ⟨g, 0, none⟩) P2.length c))) (by kernel_rfl) ?_ (fun hHeld => ?_)
            · exact k5
            refine wpAnyH_take (i := 0) (v := ?_) rfl (by kernel_rfl) (by kernel_rfl) (by kernel_rfl) (fun _ _ _ h => h) (Or.inl ⟨by rfl, ?_⟩) (by assumption) ?_
            rotate_left
            · (intro w hSw; (try dsimp only at hSw); (try obtain ⟨hSw1, hSw2⟩ := hSw); go_simp; (try with_reducible rfl))
            try simp only [Act.put, List.getElem_toArray, List.getElem_cons_zero, List.setIfInBounds_toArray, List.set_cons_zero, List.set_cons_succ]
            refine wpAnyH_take (i := 1) (v := ?_) rfl (by kernel_rfl) (by kernel_rfl) (by kernel_rfl) (fun _ _ _ h => h) (Or.inl ⟨by rfl, ?_⟩) (by assumption) ?_
            rotate_left
            · (intro w hSw; (try dsimp only at hSw); (try obtain ⟨hSw1, hSw2⟩ := hSw); go_simp; (try with_reducible rfl))
            try simp only [Act.put, List.getElem_toArray, List.getElem_cons_zero, List.getElem_cons_succ, List.setIfInBounds_toArray, List.set_cons_zero, List.set_cons_succ]
            refine wpAnyH_take (i := 2) (v := ?_) rfl (by kernel_rfl) (by kernel_rfl) (by kernel_rfl) (fun _ _ _ h => h) (Or.inl ⟨by rfl, ?_⟩) (by assumption) ?_
            rotate_left
            · (intro w hSw; (try dsimp only at hSw); (try obtain ⟨hSw1, hSw2⟩ := hSw); go_simp; (try with_reducible rfl))
            try simp only [Act.put, List.getElem_toArray, List.getElem_cons_zero, List.getElem_cons_succ, List.setIfInBounds_toArray, List.set_cons_zero, List.set_cons_succ]
            refine wpAnyH_take (i := 3) (v := ?_) rfl (by kernel_rfl) (by kernel_rfl) (by kernel_rfl) (fun _ _ _ h => h) (Or.inl ⟨by rfl, ?_⟩) (by assumption) ?_
            rotate_left
            · (intro w hSw; (try dsimp only at hSw); (try obtain ⟨hSw1, hSw2⟩ := hSw); go_simp; (try with_reducible rfl))
            try simp only [Act.put, List.getElem_toArray, List.getElem_cons_zero, List.getElem_cons_succ, List.setIfInBounds_toArray, List.set_cons_zero, List.set_cons_succ]
            refine wpAnyH_take (i := 4) (v := ?_) rfl (by kernel_rfl) (by kernel_rfl) (by kernel_rfl) (fun _ _ _ h => h) (Or.inl ⟨by rfl, ?_⟩) (by assumption) ?_
            rotate_left
            · (intro w hSw; (try dsimp only at hSw); (try obtain ⟨hSw1, hSw2⟩ := hSw); go_simp; (try with_reducible rfl))
            try simp only [Act.put, List.getElem_toArray, List.getElem_cons_zero, List.getElem_cons_succ, List.setIfInBounds_toArray, List.set_cons_zero, List.set_cons_succ]
            refine wpAnyH_take (i := 5) (v := ?_) rfl (by kernel_rfl) (by kernel_rfl) (by kernel_rfl) (fun _ _ _ h => h) (Or.inl ⟨by rfl, ?_⟩) (by assumption) ?_
            rotate_left
            · (intro w hSw; (try dsimp only at hSw); (try obtain ⟨hSw1, hSw2⟩ := hSw); go_simp; (try with_reducible rfl))
            try simp only [Act.put, List.getElem_toArray, List.getElem_cons_zero, List.getElem_cons_succ, List.setIfInBounds_toArray, List.set_cons_zero, List.set_cons_succ]
            refine wpAnyH_take (i := 6) (v := ?_) rfl (by kernel_rfl) (by kernel_rfl) (by kernel_rfl) (fun _ _ _ h => h) (Or.inl ⟨by rfl, ?_⟩) (by assumption) ?_
            rotate_left
            · (intro w hSw; (try dsimp only at hSw); (try obtain ⟨hSw1, hSw2⟩ := hSw); go_simp; (try with_reducible rfl))
            try simp only [Act.put, List.getElem_toArray, List.getElem_cons_zero, List.getElem_cons_succ, List.setIfInBounds_toArray, List.set_cons_zero, List.set_cons_succ]
            refine wpAnyH_ready (rs := [7]) (by kernel_rfl) (by simp) ?_
            refine AllReadyH.cons rfl (fun K hK => ?_) ?_
            · go_simp
              refine (qword hX.drew).mono ?_
              rintro e w3 ⟨rfl, hX3⟩
              have k6 := hX3.cell5
              have y1 : w3.cell? ⟨g, n * 6 + 2, none⟩ = some _ := hX3.fcell hx 2 (by decide)
              have fy := hX3.ffroz (n * 6 + 2)
              have HX4 := Lib.hid (hX3.put hx (Pa.sName (Pa.wordX (q1.upd n (Pa.sKind 11)))) 2 (by decide) (Sv (Pa.wordX (q1.upd n (Pa.sKind 11)))) rfl (fun _ => rfl))
              have k7 := HX4.out.cell5
              refine hK.out _ _ ?_ (fun hHeld => ?_)
              · exact k6
              clear hK K
              refine wpAnyH_take (i := 8) (v := ?_) rfl (by kernel_rfl) (by kernel_rfl) (by kernel_rfl) (fun _ _ _ h => h) (Or.inl ⟨by rfl, ?_⟩) (by assumption) ?_
              rotate_left
              · (intro w hSw; (try dsimp only at hSw); (try obtain ⟨hSw1, hSw2⟩ := hSw); go_simp; (try with_reducible rfl))
              try simp only [Act.put, List.getElem_toArray, List.getElem_cons_zero, List.getElem_cons_succ, List.setIfInBounds_toArray, List.set_cons_zero, List.set_cons_succ]
              refine wpAnyH_take (i := 9) (v := ?_) rfl (by kernel_rfl) (by kernel_rfl) (by kernel_rfl) (fun _ _ _ h => h) (Or.inl ⟨by rfl, ?_⟩) (by assumption) ?_
              rotate_left
              · (intro w hSw; (try dsimp only at hSw); (try obtain ⟨hSw1, hSw2⟩ := hSw); go_simp; (try with_reducible rfl))
              try simp only [Act.put, List.getElem_toArray, List.getElem_cons_zero, List.getElem_cons_succ, List.setIfInBounds_toArray, List.set_cons_zero, List.set_cons_succ]
              refine wpAnyH_ready (rs := [10]) (by kernel_rfl) (by simp) ?_
              refine AllReadyH.cons rfl (fun K hK => ?_) ?_
              · go_simp
                refine hK.out _ _ ?_ (fun hHeld => ?_)
                · exact k7
                clear hK K
                refine wpAnyH_done (by kernel_rfl) ?_ _
                go_wp2_with fail
                go_ret
                rw [HVN.out]
                exact ⟨ret_val (congrArg (Value.int .i64) (congrArg Nat.cast HN.out)), HX4.out.drop.qh⟩
              exact AllReadyH.nil
            exact AllReadyH.nil
          | false =>
            rw [hWd] at HW HVF
            have HVN : Hid (Pa.valueS q = (Pa.nameS (Pa.takeS Pa.sDot ((Pa.nameS q1).upd n (Pa.sName (Pa.nameX q1))))).upd n (Pa.sAttr (Pa.nameX (Pa.takeS Pa.sDot ((Pa.nameS q1).upd n (Pa.sName (Pa.nameX q1))))))) := Lib.hid (by rw [HVF.out, if_neg Bool.false_ne_true])
            go_wp2_with fail
            refine (HW.out _).mono ?_
            rintro e w3 ⟨rfl, hb3⟩
            replace hX := hX.next hb3
            clear k5 ht0 ht1 ht2 hb3 HVF HW
            have k5 := hX.cell5
            go_upto_region 5 with fail
            refine wp_region_held_drew (S := (fun w' => w'.cell? ⟨R.gp, 5, none⟩ = some (.slice (some ⟨g, 0, none⟩) P1.length c))) (by kernel_rfl) ?_ (fun hHeld => ?_)
            · exact k5
            refine wpAnyH_take (i := 0) (v := ?_) rfl (by kernel_rfl) (by kernel_rfl) (by kernel_rfl) (fun _ _ _ h => h) (Or.inl ⟨by rfl, ?_⟩) (by assumption) ?_
            rotate_left
            · (intro w hSw; (try dsimp only at hSw); (try obtain ⟨hSw1, hSw2⟩ := hSw); go_simp; (try with_reducible rfl))
            try simp only [Act.put, List.getElem_toArray, List.getElem_cons_zero, List.setIfInBounds_toArray, List.set_cons_zero, List.set_cons_succ]
            refine wpAnyH_take (i := 1) (v := ?_) rfl (by kernel_rfl) (by kernel_rfl) (by kernel_rfl) (fun _ _ _ h => h) (Or.inl ⟨by rfl, ?_⟩) (by assumption) ?_
            rotate_left
            · (intro w hSw; (try dsimp only at hSw); (try obtain ⟨hSw1, hSw2⟩ := hSw); go_simp; (try with_reducible rfl))
            try simp only [Act.put, List.getElem_toArray, List.getElem_cons_zero, List.getElem_cons_succ, List.setIfInBounds_toArray, List.set_cons_zero, List.set_cons_succ]
            refine wpAnyH_take (i := 2) (v := ?_) rfl (by kernel_rfl) (by kernel_rfl) (by kernel_rfl) (fun _ _ _ h => h) (Or.inl ⟨by rfl, ?_⟩) (by assumption) ?_
            rotate_left
            · (intro w hSw; (try dsimp only at hSw); (try obtain ⟨hSw1, hSw2⟩ := hSw); go_simp; (try with_reducible rfl))
            try simp only [Act.put, List.getElem_toArray, List.getElem_cons_zero, List.getElem_cons_succ, List.setIfInBounds_toArray, List.set_cons_zero, List.set_cons_succ]
            refine wpAnyH_take (i := 3) (v := ?_) rfl (by kernel_rfl) (by kernel_rfl) (by kernel_rfl) (fun _ _ _ h => h) (Or.inl ⟨by rfl, ?_⟩) (by assumption) ?_
            rotate_left
            · (intro w hSw; (try dsimp only at hSw); (try obtain ⟨hSw1, hSw2⟩ := hSw); go_simp; (try with_reducible rfl))
            try simp only [Act.put, List.getElem_toArray, List.getElem_cons_zero, List.getElem_cons_succ, List.setIfInBounds_toArray, List.set_cons_zero, List.set_cons_succ]
            refine wpAnyH_take (i := 4) (v := ?_) rfl (by kernel_rfl) (by kernel_rfl) (by kernel_rfl) (fun _ _ _ h => h) (Or.inl ⟨by rfl, ?_⟩) (by assumption) ?_
            rotate_left
            · (intro w hSw; (try dsimp only at hSw); (try obtain ⟨hSw1, hSw2⟩ := hSw); go_simp; (try with_reducible rfl))
            try simp only [Act.put, List.getElem_toArray, List.getElem_cons_zero, List.getElem_cons_succ, List.setIfInBounds_toArray, List.set_cons_zero, List.set_cons_succ]
            refine wpAnyH_take (i := 5) (v := ?_) rfl (by kernel_rfl) (by kernel_rfl) (by kernel_rfl) (fun _ _ _ h => h) (Or.inl ⟨by rfl, ?_⟩) (by assumption) ?_
            rotate_left
            · (intro w hSw; (try dsimp only at hSw); (try obtain ⟨hSw1, hSw2⟩ := hSw); go_simp; (try with_reducible rfl))
            try simp only [Act.put, List.getElem_toArray, List.getElem_cons_zero, List.getElem_cons_succ, List.setIfInBounds_toArray, List.set_cons_zero, List.set_cons_succ]
            refine wpAnyH_take (i := 6) (v := ?_) rfl (by kernel_rfl) (by kernel_rfl) (by kernel_rfl) (fun _ _ _ h => h) (Or.inl ⟨by rfl, ?_⟩) (by assumption) ?_
            rotate_left
            · (intro w hSw; (try dsimp only at hSw); (try obtain ⟨hSw1, hSw2⟩ := hSw); go_simp; (try with_reducible rfl))
            try simp only [Act.put, List.getElem_toArray, List.getElem_cons_zero, List.getElem_cons_succ, List.setIfInBounds_toArray, List.set_cons_zero, List.set_cons_succ]
            refine wpAnyH_ready (rs := [7]) (by kernel_rfl) (by simp) ?_
            refine AllReadyH.cons rfl (fun K hK => ?_) ?_
            · go_simp
              refine (qname hX.drew).mono ?_
              rintro e w3 ⟨rfl, hX3⟩
              have k6 := hX3.cell5
              have y1 : w3.cell? ⟨g, n * 6 + 2, none⟩ = some _ := hX3.fcell hx 2 (by decide)
              have fy := hX3.ffroz (n * 6 + 2)
              have HX4 := Lib.hid (hX3.put hx (Pa.sName (Pa.nameX q1)) 2 (by decide) (Sv (Pa.nameX q1)) rfl (fun _ => rfl))
              have k7 := HX4.out.cell5
              refine hK.out _ _ ?_ (fun hHeld => ?_)
              · exact k6
              clear hK K
              refine wpAnyH_take (i := 8) (v := ?_) rfl (by kernel_rfl) (by kernel_rfl) (by kernel_rfl) (fun _ _ _ h => h) (Or.inl ⟨by rfl, ?_⟩) (by assumption) ?_
              rotate_left
              · (intro w hSw; (try dsimp only at hSw); (try obtain ⟨hSw1, hSw2⟩ := hSw); go_simp; (try with_reducible rfl))
              try simp only [Act.put, List.getElem_toArray, List.getElem_cons_zero, List.getElem_cons_succ, List.setIfInBounds_toArray, List.set_cons_zero, List.set_cons_succ]
              refine wpAnyH_take (i := 9) (v := ?_) rfl (by kernel_rfl) (by kernel_rfl) (by kernel_rfl) (fun _ _ _ h => h) (Or.inl ⟨by rfl, ?_⟩) (by assumption) ?_
              rotate_left
              · (intro w hSw; (try dsimp only at hSw); (try obtain ⟨hSw1, hSw2⟩ := hSw); go_simp; (try with_reducible rfl))
              try simp only [Act.put, List.getElem_toArray, List.getElem_cons_zero, List.getElem_cons_succ, List.setIfInBounds_toArray, List.set_cons_zero, List.set_cons_succ]
              refine wpAnyH_ready (rs := [10]) (by kernel_rfl) (by simp) ?_
              refine AllReadyH.cons rfl (fun K hK => ?_) ?_
              · go_simp
                refine hK.out _ _ ?_ (fun hHeld => ?_)
                · exact k7
                clear hK K
                refine wpAnyH_done (by kernel_rfl) ?_ _
                have hX5 := HX4.out
                clear HX4 k5 k6 k7 y1 fy
                have hl6 : (P1.modify n fun x => (Pa.sName (Pa.nameX q1) x.1, x.2)).length = P1.length := by simp
                rw [← hl6] at hX5 hn1
                generalize (P1.modify n fun x => (Pa.sName (Pa.nameX q1) x.1, x.2)) = P2 at *
                clear hl6
                generalize w3.setCell _ _ = w5 at *
                have HT := Lib.hid (qtake Pa.sDot hX5)
                go_wp2_with fail
                refine HT.out.mono ?_
                rintro e w6 ⟨rfl, hX⟩
                clear HT hX5
                generalize hq2 : Pa.takeS Pa.sDot ((Pa.nameS q1).upd n (Pa.sName (Pa.nameX q1))) = q2 at *
                have k5 := hX.cell5
                obtain ⟨x, hx⟩ := hX.get (n := n) (by have := hX.len; omega)
                go_upto_region 7 with fail
                refine wp_region_held_drew (S := (fun w' => w'.cell? ⟨R.gp, 5, none⟩ = some (.slice (some ⟨g, 0, none⟩) P2.length c))) (by kernel_rfl) ?_ (fun hHeld => ?_)
                · exact k5
                refine wpAnyH_take (i := 0) (v := ?_) rfl (by kernel_rfl) (by kernel_rfl) (by kernel_rfl) (fun _ _ _ h => h) (Or.inl ⟨by rfl, ?_⟩) (by assumption) ?_
                rotate_left
                · (intro w hSw; (try dsimp only at hSw); (try obtain ⟨hSw1, hSw2⟩ := hSw); go_simp; (try with_reducible rfl))
                try simp only [Act.put, List.getElem_toArray, List.getElem_cons_zero, List.setIfInBounds_toArray, List.set_cons_zero, List.set_cons_succ]
                refine wpAnyH_take (i := 1) (v := ?_) rfl (by kernel_rfl) (by kernel_rfl) (by kernel_rfl) (fun _ _ _ h => h) (Or.inl ⟨by rfl, ?_⟩) (by assumption) ?_
                rotate_left
                · (intro w hSw; (try dsimp only at hSw); (try obtain ⟨hSw1, hSw2⟩ := hSw); go_simp; (try with_reducible rfl))
                try simp only [Act.put, List.getElem_toArray, List.getElem_cons_zero, List.getElem_cons_succ, List.setIfInBounds_toArray, List.set_cons_zero, List.set_cons_succ]
                refine wpAnyH_take (i := 2) (v := ?_) rfl (by kernel_rfl) (by kernel_rfl) (by kernel_rfl) (fun _ _ _ h => h) (Or.inl ⟨by rfl, ?_⟩) (by assumption) ?_
                rotate_left
                · (intro w hSw; (try dsimp only at hSw); (try obtain ⟨hSw1, hSw2⟩ := hSw); go_simp; (try with_reducible rfl))
                try simp only [Act.put, List.getElem_toArray, List.getElem_cons_zero, List.getElem_cons_succ, List.setIfInBounds_toArray, List.set_cons_zero, List.set_cons_succ]
                refine wpAnyH_take (i := 3) (v := ?_) rfl (by kernel_rfl) (by kernel_rfl) (by kernel_rfl) (fun _ _ _ h => h) (Or.inl ⟨by rfl, ?_⟩) (by assumption) ?_
                rotate_left
                · (intro w hSw; (try dsimp only at hSw); (try obtain ⟨hSw1, hSw2⟩ := hSw); go_simp; (try with_reducible rfl))
                try simp only [Act.put, List.getElem_toArray, List.getElem_cons_zero, List.getElem_cons_succ, List.setIfInBounds_toArray, List.set_cons_zero, List.set_cons_succ]
                refine wpAnyH_take (i := 4) (v := ?_) rfl (by kernel_rfl) (by kernel_rfl) (by kernel_rfl) (fun _ _ _ h => h) (Or.inl ⟨by rfl, ?_⟩) (by assumption) ?_
                rotate_left
                · (intro w hSw; (try dsimp only at hSw); (try obtain ⟨hSw1, hSw2⟩ := hSw); go_simp; (try with_reducible rfl))
                try simp only [Act.put, List.getElem_toArray, List.getElem_cons_zero, List.getElem_cons_succ, List.setIfInBounds_toArray, List.set_cons_zero, List.set_cons_succ]
                refine wpAnyH_take (i := 5) (v := ?_) rfl (by kernel_rfl) (by kernel_rfl) (by kernel_rfl) (fun _ _ _ h => h) (Or.inl ⟨by rfl, ?_⟩) (by assumption) ?_
                rotate_left
                · (intro w hSw; (try dsimp only at hSw); (try obtain ⟨hSw1, hSw2⟩ := hSw); go_simp; (try with_reducible rfl))
                try simp only [Act.put, List.getElem_toArray, List.getElem_cons_zero, List.getElem_cons_succ, List.setIfInBounds_toArray, List.set_cons_zero, List.set_cons_succ]
                refine wpAnyH_take (i := 6) (v := ?_) rfl (by kernel_rfl) (by kernel_rfl) (by kernel_rfl) (fun _ _ _ h => h) (Or.inl ⟨by rfl, ?_⟩) (by assumption) ?_
                rotate_left
                · (intro w hSw; (try dsimp only at hSw); (try obtain ⟨hSw1, hSw2⟩ := hSw); go_simp; (try with_reducible rfl))
                try simp only [Act.put, List.getElem_toArray, List.getElem_cons_zero, List.getElem_cons_succ, List.setIfInBounds_toArray, List.set_cons_zero, List.set_cons_succ]
                refine wpAnyH_ready (rs := [7]) (by kernel_rfl) (by simp) ?_
                refine AllReadyH.cons rfl (fun K hK => ?_) ?_
                · go_simp
                  refine (qname hX.drew).mono ?_
                  rintro e w7 ⟨rfl, hX8⟩
                  have k6 := hX8.cell5
                  have y1 : w7.cell? ⟨g, n * 6 + 3, none⟩ = some _ := hX8.fcell hx 3 (by decide)
                  have fy := hX8.ffroz (n * 6 + 3)
                  have HX4 := Lib.hid (hX8.put hx (Pa.sAttr (Pa.nameX q2)) 3 (by decide) (Sv (Pa.nameX q2)) rfl (fun _ => rfl))
                  have k7 := HX4.out.cell5
                  refine hK.out _ _ ?_ (fun hHeld => ?_)
                  · exact k6
                  clear hK K
                  refine wpAnyH_take (i := 8) (v := ?_) rfl (by kernel_rfl) (by kernel_rfl) (by kernel_rfl) (fun _ _ _ h => h) (Or.inl ⟨by rfl, ?_⟩) (by assumption) ?_
                  rotate_left
                  · (intro w hSw; (try dsimp only at hSw); (try obtain ⟨hSw1, hSw2⟩ := hSw); go_simp; (try with_reducible rfl))
                  try simp only [Act.put, List.getElem_toArray, List.getElem_cons_zero, List.getElem_cons_succ, List.setIfInBounds_toArray, List.set_cons_zero, List.set_cons_succ]
                  refine wpAnyH_take (i := 9) (v := ?_) rfl (by kernel_rfl) (by kernel_rfl) (by kernel_rfl) (fun _ _ _ h => h) (Or.inl ⟨by rfl, ?_⟩) (by assumption) ?_
                  rotate_left
                  · (intro w hSw; (try dsimp only at hSw); (try obtain ⟨hSw1, hSw2⟩ := hSw); go_simp; (try with_reducible rfl))
                  try simp only [Act.put, List.getElem_toArray, List.getElem_cons_zero, List.getElem_cons_succ, List.setIfInBounds_toArray, List.set_cons_zero, List.set_cons_succ]
                  refine wpAnyH_ready (rs := [10]) (by kernel_rfl) (by simp) ?_
                  refine AllReadyH.cons rfl (fun K hK => ?_) ?_
                  · go_simp
                    refine hK.out _ _ ?_ (fun hHeld => ?_)
                    · exact k7
                    clear hK K
                    refine wpAnyH_done (by kernel_rfl) ?_ _
                    go_wp2_with fail
                    go_ret
                    rw [HVN.out]
                    exact ⟨ret_val (congrArg (Value.int .i64) (congrArg Nat.cast HN.out)), HX4.out.drop.qh⟩
                  exact AllReadyH.nil
                exact AllReadyH.nil
              exact AllReadyH.nil
            exact AllReadyH.nil
      exact AllReadyH.nil
    exact AllReadyH.nil
end
end Go.Proofs.YtogmhaihmkcjgaaGreatDoor
