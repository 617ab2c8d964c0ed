import Derived.Test.YtlagcdgfmgkooaaDoorIntB
/-
  Walk over integer.Extended's closure.
-/
namespace Go.Proofs.YtlagcdgfmgkooaaDoor
open Go.RowKit
set_option linter.unusedVariables false

theorem kp_cell {w : World} {bl : List (Nat × TypeId × List Value)} {W : World} (h : Kp w bl W) (i k : Nat) (hi : i < bl.length := by simp) {v : Value} (hv : (bl[i]).2.2[k]? = some v := by rfl) : W.cell? ⟨(bl[i]).1, k, none⟩ = some v := by
  rw [(h.blk _ (List.getElem_mem hi)).cell k, hv]
theorem kp_free {w : World} {bl : List (Nat × TypeId × List Value)} {W : World} (h : Kp w bl W) (i k : Nat) (hi : i < bl.length := by simp) : W.frozen? ⟨(bl[i]).1, k, none⟩ = false := (h.blk _ (List.getElem_mem hi)).frozen k
theorem fitI_ok {z : Int} (h : Fits z) : fitI z = .tuple #[iV z, .int .i64 0] := by
  unfold Fits at h
  rw [fitI, if_pos h]
/-- Mul and Sub on integers, in the form of a tuple -/
theorem mulZ {n k : Bool} {m l : Nat} (h1 : Nm n m) (h2 : Nm k l) (p : Int) (hp : zz n m * zz k l = p) (hf : Fits p) (w : World) :
    Calls Tryd.prog 18 #[.agg #[.bool n, Sv (Dm.str m)], .agg #[.bool k, Sv (Dm.str l)]] w fun e w' => e = .returned (.tuple #[.agg #[.bool (decide (p < 0)), Sv (Dm.str p.natAbs)], .int .i64 0]) ∧ Below w.heap.size w w' :=
  (iMul_nm h1 h2 w).mono fun e w' ⟨he, hw⟩ => ⟨by rw [he, hp, fitI_ok hf]; rfl, hw⟩
theorem subZ {n k : Bool} {m l : Nat} (h1 : Nm n m) (h2 : Nm k l) (p : Int) (hp : zz n m - zz k l = p) (hf : Fits p) (w : World) :
    Calls Tryd.prog 16 #[.agg #[.bool n, Sv (Dm.str m)], .agg #[.bool k, Sv (Dm.str l)]] w fun e w' => e = .returned (.tuple #[.agg #[.bool (decide (p < 0)), Sv (Dm.str p.natAbs)], .int .i64 0]) ∧ Below w.heap.size w w' :=
  (iSub_nm h1 h2 w).mono fun e w' ⟨he, hw⟩ => ⟨by rw [he, hp, fitI_ok hf]; rfl, hw⟩
theorem addZ {n k : Bool} {m l : Nat} (h1 : Nm n m) (h2 : Nm k l) (p : Int) (hp : zz n m + zz k l = p) (hf : Fits p) (w : World) :
    Calls Tryd.prog 14 #[.agg #[.bool n, Sv (Dm.str m)], .agg #[.bool k, Sv (Dm.str l)]] w fun e w' => e = .returned (.tuple #[.agg #[.bool (decide (p < 0)), Sv (Dm.str p.natAbs)], .int .i64 0]) ∧ Below w.heap.size w w' :=
  (iAdd_nm h1 h2 w).mono fun e w' ⟨he, hw⟩ => ⟨by rw [he, hp, fitI_ok hf]; rfl, hw⟩
theorem fromN (m : Nat) (hm : m < 256 ^ 128) (w : World) :
    Calls Tryd.prog 23 #[Sv (Dm.str m)] w fun e w' => e = .returned (.agg #[.bool false, Sv (Dm.str m)]) ∧ Below w.heap.size w w' :=
  (iFrom_nm m hm w).mono fun e w' ⟨he, hw⟩ => ⟨by
    rw [he]
    have : iV (m : Int) = .agg #[.bool false, Sv (Dm.str m)] := iV_zz (n := false) (m := m) (fun h => by cases h)
    rw [this], hw⟩
theorem Kp.set2 {w W : World} {g gq : Nat} {t tq tr tl : TypeId} {u0 v0 q : Value} {lr ll : List Value} (h : Kp w [(g, t, [u0, v0]), (gq, tq, [q]), (w.heap.size + 1, tr, lr), (w.heap.size, tl, ll)] W) (hg : gq < w.heap.size) (u v : Value) (hgg : w.heap.size + 1 < g) : Kp w [(g, t, [u, v]), (gq, tq, [q]), (w.heap.size + 1, tr, lr), (w.heap.size, tl, ll)] ((W.setCell ⟨g, 0, none⟩ u).setCell ⟨g, 1, none⟩ v) := by
  have h0 := h.blk _ (List.mem_cons_self ..)
  have h1 := h.blk (gq, tq, [q]) (by simp)
  have h2 := h.blk (w.heap.size + 1, tr, lr) (by simp)
  have h3 := h.blk (w.heap.size, tl, ll) (by simp)
  refine ⟨fun x hx => ?_, (h.below.setCell (by simp; omega) _).setCell (by simp; omega) _⟩
  simp only [List.mem_cons, List.not_mem_nil, or_false] at hx
  rcases hx with rfl | rfl | rfl | rfl
  · exact (h0.set_ 0 u).set_ 1 v
  · exact (h1.far (by simp; omega) _).far (by simp; omega) _
  · exact (h2.far (by simp; omega) _).far (by simp; omega) _
  · exact (h3.far (by simp; omega) _).far (by simp; omega) _
theorem ext_keep {w W : World} {gq : Nat} {n0 n1 : Bool} {a q m1 c0 c1 c2 c3 : Value} (h : Kp w [(gq, 22, [q]), (w.heap.size + 1, 74, [c0, c1, c2, c3]), (w.heap.size, 74, [.bool n0, a, .bool n1, m1])] W) :
    W.cell? ⟨gq, 0, none⟩ = some q ∧ W.cell? ⟨w.heap.size, 2, none⟩ = some (.bool n1) ∧ W.cell? ⟨w.heap.size, 3, none⟩ = some m1 := ⟨kp_cell h 0 0, kp_cell h 2 2, kp_cell h 2 3⟩
theorem ext_keep1 {w W : World} {gq : Nat} {n0 n1 : Bool} {a q m1 c0 c1 c2 c3 : Value} {x : Nat × TypeId × List Value} (h : Kp w [x, (gq, 22, [q]), (w.heap.size + 1, 74, [c0, c1, c2, c3]), (w.heap.size, 74, [.bool n0, a, .bool n1, m1])] W) :
    W.cell? ⟨gq, 0, none⟩ = some q ∧ W.cell? ⟨w.heap.size, 2, none⟩ = some (.bool n1) ∧ W.cell? ⟨w.heap.size, 3, none⟩ = some m1 := ⟨kp_cell h 1 0, kp_cell h 3 2, kp_cell h 3 3⟩
theorem kp_lt3 {w W : World} {a b : Nat × TypeId × List Value} {g : Nat} {t : TypeId} {l : List Value} (h : Kp w [a, (g, t, l), b] W) : g < W.heap.size := (h.blk (g, t, l) (by simp)).lt
theorem kp_lt4 {w W : World} {a b c : Nat × TypeId × List Value} {g : Nat} {t : TypeId} {l : List Value} (h : Kp w [c, a, (g, t, l), b] W) : g < W.heap.size := (h.blk (g, t, l) (by simp)).lt
theorem ext_cells {w W : World} {g : Nat} {t t1 t2 : TypeId} {x : Nat × TypeId × List Value} {u v a0 a1 b0 b1 c0 c1 c2 c3 : Value} (h : Kp w [(g, t, [u, v]), x, (w.heap.size + 1, t1, [c0, c1, c2, c3]), (w.heap.size, t2, [a0, a1, b0, b1])] W) :
    (W.cell? ⟨g, 0, none⟩ = some u ∧ W.cell? ⟨g, 1, none⟩ = some v) ∧ (W.cell? ⟨w.heap.size, 0, none⟩ = some a0 ∧ W.cell? ⟨w.heap.size, 1, none⟩ = some a1 ∧ W.cell? ⟨w.heap.size, 2, none⟩ = some b0 ∧ W.cell? ⟨w.heap.size, 3, none⟩ = some b1) ∧
    (W.cell? ⟨w.heap.size + 1, 0, none⟩ = some c0 ∧ W.cell? ⟨w.heap.size + 1, 1, none⟩ = some c1 ∧ W.cell? ⟨w.heap.size + 1, 2, none⟩ = some c2 ∧ W.cell? ⟨w.heap.size + 1, 3, none⟩ = some c3) ∧
    (W.frozen? ⟨w.heap.size + 1, 0, none⟩ = false ∧ W.frozen? ⟨w.heap.size + 1, 1, none⟩ = false ∧ W.frozen? ⟨w.heap.size + 1, 2, none⟩ = false ∧ W.frozen? ⟨w.heap.size + 1, 3, none⟩ = false) :=
  ⟨⟨kp_cell h 0 0, kp_cell h 0 1⟩, ⟨kp_cell h 3 0, kp_cell h 3 1, kp_cell h 3 2, kp_cell h 3 3⟩, ⟨kp_cell h 2 0, kp_cell h 2 1, kp_cell h 2 2, kp_cell h 2 3⟩, ⟨kp_free h 2 0, kp_free h 2 1, kp_free h 2 2, kp_free h 2 3⟩⟩
theorem ext_end {w W : World} {g : Nat} {t t1 t2 : TypeId} {x : Nat × TypeId × List Value} {u v a0 a1 b0 b1 c0 c1 c2 c3 : Value} (h : Kp w [(g, t, [u, v]), x, (w.heap.size + 1, t1, [c0, c1, c2, c3]), (w.heap.size, t2, [a0, a1, b0, b1])] W) (e0 e1 e2 e3 : Value) (o : Obj) {W' : World}
    (hW : W' = ((((W.setCell ⟨w.heap.size + 1, 0, none⟩ e0).setCell ⟨w.heap.size + 1, 1, none⟩ e1).setCell ⟨w.heap.size + 1, 2, none⟩ e2).setCell ⟨w.heap.size + 1, 3, none⟩ e3).alloc o) :
    (W'.cell? ⟨w.heap.size + 1, 0, none⟩ = some e0 ∧ W'.cell? ⟨w.heap.size + 1, 1, none⟩ = some e1 ∧ W'.cell? ⟨w.heap.size + 1, 2, none⟩ = some e2 ∧ W'.cell? ⟨w.heap.size + 1, 3, none⟩ = some e3) ∧ Below w.heap.size w W' := by
  have hb := (((((h.blk (w.heap.size + 1, t1, [c0, c1, c2, c3]) (by simp)).set_ 0 e0).set_ 1 e1).set_ 2 e2).set_ 3 e3).alloc o
  have hl : Below w.heap.size w ((((W.setCell ⟨w.heap.size + 1, 0, none⟩ e0).setCell ⟨w.heap.size + 1, 1, none⟩ e1).setCell ⟨w.heap.size + 1, 2, none⟩ e2).setCell ⟨w.heap.size + 1, 3, none⟩ e3) := (((h.below.setCell (by simp) e0).setCell (by simp) e1).setCell (by simp) e2).setCell (by simp) e3
  have hl' := hl.alloc hl.size o
  subst hW
  refine ⟨⟨?_, ?_, ?_, ?_⟩, hl'⟩
  · rw [hb.cell 0]; rfl
  · rw [hb.cell 1]; rfl
  · rw [hb.cell 2]; rfl
  · rw [hb.cell 3]; rfl
set_option maxRecDepth 20000 in
set_option maxHeartbeats 2000000 in
theorem next_any (n0 n1 : Bool) (m0 m1 q : Nat) (h0 : Nm n0 m0) (h1 : Nm n1 m1) (hq : q < 256 ^ 128) (p d : Int) (hp : (q : Int) * zz n1 m1 = p) (hd : zz n0 m0 - p = d) (fp : Fits p) (fd : Fits d) (gq : Nat) (w : World) (hQ : Blk w gq 22 [Sv (Dm.str q)]) :
    Calls Tryd.prog 58 #[.agg #[.bool n0, Sv (Dm.str m0), .bool n1, Sv (Dm.str m1)], .pointer (some ⟨gq, 0, none⟩)] w fun e w' => e = .returned (.agg #[.bool n1, Sv (Dm.str m1), .bool (decide (d < 0)), Sv (Dm.str d.natAbs)]) ∧ Below w.heap.size w w' := by
  have hq' : Nm false q := ⟨(fun h => by cases h), hq⟩
  have hp' := nm_of p fp
  have hM := fun W : World => mulZ hq' h1 p hp fp W
  have hS := fun W : World => subZ h0 hp' d (by rw [zz_of]; exact hd) fd W
  have hF := fun W : World => fromN q hq W
  have HM := Lib.hid hM
  have HS := Lib.hid hS
  have HF := Lib.hid hF
  clear hM hS hF hp hd
  have hg := hQ.lt
  have hk0 : Kp w [(w.heap.size + 1, 74, [.bool false, .string ⟨#[]⟩, .bool false, .string ⟨#[]⟩]), (w.heap.size, 74, [.bool n0, Sv (Dm.str m0), .bool n1, Sv (Dm.str m1)])] ((w.alloc (.cells #[.bool n0, Sv (Dm.str m0), .bool n1, Sv (Dm.str m1)] 74)).alloc (.cells #[.bool false, .string ⟨#[]⟩, .bool false, .string ⟨#[]⟩] 74)) := by
    have := ((Kp.start w).new 74 [.bool n0, Sv (Dm.str m0), .bool n1, Sv (Dm.str m1)]).new 74 [.bool false, .string ⟨#[]⟩, .bool false, .string ⟨#[]⟩]
    simpa using this
  have hk : Kp w [(gq, 22, [Sv (Dm.str q)]), (w.heap.size + 1, 74, [.bool false, .string ⟨#[]⟩, .bool false, .string ⟨#[]⟩]), (w.heap.size, 74, [.bool n0, Sv (Dm.str m0), .bool n1, Sv (Dm.str m1)])] ((w.alloc (.cells #[.bool n0, Sv (Dm.str m0), .bool n1, Sv (Dm.str m1)] 74)).alloc (.cells #[.bool false, .string ⟨#[]⟩, .bool false, .string ⟨#[]⟩] 74)) :=
    ⟨fun x hx => by
      rcases List.mem_cons.1 hx with rfl | hx
      · exact (hQ.alloc _).alloc _
      · exact hk0.blk x hx, hk0.below⟩
  clear hk0 hQ
  go_enter Tryd.func58, Tryd.ntmps58
  go_wp2_with fail
  have hkd := hk.drew
  have hkn := (hk.new 24 [.bool false, .string ⟨#[]⟩]).drew
  have hsz3 : ((w.alloc (.cells #[.bool n0, Sv (Dm.str m0), .bool n1, Sv (Dm.str m1)] 74)).alloc (.cells #[.bool false, .string ⟨#[]⟩, .bool false, .string ⟨#[]⟩] 74)).heap.size = w.heap.size + 1 + 1 := by simp
  rw [hsz3] at hkn
  clear hk
  go_region_held3 (fun w' => w'.cell? ⟨gq, 0, none⟩ = some (Sv (Dm.str q)) ∧ w'.cell? ⟨w.heap.size, 2, none⟩ = some (.bool n1) ∧ w'.cell? ⟨w.heap.size, 3, none⟩ = some (Sv (Dm.str m1)))
    (first | exact ext_keep (by assumption) | exact ext_keep1 (by assumption) | exact ext_keep (Kp.alloc (by assumption) _) | exact ext_keep1 (Kp.set2 (by assumption) hg _ _ (by first | assumption | omega | (simp; omega))))
    (first | (go_at_call 23; refine (HF.out _).mono ?_; rintro e wa ⟨rfl, hba⟩; (first | (have hk1 := Kp.next (w := w) (by assumption) hba) | (have hk1 := Kp.next (w := w) (Kp.new (by assumption) 24 [.bool false, .string ⟨#[]⟩]) hba)); (first | (have hz1 := kp_lt4 hk1) | (have hz1 := kp_lt3 hk1))) | (go_at_call 18; refine (HM.out _).mono ?_; rintro e wb ⟨rfl, hbb⟩; (first | (have hk2 := Kp.next (w := w) (by assumption) hbb) | (have hk2 := Kp.next (w := w) (Kp.new (by assumption) 24 [.bool false, .string ⟨#[]⟩]) hbb)); (first | (have hz2 := kp_lt4 hk2) | (have hz2 := kp_lt3 hk2)); try (have p1 := kp_cell hk2 0 1; have p0 := kp_cell hk2 0 0; have q0 := kp_free hk2 0 0; have q1 := kp_free hk2 0 1; simp at p0 p1 q0 q1)))
  · have hk3 : Kp w [(wb.heap.size, 24, [.bool (decide (p < 0)), Sv (Dm.str p.natAbs)]), (gq, 22, [Sv (Dm.str q)]), (w.heap.size + 1, 74, [.bool false, .string ⟨#[]⟩, .bool false, .string ⟨#[]⟩]), (w.heap.size, 74, [.bool n0, Sv (Dm.str m0), .bool n1, Sv (Dm.str m1)])] (wb.alloc (.cells #[.bool (decide (p < 0)), .string (bs (Dm.str p.natAbs))] 24)) := Kp.new hk2 24 [.bool (decide (p < 0)), Sv (Dm.str p.natAbs)]
    clear hk1 hk2 hba hbb hkn hkd hsz3 hz1 HM HF
    generalize wb.heap.size = g at *
    generalize wb.alloc (.cells #[.bool (decide (p < 0)), .string (bs (Dm.str p.natAbs))] 24) = W at *
    obtain ⟨⟨u0, u1⟩, ⟨a0, a1, a2, a3⟩, -, -⟩ := ext_cells hk3
    go_wp2_with fail
    refine (HS.out _).mono ?_
    rintro e wc ⟨rfl, hbc⟩
    have hk4 := hk3.next hbc
    obtain ⟨⟨u0', u1'⟩, ⟨a0', a1', a2', a3'⟩, ⟨c0, c1, c2, c3⟩, ⟨f0, f1, f2, f3⟩⟩ := ext_cells (hk4.alloc (.cells #[.bool (decide (d < 0)), .string (bs (Dm.str d.natAbs))] 24))
    clear u0 u1 a0 a1 a2 a3 hk3
    obtain ⟨⟨u0, u1⟩, ⟨a0, a1, a2, a3⟩, ⟨d0, d1, d2, d3⟩, ⟨e0, e1, e2, e3⟩⟩ := ext_cells hk4
    have hz4 := kp_lt4 hk4
    go_wp2_with fail
    obtain ⟨⟨c0, c1, c2, c3⟩, hl⟩ := ext_end hk4 (.bool n1) (Sv (Dm.str m1)) (.bool (decide (d < 0))) (Sv (Dm.str d.natAbs)) (.cells #[.bool (decide (d < 0)), .string (bs (Dm.str d.natAbs))] 24) rfl
    exact bodyPost_ret (v := .agg #[.bool n1, Sv (Dm.str m1), .bool (decide (d < 0)), Sv (Dm.str d.natAbs)]) (by simp [results, Tryd.results58, go_sem, c0, c1, c2, c3]) rfl ⟨rfl, hl⟩
  · have hk3 := Kp.set2 hk2 hg (.bool (decide (p < 0))) (.string (bs (Dm.str p.natAbs))) hz1
    clear hk1 hk2 hba hbb hkn hkd hsz3 HM HF p0 p1 q0 q1 hz2
    rename_i hHeld
    clear hHeld
    generalize wa.heap.size = g at *
    generalize ((wb.setCell ⟨g, 0, none⟩ (.bool (decide (p < 0)))).setCell ⟨g, 1, none⟩ (.string (bs (Dm.str p.natAbs)))) = W at *
    have hz2 := hz1
    clear hz1
    obtain ⟨⟨u0, u1⟩, ⟨a0, a1, a2, a3⟩, -, -⟩ := ext_cells hk3
    go_wp2_with fail
    refine (HS.out _).mono ?_
    rintro e wc ⟨rfl, hbc⟩
    have hk4 := hk3.next hbc
    obtain ⟨⟨u0', u1'⟩, ⟨a0', a1', a2', a3'⟩, ⟨c0, c1, c2, c3⟩, ⟨f0, f1, f2, f3⟩⟩ := ext_cells (hk4.alloc (.cells #[.bool (decide (d < 0)), .string (bs (Dm.str d.natAbs))] 24))
    clear u0 u1 a0 a1 a2 a3 hk3
    obtain ⟨⟨u0, u1⟩, ⟨a0, a1, a2, a3⟩, ⟨d0, d1, d2, d3⟩, ⟨e0, e1, e2, e3⟩⟩ := ext_cells hk4
    have hz4 := kp_lt4 hk4
    go_wp2_with fail
    obtain ⟨⟨c0, c1, c2, c3⟩, hl⟩ := ext_end hk4 (.bool n1) (Sv (Dm.str m1)) (.bool (decide (d < 0))) (Sv (Dm.str d.natAbs)) (.cells #[.bool (decide (d < 0)), .string (bs (Dm.str d.natAbs))] 24) rfl
    exact bodyPost_ret (v := .agg #[.bool n1, Sv (Dm.str m1), .bool (decide (d < 0)), Sv (Dm.str d.natAbs)]) (by simp [results, Tryd.results58, go_sem, c0, c1, c2, c3]) rfl ⟨rfl, hl⟩
  · have hz3 : w.heap.size + 1 < w.heap.size + 1 + 1 := by omega
    have hk3 := Kp.set2 hk2 hg (.bool (decide (p < 0))) (.string (bs (Dm.str p.natAbs))) hz3
    clear hk1 hk2 hba hbb hkn hkd hsz3 HM HF p0 p1 q0 q1 hz2 hz1
    rename_i hHeld
    clear hHeld
    generalize hgg : w.heap.size + 1 + 1 = g at *
    generalize ((wb.setCell ⟨g, 0, none⟩ (.bool (decide (p < 0)))).setCell ⟨g, 1, none⟩ (.string (bs (Dm.str p.natAbs)))) = W at *
    have hz2 := hz3
    clear hz3
    obtain ⟨⟨u0, u1⟩, ⟨a0, a1, a2, a3⟩, -, -⟩ := ext_cells hk3
    go_wp2_with fail
    refine (HS.out _).mono ?_
    rintro e wc ⟨rfl, hbc⟩
    have hk4 := hk3.next hbc
    obtain ⟨⟨u0', u1'⟩, ⟨a0', a1', a2', a3'⟩, ⟨c0, c1, c2, c3⟩, ⟨f0, f1, f2, f3⟩⟩ := ext_cells (hk4.alloc (.cells #[.bool (decide (d < 0)), .string (bs (Dm.str d.natAbs))] 24))
    clear u0 u1 a0 a1 a2 a3 hk3
    obtain ⟨⟨u0, u1⟩, ⟨a0, a1, a2, a3⟩, ⟨d0, d1, d2, d3⟩, ⟨e0, e1, e2, e3⟩⟩ := ext_cells hk4
    have hz4 := kp_lt4 hk4
    go_wp2_with fail
    obtain ⟨⟨c0, c1, c2, c3⟩, hl⟩ := ext_end hk4 (.bool n1) (Sv (Dm.str m1)) (.bool (decide (d < 0))) (Sv (Dm.str d.natAbs)) (.cells #[.bool (decide (d < 0)), .string (bs (Dm.str d.natAbs))] 24) rfl
    exact bodyPost_ret (v := .agg #[.bool n1, Sv (Dm.str m1), .bool (decide (d < 0)), Sv (Dm.str d.natAbs)]) (by simp [results, Tryd.results58, go_sem, c0, c1, c2, c3]) rfl ⟨rfl, hl⟩
end Go.Proofs.YtlagcdgfmgkooaaDoor

/-
  Plain law: the extended algorithm of Euclid, with naturals and one sign.
-/
namespace Go.Proofs.YtlagcdgfmgkooaaDoor
set_option linter.unusedVariables false

structure EI (M a b r0 r1 X0 X1 Y0 Y1 : Nat) (s : Bool) : Prop where
  bx : X1 * r0 + X0 * r1 = b
  ay : Y1 * r0 + Y0 * r1 = a
  ef : s = false → a * X0 = b * Y0 + r0 ∧ b * Y1 = a * X1 + r1
  et : s = true → b * Y0 = a * X0 + r0 ∧ a * X1 = b * Y1 + r1
  g : Nat.gcd r0 r1 = Nat.gcd a b
  f0 : X0 < M
  f1 : X1 < M
  f2 : Y0 < M
  f3 : Y1 < M
  j : (r1 ≠ 0 ∧ X1 = 0 ∧ X0 = 1) ∨ (r1 < r0 ∧ X0 ≤ X1 ∧ 0 < X1 ∧ (r1 = 0 → X0 < X1))
theorem EI.start {M a b : Nat} (hb : b ≠ 0) (hM : 1 < M) : EI M a b a b 1 0 0 1 false :=
  ⟨by simp, by simp, fun _ => by simp, (fun h => by cases h), rfl, hM, by omega, by omega, hM, .inl ⟨hb, rfl, rfl⟩⟩
theorem EI.step {M a b r0 r1 X0 X1 Y0 Y1 : Nat} {s : Bool} (h : EI M a b r0 r1 X0 X1 Y0 Y1 s) (h1 : r1 ≠ 0) (ha : a < M) (hb : b < M) :
    EI M a b r1 (r0 % r1) X1 (X0 + r0 / r1 * X1) Y1 (Y0 + r0 / r1 * Y1) (!s) := by
  have hd := Nat.div_add_mod r0 r1
  have hl := Nat.mod_lt r0 (Nat.pos_of_ne_zero h1)
  have hg : Nat.gcd r1 (r0 % r1) = Nat.gcd r0 r1 := by rw [Nat.gcd_comm r0 r1, Nat.gcd_rec r1 r0, Nat.gcd_comm]
  generalize r0 / r1 = q at *
  generalize r0 % r1 = r at *
  have b1 : (X0 + q * X1) * r1 + X1 * r = b := by rw [← h.bx, ← hd]; grind
  have b2 : (Y0 + q * Y1) * r1 + Y1 * r = a := by rw [← h.ay, ← hd]; grind
  have l1 : (X0 + q * X1) ≤ b := by
    have := Nat.le_mul_of_pos_right (X0 + q * X1) (Nat.pos_of_ne_zero h1)
    omega
  have l2 : (Y0 + q * Y1) ≤ a := by
    have := Nat.le_mul_of_pos_right (Y0 + q * Y1) (Nat.pos_of_ne_zero h1)
    omega
  refine ⟨b1, b2, fun hs => ?_, fun hs => ?_, hg.trans h.g, h.f1, by omega, h.f3, by omega, .inr ?_⟩
  · obtain ⟨u, v⟩ := h.et (by cases s; cases hs; rfl)
    refine ⟨v, ?_⟩
    grind
  · obtain ⟨u, v⟩ := h.ef (by cases s; rfl; cases hs)
    refine ⟨v, ?_⟩
    grind
  · rcases h.j with ⟨j1, rfl, rfl⟩ | ⟨j1, j2, j3, j4⟩
    · refine ⟨hl, by omega, by omega, by omega⟩
    · have hq : q ≠ 0 := by rintro rfl; omega
      have : X1 ≤ q * X1 := Nat.le_mul_of_pos_left X1 (Nat.pos_of_ne_zero hq)
      refine ⟨hl, by omega, by omega, fun hr => ?_⟩
      have hq2 : 2 ≤ q := by
        apply Classical.byContradiction
        intro hc
        have : q = 1 := by omega
        subst this
        omega
      have := Nat.mul_le_mul_right X1 hq2
      omega
/-- what the answers must be -/
structure EZ (a b : Nat) (x y : Int) : Prop where
  eq : (a : Int) * x + b * y = Nat.gcd a b
  nn : 0 ≤ x
  lt : x * Nat.gcd a b < b
theorem EZ.unique {a b : Nat} {x y x' y' : Int} (hb : b ≠ 0) (h : EZ a b x y) (h' : EZ a b x' y') : x = x' ∧ y = y' := by
  have hg : 0 < Nat.gcd a b := Nat.gcd_pos_of_pos_right a (Nat.pos_of_ne_zero hb)
  obtain ⟨A, hA⟩ := Nat.gcd_dvd_left a b
  obtain ⟨B, hB⟩ := Nat.gcd_dvd_right a b
  have hc : Nat.gcd A B = 1 := by
    have := Nat.gcd_mul_left (Nat.gcd a b) A B
    rw [← hA, ← hB] at this
    exact Nat.eq_of_mul_eq_mul_left hg (by omega)
  have e1 := h.eq
  have e2 := h'.eq
  have l1 := h.lt
  have l2 := h'.lt
  generalize Nat.gcd a b = g at *
  have hgi : (0 : Int) < g := by omega
  have hBi : (B : Int) ≠ 0 := by
    intro h0
    have hB0 : B = 0 := by omega
    apply hb
    rw [hB, hB0]
    simp
  rw [hA, hB] at e1 e2
  rw [hB] at l1 l2
  rw [Int.natCast_mul] at e1 e2 l1 l2
  rw [Int.natCast_mul] at e1 e2
  have k1 : (A : Int) * x + B * y = 1 := by
    apply Int.eq_of_mul_eq_mul_left (Int.ne_of_gt hgi)
    grind
  have k2 : (A : Int) * x' + B * y' = 1 := by
    apply Int.eq_of_mul_eq_mul_left (Int.ne_of_gt hgi)
    grind
  have m1 : x < B := by
    apply Int.lt_of_mul_lt_mul_left (a := g) _ (by omega)
    rw [Int.mul_comm (g : Int) x]; exact l1
  have m2 : x' < B := by
    apply Int.lt_of_mul_lt_mul_left (a := g) _ (by omega)
    rw [Int.mul_comm (g : Int) x']; exact l2
  have hd : (B : Int) ∣ x - x' := by
    refine ⟨x * y' - y * x', ?_⟩
    grind
  obtain ⟨c, hc'⟩ := hd
  have n1 := h.nn
  have n2 := h'.nn
  have hx : x = x' := by
    have hc0 : c = 0 := by
      rcases Int.lt_trichotomy c 0 with hh | hh | hh
      · have := Int.mul_le_mul_of_nonneg_left (c := (B : Int)) (a := c) (b := -1) (by omega) (by omega)
        omega
      · exact hh
      · have := Int.mul_le_mul_of_nonneg_left (c := (B : Int)) (a := 1) (b := c) (by omega) (by omega)
        omega
    rw [hc0] at hc'
    omega
  refine ⟨hx, ?_⟩
  subst hx
  apply Int.eq_of_mul_eq_mul_left hBi
  omega
theorem EI.done {M a b r0 X0 X1 Y0 Y1 : Nat} {s : Bool} (h : EI M a b r0 0 X0 X1 Y0 Y1 s) : r0 = Nat.gcd a b ∧ X1 * r0 = b ∧ Y1 * r0 = a ∧ X0 < X1 := by
  have h1 := h.g
  have h2 := h.bx
  have h3 := h.ay
  refine ⟨by simpa using h1, by simpa using h2, by simpa using h3, ?_⟩
  rcases h.j with ⟨j, -⟩ | ⟨_, _, _, j⟩
  · exact absurd rfl j
  · exact j rfl
theorem EI.plus {M a b r0 X0 X1 Y0 Y1 : Nat} {s : Bool} (h : EI M a b r0 0 X0 X1 Y0 Y1 s) (hn : ¬(s = true ∧ X0 ≠ 0)) (hb : b ≠ 0) : EZ a b (zz s X0) (zz (!s) Y0) := by
  obtain ⟨h1, h2, h3, h4⟩ := h.done
  have hr : r0 ≠ 0 := by rintro rfl; simp at h2; omega
  have hlt : X0 * r0 < b := by rw [← h2]; exact Nat.mul_lt_mul_of_pos_right h4 (Nat.pos_of_ne_zero hr)
  cases s
  · obtain ⟨u, v⟩ := h.ef rfl
    refine ⟨?_, by simp [zz], ?_⟩
    · have := congrArg (Int.ofNat) u
      simp only [zz, Bool.not_false, if_true, Bool.false_eq_true, if_false]
      rw [← h1]
      have u' : (a : Int) * X0 = b * Y0 + r0 := by exact_mod_cast u
      grind
    · simp only [zz, Bool.false_eq_true, if_false]
      rw [← h1]; exact_mod_cast hlt
  · have hX : X0 = 0 := by simpa using hn
    subst hX
    obtain ⟨u, v⟩ := h.et rfl
    refine ⟨?_, by simp [zz], ?_⟩
    · simp only [zz, Bool.not_true, if_true, Bool.false_eq_true, if_false]
      rw [← h1]
      have u' : (b : Int) * Y0 = r0 := by exact_mod_cast (by simpa using u)
      grind
    · simp only [zz, if_true]
      rw [← h1]; simp; omega
theorem EI.minus {M a b r0 X0 X1 Y0 Y1 : Nat} {s : Bool} (h : EI M a b r0 0 X0 X1 Y0 Y1 s) (hs : s = true) (hX : X0 ≠ 0) (hb : b ≠ 0) : EZ a b (zz s X0 + X1) (zz (!s) Y0 - Y1) ∧ b / r0 = X1 ∧ a / r0 = Y1 ∧ X0 < X1 ∧ r0 ≠ 0 := by
  obtain ⟨h1, h2, h3, h4⟩ := h.done
  have hr : r0 ≠ 0 := by rintro rfl; simp at h2; omega
  subst hs
  obtain ⟨u, v⟩ := h.et rfl
  refine ⟨⟨?_, by simp [zz]; omega, ?_⟩, ?_, ?_, h4, hr⟩
  · simp only [zz, Bool.not_true, if_true, Bool.false_eq_true, if_false]
    rw [← h1]
    have u' : (b : Int) * Y0 = a * X0 + r0 := by exact_mod_cast u
    have v' : (a : Int) * X1 = b * Y1 := by exact_mod_cast (by simpa using v)
    grind
  · simp only [zz, if_true]
    rw [← h1]
    have h2' : (X1 : Int) * r0 = b := by exact_mod_cast h2
    have : (0 : Int) < X0 * r0 := Int.mul_pos (by omega) (by omega)
    grind
  · rw [← h2]; exact Nat.mul_div_cancel _ (Nat.pos_of_ne_zero hr)
  · rw [← h3]; exact Nat.mul_div_cancel _ (Nat.pos_of_ne_zero hr)
end Go.Proofs.YtlagcdgfmgkooaaDoor

/-
  Walk over integer.Extended: what is kept in memory. Printed by mkint5.py.
-/
namespace Go.Proofs.YtlagcdgfmgkooaaDoor
open Go.RowKit
set_option linter.unusedVariables false

structure ES (w : World) (g8 g9 g10 : Nat) (r0 r1 x0 x1 x2 x3 y0 y1 y2 y3 u0 u1 v0 v1 : Value) (W : World) : Prop where
  R : Blk W g8 73 [r0, r1]
  X : Blk W g9 74 [x0, x1, x2, x3]
  Y : Blk W g10 74 [y0, y1, y2, y3]
  U : Blk W w.heap.size 24 [u0, u1]
  V : Blk W (w.heap.size + 1) 24 [v0, v1]
  below : Below w.heap.size w W
theorem ES.next {w : World} {g8 g9 g10 : Nat} {r0 r1 x0 x1 x2 x3 y0 y1 y2 y3 u0 u1 v0 v1 : Value} {W : World} {W' : World} (h : ES w g8 g9 g10 r0 r1 x0 x1 x2 x3 y0 y1 y2 y3 u0 u1 v0 v1 W) (hb : Below W.heap.size W W') : ES w g8 g9 g10 r0 r1 x0 x1 x2 x3 y0 y1 y2 y3 u0 u1 v0 v1 W' :=
  ⟨h.R.below hb h.R.lt, h.X.below hb h.X.lt, h.Y.below hb h.Y.lt, h.U.below hb h.U.lt, h.V.below hb h.V.lt, h.below.trans (hb.mono h.below.size)⟩
theorem ES.drew {w : World} {g8 g9 g10 : Nat} {r0 r1 x0 x1 x2 x3 y0 y1 y2 y3 u0 u1 v0 v1 : Value} {W : World} (h : ES w g8 g9 g10 r0 r1 x0 x1 x2 x3 y0 y1 y2 y3 u0 u1 v0 v1 W) : ES w g8 g9 g10 r0 r1 x0 x1 x2 x3 y0 y1 y2 y3 u0 u1 v0 v1 W.drew :=
  ⟨h.R.drew, h.X.drew, h.Y.drew, h.U.drew, h.V.drew, h.below.drew⟩
theorem ES.alloc {w : World} {g8 g9 g10 : Nat} {r0 r1 x0 x1 x2 x3 y0 y1 y2 y3 u0 u1 v0 v1 : Value} {W : World} (h : ES w g8 g9 g10 r0 r1 x0 x1 x2 x3 y0 y1 y2 y3 u0 u1 v0 v1 W) (o : Obj) : ES w g8 g9 g10 r0 r1 x0 x1 x2 x3 y0 y1 y2 y3 u0 u1 v0 v1 (W.alloc o) :=
  ⟨h.R.alloc o, h.X.alloc o, h.Y.alloc o, h.U.alloc o, h.V.alloc o, h.below.alloc h.below.size o⟩
theorem ES.setR {w : World} {g8 g9 g10 : Nat} {r0 r1 x0 x1 x2 x3 y0 y1 y2 y3 u0 u1 v0 v1 : Value} {W : World} (h : ES w g8 g9 g10 r0 r1 x0 x1 x2 x3 y0 y1 y2 y3 u0 u1 v0 v1 W) (h8 : w.heap.size + 1 < g8) (h9 : g8 < g9) (h10 : g9 < g10) (a0 a1 : Value) : ES w g8 g9 g10 a0 a1 x0 x1 x2 x3 y0 y1 y2 y3 u0 u1 v0 v1 ((W.setCell ⟨g8, 0, none⟩ a0).setCell ⟨g8, 1, none⟩ a1) :=
  ⟨((h.R.set_ 0 a0).set_ 1 a1), ((h.X.far (by simp; omega) a0).far (by simp; omega) a1), ((h.Y.far (by simp; omega) a0).far (by simp; omega) a1), ((h.U.far (by simp; omega) a0).far (by simp; omega) a1), ((h.V.far (by simp; omega) a0).far (by simp; omega) a1), ((h.below.setCell (by simp; omega) a0).setCell (by simp; omega) a1)⟩
theorem ES.setX {w : World} {g8 g9 g10 : Nat} {r0 r1 x0 x1 x2 x3 y0 y1 y2 y3 u0 u1 v0 v1 : Value} {W : World} (h : ES w g8 g9 g10 r0 r1 x0 x1 x2 x3 y0 y1 y2 y3 u0 u1 v0 v1 W) (h8 : w.heap.size + 1 < g8) (h9 : g8 < g9) (h10 : g9 < g10) (a0 a1 a2 a3 : Value) : ES w g8 g9 g10 r0 r1 a0 a1 a2 a3 y0 y1 y2 y3 u0 u1 v0 v1 ((((W.setCell ⟨g9, 0, none⟩ a0).setCell ⟨g9, 1, none⟩ a1).setCell ⟨g9, 2, none⟩ a2).setCell ⟨g9, 3, none⟩ a3) :=
  ⟨((((h.R.far (by simp; omega) a0).far (by simp; omega) a1).far (by simp; omega) a2).far (by simp; omega) a3), ((((h.X.set_ 0 a0).set_ 1 a1).set_ 2 a2).set_ 3 a3), ((((h.Y.far (by simp; omega) a0).far (by simp; omega) a1).far (by simp; omega) a2).far (by simp; omega) a3), ((((h.U.far (by simp; omega) a0).far (by simp; omega) a1).far (by simp; omega) a2).far (by simp; omega) a3), ((((h.V.far (by simp; omega) a0).far (by simp; omega) a1).far (by simp; omega) a2).far (by simp; omega) a3), ((((h.below.setCell (by simp; omega) a0).setCell (by simp; omega) a1).setCell (by simp; omega) a2).setCell (by simp; omega) a3)⟩
theorem ES.setY {w : World} {g8 g9 g10 : Nat} {r0 r1 x0 x1 x2 x3 y0 y1 y2 y3 u0 u1 v0 v1 : Value} {W : World} (h : ES w g8 g9 g10 r0 r1 x0 x1 x2 x3 y0 y1 y2 y3 u0 u1 v0 v1 W) (h8 : w.heap.size + 1 < g8) (h9 : g8 < g9) (h10 : g9 < g10) (a0 a1 a2 a3 : Value) : ES w g8 g9 g10 r0 r1 x0 x1 x2 x3 a0 a1 a2 a3 u0 u1 v0 v1 ((((W.setCell ⟨g10, 0, none⟩ a0).setCell ⟨g10, 1, none⟩ a1).setCell ⟨g10, 2, none⟩ a2).setCell ⟨g10, 3, none⟩ a3) :=
  ⟨((((h.R.far (by simp; omega) a0).far (by simp; omega) a1).far (by simp; omega) a2).far (by simp; omega) a3), ((((h.X.far (by simp; omega) a0).far (by simp; omega) a1).far (by simp; omega) a2).far (by simp; omega) a3), ((((h.Y.set_ 0 a0).set_ 1 a1).set_ 2 a2).set_ 3 a3), ((((h.U.far (by simp; omega) a0).far (by simp; omega) a1).far (by simp; omega) a2).far (by simp; omega) a3), ((((h.V.far (by simp; omega) a0).far (by simp; omega) a1).far (by simp; omega) a2).far (by simp; omega) a3), ((((h.below.setCell (by simp; omega) a0).setCell (by simp; omega) a1).setCell (by simp; omega) a2).setCell (by simp; omega) a3)⟩
theorem ES.setX2 {w : World} {g8 g9 g10 : Nat} {r0 r1 x0 x1 x2 x3 y0 y1 y2 y3 u0 u1 v0 v1 : Value} {W : World} (h : ES w g8 g9 g10 r0 r1 x0 x1 x2 x3 y0 y1 y2 y3 u0 u1 v0 v1 W) (h8 : w.heap.size + 1 < g8) (h9 : g8 < g9) (h10 : g9 < g10) (a0 a1 : Value) : ES w g8 g9 g10 r0 r1 a0 a1 x2 x3 y0 y1 y2 y3 u0 u1 v0 v1 ((W.setCell ⟨g9, 0, none⟩ a0).setCell ⟨g9, 1, none⟩ a1) :=
  ⟨((h.R.far (by simp; omega) a0).far (by simp; omega) a1), ((h.X.set_ 0 a0).set_ 1 a1), ((h.Y.far (by simp; omega) a0).far (by simp; omega) a1), ((h.U.far (by simp; omega) a0).far (by simp; omega) a1), ((h.V.far (by simp; omega) a0).far (by simp; omega) a1), ((h.below.setCell (by simp; omega) a0).setCell (by simp; omega) a1)⟩
theorem ES.setY2 {w : World} {g8 g9 g10 : Nat} {r0 r1 x0 x1 x2 x3 y0 y1 y2 y3 u0 u1 v0 v1 : Value} {W : World} (h : ES w g8 g9 g10 r0 r1 x0 x1 x2 x3 y0 y1 y2 y3 u0 u1 v0 v1 W) (h8 : w.heap.size + 1 < g8) (h9 : g8 < g9) (h10 : g9 < g10) (a0 a1 : Value) : ES w g8 g9 g10 r0 r1 x0 x1 x2 x3 a0 a1 y2 y3 u0 u1 v0 v1 ((W.setCell ⟨g10, 0, none⟩ a0).setCell ⟨g10, 1, none⟩ a1) :=
  ⟨((h.R.far (by simp; omega) a0).far (by simp; omega) a1), ((h.X.far (by simp; omega) a0).far (by simp; omega) a1), ((h.Y.set_ 0 a0).set_ 1 a1), ((h.U.far (by simp; omega) a0).far (by simp; omega) a1), ((h.V.far (by simp; omega) a0).far (by simp; omega) a1), ((h.below.setCell (by simp; omega) a0).setCell (by simp; omega) a1)⟩
theorem ES.setU {w : World} {g8 g9 g10 : Nat} {r0 r1 x0 x1 x2 x3 y0 y1 y2 y3 u0 u1 v0 v1 : Value} {W : World} (h : ES w g8 g9 g10 r0 r1 x0 x1 x2 x3 y0 y1 y2 y3 u0 u1 v0 v1 W) (h8 : w.heap.size + 1 < g8) (h9 : g8 < g9) (h10 : g9 < g10) (a0 a1 : Value) : ES w g8 g9 g10 r0 r1 x0 x1 x2 x3 y0 y1 y2 y3 a0 a1 v0 v1 ((W.setCell ⟨w.heap.size, 0, none⟩ a0).setCell ⟨w.heap.size, 1, none⟩ a1) :=
  ⟨((h.R.far (by simp; omega) a0).far (by simp; omega) a1), ((h.X.far (by simp; omega) a0).far (by simp; omega) a1), ((h.Y.far (by simp; omega) a0).far (by simp; omega) a1), ((h.U.set_ 0 a0).set_ 1 a1), ((h.V.far (by simp) a0).far (by simp) a1), ((h.below.setCell (by simp) a0).setCell (by simp) a1)⟩
theorem ES.setV {w : World} {g8 g9 g10 : Nat} {r0 r1 x0 x1 x2 x3 y0 y1 y2 y3 u0 u1 v0 v1 : Value} {W : World} (h : ES w g8 g9 g10 r0 r1 x0 x1 x2 x3 y0 y1 y2 y3 u0 u1 v0 v1 W) (h8 : w.heap.size + 1 < g8) (h9 : g8 < g9) (h10 : g9 < g10) (a0 a1 : Value) : ES w g8 g9 g10 r0 r1 x0 x1 x2 x3 y0 y1 y2 y3 u0 u1 a0 a1 ((W.setCell ⟨(w.heap.size + 1), 0, none⟩ a0).setCell ⟨(w.heap.size + 1), 1, none⟩ a1) :=
  ⟨((h.R.far (by simp; omega) a0).far (by simp; omega) a1), ((h.X.far (by simp; omega) a0).far (by simp; omega) a1), ((h.Y.far (by simp; omega) a0).far (by simp; omega) a1), ((h.U.far (by simp) a0).far (by simp) a1), ((h.V.set_ 0 a0).set_ 1 a1), ((h.below.setCell (by simp) a0).setCell (by simp) a1)⟩
theorem ES.cells {w : World} {g8 g9 g10 : Nat} {r0 r1 x0 x1 x2 x3 y0 y1 y2 y3 u0 u1 v0 v1 : Value} {W : World} (h : ES w g8 g9 g10 r0 r1 x0 x1 x2 x3 y0 y1 y2 y3 u0 u1 v0 v1 W) : W.cell? ⟨g8, 0, none⟩ = some r0 ∧ W.cell? ⟨g8, 1, none⟩ = some r1 ∧ W.cell? ⟨g9, 0, none⟩ = some x0 ∧ W.cell? ⟨g9, 1, none⟩ = some x1 ∧ W.cell? ⟨g9, 2, none⟩ = some x2 ∧ W.cell? ⟨g9, 3, none⟩ = some x3 ∧ W.cell? ⟨g10, 0, none⟩ = some y0 ∧ W.cell? ⟨g10, 1, none⟩ = some y1 ∧ W.cell? ⟨g10, 2, none⟩ = some y2 ∧ W.cell? ⟨g10, 3, none⟩ = some y3 ∧ W.cell? ⟨w.heap.size, 0, none⟩ = some u0 ∧ W.cell? ⟨w.heap.size, 1, none⟩ = some u1 ∧ W.cell? ⟨(w.heap.size + 1), 0, none⟩ = some v0 ∧ W.cell? ⟨(w.heap.size + 1), 1, none⟩ = some v1 :=
  ⟨h.R.cell 0, h.R.cell 1, h.X.cell 0, h.X.cell 1, h.X.cell 2, h.X.cell 3, h.Y.cell 0, h.Y.cell 1, h.Y.cell 2, h.Y.cell 3, h.U.cell 0, h.U.cell 1, h.V.cell 0, h.V.cell 1⟩
theorem ES.free {w : World} {g8 g9 g10 : Nat} {r0 r1 x0 x1 x2 x3 y0 y1 y2 y3 u0 u1 v0 v1 : Value} {W : World} (h : ES w g8 g9 g10 r0 r1 x0 x1 x2 x3 y0 y1 y2 y3 u0 u1 v0 v1 W) : W.frozen? ⟨g8, 0, none⟩ = false ∧ W.frozen? ⟨g8, 1, none⟩ = false ∧ W.frozen? ⟨g9, 0, none⟩ = false ∧ W.frozen? ⟨g9, 1, none⟩ = false ∧ W.frozen? ⟨g9, 2, none⟩ = false ∧ W.frozen? ⟨g9, 3, none⟩ = false ∧ W.frozen? ⟨g10, 0, none⟩ = false ∧ W.frozen? ⟨g10, 1, none⟩ = false ∧ W.frozen? ⟨g10, 2, none⟩ = false ∧ W.frozen? ⟨g10, 3, none⟩ = false ∧ W.frozen? ⟨w.heap.size, 0, none⟩ = false ∧ W.frozen? ⟨w.heap.size, 1, none⟩ = false ∧ W.frozen? ⟨(w.heap.size + 1), 0, none⟩ = false ∧ W.frozen? ⟨(w.heap.size + 1), 1, none⟩ = false :=
  ⟨h.R.frozen 0, h.R.frozen 1, h.X.frozen 0, h.X.frozen 1, h.X.frozen 2, h.X.frozen 3, h.Y.frozen 0, h.Y.frozen 1, h.Y.frozen 2, h.Y.frozen 3, h.U.frozen 0, h.U.frozen 1, h.V.frozen 0, h.V.frozen 1⟩
end Go.Proofs.YtlagcdgfmgkooaaDoor
