/-
  formula.leaves: what its closure computes, and its memory.
-/
import Derived.Test.YteaaeaimjbaomaaDoorFm1
import Derived.Deep.DeepCutAuto
namespace Go.Proofs.YteaaeaimjbaomaaDoor
open Go.RowKit
set_option linter.unusedVariables false

/-- the kids of a gate, one behind the other -/
def kidsP (v : Int → Int × Int → Bool × Int × Int) : List Int → Int × Int → Bool × Int × Int
  | [], s => (true, s)
  | k :: ks, s => if (v k s).1 then kidsP v ks (v k s).2 else (false, (v k s).2)
def visitP (F : List Gt) : Nat → Int → Int × Int → Bool × Int × Int
  | 0, _, s => (false, s)
  | f + 1, at_, s =>
    if at_ ≠ s.1 ∨ (F.length : Int) ≤ at_ then (false, s) else
    match F[at_.toNat]? with
    | none => (false, s)
    | some g =>
      if g.kids = [] then (decide (g.need = 0) && decide (g.leaf = s.2), s.1 + 1, s.2 + 1)
      else if g.need < 1 ∨ (g.kids.length : Int) < g.need ∨ g.leaf ≠ 0 then (false, s.1 + 1, s.2)
      else kidsP (visitP F f) g.kids (s.1 + 1, s.2)
abbrev pt (g : Nat) : Value := .pointer (some ⟨g, 0, none⟩)
/-- the memory of formula.leaves -/
structure VS (w : World) (gf gn gc gv : Nat) (A : Option Addr) (n c : Nat) (nx ct : Int) (W : World) : Prop where
  Fb : Blk W gf 24 [.slice A n c]
  N : Blk W gn 3 [.int .i64 nx]
  C : Blk W gc 3 [.int .i64 ct]
  V : Blk W gv 94 [.func (Fn.func 50) #[] #[pt gn, pt gf, pt gc, pt gv]]
  D : w.heap.size ≤ gf ∧ gf < gn ∧ gn < gc ∧ gc < gv
  below : Below w.heap.size w W
section
variable {w : World} {gf gn gc gv : Nat} {A : Option Addr} {n c : Nat} {nx ct : Int} {W W' : World}
theorem VS.next (h : VS w gf gn gc gv A n c nx ct W) (hb : Below W.heap.size W W') : VS w gf gn gc gv A n c nx ct W' :=
  ⟨h.Fb.below hb h.Fb.lt, h.N.below hb h.N.lt, h.C.below hb h.C.lt, h.V.below hb h.V.lt, h.D, h.below.trans (hb.mono h.below.size)⟩
theorem VS.setN (h : VS w gf gn gc gv A n c nx ct W) (m : Int) : VS w gf gn gc gv A n c m ct (W.setCell ⟨gn, 0, none⟩ (.int .i64 m)) := by
  obtain ⟨d1, d2, d3, d4⟩ := h.D
  refine ⟨h.Fb.far (by simp; omega) _, h.N.set_ 0 _, h.C.far (by simp; omega) _, h.V.far (by simp; omega) _, h.D, h.below.setCell (by simp; omega) _⟩
theorem VS.setC (h : VS w gf gn gc gv A n c nx ct W) (m : Int) : VS w gf gn gc gv A n c nx m (W.setCell ⟨gc, 0, none⟩ (.int .i64 m)) := by
  obtain ⟨d1, d2, d3, d4⟩ := h.D
  refine ⟨h.Fb.far (by simp; omega) _, h.N.far (by simp; omega) _, h.C.set_ 0 _, h.V.far (by simp; omega) _, h.D, h.below.setCell (by simp; omega) _⟩
theorem VS.alloc (h : VS w gf gn gc gv A n c nx ct W) (o : Obj) : VS w gf gn gc gv A n c nx ct (W.alloc o) :=
  h.next ((Below.refl _ _).alloc (Nat.le_refl _) _)
theorem VS.drew (h : VS w gf gn gc gv A n c nx ct W) : VS w gf gn gc gv A n c nx ct W.drew := ⟨h.Fb, h.N, h.C, h.V, h.D, h.below.drew⟩
theorem VS.cells (h : VS w gf gn gc gv A n c nx ct W) : W.cell? ⟨gf, 0, none⟩ = some (.slice A n c) ∧ W.cell? ⟨gn, 0, none⟩ = some (.int .i64 nx) ∧ W.cell? ⟨gc, 0, none⟩ = some (.int .i64 ct) ∧ W.cell? ⟨gv, 0, none⟩ = some (.func (Fn.func 50) #[] #[pt gn, pt gf, pt gc, pt gv]) :=
  ⟨h.Fb.cell 0, h.N.cell 0, h.C.cell 0, h.V.cell 0⟩
theorem VS.free (h : VS w gf gn gc gv A n c nx ct W) : W.frozen? ⟨gn, 0, none⟩ = false ∧ W.frozen? ⟨gc, 0, none⟩ = false := ⟨h.N.frozen 0, h.C.frozen 0⟩
end
theorem kidsP_bd {v : Int → Int × Int → Bool × Int × Int} {L : Int} (hv : ∀ k s, 0 ≤ s.2 → s.2 ≤ s.1 → s.1 ≤ L → s.1 ≤ (v k s).2.1 ∧ (v k s).2.1 ≤ L ∧ 0 ≤ (v k s).2.2 ∧ (v k s).2.2 ≤ (v k s).2.1) :
    ∀ (ks : List Int) (s : Int × Int), 0 ≤ s.2 → s.2 ≤ s.1 → s.1 ≤ L → s.1 ≤ (kidsP v ks s).2.1 ∧ (kidsP v ks s).2.1 ≤ L ∧ 0 ≤ (kidsP v ks s).2.2 ∧ (kidsP v ks s).2.2 ≤ (kidsP v ks s).2.1
  | [], s, h1, h2, h3 => ⟨Int.le_refl _, h3, h1, h2⟩
  | k :: ks, s, h1, h2, h3 => by
    obtain ⟨a1, a2, a3, a4⟩ := hv k s h1 h2 h3
    rw [kidsP]
    by_cases hb : (v k s).1 = true
    · rw [if_pos hb]
      obtain ⟨b1, b2, b3, b4⟩ := kidsP_bd hv ks (v k s).2 a3 a4 a2
      exact ⟨Int.le_trans a1 b1, b2, b3, b4⟩
    · rw [if_neg hb]; exact ⟨a1, a2, a3, a4⟩
theorem visitP_bd (F : List Gt) (f : Nat) : ∀ (k : Int) (s : Int × Int), 0 ≤ s.2 → s.2 ≤ s.1 → s.1 ≤ F.length → s.1 ≤ (visitP F f k s).2.1 ∧ (visitP F f k s).2.1 ≤ F.length ∧ 0 ≤ (visitP F f k s).2.2 ∧ (visitP F f k s).2.2 ≤ (visitP F f k s).2.1 := by
  induction f with
  | zero => intro k s h1 h2 h3; exact ⟨Int.le_refl _, h3, h1, h2⟩
  | succ f ih =>
    intro k s h1 h2 h3
    rw [visitP]
    by_cases hc : k ≠ s.1 ∨ (F.length : Int) ≤ k
    · rw [if_pos hc]; exact ⟨Int.le_refl _, h3, h1, h2⟩
    · rw [if_neg hc]
      have hlt : s.1 < F.length := by
        rcases Classical.em (k = s.1) with h | h
        · have : ¬ (F.length : Int) ≤ k := fun h9 => hc (.inr h9)
          omega
        · exact absurd (.inl h) hc
      split
      · exact ⟨Int.le_refl _, h3, h1, h2⟩
      · split
        · exact ⟨by show s.1 ≤ s.1 + 1; omega, by show s.1 + 1 ≤ _; omega, by show 0 ≤ s.2 + 1; omega, by show s.2 + 1 ≤ s.1 + 1; omega⟩
        · split
          · exact ⟨by show s.1 ≤ s.1 + 1; omega, by show s.1 + 1 ≤ _; omega, h1, by show s.2 ≤ s.1 + 1; omega⟩
          · obtain ⟨b1, b2, b3, b4⟩ := kidsP_bd (L := F.length) ih _ (s.1 + 1, s.2) h1 (by show s.2 ≤ s.1 + 1; omega) (by show s.1 + 1 ≤ _; omega)
            exact ⟨Int.le_trans (by show s.1 ≤ s.1 + 1; omega) b1, b2, b3, b4⟩
def KidRel (w : World) (gf gn gc gv : Nat) (A : Option Addr) (c : Nat) (F : List Gt) (f : Nat) (kids : List Int) (lo : Int) (R : Bool × Int × Int) (i : Value) (W : World) : Prop :=
  ∃ (j : Nat) (nx ct : Int), j ≤ kids.length ∧ i = .int .i64 (j : Int) ∧ VS w gf gn gc gv A F.length c nx ct W ∧ lo ≤ nx ∧ 0 ≤ ct ∧ ct ≤ nx ∧ nx ≤ F.length ∧ Hid (kidsP (visitP F f) (kids.drop j) (nx, ct) = R)
set_option maxHeartbeats 2000000 in
theorem visit_any (w : World) (gf gn gc gv : Nat) (A : Option Addr) (c : Nat) (F : List Gt) (hF : F.length ≤ 1000000) (hK : ∀ g ∈ F, g.kids.length ≤ 1000000) (hG : Gates w w.heap.size A F) (f : Nat) :
    ∀ (at_ nx ct : Int) (W : World), VS w gf gn gc gv A F.length c nx ct W → 0 ≤ nx → 0 ≤ ct → ct ≤ nx → nx ≤ F.length → (F.length : Int) - nx < f →
    Calls Tryd.prog 50 #[.int .i64 at_, pt gn, pt gf, pt gc, pt gv] W fun e w' =>
      e = .returned (.bool (visitP F f at_ (nx, ct)).1) ∧ VS w gf gn gc gv A F.length c (visitP F f at_ (nx, ct)).2.1 (visitP F f at_ (nx, ct)).2.2 w' := by
  induction f with
  | zero => intro at_ nx ct W h h0 h1 h2 h3 h4; omega
  | succ f ih =>
    intro at_ nx ct W h h0 h1 h2 h3 h4
    obtain ⟨c1, c2, c3, c4⟩ := h.cells
    obtain ⟨f1, f2⟩ := h.free
    by_cases ha : at_ = nx
    · subst ha
      by_cases hlt : at_ < F.length
      · obtain ⟨k, rfl⟩ := Int.eq_ofNat_of_zero_le h0
        have hk : k < F.length := by omega
        obtain ⟨g, hg⟩ : ∃ g, F[k]? = some g := ⟨_, List.getElem?_eq_getElem hk⟩
        have hv := h.setN ((k : Int) + 1)
        obtain ⟨ad, hA, hab, hga⟩ := hG.some_ (by rintro rfl; simp at hk)
        subst hA
        obtain ⟨KA, kc, gk', gi⟩ := (hga k g hg).kids
        have ga := (hga k g hg).keep hv.below (Nat.le_refl _) (by rw [add_block]; exact hab)
        have gk : (W.setCell ⟨gn, 0, none⟩ (.int .i64 ((k : Int) + 1))).cell? ⟨(ad.add (k * 3)).block, (ad.add (k * 3)).off + 1, none⟩ = some (.slice KA g.kids.length kc) := by
          rw [hv.below.cell (p := ⟨(ad.add (k * 3)).block, (ad.add (k * 3)).off + 1, none⟩) (by show (ad.add (k * 3)).block < _; rw [add_block]; exact hab)]; exact gk'
        clear gk'
        have gn1 := ga.need
        have gl := ga.leaf
        go_enter Tryd.func50, Tryd.ntmps50
        go_upto_region 4 with fail
        clear c1 c2 c3 c4 f1 f2 h
        generalize W.setCell ⟨gn, 0, none⟩ (.int .i64 ((k : Int) + 1)) = W1 at *
        obtain ⟨c1, c2, c3, c4⟩ := hv.cells
        obtain ⟨f1, f2⟩ := hv.free
        go_upto_region 5 with fail
        have hB := Blk.new W1 40 [.int .i64 g.need, .slice KA g.kids.length kc, .int .i64 g.leaf]
        have hw := hv.alloc (.cells #[.int .i64 g.need, .slice KA g.kids.length kc, .int .i64 g.leaf] 40)
        have hgv : gv < W1.heap.size := hv.V.lt
        clear c1 c2 c3 c4 f1 f2 ga gn1 gl gk hga
        have hB2 : Blk (W1.alloc (.cells #[.int .i64 g.need, .slice KA g.kids.length kc, .int .i64 g.leaf] 40)) W1.heap.size 40 [.int .i64 g.need, .slice KA g.kids.length kc, .int .i64 g.leaf] := hB
        clear hB
        generalize W1.alloc (.cells #[.int .i64 g.need, .slice KA g.kids.length kc, .int .i64 g.leaf] 40) = W2 at *
        generalize W1.heap.size = g7 at *
        obtain ⟨c1, c2, c3, c4⟩ := hw.cells
        obtain ⟨f1, f2⟩ := hw.free
        obtain ⟨b0, b1, b2⟩ := hB2.get3
        have HU : Hid (visitP F (f + 1) (k : Int) ((k : Int), ct) = if g.kids = [] then (decide (g.need = 0) && decide (g.leaf = ct), (k : Int) + 1, ct + 1) else if g.need < 1 ∨ (g.kids.length : Int) < g.need ∨ g.leaf ≠ 0 then (false, (k : Int) + 1, ct) else kidsP (visitP F f) g.kids ((k : Int) + 1, ct)) := by
          show _ = _
          rw [visitP, if_neg (by omega), Int.toNat_natCast, hg]
        by_cases hkz : g.kids = []
        · have hz : ((g.kids.length : Int) == 0) = true := by rw [hkz]; rfl
          have HV : Hid (visitP F (f + 1) (k : Int) ((k : Int), ct) = (decide (g.need = 0) && decide (g.leaf = ct), (k : Int) + 1, ct + 1)) := by
            show _ = _
            rw [HU.out, if_pos hkz]
          clear HU hkz ih
          go_upto_region 7 with fail
          have hx := hw.setC (ct + 1)
          have hB3 := hB2.far (p := ⟨gc, 0, none⟩) (by have := hw.D; simp; omega) (.int .i64 (ct + 1))
          clear hB2 hw c1 c2 c3 c4 b0 b1 b2
          generalize W2.setCell ⟨gc, 0, none⟩ (.int .i64 (ct + 1)) = W3 at *
          obtain ⟨c1, c2, c3, c4⟩ := hx.cells
          obtain ⟨b0, b1, b2⟩ := hB3.get3
          by_cases hn0 : g.need = 0
          · have t1 : (g.need == 0) = true := by simpa using hn0
            by_cases hl0 : g.leaf = ct
            · have t2 : (g.leaf == ct) = true := by simpa using hl0
              go_wp2_with fail
              go_ret
              rw [HV.out]
              exact ⟨by simp [hn0, hl0], hx⟩
            · have t2 : (g.leaf == ct) = false := by simpa using hl0
              go_wp2_with fail
              go_ret
              rw [HV.out]
              exact ⟨by simp [hn0, hl0], hx⟩
          · have t1 : (g.need == 0) = false := by simpa using hn0
            go_wp2_with fail
            go_ret
            rw [HV.out]
            exact ⟨by simp [hn0], hx⟩
        · have hz : ((g.kids.length : Int) == 0) = false := by
            rw [beq_eq_false_iff_ne]
            intro h9
            exact hkz (List.eq_nil_of_length_eq_zero (by omega))
          by_cases hbad : g.need < 1 ∨ (g.kids.length : Int) < g.need ∨ g.leaf ≠ 0
          · have HV : Hid (visitP F (f + 1) (k : Int) ((k : Int), ct) = (false, (k : Int) + 1, ct)) := by
              show _ = _
              rw [HU.out, if_neg hkz, if_pos hbad]
            clear HU ih
            by_cases q1 : g.need < 1
            · go_wp2_with fail
              go_ret
              rw [HV.out]
              exact ⟨rfl, hw⟩
            · by_cases q2 : (g.kids.length : Int) < g.need
              · go_wp2_with fail
                go_ret
                rw [HV.out]
                exact ⟨rfl, hw⟩
              · have q3 : (g.leaf != 0) = true := by
                  rcases hbad with h9 | h9 | h9
                  · exact absurd h9 q1
                  · exact absurd h9 q2
                  · simpa using h9
                go_wp2_with fail
                go_ret
                rw [HV.out]
                exact ⟨rfl, hw⟩
          · have q1 : ¬ g.need < 1 := fun h9 => hbad (.inl h9)
            have q2 : ¬ (g.kids.length : Int) < g.need := fun h9 => hbad (.inr (.inl h9))
            have q3 : (g.leaf != 0) = false := by
              by_cases h9 : g.leaf = 0
              · simpa using h9
              · exact absurd (.inr (.inr h9)) hbad
            have HV : Hid (visitP F (f + 1) (k : Int) ((k : Int), ct) = kidsP (visitP F f) g.kids ((k : Int) + 1, ct)) := by
              show _ = _
              rw [HU.out, if_neg hkz, if_neg hbad]
            clear HU hbad
            have HI := Lib.hid ih
            clear ih
            go_upto_region 11 with fail
            have hkl : g.kids.length ≤ 1000000 := hK g (List.mem_of_getElem? hg)
            clear hB2 b0 b1 b2 c1 c2 c3 c4 f1 f2
            go_loopw [62] (KidRel w gf gn gc gv (some ad) c F f g.kids ((k : Int) + 1) (visitP F (f + 1) (k : Int) ((k : Int), ct))) (fun i _ => g.kids.length - (intOf i).toNat)
            case atStart => exact ⟨0, (k : Int) + 1, ct, Nat.zero_le _, rfl, hw, Int.le_refl _, h1, by omega, by omega, Lib.hid (by rw [HV.out]; rfl)⟩
            case round =>
              obtain ⟨j, nx, cj, hj, rfl, hS, hlo, hc0, hc1, hnx, HR⟩ := hrel
              by_cases hjl : j < g.kids.length
              · obtain ⟨ka, hKA, hkb, hrun⟩ := gi.some_ (by rintro h9; rw [h9] at hjl; simp at hjl)
                subst hKA
                obtain ⟨x, hx⟩ : ∃ x, g.kids[j]? = some x := ⟨_, List.getElem?_eq_getElem hjl⟩
                have cx : wr.cell? (ka.add j) = some (.int .i64 x) := by
                  rw [hS.below.cell (p := ka.add j) (by rw [add_block]; exact hkb)]
                  exact hrun j _ (by rw [List.getElem?_map, hx]; rfl)
                have hdr : g.kids.drop j = x :: g.kids.drop (j + 1) := by
                  rw [List.drop_eq_getElem_cons hjl]
                  congr 1
                  rw [List.getElem?_eq_getElem hjl] at hx
                  exact Option.some.inj hx
                have hbd := visitP_bd F f x (nx, cj) hc0 hc1 hnx
                obtain ⟨c1, c2, c3, c4⟩ := hS.cells
                have HC := Lib.hid (HI.out x nx cj wr hS (by omega) hc0 hc1 hnx (by omega))
                have HR2 := HR.out
                rw [hdr, kidsP] at HR2
                have HD := Lib.hid HR2
                clear hdr HR2 HR HI hrun hx hG
                generalize visitP F f x (nx, cj) = r at *
                obtain ⟨b, nx', cj'⟩ := r
                go_wp2_with fail
                refine HC.out.mono ?_
                rintro e w5 ⟨rfl, hS5⟩
                clear HC hS c1 c2 c3 c4 cx
                cases b with
                | true =>
                  go_wp2_with fail
                  go_roundw
                  case rel => exact ⟨j + 1, nx', cj', hjl, by go_num, hS5, Int.le_trans hlo hbd.1, hbd.2.2.1, hbd.2.2.2, hbd.2.1, Lib.hid (by have h9 := HD.out; first | (rw [if_pos trivial] at h9; exact h9) | (rw [if_pos rfl] at h9; exact h9) | simpa using h9)⟩
                  case measure => simp [intOf]; omega
                | false =>
                  go_wp2_with fail
                  go_ret
                  have := HD.out
                  rw [if_neg Bool.false_ne_true] at this
                  rw [← this]
                  exact ⟨rfl, hS5⟩
              · have hjj : j = g.kids.length := by omega
                have HD := HR.out
                rw [hjj, List.drop_length, kidsP] at HD
                have HE := Lib.hid HD
                clear HD HR hjj
                go_wp2_with fail
                go_ret
                rw [← HE.out]
                exact ⟨rfl, hS⟩
      · have hge : (F.length : Int) ≤ at_ := by omega
        have HV : Hid (visitP F (f + 1) at_ (at_, ct) = (false, at_, ct)) := by
          show _ = _
          rw [visitP, if_pos (.inr hge)]
        clear ih
        have tt : decide ((F.length : Int) ≤ at_) = true := by simpa using hge
        go_enter Tryd.func50, Tryd.ntmps50
        go_wp2_with fail
        go_ret
        rw [HV.out]
        exact ⟨rfl, h⟩
    · have HV : Hid (visitP F (f + 1) at_ (nx, ct) = (false, nx, ct)) := by
        show _ = _
        rw [visitP, if_pos (.inl ha)]
      have tt : (at_ != nx) = true := by simpa using ha
      clear ih
      go_enter Tryd.func50, Tryd.ntmps50
      go_wp2_with fail
      go_ret
      rw [HV.out]
      exact ⟨rfl, h⟩
end Go.Proofs.YteaaeaimjbaomaaDoor
