import Derived.Test.YteaaeaimjbaomaaDoorKit
import Derived.Test.YteaaeaimjbaomaaDoorArr
import Derived.Deep.DeepCutAuto
import Derived.Deep.QuietTactic
import Derived.BigQuiet
/-
  Gates as data; a formula in memory. Over any program.
-/
namespace Go.Proofs.YteaaeaimjbaomaaDoor
open Go.RowKit
set_option linter.unusedVariables false

structure Gt where
  need : Int
  kids : List Int
  leaf : Int
deriving DecidableEq

theorem add_block (a : Addr) (n : Nat) : (a.add n).block = a.block := by unfold Addr.add; split <;> rfl
/-- the cells from an address on are the values of a list -/
def Run (W : World) (ad : Addr) (l : List Value) : Prop := ∀ i v, l[i]? = some v → W.cell? (ad.add i) = some v
theorem Run.keep {W W' : World} {ad : Addr} {l : List Value} {B : Nat} (h : Run W ad l) (hb : Below B W W') (ha : ad.block < B) : Run W' ad l := fun i v hv => by
  rw [hb.cell (p := ad.add i) (by rw [add_block]; exact ha)]; exact h i v hv
/-- a slice of numbers below block B -/
structure Ints (W : World) (B : Nat) (A : Option Addr) (l : List Int) : Prop where
  some_ : l ≠ [] → ∃ ad, A = some ad ∧ ad.block < B ∧ Run W ad (l.map (.int .i64 ·))
theorem Ints.keep {W W' : World} {B B' : Nat} {A : Option Addr} {l : List Int} (h : Ints W B A l) (hb : Below B' W W') (hB : B ≤ B') : Ints W' B A l := ⟨fun hl => by
  obtain ⟨ad, h1, h2, h3⟩ := h.some_ hl
  exact ⟨ad, h1, h2, h3.keep hb (by omega)⟩⟩
/-- gate g lies at an address -/
structure GateAt (W : World) (B : Nat) (ad : Addr) (g : Gt) : Prop where
  need : W.cell? ad = some (.int .i64 g.need)
  kids : ∃ A c, W.cell? ⟨ad.block, ad.off + 1, none⟩ = some (.slice A g.kids.length c) ∧ Ints W B A g.kids
  leaf : W.cell? ⟨ad.block, ad.off + 2, none⟩ = some (.int .i64 g.leaf)
theorem GateAt.keep {W W' : World} {B B' : Nat} {ad : Addr} {g : Gt} (h : GateAt W B ad g) (hb : Below B' W W') (hB : B ≤ B') (ha : ad.block < B) : GateAt W' B ad g := by
  obtain ⟨A, c, h1, h2⟩ := h.kids
  refine ⟨?_, ⟨A, c, ?_, h2.keep hb hB⟩, ?_⟩
  · rw [hb.cell (p := ad) (by omega)]; exact h.need
  · rw [hb.cell (p := ⟨ad.block, ad.off + 1, none⟩) (show ad.block < B' by omega)]; exact h1
  · rw [hb.cell (p := ⟨ad.block, ad.off + 2, none⟩) (show ad.block < B' by omega)]; exact h.leaf
/-- a slice of gates below block B -/
structure Gates (W : World) (B : Nat) (A : Option Addr) (F : List Gt) : Prop where
  some_ : F ≠ [] → ∃ ad, A = some ad ∧ ad.block < B ∧ ∀ i g, F[i]? = some g → GateAt W B (ad.add (i * 3)) g
theorem Gates.keep {W W' : World} {B B' : Nat} {A : Option Addr} {F : List Gt} (h : Gates W B A F) (hb : Below B' W W') (hB : B ≤ B') : Gates W' B A F := ⟨fun hl => by
  obtain ⟨ad, h1, h2, h3⟩ := h.some_ hl
  exact ⟨ad, h1, h2, fun i g hg => (h3 i g hg).keep hb hB (by rw [add_block]; exact h2)⟩⟩
end Go.Proofs.YteaaeaimjbaomaaDoor

/-
  formula.leaves: what its closure computes, and its memory.
-/
namespace Go.Proofs.YteaaeaimjbaomaaDoor
open Go.RowKit
set_option linter.unusedVariables false

/-- the kids of a gate, one behind the other -/
def kidsP (v : Int → Int × Int → Bool × Int × Int) : List Int → Int × Int → Bool × Int × Int
  | [], s => (true, s)
  | k :: ks, s => if (v k s).1 then kidsP v ks (v k s).2 else (false, (v k s).2)
def visitP (F : List Gt) : Nat → Int → Int × Int → Bool × Int × Int
  | 0, _, s => (false, s)
  | f + 1, at_, s =>
    if at_ ≠ s.1 ∨ (F.length : Int) ≤ at_ then (false, s) else
    match F[at_.toNat]? with
    | none => (false, s)
    | some g =>
      if g.kids = [] then (decide (g.need = 0) && decide (g.leaf = s.2), s.1 + 1, s.2 + 1)
      else if g.need < 1 ∨ (g.kids.length : Int) < g.need ∨ g.leaf ≠ 0 then (false, s.1 + 1, s.2)
      else kidsP (visitP F f) g.kids (s.1 + 1, s.2)
abbrev pt (g : Nat) : Value := .pointer (some ⟨g, 0, none⟩)
/-- the memory of formula.leaves -/
structure VS (w : World) (gf gn gc gv : Nat) (A : Option Addr) (n c : Nat) (nx ct : Int) (W : World) : Prop where
  Fb : Blk W gf 24 [.slice A n c]
  N : Blk W gn 3 [.int .i64 nx]
  C : Blk W gc 3 [.int .i64 ct]
  V : Blk W gv 94 [.func (Fn.func 50) #[] #[pt gn, pt gf, pt gc, pt gv]]
  D : w.heap.size ≤ gf ∧ gf < gn ∧ gn < gc ∧ gc < gv
  below : Below w.heap.size w W
section
variable {w : World} {gf gn gc gv : Nat} {A : Option Addr} {n c : Nat} {nx ct : Int} {W W' : World}
theorem VS.next (h : VS w gf gn gc gv A n c nx ct W) (hb : Below W.heap.size W W') : VS w gf gn gc gv A n c nx ct W' :=
  ⟨h.Fb.below hb h.Fb.lt, h.N.below hb h.N.lt, h.C.below hb h.C.lt, h.V.below hb h.V.lt, h.D, h.below.trans (hb.mono h.below.size)⟩
theorem VS.setN (h : VS w gf gn gc gv A n c nx ct W) (m : Int) : VS w gf gn gc gv A n c m ct (W.setCell ⟨gn, 0, none⟩ (.int .i64 m)) := by
  obtain ⟨d1, d2, d3, d4⟩ := h.D
  refine ⟨h.Fb.far (by simp; omega) _, h.N.set_ 0 _, h.C.far (by simp; omega) _, h.V.far (by simp; omega) _, h.D, h.below.setCell (by simp; omega) _⟩
theorem VS.setC (h : VS w gf gn gc gv A n c nx ct W) (m : Int) : VS w gf gn gc gv A n c nx m (W.setCell ⟨gc, 0, none⟩ (.int .i64 m)) := by
  obtain ⟨d1, d2, d3, d4⟩ := h.D
  refine ⟨h.Fb.far (by simp; omega) _, h.N.far (by simp; omega) _, h.C.set_ 0 _, h.V.far (by simp; omega) _, h.D, h.below.setCell (by simp; omega) _⟩
theorem VS.alloc (h : VS w gf gn gc gv A n c nx ct W) (o : Obj) : VS w gf gn gc gv A n c nx ct (W.alloc o) :=
  h.next ((Below.refl _ _).alloc (Nat.le_refl _) _)
theorem VS.drew (h : VS w gf gn gc gv A n c nx ct W) : VS w gf gn gc gv A n c nx ct W.drew := ⟨h.Fb, h.N, h.C, h.V, h.D, h.below.drew⟩
theorem VS.cells (h : VS w gf gn gc gv A n c nx ct W) : W.cell? ⟨gf, 0, none⟩ = some (.slice A n c) ∧ W.cell? ⟨gn, 0, none⟩ = some (.int .i64 nx) ∧ W.cell? ⟨gc, 0, none⟩ = some (.int .i64 ct) ∧ W.cell? ⟨gv, 0, none⟩ = some (.func (Fn.func 50) #[] #[pt gn, pt gf, pt gc, pt gv]) :=
  ⟨h.Fb.cell 0, h.N.cell 0, h.C.cell 0, h.V.cell 0⟩
theorem VS.free (h : VS w gf gn gc gv A n c nx ct W) : W.frozen? ⟨gn, 0, none⟩ = false ∧ W.frozen? ⟨gc, 0, none⟩ = false := ⟨h.N.frozen 0, h.C.frozen 0⟩
end
theorem kidsP_bd {v : Int → Int × Int → Bool × Int × Int} {L : Int} (hv : ∀ k s, 0 ≤ s.2 → s.2 ≤ s.1 → s.1 ≤ L → s.1 ≤ (v k s).2.1 ∧ (v k s).2.1 ≤ L ∧ 0 ≤ (v k s).2.2 ∧ (v k s).2.2 ≤ (v k s).2.1) :
    ∀ (ks : List Int) (s : Int × Int), 0 ≤ s.2 → s.2 ≤ s.1 → s.1 ≤ L → s.1 ≤ (kidsP v ks s).2.1 ∧ (kidsP v ks s).2.1 ≤ L ∧ 0 ≤ (kidsP v ks s).2.2 ∧ (kidsP v ks s).2.2 ≤ (kidsP v ks s).2.1
  | [], s, h1, h2, h3 => ⟨Int.le_refl _, h3, h1, h2⟩
  | k :: ks, s, h1, h2, h3 => by
    obtain ⟨a1, a2, a3, a4⟩ := hv k s h1 h2 h3
    rw [kidsP]
    by_cases hb : (v k s).1 = true
    · rw [if_pos hb]
      obtain ⟨b1, b2, b3, b4⟩ := kidsP_bd hv ks (v k s).2 a3 a4 a2
      exact ⟨Int.le_trans a1 b1, b2, b3, b4⟩
    · rw [if_neg hb]; exact ⟨a1, a2, a3, a4⟩
theorem visitP_bd (F : List Gt) (f : Nat) : ∀ (k : Int) (s : Int × Int), 0 ≤ s.2 → s.2 ≤ s.1 → s.1 ≤ F.length → s.1 ≤ (visitP F f k s).2.1 ∧ (visitP F f k s).2.1 ≤ F.length ∧ 0 ≤ (visitP F f k s).2.2 ∧ (visitP F f k s).2.2 ≤ (visitP F f k s).2.1 := by
  induction f with
  | zero => intro k s h1 h2 h3; exact ⟨Int.le_refl _, h3, h1, h2⟩
  | succ f ih =>
    intro k s h1 h2 h3
    rw [visitP]
    by_cases hc : k ≠ s.1 ∨ (F.length : Int) ≤ k
    · rw [if_pos hc]; exact ⟨Int.le_refl _, h3, h1, h2⟩
    · rw [if_neg hc]
      have hlt : s.1 < F.length := by
        rcases Classical.em (k = s.1) with h | h
        · have : ¬ (F.length : Int) ≤ k := fun h9 => hc (.inr h9)
          omega
        · exact absurd (.inl h) hc
      split
      · exact ⟨Int.le_refl _, h3, h1, h2⟩
      · split
        · exact ⟨by show s.1 ≤ s.1 + 1; omega, by show s.1 + 1 ≤ _; omega, by show 0 ≤ s.2 + 1; omega, by show s.2 + 1 ≤ s.1 + 1; omega⟩
        · split
          · exact ⟨by show s.1 ≤ s.1 + 1; omega, by show s.1 + 1 ≤ _; omega, h1, by show s.2 ≤ s.1 + 1; omega⟩
          · obtain ⟨b1, b2, b3, b4⟩ := kidsP_bd (L := F.length) ih _ (s.1 + 1, s.2) h1 (by show s.2 ≤ s.1 + 1; omega) (by show s.1 + 1 ≤ _; omega)
            exact ⟨Int.le_trans (by show s.1 ≤ s.1 + 1; omega) b1, b2, b3, b4⟩
def KidRel (w : World) (gf gn gc gv : Nat) (A : Option Addr) (c : Nat) (F : List Gt) (f : Nat) (kids : List Int) (lo : Int) (R : Bool × Int × Int) (i : Value) (W : World) : Prop :=
  ∃ (j : Nat) (nx ct : Int), j ≤ kids.length ∧ i = .int .i64 (j : Int) ∧ VS w gf gn gc gv A F.length c nx ct W ∧ lo ≤ nx ∧ 0 ≤ ct ∧ ct ≤ nx ∧ nx ≤ F.length ∧ Hid (kidsP (visitP F f) (kids.drop j) (nx, ct) = R)
set_option maxHeartbeats 2000000 in
theorem visit_any (w : World) (gf gn gc gv : Nat) (A : Option Addr) (c : Nat) (F : List Gt) (hF : F.length ≤ 1000000) (hK : ∀ g ∈ F, g.kids.length ≤ 1000000) (hG : Gates w w.heap.size A F) (f : Nat) :
    ∀ (at_ nx ct : Int) (W : World), VS w gf gn gc gv A F.length c nx ct W → 0 ≤ nx → 0 ≤ ct → ct ≤ nx → nx ≤ F.length → (F.length : Int) - nx < f →
    Calls Tryd.prog 50 #[.int .i64 at_, pt gn, pt gf, pt gc, pt gv] W fun e w' =>
      e = .returned (.bool (visitP F f at_ (nx, ct)).1) ∧ VS w gf gn gc gv A F.length c (visitP F f at_ (nx, ct)).2.1 (visitP F f at_ (nx, ct)).2.2 w' := by
  induction f with
  | zero => intro at_ nx ct W h h0 h1 h2 h3 h4; omega
  | succ f ih =>
    intro at_ nx ct W h h0 h1 h2 h3 h4
    obtain ⟨c1, c2, c3, c4⟩ := h.cells
    obtain ⟨f1, f2⟩ := h.free
    by_cases ha : at_ = nx
    · subst ha
      by_cases hlt : at_ < F.length
      · obtain ⟨k, rfl⟩ := Int.eq_ofNat_of_zero_le h0
        have hk : k < F.length := by omega
        obtain ⟨g, hg⟩ : ∃ g, F[k]? = some g := ⟨_, List.getElem?_eq_getElem hk⟩
        have hv := h.setN ((k : Int) + 1)
        obtain ⟨ad, hA, hab, hga⟩ := hG.some_ (by rintro rfl; simp at hk)
        subst hA
        obtain ⟨KA, kc, gk', gi⟩ := (hga k g hg).kids
        have ga := (hga k g hg).keep hv.below (Nat.le_refl _) (by rw [add_block]; exact hab)
        have gk : (W.setCell ⟨gn, 0, none⟩ (.int .i64 ((k : Int) + 1))).cell? ⟨(ad.add (k * 3)).block, (ad.add (k * 3)).off + 1, none⟩ = some (.slice KA g.kids.length kc) := by
          rw [hv.below.cell (p := ⟨(ad.add (k * 3)).block, (ad.add (k * 3)).off + 1, none⟩) (by show (ad.add (k * 3)).block < _; rw [add_block]; exact hab)]; exact gk'
        clear gk'
        have gn1 := ga.need
        have gl := ga.leaf
        go_enter Tryd.func50, Tryd.ntmps50
        go_upto_region 4 with fail
        clear c1 c2 c3 c4 f1 f2 h
        generalize W.setCell ⟨gn, 0, none⟩ (.int .i64 ((k : Int) + 1)) = W1 at *
        obtain ⟨c1, c2, c3, c4⟩ := hv.cells
        obtain ⟨f1, f2⟩ := hv.free
        go_upto_region 5 with fail
        have hB := Blk.new W1 40 [.int .i64 g.need, .slice KA g.kids.length kc, .int .i64 g.leaf]
        have hw := hv.alloc (.cells #[.int .i64 g.need, .slice KA g.kids.length kc, .int .i64 g.leaf] 40)
        have hgv : gv < W1.heap.size := hv.V.lt
        clear c1 c2 c3 c4 f1 f2 ga gn1 gl gk hga
        have hB2 : Blk (W1.alloc (.cells #[.int .i64 g.need, .slice KA g.kids.length kc, .int .i64 g.leaf] 40)) W1.heap.size 40 [.int .i64 g.need, .slice KA g.kids.length kc, .int .i64 g.leaf] := hB
        clear hB
        generalize W1.alloc (.cells #[.int .i64 g.need, .slice KA g.kids.length kc, .int .i64 g.leaf] 40) = W2 at *
        generalize W1.heap.size = g7 at *
        obtain ⟨c1, c2, c3, c4⟩ := hw.cells
        obtain ⟨f1, f2⟩ := hw.free
        obtain ⟨b0, b1, b2⟩ := hB2.get3
        have HU : Hid (visitP F (f + 1) (k : Int) ((k : Int), ct) = if g.kids = [] then (decide (g.need = 0) && decide (g.leaf = ct), (k : Int) + 1, ct + 1) else if g.need < 1 ∨ (g.kids.length : Int) < g.need ∨ g.leaf ≠ 0 then (false, (k : Int) + 1, ct) else kidsP (visitP F f) g.kids ((k : Int) + 1, ct)) := by
          show _ = _
          rw [visitP, if_neg (by omega), Int.toNat_natCast, hg]
        by_cases hkz : g.kids = []
        · have hz : ((g.kids.length : Int) == 0) = true := by rw [hkz]; rfl
          have HV : Hid (visitP F (f + 1) (k : Int) ((k : Int), ct) = (decide (g.need = 0) && decide (g.leaf = ct), (k : Int) + 1, ct + 1)) := by
            show _ = _
            rw [HU.out, if_pos hkz]
          clear HU hkz ih
          go_upto_region 7 with fail
          have hx := hw.setC (ct + 1)
          have hB3 := hB2.far (p := ⟨gc, 0, none⟩) (by have := hw.D; simp; omega) (.int .i64 (ct + 1))
          clear hB2 hw c1 c2 c3 c4 b0 b1 b2
          generalize W2.setCell ⟨gc, 0, none⟩ (.int .i64 (ct + 1)) = W3 at *
          obtain ⟨c1, c2, c3, c4⟩ := hx.cells
          obtain ⟨b0, b1, b2⟩ := hB3.get3
          by_cases hn0 : g.need = 0
          · have t1 : (g.need == 0) = true := by simpa using hn0
            by_cases hl0 : g.leaf = ct
            · have t2 : (g.leaf == ct) = true := by simpa using hl0
              go_wp2_with fail
              go_ret
              rw [HV.out]
              exact ⟨by simp [hn0, hl0], hx⟩
            · have t2 : (g.leaf == ct) = false := by simpa using hl0
              go_wp2_with fail
              go_ret
              rw [HV.out]
              exact ⟨by simp [hn0, hl0], hx⟩
          · have t1 : (g.need == 0) = false := by simpa using hn0
            go_wp2_with fail
            go_ret
            rw [HV.out]
            exact ⟨by simp [hn0], hx⟩
        · have hz : ((g.kids.length : Int) == 0) = false := by
            rw [beq_eq_false_iff_ne]
            intro h9
            exact hkz (List.eq_nil_of_length_eq_zero (by omega))
          by_cases hbad : g.need < 1 ∨ (g.kids.length : Int) < g.need ∨ g.leaf ≠ 0
          · have HV : Hid (visitP F (f + 1) (k : Int) ((k : Int), ct) = (false, (k : Int) + 1, ct)) := by
              show _ = _
              rw [HU.out, if_neg hkz, if_pos hbad]
            clear HU ih
            by_cases q1 : g.need < 1
            · go_wp2_with fail
              go_ret
              rw [HV.out]
              exact ⟨rfl, hw⟩
            · by_cases q2 : (g.kids.length : Int) < g.need
              · go_wp2_with fail
                go_ret
                rw [HV.out]
                exact ⟨rfl, hw⟩
              · have q3 : (g.leaf != 0) = true := by
                  rcases hbad with h9 | h9 | h9
                  · exact absurd h9 q1
                  · exact absurd h9 q2
                  · simpa using h9
                go_wp2_with fail
                go_ret
                rw [HV.out]
                exact ⟨rfl, hw⟩
          · have q1 : ¬ g.need < 1 := fun h9 => hbad (.inl h9)
            have q2 : ¬ (g.kids.length : Int) < g.need := fun h9 => hbad (.inr (.inl h9))
            have q3 : (g.leaf != 0) = false := by
              by_cases h9 : g.leaf = 0
              · simpa using h9
              · exact absurd (.inr (.inr h9)) hbad
            have HV : Hid (visitP F (f + 1) (k : Int) ((k : Int), ct) = kidsP (visitP F f) g.kids ((k : Int) + 1, ct)) := by
              show _ = _
              rw [HU.out, if_neg hkz, if_neg hbad]
            clear HU hbad
            have HI := Lib.hid ih
            clear ih
            go_upto_region 11 with fail
            have hkl : g.kids.length ≤ 1000000 := hK g (List.mem_of_getElem? hg)
            clear hB2 b0 b1 b2 c1 c2 c3 c4 f1 f2
            go_loopw [62] (KidRel w gf gn gc gv (some ad) c F f g.kids ((k : Int) + 1) (visitP F (f + 1) (k : Int) ((k : Int), ct))) (fun i _ => g.kids.length - (intOf i).toNat)
            case atStart => exact ⟨0, (k : Int) + 1, ct, Nat.zero_le _, rfl, hw, Int.le_refl _, h1, by omega, by omega, Lib.hid (by rw [HV.out]; rfl)⟩
            case round =>
              obtain ⟨j, nx, cj, hj, rfl, hS, hlo, hc0, hc1, hnx, HR⟩ := hrel
              by_cases hjl : j < g.kids.length
              · obtain ⟨ka, hKA, hkb, hrun⟩ := gi.some_ (by rintro h9; rw [h9] at hjl; simp at hjl)
                subst hKA
                obtain ⟨x, hx⟩ : ∃ x, g.kids[j]? = some x := ⟨_, List.getElem?_eq_getElem hjl⟩
                have cx : wr.cell? (ka.add j) = some (.int .i64 x) := by
                  rw [hS.below.cell (p := ka.add j) (by rw [add_block]; exact hkb)]
                  exact hrun j _ (by rw [List.getElem?_map, hx]; rfl)
                have hdr : g.kids.drop j = x :: g.kids.drop (j + 1) := by
                  rw [List.drop_eq_getElem_cons hjl]
                  congr 1
                  rw [List.getElem?_eq_getElem hjl] at hx
                  exact Option.some.inj hx
                have hbd := visitP_bd F f x (nx, cj) hc0 hc1 hnx
                obtain ⟨c1, c2, c3, c4⟩ := hS.cells
                have HC := Lib.hid (HI.out x nx cj wr hS (by omega) hc0 hc1 hnx (by omega))
                have HR2 := HR.out
                rw [hdr, kidsP] at HR2
                have HD := Lib.hid HR2
                clear hdr HR2 HR HI hrun hx hG
                generalize visitP F f x (nx, cj) = r at *
                obtain ⟨b, nx', cj'⟩ := r
                go_wp2_with fail
                refine HC.out.mono ?_
                rintro e w5 ⟨rfl, hS5⟩
                clear HC hS c1 c2 c3 c4 cx
                cases b with
                | true =>
                  go_wp2_with fail
                  go_roundw
                  case rel => exact ⟨j + 1, nx', cj', hjl, by go_num, hS5, Int.le_trans hlo hbd.1, hbd.2.2.1, hbd.2.2.2, hbd.2.1, Lib.hid (by have h9 := HD.out; first | (rw [if_pos trivial] at h9; exact h9) | (rw [if_pos rfl] at h9; exact h9) | simpa using h9)⟩
                  case measure => simp [intOf]; omega
                | false =>
                  go_wp2_with fail
                  go_ret
                  have := HD.out
                  rw [if_neg Bool.false_ne_true] at this
                  rw [← this]
                  exact ⟨rfl, hS5⟩
              · have hjj : j = g.kids.length := by omega
                have HD := HR.out
                rw [hjj, List.drop_length, kidsP] at HD
                have HE := Lib.hid HD
                clear HD HR hjj
                go_wp2_with fail
                go_ret
                rw [← HE.out]
                exact ⟨rfl, hS⟩
      · have hge : (F.length : Int) ≤ at_ := by omega
        have HV : Hid (visitP F (f + 1) at_ (at_, ct) = (false, at_, ct)) := by
          show _ = _
          rw [visitP, if_pos (.inr hge)]
        clear ih
        have tt : decide ((F.length : Int) ≤ at_) = true := by simpa using hge
        go_enter Tryd.func50, Tryd.ntmps50
        go_wp2_with fail
        go_ret
        rw [HV.out]
        exact ⟨rfl, h⟩
    · have HV : Hid (visitP F (f + 1) at_ (nx, ct) = (false, nx, ct)) := by
        show _ = _
        rw [visitP, if_pos (.inl ha)]
      have tt : (at_ != nx) = true := by simpa using ha
      clear ih
      go_enter Tryd.func50, Tryd.ntmps50
      go_wp2_with fail
      go_ret
      rw [HV.out]
      exact ⟨rfl, h⟩
end Go.Proofs.YteaaeaimjbaomaaDoor

/-
  formula.leaves, formula.Check.
-/
namespace Go.Proofs.YteaaeaimjbaomaaDoor
open Go.RowKit
set_option linter.unusedVariables false

def leavesP (F : List Gt) : Int × Bool :=
  if F = [] then (0, true) else ((visitP F (F.length + 1) 0 (0, 0)).2.2, (visitP F (F.length + 1) 0 (0, 0)).1 && decide ((visitP F (F.length + 1) 0 (0, 0)).2.1 = F.length) && decide ((visitP F (F.length + 1) 0 (0, 0)).2.2 ≤ 256))
theorem run_store_func (P : Program) (w : World) (a : Addr) (m : Mode) (f : Fn) (x y : Array Value) (v : Value) (hc : w.cell? a = some v) (hf : w.frozen? a = false) : (store a (.func f x y) m).run P w = .ok () (w.setCell a (.func f x y)) := by
  rw [run_store P w a _ m rfl, hc, hf]; rfl
set_option maxHeartbeats 2000000 in
theorem leaves_any (A : Option Addr) (c : Nat) (F : List Gt) (hF : F.length ≤ 1000000) (hK : ∀ g ∈ F, g.kids.length ≤ 1000000) (w : World) (hG : Gates w w.heap.size A F) :
    Calls Tryd.prog 34 #[.agg #[.slice A F.length c]] w fun e w' => e = .returned (.tuple #[.int .i64 (leavesP F).1, .bool (leavesP F).2]) ∧ Below w.heap.size w w' := by
  by_cases hz : F = []
  · have HV : Hid (leavesP F = (0, true)) := by show _ = _; rw [leavesP, if_pos hz]
    have h0 : ((F.length : Int) == 0) = true := by rw [hz]; rfl
    clear hz hG hK
    go_enter Tryd.func34, Tryd.ntmps34
    go_wp2_with fail
    go_ret2
    rw [HV.out]
    exact ⟨rfl, (Below.refl _ _).alloc (Nat.le_refl _) _⟩
  · have HV : Hid (leavesP F = ((visitP F (F.length + 1) 0 (0, 0)).2.2, (visitP F (F.length + 1) 0 (0, 0)).1 && decide ((visitP F (F.length + 1) 0 (0, 0)).2.1 = F.length) && decide ((visitP F (F.length + 1) 0 (0, 0)).2.2 ≤ 256))) := by
      show _ = _
      rw [leavesP, if_neg hz]
    have h0 : ((F.length : Int) == 0) = false := by
      rw [beq_eq_false_iff_ne]
      intro h9
      exact hz (List.eq_nil_of_length_eq_zero (by omega))
    have HC := Lib.hid (visit_any w w.heap.size (w.heap.size + 1) (w.heap.size + 1 + 1) (w.heap.size + 1 + 1 + 1) A c F hF hK hG (F.length + 1))
    have hbd := visitP_bd F (F.length + 1) 0 (0, 0) (Int.le_refl _) (Int.le_refl _) (by show 0 ≤ _; omega)
    clear hz hG hK
    have hk : Kp w [(w.heap.size + 1 + 1 + 1, 94, [.nilFunc]), (w.heap.size + 1 + 1, 3, [.int .i64 0]), (w.heap.size + 1, 3, [.int .i64 0]), (w.heap.size, 24, [.slice A F.length c])] ((((w.alloc (.cells #[.slice A F.length c] 24)).alloc (.cells #[.int .i64 0] 3)).alloc (.cells #[.int .i64 0] 3)).alloc (.cells #[.nilFunc] 94)) := by
      have := ((((Kp.start w).new 24 [.slice A F.length c]).new 3 [.int .i64 0]).new 3 [.int .i64 0]).new 94 [.nilFunc]
      simpa using this
    go_enter Tryd.func34, Tryd.ntmps34
    go_upto_region 5 with fail
    have hD : w.heap.size ≤ w.heap.size ∧ w.heap.size < w.heap.size + 1 ∧ w.heap.size + 1 < w.heap.size + 1 + 1 ∧ w.heap.size + 1 + 1 < w.heap.size + 1 + 1 + 1 := by omega
    generalize (((w.alloc (.cells #[.slice A F.length c] 24)).alloc (.cells #[.int .i64 0] 3)).alloc (.cells #[.int .i64 0] 3)).alloc (.cells #[.nilFunc] 94) = W4 at *
    generalize w.heap.size + 1 + 1 + 1 = gv at *
    generalize w.heap.size + 1 + 1 = gc at *
    generalize w.heap.size + 1 = gn at *
    have bV := hk.blk _ (List.mem_cons_self ..)
    have bC := hk.blk _ (List.mem_cons_of_mem _ (List.mem_cons_self ..))
    have bN := hk.blk _ (List.mem_cons_of_mem _ (List.mem_cons_of_mem _ (List.mem_cons_self ..)))
    have bF := hk.blk _ (List.mem_cons_of_mem _ (List.mem_cons_of_mem _ (List.mem_cons_of_mem _ (List.mem_cons_self ..))))
    have hbw := hk.below
    clear hk
    simp only at bV bC bN bF
    have hst := fun x y => run_store_func Tryd.prog W4 ⟨gv, 0, none⟩ .plain (Fn.func 50) x y _ (bV.cell 0) (bV.frozen 0)
    go_upto_region 6 with fail
    clear hst
    have hS : VS w w.heap.size gn gc gv A F.length c 0 0 (W4.setCell ⟨gv, 0, none⟩ (.func (Fn.func 50) #[] #[pt gn, pt w.heap.size, pt gc, pt gv])) :=
      ⟨bF.far (by simp; omega) _, bN.far (by simp; omega) _, bC.far (by simp; omega) _, bV.set_ 0 _, hD, hbw.setCell (by simp; omega) _⟩
    clear bV bC bN bF hbw
    generalize W4.setCell ⟨gv, 0, none⟩ (.func (Fn.func 50) #[] #[pt gn, pt w.heap.size, pt gc, pt gv]) = W5 at *
    obtain ⟨c1, c2, c3, c4⟩ := hS.cells
    go_wp2_with fail
    refine (HC.out 0 0 0 W5 hS (Int.le_refl _) (Int.le_refl _) (Int.le_refl _) (by omega) (by omega)).mono ?_
    rintro e w6 ⟨rfl, hS6⟩
    clear c1 c2 c3 c4 hS HC
    generalize visitP F (F.length + 1) 0 (0, 0) = r at *
    obtain ⟨b, nx, ct⟩ := r
    obtain ⟨b1, b2, b3, b4⟩ := hbd
    simp only at hS6 b1 b2 b3 b4
    obtain ⟨c1, c2, c3, c4⟩ := hS6.cells
    go_upto_region 7 with fail
    cases b with
    | false =>
      go_quiet (fail)
      go_wp2_with fail
      go_ret2
      rw [HV.out]
      exact ⟨rfl, by first | exact hS6.below | exact hS6.drew.below | exact ⟨hS6.below.os, hS6.below.tape, hS6.below.output, hS6.below.size, hS6.below.block⟩⟩
    | true =>
      by_cases q1 : nx = F.length
      · have t1 : (nx == (F.length : Int)) = true := by simpa using q1
        by_cases q2 : ct ≤ 256
        · have t2 : decide (ct ≤ 256) = true := by simpa using q2
          go_quiet (fail)
          go_wp2_with fail
          go_ret2
          rw [HV.out]
          exact ⟨by simp [q1, q2], by first | exact hS6.below | exact hS6.drew.below | exact ⟨hS6.below.os, hS6.below.tape, hS6.below.output, hS6.below.size, hS6.below.block⟩⟩
        · have t2 : decide (ct ≤ 256) = false := by simpa using q2
          go_quiet (fail)
          go_wp2_with fail
          go_ret2
          rw [HV.out]
          exact ⟨by simp [q1, q2], by first | exact hS6.below | exact hS6.drew.below | exact ⟨hS6.below.os, hS6.below.tape, hS6.below.output, hS6.below.size, hS6.below.block⟩⟩
      · have t1 : (nx == (F.length : Int)) = false := by simpa using q1
        go_quiet (fail)
        go_wp2_with fail
        go_ret2
        rw [HV.out]
        exact ⟨by simp [q1], by first | exact hS6.below | exact hS6.drew.below | exact ⟨hS6.below.os, hS6.below.tape, hS6.below.output, hS6.below.size, hS6.below.block⟩⟩
end Go.Proofs.YteaaeaimjbaomaaDoor

/-
  formula.Check.
-/
namespace Go.Proofs.YteaaeaimjbaomaaDoor
open Go.RowKit
set_option linter.unusedVariables false

theorem Ints.up {W W' : World} {B B' : Nat} {A : Option Addr} {l : List Int} (h : Ints W B A l) (hb : Below B W W') (hB : B ≤ B') : Ints W' B' A l := ⟨fun hl => by
  obtain ⟨ad, h1, h2, h3⟩ := h.some_ hl
  exact ⟨ad, h1, by omega, h3.keep hb h2⟩⟩
theorem GateAt.up {W W' : World} {B B' : Nat} {ad : Addr} {g : Gt} (h : GateAt W B ad g) (hb : Below B W W') (hB : B ≤ B') (ha : ad.block < B) : GateAt W' B' ad g := by
  obtain ⟨A, c, h1, h2⟩ := (h.keep hb (Nat.le_refl _) ha).kids
  exact ⟨(h.keep hb (Nat.le_refl _) ha).need, ⟨A, c, h1, h2.up (Below.refl _ _) hB⟩, (h.keep hb (Nat.le_refl _) ha).leaf⟩
/-- a formula that lay in memory lies in it after a call -/
theorem Gates.keep' {W W' : World} {A : Option Addr} {F : List Gt} (h : Gates W W.heap.size A F) (hb : Below W.heap.size W W') : Gates W' W'.heap.size A F := ⟨fun hl => by
  obtain ⟨ad, h1, h2, h3⟩ := h.some_ hl
  have := hb.size
  exact ⟨ad, h1, by omega, fun i g hg => (h3 i g hg).up hb hb.size (by rw [add_block]; exact h2)⟩⟩
def checkP (F : List Gt) (n : Int) : Int := if 512 < F.length ∨ n < 0 ∨ 256 < n then 6 else if (leavesP F).2 = false then 3 else if (leavesP F).1 ≠ n then 6 else 0
set_option maxHeartbeats 2000000 in
theorem check_any (A : Option Addr) (c : Nat) (F : List Gt) (n : Int) (hF : F.length ≤ 1000000) (hK : ∀ g ∈ F, g.kids.length ≤ 1000000) (w : World) (hG : Gates w w.heap.size A F) :
    Calls Tryd.prog 14 #[.agg #[.slice A F.length c], .int .i64 n] w fun e w' => e = .returned (.int .i64 (checkP F n)) ∧ Below w.heap.size w w' := by
  have hbw : Below w.heap.size w (w.alloc (.cells #[.slice A F.length c] 24)) := (Below.refl _ _).alloc (Nat.le_refl _) _
  by_cases h1 : 512 < F.length ∨ n < 0 ∨ 256 < n
  · have HV : Hid (checkP F n = 6) := by show _ = _; rw [checkP, if_pos h1]
    by_cases q1 : 512 < F.length
    · clear h1 hK
      go_enter Tryd.func14, Tryd.ntmps14
      go_wp2_with fail
      go_ret
      rw [HV.out]
      exact ⟨rfl, hbw⟩
    · by_cases q2 : n < 0
      · clear h1 hK
        go_enter Tryd.func14, Tryd.ntmps14
        go_wp2_with fail
        go_ret
        rw [HV.out]
        exact ⟨rfl, hbw⟩
      · have q3 : 256 < n := by
          rcases h1 with h | h | h
          · exact absurd h q1
          · exact absurd h q2
          · exact h
        clear h1 hK
        go_enter Tryd.func14, Tryd.ntmps14
        go_wp2_with fail
        go_ret
        rw [HV.out]
        exact ⟨rfl, hbw⟩
  · have q1 : ¬ 512 < F.length := fun h => h1 (.inl h)
    have q2 : ¬ n < 0 := fun h => h1 (.inr (.inl h))
    have q3 : ¬ 256 < n := fun h => h1 (.inr (.inr h))
    have HU : Hid (checkP F n = if (leavesP F).2 = false then 3 else if (leavesP F).1 ≠ n then 6 else 0) := by show _ = _; rw [checkP, if_neg h1]
    have HC := Lib.hid (leaves_any A c F hF hK (w.alloc (.cells #[.slice A F.length c] 24)) (hG.keep' hbw))
    generalize leavesP F = r at *
    obtain ⟨ct, ok⟩ := r
    clear h1 hK hG
    cases ok with
    | false =>
      go_enter Tryd.func14, Tryd.ntmps14
      go_wp2_with fail
      refine HC.out.mono ?_
      rintro e w1 ⟨rfl, hb⟩
      go_wp2_with fail
      go_ret
      exact ⟨by rw [HU.out]; first | rfl | (simp; done), hbw.trans (hb.mono hbw.size)⟩
    | true =>
      by_cases q4 : ct = n
      · have t1 : (ct != n) = false := by simpa using q4
        go_enter Tryd.func14, Tryd.ntmps14
        go_wp2_with fail
        refine HC.out.mono ?_
        rintro e w1 ⟨rfl, hb⟩
        go_wp2_with fail
        go_ret
        exact ⟨by rw [HU.out]; first | rfl | (simp [q4]; done), hbw.trans (hb.mono hbw.size)⟩
      · have t1 : (ct != n) = true := by simpa using q4
        go_enter Tryd.func14, Tryd.ntmps14
        go_wp2_with fail
        refine HC.out.mono ?_
        rintro e w1 ⟨rfl, hb⟩
        go_wp2_with fail
        go_ret
        exact ⟨by rw [HU.out]; first | rfl | (simp [q4]; done), hbw.trans (hb.mono hbw.size)⟩
end Go.Proofs.YteaaeaimjbaomaaDoor

/-
  Plain facts about valid formulas: every gate is in order.
-/
namespace Go.Proofs.YteaaeaimjbaomaaDoor
open Go.RowKit
set_option linter.unusedVariables false

/-- gate i of a part [.., hi) of a formula with leaves [lo, up) is in order -/
def GOk (hi lo up : Int) (i : Nat) (g : Gt) : Prop := (g.kids = [] → g.need = 0 ∧ lo ≤ g.leaf ∧ g.leaf < up) ∧ (g.kids ≠ [] → 1 ≤ g.need ∧ g.need ≤ g.kids.length) ∧ ∀ x ∈ g.kids, (i : Int) < x ∧ x < hi
theorem GOk.mono {hi lo up hi' lo' up' : Int} {i : Nat} {g : Gt} (h : GOk hi lo up i g) (h1 : hi ≤ hi') (h2 : lo' ≤ lo) (h3 : up ≤ up') : GOk hi' lo' up' i g := by
  obtain ⟨a, b, c⟩ := h
  exact ⟨fun h9 => by obtain ⟨p, q, r⟩ := a h9; exact ⟨p, by omega, by omega⟩, b, fun x hx => by obtain ⟨p, q⟩ := c x hx; exact ⟨p, by omega⟩⟩
/-- all gates from n1 to n2 are in order -/
def Part (F : List Gt) (n1 n2 c1 c2 : Int) : Prop := n1 ≤ n2 ∧ c1 ≤ c2 ∧ ∀ (i : Nat) g, F[i]? = some g → n1 ≤ i → (i : Int) < n2 → GOk n2 c1 c2 i g
theorem Part.join {F : List Gt} {n1 n2 n3 c1 c2 c3 : Int} (h : Part F n1 n2 c1 c2) (h' : Part F n2 n3 c2 c3) : Part F n1 n3 c1 c3 := by
  obtain ⟨a, b, c⟩ := h
  obtain ⟨a', b', c'⟩ := h'
  refine ⟨by omega, by omega, fun i g hg h1 h2 => ?_⟩
  by_cases hi : (i : Int) < n2
  · exact (c i g hg h1 hi).mono a' (Int.le_refl _) b'
  · exact (c' i g hg (by omega) h2).mono (Int.le_refl _) b (Int.le_refl _)
theorem kids_part {F : List Gt} {v : Int → Int × Int → Bool × Int × Int} (hv : ∀ k s, 0 ≤ s.1 → (v k s).1 = true → k = s.1 ∧ s.1 < (v k s).2.1 ∧ Part F s.1 (v k s).2.1 s.2 (v k s).2.2) :
    ∀ (ks : List Int) (s : Int × Int), 0 ≤ s.1 → (kidsP v ks s).1 = true → Part F s.1 (kidsP v ks s).2.1 s.2 (kidsP v ks s).2.2 ∧ ∀ x ∈ ks, s.1 ≤ x ∧ x < (kidsP v ks s).2.1
  | [], s, h0, h => ⟨⟨Int.le_refl _, Int.le_refl _, fun i g hg h1 h2 => by simp [kidsP] at h2; omega⟩, fun x hx => by cases hx⟩
  | k :: ks, s, h0, h => by
    rw [kidsP] at h ⊢
    by_cases hb : (v k s).1 = true
    · rw [if_pos hb] at h ⊢
      obtain ⟨e, hlt, hp⟩ := hv k s h0 hb
      obtain ⟨q1, q2⟩ := kids_part hv ks (v k s).2 (by omega) h
      refine ⟨hp.join q1, fun x hx => ?_⟩
      rcases List.mem_cons.1 hx with rfl | hx
      · have := q1.1; omega
      · have := q2 x hx; omega
    · rw [if_neg hb] at h; cases h
theorem visit_part (F : List Gt) (f : Nat) : ∀ (k : Int) (s : Int × Int), 0 ≤ s.1 → (visitP F f k s).1 = true → k = s.1 ∧ s.1 < (visitP F f k s).2.1 ∧ Part F s.1 (visitP F f k s).2.1 s.2 (visitP F f k s).2.2 := by
  induction f with
  | zero => intro k s h0 h; cases h
  | succ f ih =>
    intro k s h0 h
    rw [visitP] at h ⊢
    by_cases hc : k ≠ s.1 ∨ (F.length : Int) ≤ k
    · rw [if_pos hc] at h; cases h
    · rw [if_neg hc] at h ⊢
      have hk : k = s.1 := Classical.byContradiction fun h9 => hc (.inl h9)
      have hlt : k < F.length := by
        have : ¬ (F.length : Int) ≤ k := fun h9 => hc (.inr h9)
        omega
      cases hg : F[k.toNat]? with
      | none => rw [hg] at h; cases h
      | some g =>
        rw [hg] at h
        simp only at h ⊢
        have hme : ∀ (i : Nat) g', F[i]? = some g' → (i : Int) = s.1 → g' = g := by
          intro i g' h1 h2
          have : i = k.toNat := by omega
          rw [this, hg] at h1
          exact (Option.some.inj h1).symm
        by_cases hz : g.kids = []
        · rw [if_pos hz] at h ⊢
          rw [Bool.and_eq_true] at h
          refine ⟨hk, by show s.1 < s.1 + 1; omega, by show s.1 ≤ s.1 + 1; omega, by show s.2 ≤ s.2 + 1; omega, fun i g' hi h1 h2 => ?_⟩
          obtain rfl := hme i g' hi (by simp only at h2; omega)
          have e1 : g'.need = 0 := of_decide_eq_true h.1
          have e2 : g'.leaf = s.2 := of_decide_eq_true h.2
          exact ⟨fun _ => ⟨e1, by omega, by show g'.leaf < s.2 + 1; omega⟩, fun h9 => absurd hz h9, fun x hx => by rw [hz] at hx; cases hx⟩
        · rw [if_neg hz] at h ⊢
          by_cases hb : g.need < 1 ∨ (g.kids.length : Int) < g.need ∨ g.leaf ≠ 0
          · rw [if_pos hb] at h; cases h
          · rw [if_neg hb] at h ⊢
            obtain ⟨q1, q2⟩ := kids_part (fun k s h0 => ih k s h0) g.kids (s.1 + 1, s.2) (by show 0 ≤ s.1 + 1; omega) h
            have q3 := q1.1
            have q4 := q1.2.1
            simp only at q3 q4
            refine ⟨hk, by omega, by omega, q4, fun i g' hi h1 h2 => ?_⟩
            by_cases he : (i : Int) = s.1
            · obtain rfl := hme i g' hi he
              have n1 : ¬ g'.need < 1 := fun h9 => hb (.inl h9)
              have n2 : ¬ (g'.kids.length : Int) < g'.need := fun h9 => hb (.inr (.inl h9))
              refine ⟨fun h9 => absurd h9 hz, fun _ => ⟨by omega, by omega⟩, fun x hx => ?_⟩
              have := q2 x hx
              simp only at this
              omega
            · exact (q1.2.2 i g' hi (by show s.1 + 1 ≤ _; omega) h2)
/-- a formula that is valid for n leaves -/
theorem valid_gates {F : List Gt} {n : Int} (h : leavesP F = (n, true)) : ∀ (i : Nat) g, F[i]? = some g → GOk F.length 0 n i g := by
  intro i g hg
  unfold leavesP at h
  by_cases hz : F = []
  · rw [hz] at hg; simp at hg
  · rw [if_neg hz] at h
    have h1 : (visitP F (F.length + 1) 0 (0, 0)).2.2 = n := congrArg Prod.fst h
    have h2 := congrArg Prod.snd h
    simp only [Bool.and_eq_true] at h2
    obtain ⟨⟨e1, e2⟩, e3⟩ := h2
    have h3 := visit_part F (F.length + 1) 0 (0, 0) (Int.le_refl _) e1
    have e4 := of_decide_eq_true e2
    have hi : i < F.length := (List.getElem?_eq_some_iff.1 hg).1
    have := h3.2.2.2.2 i g hg (by show (0 : Int) ≤ _; omega) (by rw [e4]; omega)
    rw [e4, h1] at this
    exact this
end Go.Proofs.YteaaeaimjbaomaaDoor
