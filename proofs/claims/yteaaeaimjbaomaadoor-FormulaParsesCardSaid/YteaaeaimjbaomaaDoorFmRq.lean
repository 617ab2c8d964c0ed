import Derived.Test.YteaaeaimjbaomaaDoorFmR
/-
  Reading gates, plain: what is read hangs on the number of the gates ahead alone.
-/
namespace Go.Proofs.YteaaeaimjbaomaaDoor
set_option linter.unusedVariables false

/-- two readers agree, whatever the gates ahead -/
def GEq (G1 G2 : List Gt) (r1 r2 : GR) : Prop := r1.1 = r2.1 ∧ r1.2.1 = r2.2.1 ∧ (r1.1 = true → ∃ Gn, r1.2.2 = G1 ++ Gn ∧ r2.2.2 = G2 ++ Gn)
theorem kids_eq {g : List UInt8 → List Gt → GR} (hg : ∀ l G1 G2, G1.length = G2.length → GEq G1 G2 (g l G1) (g l G2)) : ∀ (m : Nat) (l : List UInt8) (G1 G2 : List Gt) (ks : List Int), G1.length = G2.length → GEq G1 G2 (kidsR g m l G1 ks).1 (kidsR g m l G2 ks).1 ∧ ((kidsR g m l G1 ks).1.1 = true → (kidsR g m l G1 ks).2 = (kidsR g m l G2 ks).2)
  | 0, l, G1, G2, ks, h => ⟨⟨rfl, rfl, fun h => (by cases h)⟩, fun h => (by cases h)⟩
  | m + 1, l, G1, G2, ks, h => by
    obtain ⟨h1, h2, h3⟩ := hg (l.drop 1) G1 G2 h
    by_cases c1 : (g (l.drop 1) G1).1 = false
    · have c1' : (g (l.drop 1) G2).1 = false := h1 ▸ c1
      have u1 : kidsR g (m + 1) l G1 ks = (g (l.drop 1) G1, ks) := by rw [kidsR, if_pos c1]
      have u2 : kidsR g (m + 1) l G2 ks = (g (l.drop 1) G2, ks) := by rw [kidsR, if_pos c1']
      rw [u1, u2]
      exact ⟨⟨h1, h2, h3⟩, fun _ => rfl⟩
    · have c1' : ¬ (g (l.drop 1) G2).1 = false := fun h9 => c1 (h1.trans h9)
      obtain ⟨Gn, e1, e2⟩ := h3 (by simpa using c1)
      have hl : (g (l.drop 1) G1).2.2.length = (g (l.drop 1) G2).2.2.length := by rw [e1, e2, List.length_append, List.length_append, h]
      by_cases c2 : (g (l.drop 1) G1).2.1.headD 0 = 44
      · have c2' : (g (l.drop 1) G2).2.1.headD 0 = 44 := h2 ▸ c2
        have u1 : kidsR g (m + 1) l G1 ks = kidsR g m (g (l.drop 1) G1).2.1 (g (l.drop 1) G1).2.2 (ks ++ [(G1.length : Int)]) := by rw [kidsR, if_neg c1, if_pos c2]
        have u2 : kidsR g (m + 1) l G2 ks = kidsR g m (g (l.drop 1) G2).2.1 (g (l.drop 1) G2).2.2 (ks ++ [(G2.length : Int)]) := by rw [kidsR, if_neg c1', if_pos c2']
        rw [u1, u2, ← h, ← h2]
        obtain ⟨⟨q1, q2, q3⟩, q4⟩ := kids_eq hg m (g (l.drop 1) G1).2.1 _ _ (ks ++ [(G1.length : Int)]) hl
        refine ⟨⟨q1, q2, fun h9 => ?_⟩, q4⟩
        obtain ⟨Gm, a1, a2⟩ := q3 h9
        exact ⟨Gn ++ Gm, by rw [a1, e1, List.append_assoc], by rw [a2, e2, List.append_assoc]⟩
      · have c2' : ¬ (g (l.drop 1) G2).2.1.headD 0 = 44 := fun h9 => c2 (h2 ▸ h9)
        by_cases c3 : (g (l.drop 1) G1).2.1.headD 0 = 41
        · have c3' : (g (l.drop 1) G2).2.1.headD 0 = 41 := h2 ▸ c3
          have u1 : kidsR g (m + 1) l G1 ks = ((true, (g (l.drop 1) G1).2.1.drop 1, (g (l.drop 1) G1).2.2), ks ++ [(G1.length : Int)]) := by rw [kidsR, if_neg c1, if_neg c2, if_pos c3]
          have u2 : kidsR g (m + 1) l G2 ks = ((true, (g (l.drop 1) G2).2.1.drop 1, (g (l.drop 1) G2).2.2), ks ++ [(G2.length : Int)]) := by rw [kidsR, if_neg c1', if_neg c2', if_pos c3']
          rw [u1, u2, ← h, ← h2]
          exact ⟨⟨rfl, rfl, fun _ => ⟨Gn, e1, e2⟩⟩, fun _ => rfl⟩
        · have c3' : ¬ (g (l.drop 1) G2).2.1.headD 0 = 41 := fun h9 => c3 (h2 ▸ h9)
          have u1 : kidsR g (m + 1) l G1 ks = ((false, (g (l.drop 1) G1).2), ks ++ [(G1.length : Int)]) := by rw [kidsR, if_neg c1, if_neg c2, if_neg c3]
          have u2 : kidsR g (m + 1) l G2 ks = ((false, (g (l.drop 1) G2).2), ks ++ [(G2.length : Int)]) := by rw [kidsR, if_neg c1', if_neg c2', if_neg c3']
          rw [u1, u2]
          exact ⟨⟨rfl, h2, fun h9 => (by cases h9)⟩, fun h9 => (by cases h9)⟩
theorem gate_eq : ∀ (f : Nat) (l : List UInt8) (G1 G2 : List Gt), G1.length = G2.length → GEq G1 G2 (gateP f l G1) (gateP f l G2)
  | 0, l, G1, G2, h => ⟨rfl, rfl, fun h => (by cases h)⟩
  | f + 1, l, G1, G2, h => by
    rw [gateP, gateP]
    by_cases c1 : nOk l = false
    · rw [if_pos c1, if_pos c1]
      exact ⟨rfl, rfl, fun h => (by cases h)⟩
    · rw [if_neg c1, if_neg c1]
      by_cases c2 : (l.drop (numLen l)).headD 0 ≠ 40
      · rw [if_pos c2, if_pos c2]
        exact ⟨rfl, rfl, fun _ => ⟨_, rfl, rfl⟩⟩
      · rw [if_neg c2, if_neg c2]
        obtain ⟨⟨q1, q2, q3⟩, q4⟩ := kids_eq (gate_eq f) f (l.drop (numLen l)) (G1 ++ [⟨0, [], 0⟩]) (G2 ++ [⟨0, [], 0⟩]) [] (by simp [h])
        by_cases c3 : (kidsR (gateP f) f (l.drop (numLen l)) (G1 ++ [⟨0, [], 0⟩]) []).1.1 = false
        · rw [if_pos c3, if_pos (q1.symm.trans c3)]
          exact ⟨q1, q2, fun h9 => (by rw [c3] at h9; cases h9)⟩
        · rw [if_neg c3, if_neg (fun h9 => c3 (q1.trans h9))]
          obtain ⟨Gn, a1, a2⟩ := q3 (by simpa using c3)
          refine ⟨rfl, q2, fun _ => ⟨⟨numV (l.take (numLen l)), (kidsR (gateP f) f (l.drop (numLen l)) (G1 ++ [⟨0, [], 0⟩]) []).2, 0⟩ :: Gn, ?_, ?_⟩⟩
          · show (kidsR (gateP f) f (l.drop (numLen l)) (G1 ++ [⟨0, [], 0⟩]) []).1.2.2.set _ _ = _
            rw [a1]; simp
          · show (kidsR (gateP f) f (l.drop (numLen l)) (G2 ++ [⟨0, [], 0⟩]) []).1.2.2.set _ _ = _
            rw [a2, ← q4 (by simpa using c3)]; simp
end Go.Proofs.YteaaeaimjbaomaaDoor

/-
  The reader of dominoref20: its pieces. Over any program.
-/
namespace Go.Proofs.YteaaeaimjbaomaaDoor
open Go.RowKit
set_option linter.unusedVariables false

abbrev ird4 (g : Nat) (s : ByteArray) (p : Nat) (v : Value) (bad : Bool) : It := iblk g 93 [.string s, v, .int .i64 (p : Int), .bool bad]
abbrev r4 (g : Nat) (s : ByteArray) (p : Nat) (vg : Value) (bad : Bool) (P : List GV) : List It := ird4 g s p vg bad :: irow 40 3 vg P.length (gcells P) :: kidIts P
section
variable {o : List Nat} {w W W' : World} {g : Nat} {s : ByteArray} {p : Nat} {v vg : Value} {bad : Bool} {r : List It} {P : List GV}
theorem r4_cells (h : Hp o w (ird4 g s p v bad :: r) W) : W.cell? ⟨g, 0, none⟩ = some (.string s) ∧ W.cell? ⟨g, 1, none⟩ = some v ∧ W.cell? ⟨g, 2, none⟩ = some (.int .i64 (p : Int)) ∧ W.cell? ⟨g, 3, none⟩ = some (.bool bad) := ⟨(h.blk 0 rfl).cell 0, (h.blk 0 rfl).cell 1, (h.blk 0 rfl).cell 2, (h.blk 0 rfl).cell 3⟩
theorem r4_free (h : Hp o w (ird4 g s p v bad :: r) W) (i : Nat) : W.frozen? ⟨g, i, none⟩ = false := (h.blk 0 rfl).frozen i
theorem r4_at (h : Hp o w (ird4 g s p v bad :: r) W) (q : Nat) (n : Int) (hn : n = (q : Int)) : Hp o w (ird4 g s q v bad :: r) (W.setCell ⟨g, 2, none⟩ (.int .i64 n)) := by
  subst hn; exact h.set 0 rfl 2 (.int .i64 (q : Int))
theorem r4_bad (h : Hp o w (ird4 g s p v bad :: r) W) : Hp o w (ird4 g s p v true :: r) (W.setCell ⟨g, 3, none⟩ (.bool true)) := h.set 0 rfl 3 (.bool true)
/-- a new leaf, at the end -/
theorem r4_push {vg' : Value} {n : Int} (h : Hp o w (r4 g s p vg bad P) W) (ob : Obj) (hr : W'.ownsRow 0 40 3 vg' (P.length + 1) (gcells P ++ [.int .i64 0, .slice none 0 0, .int .i64 n])) (hg : (W.alloc ob).grownBy W' vg.ownBlock)
    (hv : vg'.ownBlock = vg.ownBlock ∨ ∀ k, vg'.ownBlock = some k → (W.alloc ob).heap.size ≤ k) : Hp o w (r4 g s p vg' bad (P ++ [(⟨0, [], n⟩, .slice none 0 0)])) (W'.setCell ⟨g, 1, none⟩ vg') := by
  have h1 := (h.alloc ob).grown 1 (v' := vg') (n' := P.length + 1) (xs' := gcells P ++ [.int .i64 0, .slice none 0 0, .int .i64 n]) rfl hr hg hv
  have h2 := h1.set 0 rfl 1 vg'
  have h3 := h2.nilrow 3 1
  refine h3.perm ?_
  have e : gcells (P ++ [(⟨0, [], n⟩, .slice none 0 0)]) = gcells P ++ [.int .i64 0, .slice none 0 0, .int .i64 n] := by rw [gcells_append]; rfl
  show (_ :: _ :: _ :: kidIts P).Perm (_ :: _ :: kidIts (P ++ [(⟨0, [], n⟩, .slice none 0 0)]))
  rw [e, kidIts_append, List.length_append]
  refine ((List.Perm.swap _ _ _).trans ((List.Perm.swap _ _ _).cons _)).trans (((?_ : List.Perm _ _).cons _).cons _)
  exact (List.perm_append_singleton _ _).symm
/-- the leaf at the end becomes a gate without kids -/
theorem r4_gate {g3 c3 : Nat} {n m : Int} (h : Hp o w (r4 g s p (.slice (some ⟨g3, 0, none⟩) (P.length + 1) c3) bad (P ++ [(⟨0, [], n⟩, .slice none 0 0)])) W) :
    Hp o w (r4 g s p (.slice (some ⟨g3, 0, none⟩) (P.length + 1) c3) bad (P ++ [(⟨m, [], 0⟩, .slice none 0 0)])) (((W.setCell ⟨g3, P.length * 3, none⟩ (.int .i64 m)).setCell ⟨g3, P.length * 3 + 1, none⟩ (.slice none 0 0)).setCell ⟨g3, P.length * 3 + 2, none⟩ (.int .i64 0)) := by
  have el : ∀ x : GV, (P ++ [x]).length = P.length + 1 := fun x => by simp
  rw [r4, el] at h
  have hx : ∀ y : GV, (P ++ [y])[P.length]? = some y := fun y => by simp
  have es : ∀ a b : GV, (P ++ [a]).set P.length b = P ++ [b] := fun a b => by simp
  have h1 := h.rowset 1 rfl (P.length * 3) (by omega) (.int .i64 m)
  rw [(gcells_set (hx _) m 0 [] (.slice none 0 0)).1, es] at h1
  have h2 := h1.rowset 1 rfl (P.length * 3 + 1) (by omega) (.slice none 0 0)
  rw [(gcells_set (hx _) m 0 [] (.slice none 0 0)).2.1, es] at h2
  have h3 := h2.rowset 1 rfl (P.length * 3 + 2) (by omega) (.int .i64 0)
  rw [(gcells_set (hx _) m 0 [] (.slice none 0 0)).2.2, es] at h3
  rw [r4, el]
  have e2 : kidIts (P ++ [(⟨m, [], 0⟩, .slice none 0 0)]) = kidIts (P ++ [(⟨0, [], n⟩, .slice none 0 0)]) := by
    rw [kidIts_append, kidIts_append]; rfl
  rw [e2]
  exact h3
theorem r4_row {g3 c3 n : Nat} (h : Hp o w (r4 g s p (.slice (some ⟨g3, 0, none⟩) n c3) bad P) W) (hn : n = P.length) {i : Nat} {x : GV} (hx : P[i]? = some x) :
    W.cell? ⟨g3, i * 3, none⟩ = some (.int .i64 x.1.need) ∧ W.cell? ⟨g3, i * 3 + 1, none⟩ = some x.2 ∧ W.cell? ⟨g3, i * 3 + 2, none⟩ = some (.int .i64 x.1.leaf) ∧ ∀ j, W.frozen? ⟨g3, j, none⟩ = false := by
  subst hn
  have hr := h.row 1 rfl
  obtain ⟨a, b, c⟩ := gcells_at hx
  exact ⟨row_cell hr a, row_cell hr b, row_cell hr c, row_frozen hr⟩
/-- the kids of gate i -/
theorem r4_kids (h : Hp o w (r4 g s p vg bad P) W) {i : Nat} {x : GV} (hx : P[i]? = some x) : W.ownsRow 0 3 1 x.2 x.1.kids.length (ivals x.1.kids) :=
  h.row (i + 2) (by
    show (kidIts P)[i]? = _
    rw [kidIts, List.getElem?_map, hx]; rfl)
/-- gate i gets a kid more -/
theorem r4_kid {g3 c3 n : Nat} (h : Hp o w (r4 g s p (.slice (some ⟨g3, 0, none⟩) n c3) bad P) W) (hn : n = P.length) {i : Nat} {x : GV} (hx : P[i]? = some x) (k : Int) {v' : Value} {n' : Nat} {xs' : List Value} (hn' : n' = (x.1.kids ++ [k]).length) (hxs : xs' = ivals (x.1.kids ++ [k]))
    (hr : W'.ownsRow 0 3 1 v' n' xs') (hg : W.grownBy W' x.2.ownBlock) (hv : v'.ownBlock = x.2.ownBlock ∨ ∀ b, v'.ownBlock = some b → W.heap.size ≤ b) :
    W'.cell? ⟨g, 1, none⟩ = some (.slice (some ⟨g3, 0, none⟩) n c3) ∧ W'.cell? ⟨g3, i * 3 + 1, none⟩ = some x.2 ∧ W'.frozen? ⟨g3, i * 3 + 1, none⟩ = false ∧
    Hp o w (r4 g s p (.slice (some ⟨g3, 0, none⟩) n c3) bad (P.set i (⟨x.1.need, x.1.kids ++ [k], x.1.leaf⟩, v'))) (W'.setCell ⟨g3, i * 3 + 1, none⟩ v') := by
  subst hn
  subst hn'
  subst hxs
  have hil : i < P.length := (List.getElem?_eq_some_iff.1 hx).1
  have h1 := h.grown (i + 2) (by
    show (kidIts P)[i]? = some (irow 3 1 x.2 x.1.kids.length (ivals x.1.kids))
    rw [kidIts, List.getElem?_map, hx]; rfl) hr hg hv
  have r1 := h1.row 1 rfl
  obtain ⟨a1, a2, a3⟩ := gcells_at hx
  have h2 := h1.rowset 1 rfl (i * 3 + 1) (by omega) v'
  rw [(gcells_set hx 0 0 (x.1.kids ++ [k]) v').2.1] at h2
  refine ⟨(h1.blk 0 rfl).cell 1, row_cell r1 a2, row_frozen r1 _, ?_⟩
  rw [r4, List.length_set]
  have e : kidIts (P.set i (⟨x.1.need, x.1.kids ++ [k], x.1.leaf⟩, v')) = (kidIts P).set i (irow 3 1 v' (x.1.kids ++ [k]).length (ivals (x.1.kids ++ [k]))) := List.map_set
  rw [e]
  exact h2
end
/-- what dominoref20's reader leaves behind -/
def RPost (o : List Nat) (W : World) (g : Nat) (s : ByteArray) (p : Nat) (P : List GV) (r : GR) (e : Ending) (w' : World) : Prop :=
  e = .returned (.tuple #[]) ∧ ∃ p' vg' its bad, p' ≤ s.size ∧ r.2.1 = (tl s).drop p' ∧ Hp o W (ird4 g s p' vg' bad :: its) w' ∧ (bad = true → r.1 = false) ∧
    (bad = false → (r.1 = true ∨ isD (r.2.1.headD 0) = true) ∧ ∃ Pn, its = irow 40 3 vg' (P ++ Pn).length (gcells (P ++ Pn)) :: kidIts (P ++ Pn) ∧ (r.1 = true → gts (P ++ Pn) = r.2.2) ∧ (P ++ Pn).length + (s.size - p') ≤ P.length + (s.size - p))
end Go.Proofs.YteaaeaimjbaomaaDoor
