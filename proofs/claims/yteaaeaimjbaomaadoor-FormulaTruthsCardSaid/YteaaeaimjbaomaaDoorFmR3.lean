/-
  Gates that are being built: their cells and their kids' rows. Over any program.
-/
import Derived.Test.YteaaeaimjbaomaaDoorFmR2
namespace Go.Proofs.YteaaeaimjbaomaaDoor
open Go.RowKit
set_option linter.unusedVariables false

abbrev GV := Gt × Value
def ivals (l : List Int) : List Value := l.map (.int .i64 ·)
def gcell (x : GV) : List Value := [.int .i64 x.1.need, x.2, .int .i64 x.1.leaf]
def gcells (P : List GV) : List Value := P.flatMap gcell
def kidIt (x : GV) : It := irow 3 1 x.2 x.1.kids.length (ivals x.1.kids)
def kidIts (P : List GV) : List It := P.map kidIt
abbrev gts (P : List GV) : List Gt := P.map Prod.fst
/-- the pieces of a reader of formula.Parse -/
abbrev rits (g : Nat) (s : ByteArray) (p : Nat) (vg : Value) (P : List GV) : List It := irdr g s p vg :: irow 40 3 vg P.length (gcells P) :: kidIts P
theorem gcells_length (P : List GV) : (gcells P).length = P.length * 3 := by
  induction P with
  | nil => rfl
  | cons x P ih =>
    have e : gcells (x :: P) = gcell x ++ gcells P := rfl
    rw [e, List.length_append, ih, List.length_cons]
    simp [gcell]
    omega
theorem gcells_append (P Q : List GV) : gcells (P ++ Q) = gcells P ++ gcells Q := List.flatMap_append
theorem kidIts_append (P Q : List GV) : kidIts (P ++ Q) = kidIts P ++ kidIts Q := List.map_append
/-- the cells of gate i -/
theorem gcells_at : ∀ {P : List GV} {i : Nat} {x : GV}, P[i]? = some x → (gcells P)[i * 3]? = some (.int .i64 x.1.need) ∧ (gcells P)[i * 3 + 1]? = some x.2 ∧ (gcells P)[i * 3 + 2]? = some (.int .i64 x.1.leaf)
  | y :: P, 0, x, h => by
    cases h
    exact ⟨rfl, rfl, rfl⟩
  | y :: P, i + 1, x, h => by
    obtain ⟨a, b, c⟩ := gcells_at (P := P) (i := i) (x := x) (by simpa using h)
    have e : gcells (y :: P) = [.int .i64 y.1.need, y.2, .int .i64 y.1.leaf] ++ gcells P := rfl
    have q : ∀ j, (gcells (y :: P))[3 + j]? = (gcells P)[j]? := fun j => by
      rw [e, List.getElem?_append_right (by simp)]; simp
    refine ⟨?_, ?_, ?_⟩
    · rw [show (i + 1) * 3 = 3 + i * 3 by omega, q]; exact a
    · rw [show (i + 1) * 3 + 1 = 3 + (i * 3 + 1) by omega, q]; exact b
    · rw [show (i + 1) * 3 + 2 = 3 + (i * 3 + 2) by omega, q]; exact c
theorem gcells_set : ∀ {P : List GV} {i : Nat} {x : GV}, P[i]? = some x → ∀ (n l : Int) (k : List Int) (v : Value),
    (gcells P).set (i * 3) (.int .i64 n) = gcells (P.set i (⟨n, x.1.kids, x.1.leaf⟩, x.2)) ∧ (gcells P).set (i * 3 + 1) v = gcells (P.set i (⟨x.1.need, k, x.1.leaf⟩, v)) ∧
    (gcells P).set (i * 3 + 2) (.int .i64 l) = gcells (P.set i (⟨x.1.need, x.1.kids, l⟩, x.2))
  | y :: P, 0, x, h, n, l, k, v => by
    cases h
    exact ⟨rfl, rfl, rfl⟩
  | y :: P, i + 1, x, h, n, l, k, v => by
    obtain ⟨a, b, c⟩ := gcells_set (P := P) (i := i) (x := x) (by simpa using h) n l k v
    have q : ∀ Q, gcells (y :: Q) = .int .i64 y.1.need :: y.2 :: .int .i64 y.1.leaf :: gcells Q := fun Q => rfl
    refine ⟨?_, ?_, ?_⟩
    · rw [List.set_cons_succ, q, q, show (i + 1) * 3 = i * 3 + 1 + 1 + 1 by omega, List.set_cons_succ, List.set_cons_succ, List.set_cons_succ, a]
    · rw [List.set_cons_succ, q, q, show (i + 1) * 3 + 1 = i * 3 + 1 + 1 + 1 + 1 by omega, List.set_cons_succ, List.set_cons_succ, List.set_cons_succ, b]
    · rw [List.set_cons_succ, q, q, show (i + 1) * 3 + 2 = i * 3 + 2 + 1 + 1 + 1 by omega, List.set_cons_succ, List.set_cons_succ, List.set_cons_succ, c]
theorem gate_info : (Tryd.prog.info? 40).map (fun i => (i.zero, i.size, i.bytes)) = some (some (.agg #[.int .i64 0, .slice none 0 0, .int .i64 0]), 3, 40) := by kernel_rfl
theorem int_info : (Tryd.prog.info? 3).map (fun i => (i.zero, i.size, i.bytes)) = some (some (.int .i64 0), 1, 8) := by kernel_rfl
/-- the cells of a new block of three -/
theorem new3' (w : World) (t : TypeId) (a b c : Value) : ∀ (j : Nat) u, [a, b, c][j]? = some u → (w.alloc (.cells #[a, b, c] t)).cell? ((⟨w.heap.size, 0, none⟩ : Addr).add j) = some u := by
  intro j u hu
  have e : (⟨w.heap.size, 0, none⟩ : Addr).add j = ⟨w.heap.size, j, none⟩ := by unfold Addr.add; split <;> simp_all
  rw [e, (show Blk (w.alloc (.cells #[a, b, c] t)) w.heap.size t [a, b, c] from Blk.new w t [a, b, c]).cell j]
  exact hu
theorem new1' (w : World) (t : TypeId) (a : Value) : ∀ (j : Nat) u, [a][j]? = some u → (w.alloc (.cells #[a] t)).cell? ((⟨w.heap.size, 0, none⟩ : Addr).add j) = some u := by
  intro j u hu
  have e : (⟨w.heap.size, 0, none⟩ : Addr).add j = ⟨w.heap.size, j, none⟩ := by unfold Addr.add; split <;> simp_all
  rw [e, (show Blk (w.alloc (.cells #[a] t)) w.heap.size t [a] from Blk.new w t [a]).cell j]
  exact hu
/-- what reading a gate leaves behind -/
def GatePost (o : List Nat) (W : World) (g : Nat) (s : ByteArray) (P : List GV) (r : GR) (e : Ending) (w' : World) : Prop :=
  ∃ p' vg' its, p' ≤ s.size ∧ r.2.1 = (tl s).drop p' ∧ Hp o W (irdr g s p' vg' :: its) w' ∧ (r.1 = false → e = pan) ∧
    (r.1 = true → e = .returned (.int .i64 (P.length : Int)) ∧ ∃ Pn, its = irow 40 3 vg' (P ++ Pn).length (gcells (P ++ Pn)) :: kidIts (P ++ Pn) ∧ gts (P ++ Pn) = r.2.2)
/-- a new gate, at the end -/
theorem rits_push {o : List Nat} {w W W' : World} {g : Nat} {s : ByteArray} {p : Nat} {vg vg' : Value} {P : List GV} {r : List It} (h : Hp o w (rits g s p vg P ++ r) W) (ob : Obj) (hr : W'.ownsRow 0 40 3 vg' (P.length + 1) (gcells P ++ [.int .i64 0, .slice none 0 0, .int .i64 0])) (hg : (W.alloc ob).grownBy W' vg.ownBlock)
    (hv : vg'.ownBlock = vg.ownBlock ∨ ∀ k, vg'.ownBlock = some k → (W.alloc ob).heap.size ≤ k) : Hp o w (rits g s p vg' (P ++ [(⟨0, [], 0⟩, .slice none 0 0)]) ++ r) (W'.setCell ⟨g, 2, none⟩ vg') := by
  have h1 := (h.alloc ob).grown 1 (v' := vg') (n' := P.length + 1) (xs' := gcells P ++ [.int .i64 0, .slice none 0 0, .int .i64 0]) rfl hr hg hv
  have h2 := h1.set 0 rfl 2 vg'
  have h3 := h2.nilrow 3 1
  refine h3.perm ?_
  have e : gcells (P ++ [(⟨0, [], 0⟩, .slice none 0 0)]) = gcells P ++ [.int .i64 0, .slice none 0 0, .int .i64 0] := by rw [gcells_append]; rfl
  show (_ :: _ :: _ :: (kidIts P ++ r)).Perm (_ :: _ :: (kidIts (P ++ [(⟨0, [], 0⟩, .slice none 0 0)]) ++ r))
  rw [e, kidIts_append, List.length_append]
  refine ((List.Perm.swap _ _ _).trans ((List.Perm.swap _ _ _).cons _)).trans (((?_ : List.Perm _ _).cons _).cons _)
  show (_ :: (kidIts P ++ r)).Perm _
  rw [List.append_assoc]
  exact List.perm_middle.symm
theorem foldl_bd : ∀ (p : List UInt8) (acc : Int), 0 ≤ acc → (∀ b ∈ p, isD b = true) → 0 ≤ p.foldl (fun v b => 10 * v + ((b.toNat : Int) - 48)) acc ∧ p.foldl (fun v b => 10 * v + ((b.toNat : Int) - 48)) acc + 1 ≤ (acc + 1) * 10 ^ p.length
  | [], acc, h0, _ => by simp [h0]
  | b :: r, acc, h0, h => by
    have hb := h b (List.mem_cons_self ..)
    unfold isD at hb
    simp only [Bool.and_eq_true, decide_eq_true_eq] at hb
    obtain ⟨h1, h2⟩ := foldl_bd r (10 * acc + ((b.toNat : Int) - 48)) (by omega) (fun c hc => h c (List.mem_cons_of_mem _ hc))
    refine ⟨h1, ?_⟩
    rw [List.foldl_cons, List.length_cons]
    refine Int.le_trans h2 ?_
    rw [Int.pow_succ, Int.mul_comm (10 ^ r.length) 10, ← Int.mul_assoc]
    refine Int.mul_le_mul_of_nonneg_right (by omega) (Int.le_of_lt (Int.pow_pos (by decide)))
theorem numV_bd (l : List UInt8) : 0 ≤ numV (l.take (numLen l)) ∧ numV (l.take (numLen l)) ≤ 1000000000 := by
  obtain ⟨h1, h2⟩ := foldl_bd (l.take (numLen l)) 0 (Int.le_refl _) (numLen_digits l)
  refine ⟨h1, ?_⟩
  have h3 : (10 : Int) ^ (l.take (numLen l)).length ≤ 10 ^ 9 := by
    have h9 := numLen_nine l
    have hl : (l.take (numLen l)).length ≤ 9 := by rw [List.length_take]; omega
    generalize (l.take (numLen l)).length = k at *
    obtain rfl | rfl | rfl | rfl | rfl | rfl | rfl | rfl | rfl | rfl : k = 0 ∨ k = 1 ∨ k = 2 ∨ k = 3 ∨ k = 4 ∨ k = 5 ∨ k = 6 ∨ k = 7 ∨ k = 8 ∨ k = 9 := by omega
    all_goals decide
  have h4 : numV (l.take (numLen l)) + 1 ≤ (0 + 1) * 10 ^ (l.take (numLen l)).length := h2
  have h5 : (10 : Int) ^ 9 = 1000000000 := by decide
  omega
/-- the last piece is a row that has grown -/
theorem Hp.grownLast {o : List Nat} {w W W' : World} {A : List It} {e : TypeId} {size n n' : Nat} {v v' : Value} {xs xs' : List Value} (h : Hp o w (A ++ [irow e size v n xs]) W) (hr : W'.ownsRow 0 e size v' n' xs') (hg : W.grownBy W' v.ownBlock)
    (hv : v'.ownBlock = v.ownBlock ∨ ∀ g, v'.ownBlock = some g → W.heap.size ≤ g) : Hp o w (A ++ [irow e size v' n' xs']) W' := by
  have h1 := h.grown A.length (by rw [List.getElem?_append_right (Nat.le_refl _), Nat.sub_self]; rfl) hr hg hv
  rwa [List.set_append_right _ _ (Nat.le_refl _), Nat.sub_self] at h1
theorem Hp.rowLast {o : List Nat} {w W : World} {A : List It} {e : TypeId} {size n : Nat} {v : Value} {xs : List Value} (h : Hp o w (A ++ [irow e size v n xs]) W) : W.ownsRow 0 e size v n xs := h.sep.ok _ (List.mem_append_right _ (List.mem_singleton.2 rfl))
/-- the gate at the end is a leaf -/
theorem rits_leaf {o : List Nat} {w W : World} {g : Nat} {s : ByteArray} {p : Nat} {g3 c3 : Nat} {P : List GV} (h : Hp o w (rits g s p (.slice (some ⟨g3, 0, none⟩) (P.length + 1) c3) (P ++ [(⟨0, [], 0⟩, .slice none 0 0)])) W) :
    W.cell? ⟨g3, P.length * 3 + 2, none⟩ = some (.int .i64 0) ∧ W.frozen? ⟨g3, P.length * 3 + 2, none⟩ = false ∧
    ∀ n : Int, Hp o w (rits g s p (.slice (some ⟨g3, 0, none⟩) (P.length + 1) c3) (P ++ [(⟨0, [], n⟩, .slice none 0 0)])) (W.setCell ⟨g3, P.length * 3 + 2, none⟩ (.int .i64 n)) := by
  have el : ∀ x : GV, (P ++ [x]).length = P.length + 1 := fun x => by simp
  rw [rits, el] at h
  have hx : (P ++ [((⟨0, [], 0⟩ : Gt), Value.slice none 0 0)])[P.length]? = some (⟨0, [], 0⟩, .slice none 0 0) := by simp
  have hr := h.row 1 rfl
  refine ⟨row_cell hr (gcells_at hx).2.2, row_frozen hr _, fun n => ?_⟩
  have h1 := h.rowset 1 rfl (P.length * 3 + 2) (by omega) (.int .i64 n)
  rw [(gcells_set hx 0 n [] (.slice none 0 0)).2.2] at h1
  have e1 : (P ++ [((⟨0, [], 0⟩ : Gt), Value.slice none 0 0)]).set P.length (⟨0, [], n⟩, .slice none 0 0) = P ++ [(⟨0, [], n⟩, .slice none 0 0)] := by simp
  simp only at h1
  rw [e1] at h1
  rw [rits, el]
  have e2 : kidIts (P ++ [(⟨0, [], n⟩, .slice none 0 0)]) = kidIts (P ++ [(⟨0, [], 0⟩, .slice none 0 0)]) := by
    rw [kidIts_append, kidIts_append]; rfl
  rw [e2]
  exact h1
/-- a gate gets its kids -/
theorem rits_kids {o : List Nat} {w W : World} {g : Nat} {s : ByteArray} {p : Nat} {g3 c3 n : Nat} {P : List GV} {i : Nat} {ks : List Int} {vk : Value} (hn : n = P.length) (hx : P[i]? = some (⟨0, [], 0⟩, .slice none 0 0))
    (h : Hp o w (rits g s p (.slice (some ⟨g3, 0, none⟩) n c3) P ++ [irow 3 1 vk ks.length (ivals ks)]) W) (m : Int) :
    W.cell? ⟨g3, i * 3, none⟩ = some (.int .i64 0) ∧ W.frozen? ⟨g3, i * 3, none⟩ = false ∧ W.cell? ⟨g3, i * 3 + 1, none⟩ = some (.slice none 0 0) ∧ W.frozen? ⟨g3, i * 3 + 1, none⟩ = false ∧
    Hp o w (rits g s p (.slice (some ⟨g3, 0, none⟩) n c3) (P.set i (⟨m, ks, 0⟩, vk))) ((W.setCell ⟨g3, i * 3, none⟩ (.int .i64 m)).setCell ⟨g3, i * 3 + 1, none⟩ vk) ∧
    Hp o w (rits g s p (.slice (some ⟨g3, 0, none⟩) n c3) (P.set i (⟨m, ks, 0⟩, vk))) ((W.setCell ⟨g3, i * 3 + 1, none⟩ vk).setCell ⟨g3, i * 3, none⟩ (.int .i64 m)) := by
  subst hn
  have hil : i < P.length := (List.getElem?_eq_some_iff.1 hx).1
  have hr := h.row 1 rfl
  obtain ⟨a1, a2, a3⟩ := gcells_at hx
  have hend : ∀ (W' : World), Hp o w ([irdr g s p (.slice (some ⟨g3, 0, none⟩) P.length c3), irow 40 3 (.slice (some ⟨g3, 0, none⟩) P.length c3) P.length (gcells (P.set i (⟨m, ks, 0⟩, vk)))] ++ kidIts P ++ [irow 3 1 vk ks.length (ivals ks)]) W' →
      Hp o w (rits g s p (.slice (some ⟨g3, 0, none⟩) P.length c3) (P.set i (⟨m, ks, 0⟩, vk))) W' := fun W' h9 => by
    have hk : (kidIts P)[i]? = some (kidIt (⟨0, [], 0⟩, .slice none 0 0)) := by rw [kidIts, List.getElem?_map, hx]; rfl
    have hkl : i < (kidIts P).length := (List.getElem?_eq_some_iff.1 hk).1
    have hp1 : (kidIts P ++ [irow 3 1 vk ks.length (ivals ks)]).Perm (kidIt (⟨0, [], 0⟩, .slice none 0 0) :: kidIts (P.set i (⟨m, ks, 0⟩, vk))) := by
      have q1 := pull_perm (kidIts P) i hkl
      have q2 : (kidIts P)[i] = kidIt (⟨0, [], 0⟩, .slice none 0 0) := by
        rw [List.getElem?_eq_getElem hkl] at hk; exact Option.some.inj hk
      rw [q2] at q1
      have hl2 : i < ((kidIts P).set i (kidIt (⟨m, ks, 0⟩, vk))).length := by rw [List.length_set]; exact hkl
      have q3 := pull_perm ((kidIts P).set i (kidIt (⟨m, ks, 0⟩, vk))) i hl2
      rw [List.getElem_set_self, List.eraseIdx_set_eq] at q3
      have e : kidIts (P.set i (⟨m, ks, 0⟩, vk)) = (kidIts P).set i (kidIt (⟨m, ks, 0⟩, vk)) := List.map_set
      rw [e]
      refine (q1.symm.append_right _).trans ?_
      show (kidIt _ :: ((kidIts P).eraseIdx i ++ _)).Perm _
      refine (List.Perm.cons _ ?_)
      exact (List.perm_append_singleton _ _).trans q3
    have h10 := h9
    rw [List.append_assoc] at h10
    have h11 := h10.perm (hp1.append_left _)
    have h12 := h11.perm (List.perm_middle (l₁ := [irdr g s p (.slice (some ⟨g3, 0, none⟩) P.length c3), irow 40 3 (.slice (some ⟨g3, 0, none⟩) P.length c3) P.length (gcells (P.set i (⟨m, ks, 0⟩, vk)))]))
    have h13 := h12.tail
    rw [rits, List.length_set]
    exact h13
  have hxm : ∀ v, (P.set i v)[i]? = some v := fun v => by rw [List.getElem?_set_self hil]
  have e2 : ∀ a b : GV, (P.set i a).set i b = P.set i b := fun a b => by rw [List.set_set]
  refine ⟨row_cell hr a1, row_frozen hr _, row_cell hr a2, row_frozen hr _, hend _ ?_, hend _ ?_⟩
  · have h1 := h.rowset 1 rfl (i * 3) (by omega) (.int .i64 m)
    rw [(gcells_set hx m 0 [] vk).1] at h1
    have h2 := h1.rowset 1 rfl (i * 3 + 1) (by omega) vk
    rw [(gcells_set (hxm _) m 0 ks vk).2.1, e2] at h2
    exact h2
  · have h1 := h.rowset 1 rfl (i * 3 + 1) (by omega) vk
    rw [(gcells_set hx m 0 ks vk).2.1] at h1
    have h2 := h1.rowset 1 rfl (i * 3) (by omega) (.int .i64 m)
    rw [(gcells_set (hxm _) m 0 ks vk).1, e2] at h2
    exact h2
/-- the cells of the two stores, each behind the other one -/
theorem rits_kids2 {o : List Nat} {w W : World} {g : Nat} {s : ByteArray} {p : Nat} {g3 c3 n : Nat} {P : List GV} {i : Nat} {r : List It} {vk : Value} (hn : n = P.length) (hx : P[i]? = some (⟨0, [], 0⟩, .slice none 0 0))
    (h : Hp o w (rits g s p (.slice (some ⟨g3, 0, none⟩) n c3) P ++ r) W) (m : Int) :
    (W.setCell ⟨g3, i * 3, none⟩ (.int .i64 m)).cell? ⟨g3, i * 3 + 1, none⟩ = some (.slice none 0 0) ∧ (W.setCell ⟨g3, i * 3, none⟩ (.int .i64 m)).frozen? ⟨g3, i * 3 + 1, none⟩ = false ∧
    (W.setCell ⟨g3, i * 3 + 1, none⟩ vk).cell? ⟨g3, i * 3, none⟩ = some (.int .i64 0) ∧ (W.setCell ⟨g3, i * 3 + 1, none⟩ vk).frozen? ⟨g3, i * 3, none⟩ = false := by
  subst hn
  have hil : i < P.length := (List.getElem?_eq_some_iff.1 hx).1
  obtain ⟨a1, a2, a3⟩ := gcells_at hx
  have h1 := h.rowset 1 rfl (i * 3) (by omega) (.int .i64 m)
  have h2 := h.rowset 1 rfl (i * 3 + 1) (by omega) vk
  have r1 := h1.row 1 rfl
  have r2 := h2.row 1 rfl
  refine ⟨row_cell r1 ?_, row_frozen r1 _, row_cell r2 ?_, row_frozen r2 _⟩
  · rw [List.getElem?_set_ne (by omega)]; exact a2
  · rw [List.getElem?_set_ne (by omega)]; exact a1
end Go.Proofs.YteaaeaimjbaomaaDoor
