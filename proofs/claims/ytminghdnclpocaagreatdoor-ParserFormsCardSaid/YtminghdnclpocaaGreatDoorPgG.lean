/-
  slices.Clone at uses and at references; policy.reached. Printed by mkpgg.py.
-/
import Derived.Test.YtminghdnclpocaaGreatDoorPgF
namespace Go.Proofs.YtminghdnclpocaaGreatDoor
open Go.RowKit Go.Shelf Go.Maps
set_option linter.unusedVariables false

/-- the cells of pairs of strings -/
abbrev bcells (l : List Bp) : List Value := l.flatMap fun x => [.string x.1, .string x.2]
theorem bcells_len (l : List Bp) : (bcells l).length = l.length * 2 := by
  induction l with
  | nil => rfl
  | cons a l ih =>
    have e : bcells (a :: l) = .string a.1 :: .string a.2 :: bcells l := rfl
    rw [e]; simp only [List.length_cons, ih]; omega
theorem bcells_at {l : List Bp} {i : Nat} {x : Bp} (h : l[i]? = some x) : (bcells l)[i * 2]? = some (.string x.1) ∧ (bcells l)[i * 2 + 1]? = some (.string x.2) := by
  induction l generalizing i with
  | nil => simp at h
  | cons y l ih =>
    have e : bcells (y :: l) = .string y.1 :: .string y.2 :: bcells l := rfl
    cases i with
    | zero =>
      have : y = x := by simpa using h
      subst this
      exact ⟨rfl, rfl⟩
    | succ i =>
      have h1 := ih (by simpa using h)
      rw [e, show (i + 1) * 2 = i * 2 + 1 + 1 by omega]
      simpa using h1
theorem bcells_of {W : World} {ad : Addr} {l : List Bp} (h : Prs W (some ad) l) : ∀ j u, (bcells l)[j]? = some u → W.cell? (ad.add j) = some u := by
  intro j u hu
  have hj := (List.getElem?_eq_some_iff.1 hu).1
  rw [bcells_len] at hj
  obtain ⟨x, hx⟩ : ∃ x, l[j / 2]? = some x := ⟨_, List.getElem?_eq_getElem (by omega)⟩
  obtain ⟨ad', e, h1, h2⟩ := h.at_ _ _ hx
  cases e
  obtain ⟨b1, b2⟩ := bcells_at hx
  rcases (by omega : j = j / 2 * 2 ∨ j = j / 2 * 2 + 1) with hj2 | hj2
  · rw [hj2] at hu ⊢
    rw [b1] at hu
    rw [← hu]; exact h1
  · rw [hj2] at hu ⊢
    rw [b2] at hu
    rw [← hu, ← h2]
    congr 1
    unfold Addr.add
    split
    · omega
    · split
      · rename_i h9; rw [h9]
      · rfl
theorem bprs_row {e : TypeId} {W : World} {A : Option Addr} {n c : Nat} {l : List Bp} (h : W.ownsRow 0 e 2 (.slice A n c) l.length (bcells l)) : Prs W A l := by
  refine ⟨fun i s hs => ?_⟩
  have hi := (List.getElem?_eq_some_iff.1 hs).1
  obtain ⟨g, cap, hv, -⟩ := row_form h (by omega)
  injection hv with hA hn hc
  subst hA
  rw [hn] at h
  refine ⟨_, rfl, ?_⟩
  rw [paddr0]
  exact ⟨row_cell h (bcells_at hs).1, row_cell h (bcells_at hs).2⟩
/-- an empty row in a block of its own -/
theorem Hp.emptyrow {o : List Nat} {w W : World} {it : List It} (h : Hp o w it W) (e : TypeId) (size : Nat) : Hp o w (irow e size (.slice (some ⟨W.heap.size, 0, none⟩) 0 0) 0 [] :: it) (W.alloc (.cells #[] e)) := by
  have hrow : (W.alloc (.cells #[] e)).ownsRow 0 e size (.slice (some ⟨W.heap.size, 0, none⟩) 0 0) 0 [] := by
    refine ⟨by simp, .inr ⟨W.heap.size, 0, #[], rfl, Nat.zero_le _, Blk.new W e [], Nat.le_refl _, by unfold maxLen; omega, by simp, by simp⟩⟩
  have h1 : Hp (ow []) W [irow e size (.slice (some ⟨W.heap.size, 0, none⟩) 0 0) 0 []] (W.alloc (.cells #[] e)) := by
    refine ⟨⟨fun x hx => ?_, by simp [irow, Value.ownBlock]⟩, ⟨(Below.refl _ _).alloc (Nat.zero_le _) _, fun k hk _ => Below.heap_alloc _ _ _ hk, fun b hb => .inr ?_⟩⟩
    · rw [List.mem_singleton.1 hx]; exact hrow
    · simp [irow, Value.ownBlock] at hb; omega
  exact Hp.call (a := []) h h1
theorem cluse_info : (Tryz.prog.info? 50).map (fun i => (i.zero, i.size, i.bytes)) = some (some (.agg #[.string ⟨#[]⟩, .string ⟨#[]⟩]), 2, 32) := by kernel_rfl
set_option maxRecDepth 20000 in
set_option maxHeartbeats 4000000 in
theorem clone_use (A : Option Addr) (c : Nat) (x : List Bp) (W : World) (hx : Prs W A x) (hxl : x.length ≤ 1000000) :
    Calls Tryz.prog 37 #[.slice A x.length c] W fun e w' => ∃ A' c', e = .returned (.slice A' x.length c') ∧ Hp [] W [irow 50 2 (.slice A' x.length c') x.length (bcells x)] w' := by
  obtain ⟨j0, hj0, hy0, hy1, hy2⟩ := info3 cluse_info
  cases A with
  | none =>
    have hx0 : x = [] := by
      cases x with
      | nil => rfl
      | cons a l =>
        obtain ⟨ad, e, -⟩ := hx.at_ 0 a rfl
        cases e
    subst hx0
    have hq : ∀ w, (binOp .eql 23 (.slice none 0 c) (.slice none 0 0)).run Tryz.prog w = .ok (.bool true) w := fun w => by kernel_rfl
    go_enter Tryz.func37, Tryz.ntmps37
    go_wp2_with fail
    go_ret
    exact ⟨none, 0, rfl, (Hp.start W).nilrow 50 2⟩
  | some ad =>
    have hq : ∀ (n : Nat) w, (binOp .eql 23 (.slice (some ad) n c) (.slice none 0 0)).run Tryz.prog w = .ok (.bool false) w := fun n w => by kernel_rfl
    cases hxx : decide (x = []) with
    | true =>
      obtain rfl : x = [] := of_decide_eq_true hxx
      have hap : ∀ (g : Nat) (w : World), (Builtin.append_ #[23, 23] 23 #[.slice (some ⟨g, 0, none⟩) 0 0, .slice (some ad) 0 c]).run Tryz.prog w = .ok (.slice (some ⟨g, 0, none⟩) 0 0) w := fun g w => by
        have := run_append_room_cells (P := Tryz.prog) (w := w) 23 23 50 j0 Tryz.underlying23 hj0 g 0 0 0 ad 0 c [] (by simp) (by simp) (by simp) (by simp) (by simp) (by simp)
        exact this
      go_enter Tryz.func37, Tryz.ntmps37
      go_wp2_with fail
      go_ret
      exact ⟨_, _, rfl, (Hp.start W).emptyrow 50 2⟩
    | false =>
      have hpos : 0 < x.length := by
        cases x with
        | nil => simp at hxx
        | cons a l => simp
      have hk0 := (Hp.start W).emptyrow 50 2
      have hcl := bcells_of (hx.up ((Below.refl W.heap.size W).alloc (Nat.le_refl _) (.cells #[] 50)))
      go_enter Tryz.func37, Tryz.ntmps37
      go_wp2_with (first | (at_builtin; refine wpList_append_own2 rfl _ _ 23 rfl 0 50 j0 _ 2 32 Tryz.underlying23 hj0 hy0 hy1 hy2 rfl (by decide) _ 0 [] rfl (hk0.row 0 rfl) ad x.length c (bcells x) rfl (bcells_len x) hcl (by intro u hu; obtain ⟨y, _, hy⟩ := List.mem_flatMap.1 hu; simp at hy; rcases hy with rfl | rfl <;> rfl) hpos (by unfold maxLen; omega) (by omega) (Nat.zero_le _) ?_; intro v' w2 hown hgrow hat; obtain ⟨A2, ca2, rfl⟩ := row_forms hown))
      go_ret
      have hk1 := hk0.grown 0 rfl hown hgrow hat
      rw [Nat.zero_add, List.nil_append] at hk1
      exact ⟨_, _, by first | rfl | (rw [Nat.zero_add]; rfl) | simp, hk1⟩
theorem clref_info : (Tryz.prog.info? 52).map (fun i => (i.zero, i.size, i.bytes)) = some (some (.agg #[.string ⟨#[]⟩, .string ⟨#[]⟩]), 2, 32) := by kernel_rfl
set_option maxRecDepth 20000 in
set_option maxHeartbeats 4000000 in
theorem clone_ref (A : Option Addr) (c : Nat) (x : List Bp) (W : World) (hx : Prs W A x) (hxl : x.length ≤ 1000000) :
    Calls Tryz.prog 38 #[.slice A x.length c] W fun e w' => ∃ A' c', e = .returned (.slice A' x.length c') ∧ Hp [] W [irow 52 2 (.slice A' x.length c') x.length (bcells x)] w' := by
  obtain ⟨j0, hj0, hy0, hy1, hy2⟩ := info3 clref_info
  cases A with
  | none =>
    have hx0 : x = [] := by
      cases x with
      | nil => rfl
      | cons a l =>
        obtain ⟨ad, e, -⟩ := hx.at_ 0 a rfl
        cases e
    subst hx0
    have hq : ∀ w, (binOp .eql 24 (.slice none 0 c) (.slice none 0 0)).run Tryz.prog w = .ok (.bool true) w := fun w => by kernel_rfl
    go_enter Tryz.func38, Tryz.ntmps38
    go_wp2_with fail
    go_ret
    exact ⟨none, 0, rfl, (Hp.start W).nilrow 52 2⟩
  | some ad =>
    have hq : ∀ (n : Nat) w, (binOp .eql 24 (.slice (some ad) n c) (.slice none 0 0)).run Tryz.prog w = .ok (.bool false) w := fun n w => by kernel_rfl
    cases hxx : decide (x = []) with
    | true =>
      obtain rfl : x = [] := of_decide_eq_true hxx
      have hap : ∀ (g : Nat) (w : World), (Builtin.append_ #[24, 24] 24 #[.slice (some ⟨g, 0, none⟩) 0 0, .slice (some ad) 0 c]).run Tryz.prog w = .ok (.slice (some ⟨g, 0, none⟩) 0 0) w := fun g w => by
        have := run_append_room_cells (P := Tryz.prog) (w := w) 24 24 52 j0 Tryz.underlying24 hj0 g 0 0 0 ad 0 c [] (by simp) (by simp) (by simp) (by simp) (by simp) (by simp)
        exact this
      go_enter Tryz.func38, Tryz.ntmps38
      go_wp2_with fail
      go_ret
      exact ⟨_, _, rfl, (Hp.start W).emptyrow 52 2⟩
    | false =>
      have hpos : 0 < x.length := by
        cases x with
        | nil => simp at hxx
        | cons a l => simp
      have hk0 := (Hp.start W).emptyrow 52 2
      have hcl := bcells_of (hx.up ((Below.refl W.heap.size W).alloc (Nat.le_refl _) (.cells #[] 52)))
      go_enter Tryz.func38, Tryz.ntmps38
      go_wp2_with (first | (at_builtin; refine wpList_append_own2 rfl _ _ 24 rfl 0 52 j0 _ 2 32 Tryz.underlying24 hj0 hy0 hy1 hy2 rfl (by decide) _ 0 [] rfl (hk0.row 0 rfl) ad x.length c (bcells x) rfl (bcells_len x) hcl (by intro u hu; obtain ⟨y, _, hy⟩ := List.mem_flatMap.1 hu; simp at hy; rcases hy with rfl | rfl <;> rfl) hpos (by unfold maxLen; omega) (by omega) (Nat.zero_le _) ?_; intro v' w2 hown hgrow hat; obtain ⟨A2, ca2, rfl⟩ := row_forms hown))
      go_ret
      have hk1 := hk0.grown 0 rfl hown hgrow hat
      rw [Nat.zero_add, List.nil_append] at hk1
      exact ⟨_, _, by first | rfl | (rw [Nat.zero_add]; rfl) | simp, hk1⟩
set_option maxRecDepth 20000 in
set_option maxHeartbeats 16000000 in
theorem reached_any (d : Po) (L : Lp) (hB : PBd d) (w : World) (hP : PolM w d L) : Calls Tryz.prog 36 #[polV d L] w fun e w' => ∃ OA oc, e = .returned (.tuple #[.slice OA (reachP d.nodes 513 d.root []).2.length oc, .bool (reachP d.nodes 513 d.root []).1]) ∧ Hp [] w [iorder (.slice OA (reachP d.nodes 513 d.root []).2.length oc) (reachP d.nodes 513 d.root []).2] w' := by
  have hmm := @run_makeMap Tryz.prog
  have hmf : ∀ (fn : Fn) (first cap : Array Value) (w : World), (Instr.makeFunc fn first cap).run Tryz.prog w = .ok (.func fn first cap) w := fun _ _ _ _ => rfl
  have hen := enters_reach
  have HS := Lib.hid (store_func Tryz.prog)
  have hk0 := (((((((Hp.start w).nilrow 3 1).new 27 (polcs d L)).new 44 [.slice none 0 0]).setNew intK).new 121 [.map (some (w.heap.size + 1 + 1))]).new 122 [.nilFunc])
  simp only [sizeA] at hk0
  go_enter Tryz.func36, Tryz.ntmps36
  go_upto_region 4 with fail
  have hk0 : Hp [] w _ (((((w.alloc (.cells #[.string d.name, .slice L.ua d.uses.length L.uc, .slice L.ra d.reveal.length L.rc, .slice L.na d.nodes.length L.nc, .int .i64 d.root, .string d.scope, .int .i64 d.limit, .string d.escrow] 27)).alloc (.cells #[.slice none 0 0] 44)).alloc (.map #[] 0)).alloc (.cells #[.map (some (w.heap.size + 1 + 1))] 121)).alloc (.cells #[.nilFunc] 122)) := hk0
  generalize (((((w.alloc (.cells #[.string d.name, .slice L.ua d.uses.length L.uc, .slice L.ra d.reveal.length L.rc, .slice L.na d.nodes.length L.nc, .int .i64 d.root, .string d.scope, .int .i64 d.limit, .string d.escrow] 27)).alloc (.cells #[.slice none 0 0] 44)).alloc (.map #[] 0)).alloc (.cells #[.map (some (w.heap.size + 1 + 1))] 121)).alloc (.cells #[.nilFunc] 122)) = W1 at *
  obtain ⟨gp, hgp⟩ : ∃ g, w.heap.size = g := ⟨_, rfl⟩
  obtain ⟨go, hgo⟩ : ∃ g, gp + 1 = g := ⟨_, rfl⟩
  obtain ⟨gm, hgm⟩ : ∃ g, go + 1 = g := ⟨_, rfl⟩
  obtain ⟨gs, hgs⟩ : ∃ g, gm + 1 = g := ⟨_, rfl⟩
  obtain ⟨gv, hgv⟩ : ∃ g, gs + 1 = g := ⟨_, rfl⟩
  rw [hgp, hgo, hgm, hgs, hgv] at hk0
  simp only [hgp, hgo, hgm, hgs, hgv]
  have hst := fun x y => HS.out W1 ⟨gv, 0, none⟩ .plain (Fn.func 82) x y _ ((hk0.blk 0 rfl).cell 0) ((hk0.blk 0 rfl).frozen 0)
  have hk1 := (hk0.set 0 rfl 0 (reF gp gs go gv))
  have hk1 : Hp [] w (rits d L gm gs go gp gv [] (.slice none 0 0)) (W1.setCell ⟨gv, 0, none⟩ (reF gp gs go gv)) := hk1.perm ((List.perm_append_comm (l₁ := [_]) (l₂ := [_, _, _, _, _])).trans ((List.Perm.swap _ _ _).trans ((((List.Perm.swap _ _ _).cons _).cons _).cons _)))
  go_upto_region 5 with fail
  clear hst hk0
  generalize W1.setCell ⟨gv, 0, none⟩ (reF gp gs go gv) = W2 at *
  have p4 : W2.cell? ⟨gp, 4, none⟩ = some (.int .i64 d.root) := (hk1.blk 4 rfl).cell 4
  have v0 : W2.cell? ⟨gv, 0, none⟩ = some (reF gp gs go gv) := (hk1.blk 5 rfl).cell 0
  have hM0 : Rch d.nodes [] := ⟨⟨List.nodup_nil, fun x hx => absurd hx List.not_mem_nil⟩, Nat.zero_le _⟩
  have HC := Lib.hid (reach_any d L hB gm gs go gp gv w hP 513 d.root [] none 0 [] W2 hM0 (by simp) (by rw [List.append_nil]; exact hk1))
  obtain ⟨vr, hvr⟩ : ∃ vr, reachP d.nodes 513 d.root [] = vr := ⟨_, rfl⟩
  rw [hvr] at HC
  have HVR := Lib.hid hvr
  clear hvr
  obtain ⟨ve, T⟩ := vr
  clear hM0
  go_wp2_with fail
  refine HC.out.mono ?_
  rintro e w3 ⟨rfl, OA, oc, hk3⟩
  clear HC hk1 p4 v0
  rw [List.append_nil] at hk3
  simp only at hk3
  have o0 : w3.cell? ⟨go, 0, none⟩ = some (.slice OA T.length oc) := (hk3.blk 2 rfl).cell 0
  subst hgp
  go_wp2_with fail
  go_ret2
  rw [HVR.out]
  refine ⟨OA, oc, rfl, ?_⟩
  exact Hp.sub (it := [_]) (r := [_, _, _, _, _]) (hk3.pull 3 rfl)
end Go.Proofs.YtminghdnclpocaaGreatDoor
