/-
  policy.tree.
-/
import Derived.Test.YtminghdnclpocaaGreatDoorPcE
namespace Go.Proofs.YtminghdnclpocaaGreatDoor
open Go.RowKit Go.Shelf Go.Maps
set_option linter.unusedVariables false

theorem store_func (P : Program) (w : World) (a : Addr) (m : Mode) (f : Fn) (x y : Array Value) (v : Value) (hc : w.cell? a = some v) (hf : w.frozen? a = false) : (store a (.func f x y) m).run P w = .ok () (w.setCell a (.func f x y)) := by
  rw [run_store P w a _ m rfl, hc, hf]; rfl
theorem sizeA (w : World) (o : Obj) : (w.alloc o).heap.size = w.heap.size + 1 := by simp
theorem hp_len {w W : World} {r : List It} {S : List Int} {gm : Nat} (h : Hp [] w (iset intK gm S :: r) W) (hn : S.Nodup) (ty : TypeId) : (Builtin.len_ #[121] ty #[.map (some gm)]).run Tryz.prog W = .ok (.int .i64 (S.length : Int)) W := iset_len intK (h.sep.ok _ (List.mem_cons_self ..)) hn ty
set_option maxRecDepth 20000 in
set_option maxHeartbeats 16000000 in
theorem tree_any (d : Po) (L : Lp) (hB : PBd d) (w : World) (hP : PolM w d L) : Calls Tryz.prog 40 #[polV d L] w fun e w' => e = .returned (.int .i64 (treeP d)) ∧ Below w.heap.size w w' := by
  have hmm := @run_makeMap Tryz.prog
  have hmf : ∀ (fn : Fn) (first cap : Array Value) (w : World), (Instr.makeFunc fn first cap).run Tryz.prog w = .ok (.func fn first cap) w := fun _ _ _ _ => rfl
  have hen := enters_visit
  have HS := Lib.hid (store_func Tryz.prog)
  have hk0 := (((((Hp.start w).new 27 (polcs d L)).setNew intK).new 121 [.map (some (w.heap.size + 1))]).new 123 [.nilFunc])
  simp only [sizeA] at hk0
  have hTV : Hid (treeP d = if (visitP d.nodes 32 d.root true []).1 ≠ 0 then (visitP d.nodes 32 d.root true []).1 else if (visitP d.nodes 32 d.root true []).2.length ≠ d.nodes.length then 3 else 0) := Lib.hid rfl
  go_enter Tryz.func40, Tryz.ntmps40
  go_upto_region 3 with fail
  have hk0 : Hp [] w _ ((((w.alloc (.cells #[.string d.name, .slice L.ua d.uses.length L.uc, .slice L.ra d.reveal.length L.rc, .slice L.na d.nodes.length L.nc, .int .i64 d.root, .string d.scope, .int .i64 d.limit, .string d.escrow] 27)).alloc (.map #[] 0)).alloc (.cells #[.map (some (w.heap.size + 1))] 121)).alloc (.cells #[.nilFunc] 123)) := hk0
  generalize (((w.alloc (.cells #[.string d.name, .slice L.ua d.uses.length L.uc, .slice L.ra d.reveal.length L.rc, .slice L.na d.nodes.length L.nc, .int .i64 d.root, .string d.scope, .int .i64 d.limit, .string d.escrow] 27)).alloc (.map #[] 0)).alloc (.cells #[.map (some (w.heap.size + 1))] 121)).alloc (.cells #[.nilFunc] 123) = W1 at *
  obtain ⟨gp, hgp⟩ : ∃ g, w.heap.size = g := ⟨_, rfl⟩
  obtain ⟨gm, hgm⟩ : ∃ g, gp + 1 = g := ⟨_, rfl⟩
  obtain ⟨gs, hgs⟩ : ∃ g, gm + 1 = g := ⟨_, rfl⟩
  obtain ⟨gv, hgv⟩ : ∃ g, gs + 1 = g := ⟨_, rfl⟩
  rw [hgp, hgm, hgs, hgv] at hk0
  simp only [hgp, hgm, hgs, hgv]
  have hst := fun x y => HS.out W1 ⟨gv, 0, none⟩ .plain (Fn.func 85) x y _ ((hk0.blk 0 rfl).cell 0) ((hk0.blk 0 rfl).frozen 0)
  have hk1 := (hk0.set 0 rfl 0 (visF gp gs gv))
  have hk1 : Hp [] w (vits d L gm gs gp gv []) (W1.setCell ⟨gv, 0, none⟩ (visF gp gs gv)) := hk1.perm (by
    refine (List.perm_append_comm (l₁ := [_, _]) (l₂ := [_, _])).trans ?_
    refine List.Perm.cons _ ?_
    refine (List.perm_append_comm (l₁ := [_, _]) (l₂ := [_])).trans ?_
    exact .refl _)
  go_upto_region 4 with fail
  clear hst hk0
  generalize W1.setCell ⟨gv, 0, none⟩ (visF gp gs gv) = W2 at *
  have p4 : W2.cell? ⟨gp, 4, none⟩ = some (.int .i64 d.root) := (hk1.blk 2 rfl).cell 4
  have v0 : W2.cell? ⟨gv, 0, none⟩ = some (visF gp gs gv) := (hk1.blk 3 rfl).cell 0
  have hM0 : Met d.nodes [] := ⟨List.nodup_nil, fun x hx => absurd hx List.not_mem_nil⟩
  have HC := Lib.hid (visit_any d L hB gm gs gp gv w hP 32 1 (Nat.le_refl _) (by omega) d.root true [] [] W2 hM0 (by rw [List.append_nil]; exact hk1))
  have hT2 := visitP_met d.nodes 32 d.root true [] hM0
  generalize visitP d.nodes 32 d.root true [] = vr at *
  obtain ⟨ve, T⟩ := vr
  simp only at HC hT2 hTV
  clear hM0
  go_wp2_with fail
  refine HC.out.mono ?_
  rintro e w3 ⟨rfl, hk3⟩
  clear HC hk1 p4 v0
  rw [List.append_nil] at hk3
  have s0 : w3.cell? ⟨gs, 0, none⟩ = some (.map (some gm)) := (hk3.blk 1 rfl).cell 0
  have p3 : w3.cell? ⟨gp, 3, none⟩ = some (.slice L.na d.nodes.length L.nc) := (hk3.blk 2 rfl).cell 3
  have hln := hp_len hk3 hT2.nd
  have hTl := hT2.len
  have hnl := hB.nl
  subst hgp
  cases hv : (ve != 0) with
  | true =>
    have HR : Hid (treeP d = ve) := Lib.hid (by rw [hTV.out, if_pos (by simpa using hv)])
    go_wp2_with fail
    go_ret
    rw [HR.out]
    exact ⟨rfl, hk3.below0⟩
  | false =>
    cases hl : ((T.length : Int) != (d.nodes.length : Int)) with
    | true =>
      have HR : Hid (treeP d = 3) := Lib.hid (by rw [hTV.out, if_neg (by simpa using hv), if_pos (by intro h; rw [h] at hl; simp at hl)])
      go_wp2_with fail
      go_ret
      rw [HR.out]
      exact ⟨rfl, hk3.below0⟩
    | false =>
      have HR : Hid (treeP d = 0) := Lib.hid (by rw [hTV.out, if_neg (by simpa using hv), if_neg (by intro h; simp at hl; omega)])
      go_wp2_with fail
      go_ret
      rw [HR.out]
      exact ⟨rfl, hk3.below0⟩
end Go.Proofs.YtminghdnclpocaaGreatDoor
