/-
  The parser's reader: ref.
-/
import Derived.Test.YtminghdnclpocaaGreatDoorPbB
import Derived.Test.YtminghdnclpocaaGreatDoorHpR
namespace Go.Proofs.YtminghdnclpocaaGreatDoor
open Go.RowKit Go.Shelf
set_option linter.unusedVariables false
attribute [local go_sem] tf0 tf1 tf2

theorem outN_none {α : Type} (q : List Lx.Tok) (v : α → Value) : outN ((none, q) : Pa.Rd α) v = panP (Pa.atT q) := rfl
theorem outN_some {α : Type} (a : α) (q : List Lx.Tok) (v : α → Value) : outN ((some a, q) : Pa.Rd α) v = .returned (v a) := rfl
set_option maxRecDepth 20000 in
set_option maxHeartbeats 4000000 in
theorem ref_any (R : PR) (ts : List Lx.Tok) (W : World) (h : PRok R ts W) : Calls Tryz.prog 48 #[ptr R.gp] W fun e w' => e = outN (Pa.refR ts) (fun x => .agg #[Sv x.1, Sv x.2]) ∧ Hp [R.gp, R.gt] W [ipr R (Pa.refR ts).2] w' := by
  have hk0 := (h.self.new 52 [.string ⟨#[]⟩, .string ⟨#[]⟩]).perm (List.Perm.swap _ _ _)
  have HV : Hid (Pa.refR ts = (Pa.nameR ts).then fun a q => (Pa.needR Pa.sDot q).then fun _ q => (Pa.nameR q).then fun b q => (some (a, b), q)) := Lib.hid rfl
  have HN := Lib.hid (name_any R ts _ hk0.pr)
  clear h
  generalize hg : W.heap.size = g at *
  generalize Pa.nameR ts = x1 at *
  obtain ⟨o1, q1⟩ := x1
  cases o1 with
  | none =>
    rw [outN_none] at HN
    rw [Pa.then_none] at HV
    go_enter Tryz.func48, Tryz.ntmps48
    go_wp2_with fail
    refine HN.out.mono ?_
    rintro e w1 ⟨rfl, hH⟩
    unfold panP
    go_wp2_with fail
    refine ⟨rfl, ?_⟩
    rw [HV.out]
    exact ⟨rfl, (hk0.rd1 hH).sub (r := [_])⟩
  | some a =>
    rw [outN_some] at HN
    rw [Pa.then_some] at HV
    go_enter Tryz.func48, Tryz.ntmps48
    go_wp2_with fail
    refine HN.out.mono ?_
    rintro e w1 ⟨rfl, hH⟩
    have hk1 := hk0.rd1 hH
    clear hH hk0 HN
    have HN := Lib.hid (need_any Pa.sDot R q1 _ hk1.pr)
    generalize Pa.needR Pa.sDot q1 = x2 at *
    obtain ⟨o2, q2⟩ := x2
    cases o2 with
    | none =>
      rw [outN_none] at HN
      rw [Pa.then_none] at HV
      go_wp2_with fail
      refine HN.out.mono ?_
      rintro e w2 ⟨rfl, hH⟩
      unfold panP
      go_wp2_with fail
      refine ⟨rfl, ?_⟩
      rw [HV.out]
      exact ⟨rfl, (hk1.rd1 hH).sub (r := [_])⟩
    | some u =>
      rw [outN_some] at HN
      rw [Pa.then_some] at HV
      go_wp2_with fail
      refine HN.out.mono ?_
      rintro e w2 ⟨rfl, hH⟩
      have hk2 := hk1.rd1 hH
      clear hH hk1 HN
      have HN := Lib.hid (name_any R q2 _ hk2.pr)
      generalize Pa.nameR q2 = x3 at *
      obtain ⟨o3, q3⟩ := x3
      cases o3 with
      | none =>
        rw [outN_none] at HN
        rw [Pa.then_none] at HV
        go_wp2_with fail
        refine HN.out.mono ?_
        rintro e w3 ⟨rfl, hH⟩
        unfold panP
        go_wp2_with fail
        refine ⟨rfl, ?_⟩
        rw [HV.out]
        exact ⟨rfl, (hk2.rd1 hH).sub (r := [_])⟩
      | some b =>
        rw [outN_some] at HN
        rw [Pa.then_some] at HV
        go_wp2_with fail
        refine HN.out.mono ?_
        rintro e w3 ⟨rfl, hH⟩
        have hk3 := hk2.rd1 hH
        clear hH hk2 HN
        go_wp2_with (refine wpList_store_row rfl 52 (.tmp 2) (.tmp 11) rfl g ([Sv a, Sv b] : List Value).toArray rfl rfl 52 ([.string ⟨#[]⟩, .string ⟨#[]⟩] : List Value).toArray (hk3.blk 1 rfl) (by kernel_rfl) (by kernel_rfl) (by kernel_rfl) ?_)
        have hk4 := hk3.rowAt 1 rfl [Sv a, Sv b]
        obtain ⟨e0, e1⟩ := (hk4.blk 1 rfl).get2
        refine bodyPost_ret (v := .agg #[Sv a, Sv b]) (by simp [results, Tryz.results48, go_sem, e0, e1]) rfl ?_
        rw [HV.out]
        exact ⟨rfl, hk4.sub (r := [_])⟩
end Go.Proofs.YtminghdnclpocaaGreatDoor
