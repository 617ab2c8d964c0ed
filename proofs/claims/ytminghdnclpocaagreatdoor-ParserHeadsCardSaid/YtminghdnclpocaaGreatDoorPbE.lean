/-
  The parser's reader: list.
-/
import Derived.Test.YtminghdnclpocaaGreatDoorPbD
namespace Go.Proofs.YtminghdnclpocaaGreatDoor
open Go.RowKit Go.Shelf
set_option linter.unusedVariables false

theorem Hp.newrow {o : List Nat} {w W : World} {it : List It} (h : Hp o w it W) (e : TypeId) (xs : List Value) (hm : xs.length ≤ maxLen) : Hp o w (irow e 1 (.slice (some ⟨W.heap.size, 0, none⟩) xs.length xs.length) xs.length xs :: it) (W.alloc (.cells xs.toArray e)) := by
  have hB : Blk (W.alloc (.cells xs.toArray e)) W.heap.size e xs := Blk.new _ _ _
  have h1 : Hp (ow []) W [irow e 1 (.slice (some ⟨W.heap.size, 0, none⟩) xs.length xs.length) xs.length xs] (W.alloc (.cells xs.toArray e)) := by
    refine ⟨⟨fun x hx => ?_, by simp [irow, Value.ownBlock]⟩, ⟨(Below.refl _ _).alloc (Nat.zero_le _) _, fun k hk _ => Below.heap_alloc _ _ _ hk, fun b hb => .inr ?_⟩⟩
    · rw [List.mem_singleton.1 hx]
      exact ⟨by rw [Nat.mul_one], .inr ⟨W.heap.size, xs.length, xs.toArray, rfl, Nat.zero_le _, hB, Nat.le_refl _, hm, by simp, by simp⟩⟩
    · simp [irow, Value.ownBlock] at hb; omega
  exact Hp.call (a := []) h h1
theorem new1p (w : World) (t : TypeId) (a : Value) : ∀ (j : Nat) u, [a][j]? = some u → (w.alloc (.cells #[a] t)).cell? ((⟨w.heap.size, 0, none⟩ : Addr).add j) = some u := by
  intro j u hu
  have e : (⟨w.heap.size, 0, none⟩ : Addr).add j = ⟨w.heap.size, j, none⟩ := by unfold Addr.add; split <;> simp_all
  rw [e, (show Blk (w.alloc (.cells #[a] t)) w.heap.size t [a] from Blk.new w t [a]).cell j]
  exact hu
theorem ptr_info : (Tryz.prog.info? 96).map (fun i => (i.zero, i.size, i.bytes)) = some (some (.pointer none), 1, 8) := by kernel_rfl
/-- how reading a list of trees ends -/
def LOut (R : PR) (W : World) (r : Pa.Rd (List Pa.F)) (e : Ending) (w' : World) : Prop :=
  match r.1 with
  | none => e = panP (Pa.atT r.2) ∧ Hp [R.gp, R.gt] W [ipr R r.2] w'
  | some l => ∃ x A c, LF.out x = Pa.F.cat l ∧ x.roots ≠ [] ∧ x.roots.length ≤ 100000 ∧ e = .returned (.slice A x.roots.length c) ∧ Hp [R.gp, R.gt] W (ipr R r.2 :: iptrs (.slice A x.roots.length c) x.roots :: x.its) w'
theorem LOut.bad {R : PR} {W : World} {r : Pa.Rd (List Pa.F)} {q : List Lx.Tok} {w' : World} (h : r = (none, q)) (hH : Hp [R.gp, R.gt] W [ipr R q] w') : LOut R W r (panP (Pa.atT q)) w' := by subst h; exact ⟨rfl, hH⟩
/-- a function value that reads a tree where the reader stands -/
structure Reads (R : PR) (f : FuncId) (rd : List Lx.Tok → Pa.Rd Pa.F) (m : Nat) : Prop where
  enters : ∀ args w, (callFunc f args).run Tryz.prog w = .ok (.enter f args) w
  keeps : Pa.Keeps rd
  calls : ∀ ts W, ts.length ≤ m → PRok R ts W → Shorts ts → Calls Tryz.prog f #[ptr R.gp] W (TOut R W (rd ts))
/-- what the loop still does -/
def contL (rd : List Lx.Tok → Pa.Rd Pa.F) (acc : List Pa.F) (k : Nat) (q : List Lx.Tok) : Pa.Rd (List Pa.F) :=
  if Pa.isT Pa.sComma q then (Pa.listR rd k q.tail).then fun l q => (some (acc ++ l), q) else (some acc, q)
theorem listR_cont (rd : List Lx.Tok → Pa.Rd Pa.F) (k : Nat) (ts : List Lx.Tok) {a : Pa.F} {q : List Lx.Tok} (h : rd ts = (some a, q)) : Pa.listR rd (k + 1) ts = contL rd [a] k q := by
  rw [Pa.listR, h, Pa.then_some]; rfl
theorem contL_step (rd : List Lx.Tok → Pa.Rd Pa.F) (acc : List Pa.F) (k : Nat) (q : List Lx.Tok) (hc : Pa.isT Pa.sComma q = true) {a : Pa.F} {q' : List Lx.Tok} (h : rd q.tail = (some a, q')) : contL rd acc (k + 1) q = contL rd (acc ++ [a]) k q' := by
  rw [contL, if_pos hc, listR_cont rd k q.tail h, contL, contL]
  split
  · generalize Pa.listR rd k q'.tail = x
    obtain ⟨o, r⟩ := x
    cases o with
    | none => rfl
    | some l => simp
  · rfl
theorem contL_bad (rd : List Lx.Tok → Pa.Rd Pa.F) (acc : List Pa.F) (k : Nat) (q : List Lx.Tok) (hc : Pa.isT Pa.sComma q = true) {q' : List Lx.Tok} (h : rd q.tail = (none, q')) : contL rd acc (k + 1) q = (none, q') := by
  rw [contL, if_pos hc, Pa.listR, h]; rfl
theorem Shorts.suf {q ts : List Lx.Tok} (h : Shorts ts) (hq : q <:+ ts) : Shorts q := fun t ht => h t (hq.subset ht)
set_option maxRecDepth 20000 in
set_option maxHeartbeats 8000000 in
theorem list_any (R : PR) (f : FuncId) (rd : List Lx.Tok → Pa.Rd Pa.F) (ts : List Lx.Tok) (hf : Reads R f rd ts.length) (W : World) (h : PRok R ts W) (hsh : Shorts ts) :
    Calls Tryz.prog 91 #[ptr R.gp, .func (.func f) #[ptr R.gp] #[]] W (LOut R W (Pa.listR rd ts.length ts)) := by
  have hen := hf.enters
  have HF := Lib.hid hf
  have hS := h.self
  have hg := h.good
  have hlen := h.len
  have hsl := h.suf.length_le
  obtain ⟨i0, hi0, hz0, hz1, hz2⟩ := info_parts ptr_info
  obtain ⟨m, hm⟩ : ∃ m, ts.length = m + 1 := by
    obtain ⟨t, q, rfl⟩ := h.cons
    exact ⟨q.length, rfl⟩
  have HM := Lib.hid hm
  have HC := Lib.hid (hf.calls ts W (Nat.le_refl _) h hsh)
  clear h
  have hkp := hf.keeps ts hg
  clear hf hm
  generalize hx1 : rd ts = x1 at *
  obtain ⟨o1, q1⟩ := x1
  simp only at hkp
  cases o1 with
  | none =>
    have HV : Hid (Pa.listR rd ts.length ts = (none, q1)) := Lib.hid (by rw [HM.out, Pa.listR, hx1]; rfl)
    go_enter Tryz.func91, Tryz.ntmps91
    go_wp2_with fail
    refine HC.out.mono ?_
    rintro e w1 ⟨rfl, hH⟩
    unfold panP
    go_wp2_with fail
    exact ⟨rfl, LOut.bad HV.out hH⟩
  | some f1 =>
    have HV : Hid (Pa.listR rd ts.length ts = contL rd [f1] m q1) := Lib.hid (by rw [HM.out]; exact listR_cont rd m ts hx1)
    clear hx1
    go_enter Tryz.func91, Tryz.ntmps91
    go_wp2_with fail
    refine HC.out.mono ?_
    rintro e w1 ⟨x, g, hxo, hxr, rfl, hH⟩
    have hm2 : q1.length ≤ m + 1 := by have := hkp.1.length_le; have := HM.out; omega
    have hm3 : m < 65537 := by have := HM.out; omega
    have hk0 : Hp [R.gp, R.gt] W (ipr R q1 :: iptrs (.slice (some ⟨w1.heap.size, 0, none⟩) 1 1) x.roots :: x.its) (w1.alloc (.cells #[ptr g] 96)) := by
      have h1 := hH.newrow 96 [ptr g] (by unfold maxLen; simp)
      rw [hxr]
      exact h1.perm (List.Perm.swap _ _ _)
    clear hH hS HC
    go_upto_region 2 with fail
    generalize w1.alloc (.cells #[ptr g] 96) = w2 at *
    generalize (some ⟨w1.heap.size, 0, none⟩ : Option Addr) = A0 at *
    go_loopg [5] (q1.length + 1) (fun n s5 wx => ∃ (k : Nat) (q : List Lx.Tok) (x : LF) (acc : List Pa.F) (A : Option Addr) (c : Nat), n = q.length + 1 ∧ s5 = .slice A x.roots.length c ∧ Hp [R.gp, R.gt] W (ipr R q :: iptrs (.slice A x.roots.length c) x.roots :: x.its) wx ∧ q.length ≤ k + 1 ∧ x.roots.length + q.length ≤ m + 2 ∧ Hid (q <:+ ts ∧ Pa.Good q ∧ x.roots ≠ [] ∧ LF.out x = Pa.F.cat acc ∧ Pa.listR rd ts.length ts = contL rd acc k q))
    case atStart =>
      refine ⟨m, q1, x, [f1], A0, 1, rfl, by rw [hxr]; rfl, ?_, hm2, by rw [hxr]; simp; omega, Lib.hid ⟨hkp.1, hkp.2, by rw [hxr]; simp, by rw [hxo]; exact (Pa.F.app_nil _).symm, HV.out⟩⟩
      have e9 : x.roots.length = 1 := by rw [hxr]; rfl
      rw [e9]
      exact hk0
    case round =>
      obtain ⟨k, q, y, acc, A, c, rfl, rfl, hM, hqk, hrl, HE⟩ := hrel
      clear hk0 HV hkp hxo hxr
      go_wp2_with fail
      refine (take_any Pa.sComma R q wr hM.pr).mono ?_
      rintro e w3 ⟨rfl, hH⟩
      have hM1 := hM.rd1 hH
      clear hM hH
      cases hq : Pa.isT Pa.sComma q with
      | false =>
        have HR : Hid (Pa.listR rd ts.length ts = (some acc, q) ∧ y.roots ≠ [] ∧ LF.out y = Pa.F.cat acc) := Lib.hid ⟨by rw [HE.out.2.2.2.2, contL, if_neg (by rw [hq]; simp)], HE.out.2.2.1, HE.out.2.2.2.1⟩
        rw [takeT, if_neg (by rw [hq]; simp)] at hM1
        clear HE hq
        go_wp2_with fail
        go_ret
        unfold LOut
        rw [HR.out.1]
        exact ⟨y, A, c, HR.out.2.2, HR.out.2.1, by omega, rfl, hM1⟩
      | true =>
        rw [takeT, if_pos hq] at hM1
        have hgq := HE.out.2.1
        have hsq := HE.out.1
        have ht1 := Pa.tail_lt hgq
        have hgt := hgq.isT hq
        have hst := (List.tail_suffix q).trans hsq
        have hstl := hst.length_le
        have HC := Lib.hid (HF.out.calls q.tail w3 hstl hM1.pr (hsh.suf hst))
        have hkp := HF.out.keeps q.tail hgt
        obtain ⟨k, rfl⟩ : ∃ j, k = j + 1 := ⟨k - 1, by
          have h9 : 0 < q.tail.length := List.length_pos_iff.2 hgt.ne
          omega⟩
        generalize hx1 : rd q.tail = x1 at *
        obtain ⟨o1, q2⟩ := x1
        simp only at hkp
        cases o1 with
        | none =>
          have HR : Hid (Pa.listR rd ts.length ts = (none, q2)) := Lib.hid (by rw [HE.out.2.2.2.2]; exact contL_bad rd acc k q hq hx1)
          clear HE hq hx1 hgq hsq hgt hst hstl ht1
          go_wp2_with fail
          refine HC.out.mono ?_
          rintro e w4 ⟨rfl, hH⟩
          unfold panP
          go_wp2_with fail
          exact ⟨rfl, LOut.bad HR.out ((hM1.rd1 hH).sub (r := _ :: _))⟩
        | some f2 =>
          have HR : Hid (Pa.listR rd ts.length ts = contL rd (acc ++ [f2]) k q2 ∧ y.roots ≠ [] ∧ LF.out y = Pa.F.cat acc) := Lib.hid ⟨by rw [HE.out.2.2.2.2]; exact contL_step rd acc k q hq hx1, HE.out.2.2.1, HE.out.2.2.2.1⟩
          have hs2 := hkp.1.trans hst
          have hl2 := hkp.1.length_le
          clear HE hq hx1 hgq hsq hgt hst hstl
          go_wp2_with fail
          refine HC.out.mono ?_
          rintro e w4 ⟨z, gz, hzo, hzr, rfl, hH⟩
          have hM2 : Hp [R.gp, R.gt] W (ipr R q2 :: iptrs (.slice A y.roots.length c) y.roots :: (y.app z).its) w4 := by
            rw [LF.its_app]
            refine (hM1.rd hH).perm (List.Perm.cons _ ?_)
            refine (List.perm_append_comm (l₁ := z.its)).trans ?_
            exact .refl _
          have hsz := hM2.size
          clear hM1 hH HC
          go_wp2_with (at_builtin; refine wpList_append_own2 rfl _ _ 98 rfl 0 96 i0 _ 1 8 Tryz.underlying98 hi0 hz0 hz1 hz2 rfl (by decide) _ y.roots.length (ptrs y.roots) rfl ((hM2.alloc _).row 1 rfl) ⟨w4.heap.size, 0, none⟩ 1 1 [ptr gz] rfl rfl (new1p _ _ _) (by intro u hu; simp at hu; rw [hu]; rfl) (by decide) (by unfold maxLen; omega) (by omega) (Nat.zero_le _) ?_; intro v' w5 hown hgrow hat)
          obtain ⟨A2, c2, rfl⟩ := row_forms hown
          have hM3 := (hM2.alloc (.cells #[ptr gz] 96)).grown 1 rfl hown hgrow hat
          have hr2 : (y.app z).roots = y.roots ++ [gz] := by rw [LF.roots_app, hzr]
          have hM4 : Hp [R.gp, R.gt] W (ipr R q2 :: iptrs (.slice A2 (y.app z).roots.length c2) (y.app z).roots :: (y.app z).its) w5 := by
            rw [hr2]
            have e1 : ptrs y.roots ++ [ptr gz] = ptrs (y.roots ++ [gz]) := by simp [ptrs]
            have e2 : (y.roots ++ [gz]).length = y.roots.length + 1 := by simp
            unfold iptrs
            rw [e2, ← e1]
            exact hM3
          have e2 : (y.app z).roots.length = y.roots.length + 1 := by rw [hr2]; simp
          clear hM2 hM3 hown hgrow hat
          rw [← e2]
          go_wp2_with fail
          go_roundg (q2.length + 1)
          case measure => omega
          case rel => exact ⟨k, q2, y.app z, acc ++ [f2], A2, c2, rfl, rfl, hM4, by omega, by omega, Lib.hid ⟨hs2, hkp.2, by rw [hr2]; simp, by rw [LF.out_app, HR.out.2.2, hzo, Pa.F.cat_snoc], HR.out.1⟩⟩
end Go.Proofs.YtminghdnclpocaaGreatDoor
