/-
  The reader of schema: more, run, is.
-/
import Derived.Test.YtmdjhakamapngaaDoorScQ
import Derived.Test.YtmdjhakamapngaaDoorScG
import Derived.Deep.DeepCutAuto
import Derived.Deep.CutBlock
import Derived.Defers
import Derived.Recover
import Derived.Laws.Pointers
namespace Go.Proofs.YtmdjhakamapngaaDoor
open Go.RowKit Go.Shelf
set_option linter.unusedVariables false

abbrev ptr (g : Nat) : Value := .pointer (some ⟨g, 0, none⟩)
/-- the reader: what is left to read is l -/
abbrev irdS (g : Nat) (s : ByteArray) (l : List UInt8) : It := iblk g 89 [.string s, .int .i64 ((s.size - l.length : Nat) : Int)]
theorem suf_cons {s : ByteArray} {c : UInt8} {r : List UInt8} (h : c :: r <:+ tl s) : ∃ (k : Nat) (hk : k < s.size), s.size - (c :: r).length = k ∧ s[k] = c ∧ s.size - r.length = k + 1 ∧ r <:+ tl s := by
  obtain ⟨t, ht⟩ := h
  have hl := congrArg List.length ht
  rw [List.length_append, length_tl, List.length_cons] at hl
  refine ⟨t.length, by omega, by rw [List.length_cons]; omega, ?_, by omega, ⟨t ++ [c], by rw [← ht]; simp⟩⟩
  rw [← tl_getElem s t.length (by omega)]
  simp only [← ht]
  rw [List.getElem_append_right (Nat.le_refl _)]
  simp
theorem suf_len {s : ByteArray} {l : List UInt8} (h : l <:+ tl s) : l.length ≤ s.size := by
  have := h.length_le
  rwa [length_tl] at this
theorem runD_suf (p : Nat → Bool) (l : List UInt8) : runD p l <:+ l := List.dropWhile_suffix _
theorem skS_suf (l : List UInt8) : skS l <:+ l := runD_suf _ _
theorem tail_suf (l : List UInt8) : l.tail <:+ l := List.tail_suffix _
/-- a function value that decides a class of bytes, as long as x lies there -/
structure DecF (x : It) (f : FuncId) (caps : Array Value) (p : Nat → Bool) : Prop where
  enters : ∀ args w, (callFunc f args).run Tryd.prog w = .ok (.enter f args) w
  dec : ∀ (n : Nat) (w : World), x.P w → Calls Tryd.prog f (#[.int .u8 (n : Int)] ++ caps) w fun e w' => e = .returned (.bool (p n)) ∧ w' = w
theorem rd_next {o : List Nat} {w W : World} {g : Nat} {s : ByteArray} {l l' : List UInt8} {r : List It} {n : Int} (h : Hp o w (irdS g s l :: r) W) (hn : n = ((s.size - l'.length : Nat) : Int)) : Hp o w (irdS g s l' :: r) (W.setCell ⟨g, 1, none⟩ (.int .i64 n)) := by
  subst hn; exact h.set 0 rfl 1 _
set_option maxRecDepth 20000 in
set_option maxHeartbeats 4000000 in
theorem more_any (x : It) (f : FuncId) (caps : Array Value) (p : Nat → Bool) (hf : DecF x f caps p) (g : Nat) (s : ByteArray) (hs : s.size ≤ 1000000) (l : List UInt8) (hl : l <:+ tl s) (W : World) (hS : Sep W [irdS g s l, x]) :
    Calls Tryd.prog 72 #[ptr g, .func (.func f) #[] caps] W fun e w' => e = .returned (.bool (hd p (skS l))) ∧ Hp (ow [irdS g s l, x]) W [irdS g s (skS l), x] w' := by
  have hen := hf.enters
  have hS0 := Hp.self hS
  generalize ho : ow [irdS g s l, x] = o at *
  clear hS ho
  go_enter Tryd.func72, Tryd.ntmps72
  go_upto_block 0 with fail
  go_cut [] (fun wx => Hp o W [irdS g s (skS l), x] wx)
  case first =>
    go_wp2_with fail
    go_loopg [] l.length (fun m wx => ∃ l' : List UInt8, m = l'.length ∧ Hp o W [irdS g s l', x] wx ∧ Hid (l' <:+ tl s ∧ skS l = skS l'))
    case atStart => exact ⟨l, rfl, hS0, Lib.hid ⟨hl, rfl⟩⟩
    case round =>
      obtain ⟨l', rfl, hM, HE⟩ := hrel
      clear hS0 hl
      have c0 := (hM.blk 0 rfl).cell 0
      have c1 := (hM.blk 0 rfl).cell 1
      simp only [List.getElem?_cons_zero, List.getElem?_cons_succ] at c0 c1
      cases l' with
      | nil =>
        simp only [List.length_nil, Nat.sub_zero] at c1
        have hd1 : decide ((s.size : Int) < (s.size : Int)) = false := by simp
        have HE2 : Hid (skS l = []) := Lib.hid (by rw [HE.out.2]; rfl)
        go_wp2_with fail
        go_quiet (fail)
        go_wp2_with fail
        go_meet
        rw [HE2.out]
        exact hM.drewN _
      | cons c r =>
        obtain ⟨k, hk, hk1, hk2, hk3, hk4⟩ := suf_cons HE.out.1
        rw [hk1] at c1
        have hki : (k : Int) < (s.size : Int) := by omega
        have hk0 : (0 : Int) ≤ (k : Int) := by omega
        have hd1 : decide ((k : Int) < (s.size : Int)) = true := by rw [decide_eq_true_iff]; omega
        by_cases hc : c.toNat = 32
        · have hce : ((s[k].toNat : Int) == 32) = true := by rw [hk2, beq_iff_eq]; omega
          have HE2 : Hid (r <:+ tl s ∧ skS l = skS r) := Lib.hid ⟨hk4, by rw [HE.out.2]; simp [skS, runD, eqN, hc]⟩
          have HK3 : Hid (((k : Nat) : Int) + 1 = ((s.size - r.length : Nat) : Int)) := Lib.hid (by omega)
          clear hk1 hk2 hk3 hk4 hc HE
          go_wp2_with fail
          go_quiet (fail)
          have hM2 := hM.drewN nq
          clear c0 c1 hM
          generalize wr.drewN nq = w2 at *
          have c0 := (hM2.blk 0 rfl).cell 0
          have f1 := (hM2.blk 0 rfl).frozen 1
          have c1 : w2.cell? ⟨g, 1, none⟩ = some (.int .i64 (k : Int)) := by
            have := (hM2.blk 0 rfl).cell 1
            simp only [List.getElem?_cons_zero, List.getElem?_cons_succ] at this
            rw [this]
            have := HK3.out
            congr 2
            rw [List.length_cons]
            omega
          simp only [List.getElem?_cons_zero] at c0
          go_upto_region 2 with fail
          go_wp2_with fail
          have hM3 := rd_next (l' := r) hM2 HK3.out
          go_roundg r.length
          case measure => simp
          case rel => exact ⟨r, rfl, hM3, HE2⟩
        · have hce : ((s[k].toNat : Int) == 32) = false := by rw [hk2, beq_eq_false_iff_ne]; omega
          have HE2 : Hid (skS l = c :: r) := Lib.hid (by rw [HE.out.2]; simp [skS, runD, eqN, hc])
          clear hk2 hk3 hk4 hc HE
          go_wp2_with fail
          go_quiet (fail)
          go_wp2_with fail
          go_meet
          rw [HE2.out]
          exact hM.drewN _
  case rest =>
    have hM := hcut
    clear hS0 hcut
    have hsuf := (skS_suf l).trans hl
    have HX := Lib.hid (fun n W' (hx : x.P W') => hf.dec n W' hx)
    have hxp : ∀ W' : World, Hp o W [irdS g s (skS l), x] W' → x.P W' := fun W' h => h.sep.ok x (by simp)
    obtain ⟨l', hl'⟩ : ∃ l', skS l = l' := ⟨_, rfl⟩
    have HL := Lib.hid hl'
    rw [hl'] at hM hsuf hxp
    clear hl'
    have c0 := (hM.blk 0 rfl).cell 0
    have c1 := (hM.blk 0 rfl).cell 1
    simp only [List.getElem?_cons_zero, List.getElem?_cons_succ] at c0 c1
    cases l' with
    | nil =>
      simp only [List.length_nil, Nat.sub_zero] at c1
      have hd1 : decide ((s.size : Int) < (s.size : Int)) = false := by simp
      go_wp2_with fail
      go_quiet (fail)
      go_wp2_with fail
      go_ret
      rw [HL.out]
      exact ⟨rfl, hM.drewN _⟩
    | cons c r =>
      obtain ⟨k, hk, hk1, hk2, hk3, hk4⟩ := suf_cons hsuf
      rw [hk1] at c1
      have hki : (k : Int) < (s.size : Int) := by omega
      have hk0 : (0 : Int) ≤ (k : Int) := by omega
      have hd1 : decide ((k : Int) < (s.size : Int)) = true := by rw [decide_eq_true_iff]; omega
      have HM := Lib.hid (fun n => hxp _ (hM.drewN n))
      have HR : Hid (p s[k].toNat = hd p (c :: r)) := Lib.hid (by rw [hk2]; rfl)
      clear hk1 hk2 hk3 hk4 hxp
      go_wp2_with fail
      go_quiet ((exact Calls.quiet_of_same (HX.out _ _ (HM.out _))))
      go_wp2_with fail
      go_ret
      rw [HR.out, HL.out]
      exact ⟨rfl, hM.drewN _⟩
set_option maxRecDepth 20000 in
set_option maxHeartbeats 4000000 in
theorem run_any (f : FuncId) (p : Nat → Bool) (hf : Decides f p) (g : Nat) (s : ByteArray) (v : Value) (hs : s.size ≤ 1000000) (l : List UInt8) (hl : l <:+ tl s) (W : World) (hB : Blk W g 89 [.string s, v]) :
    Calls Tryd.prog 84 #[ptr g, .int .i64 ((s.size - l.length : Nat) : Int), .func (.func f) #[] #[]] W fun e w' => e = .returned (.int .i64 ((s.size - (runD p l).length : Nat) : Int)) ∧ Below W.heap.size W w' := by
  have hen := hf.enters
  have HX := Lib.hid hf.dec
  go_enter Tryd.func84, Tryd.ntmps84
  go_upto_region 1 with fail
  go_loopg [1] l.length (fun m s1 wx => ∃ l' : List UInt8, m = l'.length ∧ s1 = .int .i64 ((s.size - l'.length : Nat) : Int) ∧ Below W.heap.size W wx ∧ Hid (l' <:+ tl s ∧ runD p l = runD p l'))
  case atStart => exact ⟨l, rfl, rfl, Below.refl _ _, Lib.hid ⟨hl, rfl⟩⟩
  case round =>
    obtain ⟨l', rfl, rfl, hb, HE⟩ := hrel
    have c0 := (hB.below hb hB.lt).cell 0
    simp only [List.getElem?_cons_zero] at c0
    cases l' with
    | nil =>
      simp only [List.length_nil, Nat.sub_zero]
      have hd1 : decide ((s.size : Int) < (s.size : Int)) = false := by simp
      have HE2 : Hid (runD p l = []) := Lib.hid (by rw [HE.out.2]; rfl)
      go_wp2_with fail
      go_ret
      rw [HE2.out]
      exact ⟨by simp, hb⟩
    | cons c r =>
      obtain ⟨k, hk, hk1, hk2, hk3, hk4⟩ := suf_cons HE.out.1
      rw [hk1]
      have hki : (k : Int) < (s.size : Int) := by omega
      have hk0 : (0 : Int) ≤ (k : Int) := by omega
      have hd1 : decide ((k : Int) < (s.size : Int)) = true := by rw [decide_eq_true_iff]; omega
      have HM := Lib.hid (HX.out s[k].toNat)
      cases hp : p c.toNat with
      | true =>
        have HE2 : Hid (r <:+ tl s ∧ runD p l = runD p r) := Lib.hid ⟨hk4, by rw [HE.out.2]; simp [runD, hp]⟩
        rw [hk2, hp, ← hk2] at HM
        have HK3 : Hid (((k : Nat) : Int) + 1 = ((s.size - r.length : Nat) : Int)) := Lib.hid (by omega)
        clear hk1 hk2 hk3 hk4 hp HE
        go_wp2_with fail
        refine (HM.out _).mono ?_
        rintro e w1 ⟨rfl, hw⟩
        subst hw
        go_wp2_with fail
        go_roundg r.length
        case measure => simp
        case rel => exact ⟨r, rfl, by rw [← HK3.out], hb, HE2⟩
      | false =>
        have HE2 : Hid (runD p l = c :: r) := Lib.hid (by rw [HE.out.2]; simp [runD, hp])
        rw [hk2, hp, ← hk2] at HM
        have HK : Hid (k = s.size - (c :: r).length) := Lib.hid hk1.symm
        clear hk1 hk2 hk3 hk4 hp HE
        go_wp2_with fail
        refine (HM.out _).mono ?_
        rintro e w1 ⟨rfl, hw⟩
        subst hw
        go_wp2_with fail
        go_ret
        rw [HE2.out, ← HK.out]
        exact ⟨rfl, hb⟩
set_option maxHeartbeats 2000000 in
theorem is1_any (c g n : Nat) (w : World) (h : Blk w g 5 [.int .u8 (c : Int)]) : Calls Tryd.prog 87 #[.int .u8 (n : Int), ptr g] w fun e w' => e = .returned (.bool (eqN c n)) ∧ w' = w := by
  have c0 := h.cell 0
  simp only [List.getElem?_cons_zero] at c0
  have HE : Hid (eqN c n = ((n : Int) == (c : Int))) := Lib.hid (by rw [Bool.eq_iff_iff]; simp [eqN]; omega)
  go_enter Tryd.func87, Tryd.ntmps87
  go_wp2_with fail
  go_ret
  rw [HE.out]
  exact ⟨rfl, rfl⟩
theorem decIs (c g : Nat) : DecF (iblk g 5 [.int .u8 (c : Int)]) 87 #[ptr g] (eqN c) := ⟨enters_of Tryd.func87 (by kernel_rfl) rfl, fun n w h => is1_any c g n w h⟩
/-- a piece that is nothing -/
def inone : It := ⟨[], fun _ => True, fun _ _ _ _ => trivial, fun _ _ _ hb => (List.not_mem_nil hb).elim⟩
theorem decNone {f : FuncId} {p : Nat → Bool} (h : Decides f p) : DecF inone f #[] p := ⟨h.enters, fun n w _ => h.dec n w⟩
theorem Hp.none {o : List Nat} {w W : World} {it : List It} (h : Hp o w it W) : Hp o w (inone :: it) W := by
  have h1 : Hp (ow []) W [inone] W := ⟨⟨fun x hx => by rw [List.mem_singleton.1 hx]; exact trivial, by simp [inone]⟩, Below.refl _ _, fun _ _ _ => rfl, fun b hb => by simp [inone] at hb⟩
  exact Hp.call (a := []) h h1
theorem Hp.unnone {o : List Nat} {w W : World} {x : It} (h : Hp o w [x, inone] W) : Hp o w [x] W := Hp.sub (r := [inone]) h
theorem moreN {f : FuncId} {p : Nat → Bool} (hf : Decides f p) (g : Nat) (s : ByteArray) (hs : s.size ≤ 1000000) (l : List UInt8) (hl : l <:+ tl s) (W : World) (hB : Blk W g 89 [.string s, .int .i64 ((s.size - l.length : Nat) : Int)]) :
    Calls Tryd.prog 72 #[ptr g, .func (.func f) #[] #[]] W fun e w' => e = .returned (.bool (hd p (skS l))) ∧ Hp [g] W [irdS g s (skS l)] w' := by
  have hS : Sep W [irdS g s l, inone] := ⟨fun x hx => by
    rcases List.mem_cons.1 hx with rfl | hx
    · exact hB
    · rw [List.mem_singleton.1 hx]; exact trivial, by simp [iblk, inone]⟩
  refine (more_any inone f #[] p (decNone hf) g s hs l hl W hS).mono ?_
  rintro e w' ⟨h1, h2⟩
  refine ⟨h1, ?_⟩
  have h3 := h2.unnone
  have e9 : ow [irdS g s l, inone] = [g] := by simp [iblk, inone]
  rwa [e9] at h3
set_option maxRecDepth 20000 in
set_option maxHeartbeats 4000000 in
theorem is_any (c : Nat) (g : Nat) (s : ByteArray) (hs : s.size ≤ 1000000) (l : List UInt8) (hl : l <:+ tl s) (W : World) (hB : Blk W g 89 [.string s, .int .i64 ((s.size - l.length : Nat) : Int)]) :
    Calls Tryd.prog 71 #[ptr g, .int .u8 (c : Int)] W fun e w' => e = .returned (.bool (isR c l)) ∧ Hp [g] W [irdS g s (skS l)] w' := by
  have hmf : ∀ (fn : Fn) (first cap : Array Value) (w : World), (Instr.makeFunc fn first cap).run Tryd.prog w = .ok (.func fn first cap) w := fun _ _ _ _ => rfl
  have hk0 : Hp [g] W [irdS g s l] W := Hp.self (it := [irdS g s l]) ⟨fun x hx => by rw [List.mem_singleton.1 hx]; exact hB, by simp [iblk]⟩
  have hk := (hk0.new 5 [.int .u8 (c : Int)]).perm (List.Perm.swap _ _ _)
  have HC := Lib.hid (more_any _ _ _ _ (decIs c W.heap.size) g s hs l hl _ hk.sep)
  go_enter Tryd.func71, Tryd.ntmps71
  go_wp2_with fail
  refine HC.out.mono ?_
  rintro e w1 ⟨rfl, hH⟩
  go_wp2_with fail
  go_ret
  exact ⟨rfl, (Hp.call (r := []) hk hH).sub (r := [_])⟩
end Go.Proofs.YtmdjhakamapngaaDoor
