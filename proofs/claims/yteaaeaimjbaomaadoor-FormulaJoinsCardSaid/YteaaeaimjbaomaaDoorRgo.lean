/-
  A range over a function whose iterator keeps cells of its own between the rounds: the caller's pieces and the iterator's blocks lie apart. Over any program.
-/
import Derived.Test.YteaaeaimjbaomaaDoorHp
import Derived.RangeFuncNested
import Derived.RangeFuncBound
import Derived.RangeFuncCalls
import Derived.RangeFuncLeaves
import Derived.Shelf.Abstract
import Derived.Shelf.RegionOpen
import Derived.OwnWalkIn
import Derived.TacticsInMore
import Derived.LoopNIn
import Derived.LoopIn
namespace Go.Proofs.YteaaeaimjbaomaaDoor
open Go.RowKit
set_option linter.unusedVariables false

/-- it abides the iterator's steps: they turn blocks of the iterator's own -/
def Abd {β : Type} (J : List Nat → β → World → Prop) : Prop := ∀ o o' s A B, J o s A → Stp o o' A B → (∀ b ∈ o', b < B.heap.size) → J o' s B
/-- what a round keeps for the iterator: its own blocks -/
structure Kpt (o : List Nat) (A B : World) : Prop where
  low : Below 0 A B
  own : ∀ b ∈ o, b < A.heap.size → B.heap[b]? = A.heap[b]?
/-- pieces as one piece -/
def ibox (it : List It) : It := ⟨ow it, fun W => Sep W it, fun W W' h hp => ⟨fun x hx => x.st W W' (fun b hb => h b (List.mem_flatMap.2 ⟨x, hx, hb⟩)) (hp.ok x hx), hp.ap⟩, fun W hp b hb => hp.lt b hb⟩
/-- the iterator g at its captures lb, which owns the pieces E: it hands on what a list xs with S xs has, one by one, or a beginning Sp of it -/
def SeqOwn {α : Type} (P : Program) (g : Nat) (lb : Array Value) (E : List It) (Enc : α → Value → List Nat → World → Prop) (S Sp : List α → Prop) (N : Nat) : Prop :=
  ∀ (l : Nat) (J Jx : List Nat → List α → World → Prop) (W : World), Sep W E → Abd J → Abd Jx →
    (∀ o pre x v W1, J o pre W1 → pre.length < N → Enc x v o W1 → YieldAt Fence.wide 0 P l #[v] W1 fun e W' => Kpt o W1 W' ∧ ((e = .returned (.bool true) ∧ J o (pre ++ [x]) W') ∨ (e = .returned (.bool false) ∧ Jx o (pre ++ [x]) W'))) →
    J (ow E) [] W →
    CallsIn Fence.wide 0 P g (#[.func (.yield l) #[] #[]] ++ lb) W fun e W' => (∃ v, e = .returned v) ∧ ∃ o, (∃ xs, S xs ∧ J o xs W') ∨ (∃ pre, Sp pre ∧ Jx o pre W')

theorem callsIn_n {n m : Nat} {P : Program} {f : FuncId} {args : Array Value} {w : World} {R : Ending → World → Prop} (h : CallsIn Fence.wide n P f args w R) : CallsIn Fence.wide m P f args w R := callsIn_wide.2 (callsIn_wide.1 h)

/-- how the body of a round may be left -/
def ownPost {α : Type} (I : List α → List It → Prop) (Ix : Code → List α → List It → Prop) (xs : List α) (it : List It) (W : World) : Exit → Act → World → Prop
  | .normal, _, W' => ∃ it', I xs it' ∧ Hp (ow it) W it' W'
  | .ret, _, W' => ∃ it', Ix .ret xs it' ∧ Hp (ow it) W it' W'
  | .exit id, _, W' => ∃ it', Ix (.exit id) xs it' ∧ Hp (ow it) W it' W'
  | .goto t, _, W' => ∃ it', Ix (.goto t) xs it' ∧ Hp (ow it) W it' W'
  | .panic _, _, _ => False
  | .outgrown, _, _ => False

theorem stp_putObj {l : Nat} {o : List Nat} (W : World) (ob : Obj) (hl : l < W.heap.size) (ho : l ∈ o) : Stp o o W (W.putObj l ob) := by
  have hg := grownBy_putObj' W l ob
  refine ⟨⟨hg.os, hg.tape, hg.output, hg.size, fun k hk => absurd hk (Nat.not_lt_zero _)⟩, fun k hk hn => hg.block k hk (fun e => ?_), fun b hb => .inl hb⟩
  cases e; exact hn ho
theorem Stp.low_frame {o p r : List Nat} {A B : World} (h : Stp o p A B) : Stp (r ++ o) (r ++ p) A B :=
  ⟨h.low, fun k hk ho => h.oth k hk (fun h9 => ho (List.mem_append_right _ h9)), fun b hb => by
    rcases List.mem_append.1 hb with h1 | h1
    · exact .inl (List.mem_append_left _ h1)
    · rcases h.new b h1 with h2 | h2
      · exact .inl (List.mem_append_right _ h2)
      · exact .inr h2⟩
theorem Stp.putNew {o p : List Nat} {w W : World} {l : Nat} (ob : Obj) (h : Stp o p w W) (hl : l < W.heap.size) (hw : w.heap.size ≤ l) : Stp o p w (W.putObj l ob) := by
  have hg := grownBy_putObj' W l ob
  have hb : Below 0 W (W.putObj l ob) := ⟨hg.os, hg.tape, hg.output, hg.size, fun k hk => absurd hk (Nat.not_lt_zero _)⟩
  refine ⟨h.low.trans hb, fun k hk ho => ?_, h.new⟩
  rw [World.putObj_heap_other (by omega)]
  exact h.oth k hk ho
theorem Sep.put {it : List It} {W : World} {l : Nat} (ob : Obj) (h : Sep W it) (hl : l ∉ ow it) : Sep (W.putObj l ob) it :=
  ⟨fun x hx => x.st W _ (fun b hb => World.putObj_heap_other (fun e => hl (e ▸ List.mem_flatMap.2 ⟨x, hx, hb⟩))) (h.ok x hx), h.ap⟩
/-- what the loop keeps: the caller's pieces, the two blocks of book-keeping, the iterator's blocks: all apart -/
structure RgJ (o0 : List Nat) (w : World) (l D : Nat) (rec : Obj) (it : List It) (o : List Nat) (W : World) : Prop where
  sep : Sep W it
  hl : W.heap[l]? = some rec
  hd : W.heap[D]? = some (.deferred (some []))
  olt : ∀ b ∈ o, b < W.heap.size
  apart : ∀ b ∈ ow it, b ∉ o
  la : l ∉ ow it ∧ D ∉ ow it
  lo : l ∉ o ∧ D ∉ o
  stp : Stp o0 (ow it ++ o) w W
theorem RgJ.step {o0 : List Nat} {w : World} {l D : Nat} {rec : Obj} {it : List It} {o o' : List Nat} {A B : World} (h : RgJ o0 w l D rec it o A) (hs : Stp o o' A B) (ho : ∀ b ∈ o', b < B.heap.size) : RgJ o0 w l D rec it o' B := by
  have hlt : l < A.heap.size := (Array.getElem?_eq_some_iff.1 h.hl).1
  have hdt : D < A.heap.size := (Array.getElem?_eq_some_iff.1 h.hd).1
  refine ⟨⟨fun x hx => x.st A B (fun b hb => ?_) (h.sep.ok x hx), h.sep.ap⟩, (hs.oth l hlt h.lo.1).trans h.hl, (hs.oth D hdt h.lo.2).trans h.hd, ho, fun b hb hbo => ?_, h.la, ⟨fun hb => ?_, fun hb => ?_⟩, h.stp.trans hs.low_frame⟩
  · have hbo : b ∈ ow it := List.mem_flatMap.2 ⟨x, hx, hb⟩
    exact hs.oth b (h.sep.lt b hbo) (h.apart b hbo)
  · rcases hs.new b hbo with h1 | h1
    · exact h.apart b hb h1
    · have := h.sep.lt b hb; omega
  · rcases hs.new _ hb with h1 | h1
    · exact h.lo.1 h1
    · omega
  · rcases hs.new _ hb with h1 | h1
    · exact h.lo.2 h1
    · omega

/-- the law -/
theorem wpIn_range_own {P : Program} {α : Type} {g : Operand} {p : Tmp} {assign body : Code} {Q : Exit → Act → World → Prop} {a : Act} {w : World}
    {gf : Nat} {lb : Array Value} (hg : a.eval g = .func (.func gf) #[] lb) (eg : ∀ args w, (callFunc gf args).run P w = .ok (.enter gf args) w)
    {E : List It} {Enc : α → Value → List Nat → World → Prop} {S Sp : List α → Prop} {N : Nat} (hseq : SeqOwn P gf lb E Enc S Sp N)
    (I : List α → List It → Prop) (Ix : Code → List α → List It → Prop) {it0 : List It} (h0 : I [] it0) (hs0 : Sep w (it0 ++ E)) (a₁ : Value → Act)
    (hassign : ∀ (l : Nat) (v : Value) (W : World) (K : Act → World → Prop), K (a₁ v) W →
      assign.wpIn (Fence.wide.inRound l) 0 P (Exit.then K (fun _ _ _ => False)) { tmps := a.tmps.setIfInBounds p v, defers := [] } W)
    (hbody : ∀ (l : Nat) (pre : List α) (x : α) (v : Value) (it : List It) (o : List Nat) (W : World), I pre it → Sep W it → pre.length < N → Enc x v o W → (∀ b ∈ o, b ∉ ow it) → body.wpIn (Fence.wide.inRound l) 0 P (ownPost I Ix (pre ++ [x]) it W) (a₁ v) W)
    (hEnc : ∀ x v o (A B : World), Enc x v o A → Kpt o A B → Enc x v o B)
    (hdone : ∀ (D : Nat) (xs : List α) (it : List It) (W : World), S xs → I xs it → Hp (ow (it0 ++ E)) w it W → D ∉ ow it → w.heap.size ≤ D → W.heap[D]? = some (.deferred (some [])) → Q .normal { a with defers := { target := .collected D, args := #[] } :: a.defers } W)
    (hstop : ∀ (D : Nat) (c : Code) (pre : List α) (it : List It) (W : World), Sp pre → Ix c pre it → Hp (ow (it0 ++ E)) w it W → D ∉ ow it → w.heap.size ≤ D → W.heap[D]? = some (.deferred (some [])) → c.wpIn Fence.wide 0 P Q { a with defers := { target := .collected D, args := #[] } :: a.defers } W) :
    (Code.rangeFunc g #[p] assign body).wpIn Fence.wide 0 P Q a w := by
  refine wpIn_rangeFunc ?_
  intro fn hfn
  obtain ⟨rec, hrec⟩ : ∃ rec : LoopState → Option Code → Loop, rec = fun st pe => { state := st, pending := pe, fn, tmps := a.tmps, params := #[p], assign, body, defers := w.heap.size } := ⟨_, rfl⟩
  obtain ⟨W1, hW1⟩ : ∃ W1, (w.alloc (.deferred (some []))).alloc (.loop (rec .ready none)) = W1 := ⟨_, rfl⟩
  have hsz1 : W1.heap.size = w.heap.size + 2 := by rw [← hW1]; simp
  have hL1 : W1.heap[w.heap.size + 1]? = some (.loop (rec .ready none)) := by
    rw [← hW1]; have := World.alloc_heap_new (w.alloc (.deferred (some []))) (.loop (rec .ready none)); rwa [World.size_alloc] at this
  have hK1 : W1.heap[w.heap.size]? = some (.deferred (some [])) := by
    rw [← hW1]; exact (Below.heap_alloc _ _ _ (by simp)).trans (World.alloc_heap_new w _)
  have hb1 : Below w.heap.size w W1 := by
    rw [← hW1]; exact ((Below.refl _ w).alloc (Nat.le_refl _) _).alloc (by simp) _
  have hs1 : Hp (ow (it0 ++ E)) w (it0 ++ E) W1 := (Hp.self hs0).next hb1
  have hap := hs1.sep.ap
  rw [ow_append, List.nodup_append] at hap
  have hE1 : Sep W1 E := (hs1.perm List.perm_append_comm).sub.sep
  have hlt1 : ∀ b ∈ ow (it0 ++ E), b < w.heap.size := hs0.lt
  have hJ1 : RgJ (ow (it0 ++ E)) w (w.heap.size + 1) w.heap.size (.loop (rec .ready none)) it0 (ow E) W1 := by
    refine ⟨hs1.sub.sep, hL1, hK1, fun b hb => hE1.lt b hb, fun b hb hbo => hap.2.2 b hb b hbo rfl, ⟨fun h => ?_, fun h => ?_⟩, ⟨fun h => ?_, fun h => ?_⟩, by rw [← ow_append]; exact hs1.stp⟩
    · have := hlt1 _ (by rw [ow_append]; exact List.mem_append_left _ h); omega
    · have := hlt1 _ (by rw [ow_append]; exact List.mem_append_left _ h); omega
    · have := hlt1 _ (by rw [ow_append]; exact List.mem_append_right _ h); omega
    · have := hlt1 _ (by rw [ow_append]; exact List.mem_append_right _ h); omega
  generalize ow (it0 ++ E) = o0 at *
  refine ⟨w.heap.size + 1, [{ target := .collected w.heap.size, args := #[] }], W1, { target := .fn (.func gf) lb, args := #[.func (.yield (w.heap.size + 1)) #[] #[]] }, W1, gf,
    #[.func (.yield (w.heap.size + 1)) #[] #[]] ++ lb, W1, ?_, ?_, ?_, ?_, ?_, ?_⟩
  · rw [← hW1, hrec]; exact run_enterLoop_outer _ _ _ _ _
  · simp only [resolve, hg]
    simp [go_sem]
  · intro f' _; trivial
  · simp [invoke, go_sem, eg]
  · intro h; cases h
  · have hcall := hseq (w.heap.size + 1)
      (fun o pre W => ∃ it, I pre it ∧ RgJ o0 w (w.heap.size + 1) w.heap.size (.loop (rec .ready none)) it o W)
      (fun o pre W => ∃ c it, Ix c pre it ∧ RgJ o0 w (w.heap.size + 1) w.heap.size (.loop (rec .done (some c))) it o W)
      W1 hE1
      (fun o o' s A B ⟨it, h1, h2⟩ hs ho => ⟨it, h1, h2.step hs ho⟩)
      (fun o o' s A B ⟨c, it, h1, h2⟩ hs ho => ⟨c, it, h1, h2.step hs ho⟩)
      ?_ ⟨it0, h0, hJ1⟩
    · refine (callsIn_n hcall).mono ?_
      rintro e W2 ⟨⟨v, rfl⟩, o, hh⟩
      rcases hh with ⟨xs, hS, it, hi, hR⟩ | ⟨pre, hSp, c, it, hi, hR⟩
      · have hlt : w.heap.size + 1 < W2.heap.size := (Array.getElem?_eq_some_iff.1 hR.hl).1
        have hD : (W2.putObj (w.heap.size + 1) (.loop { rec .ready none with state := .exhausted })).heap[w.heap.size]? = some (.deferred (some [])) := (World.putObj_heap_other (by omega)).trans hR.hd
        have hsp : Hp o0 w it (W2.putObj (w.heap.size + 1) (.loop { rec .ready none with state := .exhausted })) := ⟨hR.sep.put _ hR.la.1, (hR.stp.sub (fun b hb => List.mem_append_left _ hb)).putNew _ hlt (by omega)⟩
        exact ⟨none, _, by have := run_endLoop (P := P) hR.hl (by rw [hrec]; simp); rw [hrec] at this; exact this,
          hdone _ xs it _ hS hi (by rw [hrec] at hsp; exact hsp) hR.la.2 (Nat.le_refl _) (by rw [hrec] at hD; exact hD)⟩
      · have hlt : w.heap.size + 1 < W2.heap.size := (Array.getElem?_eq_some_iff.1 hR.hl).1
        have hD : (W2.putObj (w.heap.size + 1) (.loop { rec .done (some c) with state := .exhausted })).heap[w.heap.size]? = some (.deferred (some [])) := (World.putObj_heap_other (by omega)).trans hR.hd
        have hsp : Hp o0 w it (W2.putObj (w.heap.size + 1) (.loop { rec .done (some c) with state := .exhausted })) := ⟨hR.sep.put _ hR.la.1, (hR.stp.sub (fun b hb => List.mem_append_left _ hb)).putNew _ hlt (by omega)⟩
        exact ⟨some c, _, by have := run_endLoop (P := P) hR.hl (by rw [hrec]; simp); rw [hrec] at this; exact this,
          hstop _ c pre it _ hSp hi (by rw [hrec] at hsp; exact hsp) hR.la.2 (Nat.le_refl _) (by rw [hrec] at hD; exact hD)⟩
    · -- one round
      rintro o pre x v W ⟨it, hi, hR⟩ hlen hE
      have hlt : w.heap.size + 1 < W.heap.size := (Array.getElem?_eq_some_iff.1 hR.hl).1
      have hy := run_yield (P := P) (args := #[v]) hR.hl (by rw [hrec]; rfl)
      have hyy : (Instr.yield (w.heap.size + 1) #[v]).run P W = .ok (.round (w.heap.size + 1) fn (a.tmps.setIfInBounds p v) assign body) W := by
        rw [hrec] at hy; simpa using hy
      refine ⟨fn, _, assign, body, hyy, roundIn_of_wpIn hfn (hassign _ v W _ ?_)⟩
      clear hy hyy
      refine ⟨_, run_beginRound hR.hl (by rw [hrec]), ?_⟩
      obtain ⟨Wb, hWb⟩ : ∃ Wb, W.putObj (w.heap.size + 1) (.loop { rec .ready none with state := .busy }) = Wb := ⟨_, rfl⟩
      rw [hWb]
      have hl2 : Wb.heap[w.heap.size + 1]? = some (.loop { rec .ready none with state := .busy }) := by rw [← hWb]; exact World.putObj_heap_same hlt
      have hother : ∀ k, k ≠ w.heap.size + 1 → Wb.heap[k]? = W.heap[k]? := fun k hk => by rw [← hWb]; exact World.putObj_heap_other hk
      have hk2 : Wb.heap[w.heap.size]? = some (.deferred (some [])) := (hother _ (by omega)).trans hR.hd
      have hsb : Sep Wb it := by rw [← hWb]; exact hR.sep.put _ hR.la.1
      have hstb : Stp o0 (ow it ++ o) w Wb := by rw [← hWb]; exact hR.stp.putNew _ hlt (by omega)
      have hbb : Below 0 W Wb := by rw [← hWb]; have hg := grownBy_putObj' W (w.heap.size + 1) (.loop { rec .ready none with state := .busy }); exact ⟨hg.os, hg.tape, hg.output, hg.size, fun k hk => absurd hk (Nat.not_lt_zero _)⟩
      have hkb : Kpt o W Wb := ⟨hbb, fun b hb _ => hother b (fun e => hR.lo.1 (e ▸ hb))⟩
      have hsb2 : Wb.heap.size = W.heap.size := by rw [← hWb]; simp [World.putObj]
      refine wpIn_mono (hbody _ pre x v it o Wb hi hsb hlen (hEnc _ _ _ _ _ hE hkb) (fun b hb hb' => hR.apart b hb' hb)) ?_
      have fin : ∀ (jump : Option Code) (it' : List It) (W3 : World), Hp (ow it) Wb it' W3 → ∃ W4,
          (Instr.endRound (w.heap.size + 1) jump).run P W3 = .ok (.bool jump.isNone) W4 ∧
          RgJ o0 w (w.heap.size + 1) w.heap.size (.loop (rec (if jump.isNone then .ready else .done) jump)) it' o W4 ∧ Kpt o W W4 := by
        intro jump it' W3 h3
        have hlt2 : w.heap.size + 1 < Wb.heap.size := by omega
        have hl3 : W3.heap[w.heap.size + 1]? = some (.loop { rec .ready none with state := .busy }) := (h3.stp.oth _ hlt2 hR.la.1).trans hl2
        have hd3 : W3.heap[w.heap.size]? = some (.deferred (some [])) := (h3.stp.oth _ (by omega) hR.la.2).trans hk2
        have hlt3 : w.heap.size + 1 < W3.heap.size := (Array.getElem?_eq_some_iff.1 hl3).1
        have hr := run_endRound (P := P) jump hl3
        have hnew : ∀ b ∈ ow it', b ∈ ow it ∨ Wb.heap.size ≤ b := h3.stp.new
        have hla : w.heap.size + 1 ∉ ow it' ∧ w.heap.size ∉ ow it' := by
          constructor
          · intro hb; rcases hnew _ hb with h9 | h9
            · exact hR.la.1 h9
            · omega
          · intro hb; rcases hnew _ hb with h9 | h9
            · exact hR.la.2 h9
            · omega
        have hstp3 : Stp o0 (ow it' ++ o) w W3 := hstb.trans (h3.stp.frame o)
        rw [hrec] at hr
        refine ⟨_, hr, ?_, ?_⟩
        · rw [hrec]
          refine ⟨h3.sep.put _ hla.1, World.putObj_heap_same hlt3, (World.putObj_heap_other (by omega)).trans hd3, fun b hb => by have := hR.olt b hb; have := h3.stp.low.size; simp [World.putObj]; omega, fun b hb hbo => ?_, hla, hR.lo, hstp3.putNew _ hlt3 (by omega)⟩
          rcases hnew b hb with h9 | h9
          · exact hR.apart b h9 hbo
          · have := hR.olt b hbo; omega
        · have hg := grownBy_putObj' W3 (w.heap.size + 1) (.loop { (fun st pe => ({ state := st, pending := pe, fn, tmps := a.tmps, params := #[p], assign, body, defers := w.heap.size } : Loop)) .ready none with state := if jump.isNone then .ready else .done, pending := jump })
          refine ⟨hbb.trans (h3.stp.low.trans ⟨hg.os, hg.tape, hg.output, hg.size, fun k hk => absurd hk (Nat.not_lt_zero _)⟩), fun b hb hbl => ?_⟩
          have hbne : b ≠ w.heap.size + 1 := fun e => hR.lo.1 (e ▸ hb)
          rw [World.putObj_heap_other hbne, h3.stp.oth b (by omega) (fun h9 => hR.apart b h9 hb)]
          exact hother b hbne
      rintro e a3 W3 hp
      cases e with
      | normal =>
        obtain ⟨it', hi3, h3⟩ := hp
        obtain ⟨W4, hr, hR4, hk4⟩ := fin none it' W3 h3
        exact ⟨_, _, hr, hk4, .inl ⟨rfl, it', hi3, hR4⟩⟩
      | ret =>
        obtain ⟨it', hi3, h3⟩ := hp
        obtain ⟨W4, hr, hR4, hk4⟩ := fin (some .ret) it' W3 h3
        exact ⟨_, _, hr, hk4, .inr ⟨rfl, .ret, it', hi3, hR4⟩⟩
      | exit id =>
        obtain ⟨it', hi3, h3⟩ := hp
        obtain ⟨W4, hr, hR4, hk4⟩ := fin (some (.exit id)) it' W3 h3
        exact ⟨_, _, hr, hk4, .inr ⟨rfl, .exit id, it', hi3, hR4⟩⟩
      | goto t =>
        obtain ⟨it', hi3, h3⟩ := hp
        obtain ⟨W4, hr, hR4, hk4⟩ := fin (some (.goto t)) it' W3 h3
        exact ⟨_, _, hr, hk4, .inr ⟨rfl, .goto t, it', hi3, hR4⟩⟩
      | panic ch => exact hp.elim
      | outgrown => exact hp.elim
end Go.Proofs.YteaaeaimjbaomaaDoor
