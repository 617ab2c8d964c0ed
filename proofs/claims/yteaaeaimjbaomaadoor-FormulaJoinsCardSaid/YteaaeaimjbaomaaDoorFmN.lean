import Derived.Test.YteaaeaimjbaomaaDoorFmC
import Derived.Test.YteaaeaimjbaomaaDoorFmS
import Derived.Test.YteaaeaimjbaomaaDoorHp
import Derived.Deep.LoopGhost
import Derived.Deep.QuietTactic
import Derived.BigQuiet
import Derived.Test.YteaaeaimjbaomaaDoorFmR
import Derived.Lib.SliceRun
import Derived.Test.YteaaeaimjbaomaaDoorRgo
import Derived.Test.YteaaeaimjbaomaaDoorFmT
/-
  Formulas are monotone, plain.
-/
namespace Go.Proofs.YteaaeaimjbaomaaDoor
set_option linter.unusedVariables false

/-- what holds in a holds in b -/
def leB (a b : List Bool) : Prop := ∀ i, gb a i = true → gb b i = true
theorem leB.refl (a : List Bool) : leB a a := fun _ h => h
theorem cntK_mono {a b : List Bool} (h : leB a b) : ∀ ks, cntK a ks ≤ cntK b ks
  | [] => Int.le_refl _
  | x :: xs => by
    have h1 := cntK_mono h xs
    have h2 := h x.toNat
    rw [cntK, cntK]
    by_cases ha : a.getD x.toNat false = true
    · rw [if_pos ha, if_pos (h2 ha)]; omega
    · rw [if_neg ha]; split <;> omega
theorem truthAt_mono {L M a b : List Bool} (hL : leB L M) (h : leB a b) (g : Gt) (ht : truthAt L a g = true) : truthAt M b g = true := by
  unfold truthAt at ht ⊢
  by_cases hk : g.kids = []
  · rw [if_pos hk] at ht ⊢; exact hL _ ht
  · rw [if_neg hk] at ht ⊢
    have := cntK_mono h g.kids
    have := of_decide_eq_true ht
    exact decide_eq_true (by omega)
theorem leB_set {a b : List Bool} (h : leB a b) (hl : a.length = b.length) (k : Nat) {x y : Bool} (hxy : x = true → y = true) : leB (a.set k x) (b.set k y) := by
  intro i hi
  by_cases hk : k < a.length
  · rw [gb_set _ _ _ _ hk] at hi
    rw [gb_set _ _ _ _ (by omega)]
    by_cases hik : i = k
    · rw [if_pos hik] at hi ⊢; exact hxy hi
    · rw [if_neg hik] at hi ⊢; exact h i hi
  · rw [List.set_eq_of_length_le (by omega)] at hi ⊢
    exact h i hi
theorem truthStep_mono {F : List Gt} {L M a b : List Bool} (hL : leB L M) (h : leB a b) (hl : a.length = b.length) (k : Nat) : leB (truthStep F L a k) (truthStep F M b k) := by
  unfold truthStep
  split
  · exact leB_set h hl k (truthAt_mono hL h _)
  · exact h
theorem truthRun_mono {F : List Gt} {L M : List Bool} (hL : leB L M) : ∀ (k : Nat) (a b : List Bool), leB a b → a.length = b.length → leB (truthRun F L k a) (truthRun F M k b)
  | 0, a, b, h, _ => h
  | k + 1, a, b, h, hl => by
    rw [truthRun, truthRun]
    exact truthRun_mono hL k _ _ (truthStep_mono hL h hl k) (by rw [truthStep_length, truthStep_length]; exact hl)
/-- if more leaves hold, no gate ceases to hold -/
theorem truthP_mono {F : List Gt} {L M : List Bool} (hL : leB L M) : leB (truthP F L) (truthP F M) := truthRun_mono hL _ _ _ (leB.refl _) rfl
/-- whether a formula holds -/
def holdsP (F : List Gt) (L : List Bool) : Bool := decide (F = []) || gb (truthP F L) 0
theorem holdsP_mono (F : List Gt) (n : Nat) : Mono (holdsP F) n := by
  intro c d _ _ h hc
  unfold holdsP at hc ⊢
  rw [Bool.or_eq_true] at hc ⊢
  exact hc.imp id (truthP_mono h 0)
end Go.Proofs.YteaaeaimjbaomaaDoor

/-
  formula.Minimal: the closures holds, minimal, possible.
-/
namespace Go.Proofs.YteaaeaimjbaomaaDoor
open Go.RowKit
set_option linter.unusedVariables false

set_option maxHeartbeats 2000000 in
theorem holds_any (gf : Nat) (A LA : Option Addr) (c lc : Nat) (F : List Gt) (L : List Bool) (hF : F.length ≤ 512) (hK : ∀ g ∈ F, g.kids.length ≤ 1000000) (hV : Valid F L) (w : World) (hc : w.cell? ⟨gf, 0, none⟩ = some (.slice A F.length c)) (hG : Gates w w.heap.size A F) (hL : Bools w w.heap.size LA L) (hLl : L.length ≤ 1000000) :
    Calls Tryd.prog 54 #[.slice LA L.length lc, .pointer (some ⟨gf, 0, none⟩)] w fun e w' => e = .returned (.bool (holdsP F L)) ∧ Below w.heap.size w w' := by
  by_cases hz : F = []
  · have HV : Hid (holdsP F L = true) := by refine Lib.hid ?_; rw [holdsP, decide_eq_true hz]; rfl
    subst hz
    go_enter Tryd.func54, Tryd.ntmps54
    go_wp2_with fail
    refine (truth_nil A LA c lc L.length w).mono ?_
    rintro e w1 ⟨rfl, hb1⟩
    go_wp2_with fail
    go_ret
    rw [HV.out]
    exact ⟨rfl, hb1⟩
  · have hpos : 0 < F.length := by
      rcases Nat.eq_zero_or_pos F.length with h | h
      · exact absurd (List.eq_nil_of_length_eq_zero h) hz
      · exact h
    have hlp := truthP_length F L
    obtain ⟨t0, ht0⟩ : ∃ t0, (truthP F L)[0]? = some t0 := ⟨_, List.getElem?_eq_getElem (by omega)⟩
    have HV : Hid (holdsP F L = t0) := by
      refine Lib.hid ?_
      rw [holdsP, decide_eq_false hz, Bool.false_or]
      unfold gb
      rw [List.getD_eq_getElem?_getD, ht0]; rfl
    have HC := Lib.hid (truth_any A LA c lc F L hF hK hV w hG hL hLl hz)
    have hzz : ((F.length : Int) == 0) = false := by rw [beq_eq_false_iff_ne]; omega
    clear hz
    go_enter Tryd.func54, Tryd.ntmps54
    go_wp2_with fail
    refine HC.out.mono ?_
    rintro e w1 ⟨⟨g, rfl, hg, -⟩, hb1⟩
    have ct : w1.cell? ⟨g, 0, none⟩ = some (.bool t0) := by rw [hg.cell 0, blv, List.getElem?_map, ht0]; rfl
    clear HC hg ht0
    go_wp2_with fail
    go_ret
    rw [HV.out]
    exact ⟨rfl, hb1⟩
end Go.Proofs.YteaaeaimjbaomaaDoor

/-
  slices.Clone at []bool, []api.Gate, []int.
-/
namespace Go.Proofs.YteaaeaimjbaomaaDoor
open Go.RowKit
set_option linter.unusedVariables false

theorem bool_info : (Tryd.prog.info? 4).map (fun i => (i.zero, i.size, i.bytes)) = some (some (.bool false), 1, 1) := by kernel_rfl
/-- a row that append has laid behind an empty one of the call's own -/
theorem clone_hp {w w1 : World} {e : TypeId} {k n : Nat} {v : Value} {xs : List Value} {o : Obj} (h : w1.ownsRow w.heap.size e k v n xs) (hg : (w.alloc o).grownBy w1 (some w.heap.size)) : Hp [] w [irow e k v n xs] w1 := by
  have hs : (w.alloc o).heap.size = w.heap.size + 1 := by simp
  have hsz := hg.size
  refine ⟨⟨fun x hx => ?_, ?_⟩, ⟨⟨hg.os, hg.tape, hg.output, by omega, fun k hk => absurd hk (Nat.not_lt_zero _)⟩, fun j hj _ => ?_, fun b hb => .inr ?_⟩⟩
  · rw [List.mem_singleton.1 hx]
    refine ⟨h.1, ?_⟩
    rcases h.2 with hn | ⟨g, cap, cur, hv, hb, rest⟩
    · exact .inl hn
    · exact .inr ⟨g, cap, cur, hv, Nat.zero_le _, rest⟩
  · show (v.ownBlock.toList ++ []).Nodup
    cases v.ownBlock <;> simp
  · rw [hg.block j (by omega) (fun h9 => by injection h9 with h9; omega)]
    exact Below.heap_alloc w o j hj
  · have hb' : v.ownBlock = some b := by simpa [irow, Option.mem_toList] using hb
    exact (h.lt b hb').1

set_option maxHeartbeats 2000000 in
theorem clone_bools (ad : Addr) (n c : Nat) (news : List Value) (hl : news.length = n * 1) (hn : n ≤ 1000000) (w : World) (hnews : ∀ j u, news[j]? = some u → w.cell? (ad.add j) = some u) (h1 : ∀ u ∈ news, u.oneCell' = true) (hb : news ≠ [] → ad.block < w.heap.size) :
    Calls Tryd.prog 57 #[.slice (some ad) n c] w fun e w' => ∃ v, e = .returned v ∧ Hp [] w [irow 4 1 v n news] w' := by
  obtain ⟨i0, hi0, hz0, hz1, hz2⟩ := info_parts bool_info
  have hq : ∀ (w : World) (a : Option Addr) (n c n' c' : Nat), (binOp .eql 31 (.slice a n c) (.slice none n' c')).run Tryd.prog w = .ok (.bool a.isNone) w := fun w a n c n' c' => Lib.run_eql_slice_nil w _ _ a n c n' c' Tryd.underlying31
  have hk : ∀ j u, news[j]? = some u → (w.alloc (.cells #[] 4)).cell? (ad.add j) = some u := fun j u hj => by
    rw [Below.cell (B := w.heap.size) ((Below.refl _ _).alloc (Nat.le_refl _) _) (by rw [add_block]; exact hb (by rintro rfl; simp at hj))]; exact hnews j u hj
  go_enter Tryd.func57, Tryd.ntmps57
  go_wp2_with (at_builtin; refine wpList_append_own _ rfl _ _ 31 rfl w.heap.size 4 i0 _ 1 1 Tryd.underlying31 hi0 hz0 hz1 hz2 rfl (by decide) _ _ _ rfl (World.ownsRow_made w #[] 0 (Nat.le_refl _) (Nat.zero_le _) rfl) ad n c news rfl ?qc1 ?qc2 ?qc3 ?qc4 ?qc5 ?qc6 ?_)
  case qc1 => exact hl
  case qc2 => exact hk
  case qc3 => exact h1
  case qc4 => unfold maxLen; omega
  case qc5 => omega
  case qc6 => simp
  intro v' w1 hown hgrow hnil
  go_wp2_with fail
  go_ret
  refine ⟨v', rfl, ?_⟩
  have h9 : w1.ownsRow w.heap.size 4 1 v' n news := by simpa using hown
  exact clone_hp h9 hgrow
set_option maxHeartbeats 1000000 in
theorem clone_bools_nil (n c : Nat) (w : World) : Calls Tryd.prog 57 #[.slice none n c] w fun e w' => e = .returned (.slice none 0 0) ∧ w' = w := by
  have hq : ∀ (w : World) (a : Option Addr) (n c n' c' : Nat), (binOp .eql 31 (.slice a n c) (.slice none n' c')).run Tryd.prog w = .ok (.bool a.isNone) w := fun w a n c n' c' => Lib.run_eql_slice_nil w _ _ a n c n' c' Tryd.underlying31
  go_enter Tryd.func57, Tryd.ntmps57
  go_wp2_with fail
  go_ret
  exact ⟨rfl, rfl⟩
set_option maxHeartbeats 2000000 in
theorem clone_gates (ad : Addr) (n c : Nat) (news : List Value) (hl : news.length = n * 3) (hn : n ≤ 1000000) (w : World) (hnews : ∀ j u, news[j]? = some u → w.cell? (ad.add j) = some u) (h1 : ∀ u ∈ news, u.oneCell' = true) (hb : news ≠ [] → ad.block < w.heap.size) :
    Calls Tryd.prog 63 #[.slice (some ad) n c] w fun e w' => ∃ v, e = .returned v ∧ Hp [] w [irow 40 3 v n news] w' := by
  obtain ⟨i0, hi0, hz0, hz1, hz2⟩ := info_parts gate_info
  have hq : ∀ (w : World) (a : Option Addr) (n c n' c' : Nat), (binOp .eql 22 (.slice a n c) (.slice none n' c')).run Tryd.prog w = .ok (.bool a.isNone) w := fun w a n c n' c' => Lib.run_eql_slice_nil w _ _ a n c n' c' Tryd.underlying22
  have hk : ∀ j u, news[j]? = some u → (w.alloc (.cells #[] 40)).cell? (ad.add j) = some u := fun j u hj => by
    rw [Below.cell (B := w.heap.size) ((Below.refl _ _).alloc (Nat.le_refl _) _) (by rw [add_block]; exact hb (by rintro rfl; simp at hj))]; exact hnews j u hj
  go_enter Tryd.func63, Tryd.ntmps63
  go_wp2_with (at_builtin; refine wpList_append_own _ rfl _ _ 22 rfl w.heap.size 40 i0 _ 3 40 Tryd.underlying22 hi0 hz0 hz1 hz2 rfl (by decide) _ _ _ rfl (World.ownsRow_made w #[] 0 (Nat.le_refl _) (Nat.zero_le _) rfl) ad n c news rfl ?qc1 ?qc2 ?qc3 ?qc4 ?qc5 ?qc6 ?_)
  case qc1 => exact hl
  case qc2 => exact hk
  case qc3 => exact h1
  case qc4 => unfold maxLen; omega
  case qc5 => omega
  case qc6 => simp
  intro v' w1 hown hgrow hnil
  go_wp2_with fail
  go_ret
  refine ⟨v', rfl, ?_⟩
  have h9 : w1.ownsRow w.heap.size 40 3 v' n news := by simpa using hown
  exact clone_hp h9 hgrow
set_option maxHeartbeats 1000000 in
theorem clone_gates_nil (n c : Nat) (w : World) : Calls Tryd.prog 63 #[.slice none n c] w fun e w' => e = .returned (.slice none 0 0) ∧ w' = w := by
  have hq : ∀ (w : World) (a : Option Addr) (n c n' c' : Nat), (binOp .eql 22 (.slice a n c) (.slice none n' c')).run Tryd.prog w = .ok (.bool a.isNone) w := fun w a n c n' c' => Lib.run_eql_slice_nil w _ _ a n c n' c' Tryd.underlying22
  go_enter Tryd.func63, Tryd.ntmps63
  go_wp2_with fail
  go_ret
  exact ⟨rfl, rfl⟩
set_option maxHeartbeats 2000000 in
theorem clone_ints (ad : Addr) (n c : Nat) (news : List Value) (hl : news.length = n * 1) (hn : n ≤ 1000000) (w : World) (hnews : ∀ j u, news[j]? = some u → w.cell? (ad.add j) = some u) (h1 : ∀ u ∈ news, u.oneCell' = true) (hb : news ≠ [] → ad.block < w.heap.size) :
    Calls Tryd.prog 38 #[.slice (some ad) n c] w fun e w' => ∃ v, e = .returned v ∧ Hp [] w [irow 3 1 v n news] w' := by
  obtain ⟨i0, hi0, hz0, hz1, hz2⟩ := info_parts int_info
  have hq : ∀ (w : World) (a : Option Addr) (n c n' c' : Nat), (binOp .eql 38 (.slice a n c) (.slice none n' c')).run Tryd.prog w = .ok (.bool a.isNone) w := fun w a n c n' c' => Lib.run_eql_slice_nil w _ _ a n c n' c' Tryd.underlying38
  have hk : ∀ j u, news[j]? = some u → (w.alloc (.cells #[] 3)).cell? (ad.add j) = some u := fun j u hj => by
    rw [Below.cell (B := w.heap.size) ((Below.refl _ _).alloc (Nat.le_refl _) _) (by rw [add_block]; exact hb (by rintro rfl; simp at hj))]; exact hnews j u hj
  go_enter Tryd.func38, Tryd.ntmps38
  go_wp2_with (at_builtin; refine wpList_append_own _ rfl _ _ 38 rfl w.heap.size 3 i0 _ 1 8 Tryd.underlying38 hi0 hz0 hz1 hz2 rfl (by decide) _ _ _ rfl (World.ownsRow_made w #[] 0 (Nat.le_refl _) (Nat.zero_le _) rfl) ad n c news rfl ?qc1 ?qc2 ?qc3 ?qc4 ?qc5 ?qc6 ?_)
  case qc1 => exact hl
  case qc2 => exact hk
  case qc3 => exact h1
  case qc4 => unfold maxLen; omega
  case qc5 => omega
  case qc6 => simp
  intro v' w1 hown hgrow hnil
  go_wp2_with fail
  go_ret
  refine ⟨v', rfl, ?_⟩
  have h9 : w1.ownsRow w.heap.size 3 1 v' n news := by simpa using hown
  exact clone_hp h9 hgrow
set_option maxHeartbeats 1000000 in
theorem clone_ints_nil (n c : Nat) (w : World) : Calls Tryd.prog 38 #[.slice none n c] w fun e w' => e = .returned (.slice none 0 0) ∧ w' = w := by
  have hq : ∀ (w : World) (a : Option Addr) (n c n' c' : Nat), (binOp .eql 38 (.slice a n c) (.slice none n' c')).run Tryd.prog w = .ok (.bool a.isNone) w := fun w a n c n' c' => Lib.run_eql_slice_nil w _ _ a n c n' c' Tryd.underlying38
  go_enter Tryd.func38, Tryd.ntmps38
  go_wp2_with fail
  go_ret
  exact ⟨rfl, rfl⟩
end Go.Proofs.YteaaeaimjbaomaaDoor

/-
  formula.Minimal: the closures minimal, possible.
-/
namespace Go.Proofs.YteaaeaimjbaomaaDoor
open Go.RowKit
set_option linter.unusedVariables false

/-- the formula and the number of its leaves, as the closures find them -/
structure En where
  gf : Nat
  gn : Nat
  A : Option Addr
  cc : Nat
  F : List Gt
  n : Nat
  x : It
  Q : List GV
abbrev fits (E : En) : List It := [iblk E.gf 24 [.slice E.A E.F.length E.cc], iblk E.gn 3 [.int .i64 (E.n : Int)], ibox (E.x :: irow 40 3 (.slice E.A E.F.length E.cc) E.F.length (gcells E.Q) :: kidIts E.Q)]
structure FEnv (E : En) : Prop where
  F512 : E.F.length ≤ 512
  kids : ∀ g ∈ E.F, g.kids.length ≤ 1000000
  n256 : E.n ≤ 256
  ok : checkP E.F E.n = 0
  gq : gts E.Q = E.F
  ql : E.Q.length = E.F.length
theorem FEnv.valid {E : En} (h : FEnv E) {c : List Bool} (hc : c.length = E.n) : Valid E.F c := (check_valid (by rw [hc]; exact h.ok)).1
theorem FEnv.gates {E : En} (h : FEnv E) {W : World} (hp : (ibox (E.x :: irow 40 3 (.slice E.A E.F.length E.cc) E.F.length (gcells E.Q) :: kidIts E.Q)).P W) : Gates W W.heap.size E.A E.F := by
  have h1 := Hp.self (show Sep W (E.x :: irow 40 3 (.slice E.A E.F.length E.cc) E.F.length (gcells E.Q) :: kidIts E.Q) from hp)
  have h2 := gates_of (r := []) (P := E.Q) (n := E.F.length) (by rw [List.append_nil, h.ql]; exact h1)
  rw [h.gq] at h2
  exact h2
/-- the pieces that the closures of formula.Minimal share -/
abbrev cits (E : En) (gh gcv gch : Nat) (c : List Bool) : List It := iblk gch 4 (blv c) :: iblk gcv 31 [.slice (some ⟨gch, 0, none⟩) c.length c.length] :: iblk gh 99 [.func (Fn.func 54) #[] #[.pointer (some ⟨E.gf, 0, none⟩)]] :: fits E
/-- the call of holds at the chosen leaves -/
theorem holds_call {E : En} {gch : Nat} {c : List Bool} {o : List Nat} {w W : World} {a b : It} {r : List It} (hE : FEnv E) (hc : c.length = E.n) (h : Hp o w (iblk gch 4 (blv c) :: a :: b :: (fits E ++ r)) W) (lc : Nat) :
    Calls Tryd.prog 54 #[.slice (some ⟨gch, 0, none⟩) c.length lc, .pointer (some ⟨E.gf, 0, none⟩)] W fun e w' => e = .returned (.bool (holdsP E.F c)) ∧ Below W.heap.size W w' :=
  holds_any E.gf E.A _ E.cc lc E.F c hE.F512 hE.kids (hE.valid hc) W ((h.blk 3 rfl).cell 0) (hE.gates (h.sep.ok _ (List.mem_of_getElem? (i := 5) rfl))) (h.blk 0 rfl).bools (by have := hE.n256; omega)
set_option maxHeartbeats 4000000 in
theorem minimal_any {E : En} {gh gcv gch : Nat} (hE : FEnv E) (c : List Bool) (hc : c.length = E.n) (W : World) (h : Sep W (cits E gh gcv gch c)) :
    Calls Tryd.prog 55 #[.pointer (some ⟨gcv, 0, none⟩), .pointer (some ⟨gh, 0, none⟩)] W fun e w' => e = .returned (.bool (minM (holdsP E.F) c)) ∧ Hp (ow (cits E gh gcv gch c)) W (cits E gh gcv gch c) w' := by
  have hS := Hp.self h
  have hn := hE.n256
  have hcn : c.length ≤ 256 := by omega
  have HL := Lib.hid hc
  clear hc
  generalize ow (cits E gh gcv gch c) = o at *
  have c1 := (hS.blk 1 rfl).cell 0
  simp only [List.getElem?_cons_zero] at c1
  go_enter Tryd.func55, Tryd.ntmps55
  go_upto_region 2 with fail
  clear c1
  go_loopg [8] c.length (fun m s8 wx => ∃ i : Nat, i ≤ c.length ∧ m = c.length - i ∧ s8 = .int .i64 (i : Int) ∧ Hp o W (cits E gh gcv gch c) wx ∧ Hid (∀ j, j < i → gb c j = true → holdsP E.F (c.set j false) = false))
  case atStart => exact ⟨0, Nat.zero_le _, rfl, rfl, hS, Lib.hid (fun j hj => absurd hj (Nat.not_lt_zero _))⟩
  case round =>
    obtain ⟨i, hi, rfl, rfl, hS2, HI⟩ := hrel
    clear hS
    by_cases hil : i < c.length
    · obtain ⟨x, hx⟩ : ∃ x, c[i]? = some x := ⟨_, List.getElem?_eq_getElem hil⟩
      have hgx : gb c i = x := by unfold gb; rw [List.getD_eq_getElem?_getD, hx]; rfl
      have cx : wr.cell? ⟨gch, i, none⟩ = some (.bool x) := by rw [(hS2.blk 0 rfl).cell i, blv, List.getElem?_map, hx]; rfl
      have c1 := (hS2.blk 1 rfl).cell 0
      have c2 := (hS2.blk 2 rfl).cell 0
      have f0 := (hS2.blk 0 rfl).frozen i
      simp only [List.getElem?_cons_zero] at c1 c2
      have hii : (i : Int) < (c.length : Int) := by omega
      cases x with
      | false =>
        have HI2 : Hid (∀ j, j < i + 1 → gb c j = true → holdsP E.F (c.set j false) = false) := by
          refine Lib.hid fun j hj hg => ?_
          by_cases hji : j = i
          · rw [hji, hgx] at hg; cases hg
          · exact HI.out j (by omega) hg
        clear hx hgx HI
        go_wp2_with fail
        go_roundg (c.length - (i + 1))
        case measure => omega
        case rel => exact ⟨i + 1, hil, rfl, by first | rfl | simp, hS2, HI2⟩
      | true =>
        go_upto_region 6 with fail
        have hS3 : Hp o W (iblk gch 4 (blv (c.set i false)) :: iblk gcv 31 [.slice (some ⟨gch, 0, none⟩) c.length c.length] :: iblk gh 99 [.func (Fn.func 54) #[] #[.pointer (some ⟨E.gf, 0, none⟩)]] :: (fits E ++ [])) (wr.setCell ⟨gch, i, none⟩ (.bool false)) := by
          have h9 := hS2.set 0 rfl i (.bool false)
          rw [show (blv c).set i (.bool false) = blv (c.set i false) from by simp [blv, List.map_set]] at h9
          exact h9
        clear hS2 cx c1 c2 f0
        generalize wr.setCell ⟨gch, i, none⟩ (.bool false) = w3 at *
        have c1 := (hS3.blk 1 rfl).cell 0
        have c2 := (hS3.blk 2 rfl).cell 0
        simp only [List.getElem?_cons_zero] at c1 c2
        have HC := Lib.hid (holds_call hE (c := c.set i false) (by rw [List.length_set]; exact HL.out) hS3 c.length)
        rw [List.length_set] at HC
        go_wp2_with fail
        refine HC.out.mono ?_
        rintro e w4 ⟨rfl, hb4⟩
        have hS4 := hS3.next hb4
        clear HC hS3 c1 c2 hb4
        have c1 := (hS4.blk 1 rfl).cell 0
        have cx : w4.cell? ⟨gch, i, none⟩ = some (.bool false) := by
          rw [(hS4.blk 0 rfl).cell i, blv, List.getElem?_map, List.getElem?_set_self hil]; rfl
        have f0 := (hS4.blk 0 rfl).frozen i
        simp only [List.getElem?_cons_zero] at c1
        have hS5 : Hp o W (cits E gh gcv gch c) (w4.setCell ⟨gch, i, none⟩ (.bool true)) := by
          have h9 := hS4.set 0 rfl i (.bool true)
          rw [show (blv (c.set i false)).set i (.bool true) = blv c from by
            rw [show (blv (c.set i false)).set i (.bool true) = blv ((c.set i false).set i true) from by simp [blv, List.map_set], List.set_set]
            congr 1
            apply List.ext_getElem?
            intro j
            rw [List.getElem?_set]
            split
            · rename_i hij
              subst hij
              rw [hx]
            · rfl] at h9
          exact h9
        have HS5 := Lib.hid hS5
        cases hh : holdsP E.F (c.set i false) with
        | true =>
          have HV : Hid (minM (holdsP E.F) c = false) := by
            refine Lib.hid ?_
            rw [Bool.eq_false_iff]
            intro h9
            have := (minM_iff (holdsP E.F) c).1 h9 i hgx
            rw [hh] at this; cases this
          clear hx hgx HI hh hS4 hS5
          go_wp2_with fail
          go_ret
          rw [HV.out]
          exact ⟨rfl, HS5.out⟩
        | false =>
          have HI2 : Hid (∀ j, j < i + 1 → gb c j = true → holdsP E.F (c.set j false) = false) := by
            refine Lib.hid fun j hj hg => ?_
            by_cases hji : j = i
            · rw [hji]; exact hh
            · exact HI.out j (by omega) hg
          clear hx hgx HI hh hS4 hS5
          go_wp2_with fail
          go_roundg (c.length - (i + 1))
          case measure => omega
          case rel => exact ⟨i + 1, hil, rfl, by first | rfl | simp, HS5.out, HI2⟩
    · have HV : Hid (minM (holdsP E.F) c = true) := by
        refine Lib.hid ((minM_iff (holdsP E.F) c).2 fun j hj => ?_)
        exact HI.out j (by have := gb_lt hj; omega) hj
      have hii : ¬ (i : Int) < (c.length : Int) := by omega
      clear HI
      go_wp2_with fail
      go_ret
      rw [HV.out]
      exact ⟨rfl, hS2⟩
end Go.Proofs.YteaaeaimjbaomaaDoor

/-
  formula.Minimal: the closure possible.
-/
namespace Go.Proofs.YteaaeaimjbaomaaDoor
open Go.RowKit
set_option linter.unusedVariables false

theorem row_bools {W : World} {base : Nat} {v : Value} {n : Nat} {l : List Bool} (h : W.ownsRow base 4 1 v n (blv l)) : ∃ A c, v = .slice A n c ∧ Bools W W.heap.size A l := by
  obtain ⟨A, c, hv⟩ := row_forms h
  refine ⟨A, c, hv, ⟨fun hl => ?_⟩⟩
  have hn : 0 < n := by
    have h1 := h.1
    have h2 : 0 < l.length := by
      rcases Nat.eq_zero_or_pos l.length with h9 | h9
      · exact absurd (List.eq_nil_of_length_eq_zero h9) hl
      · exact h9
    simp [blv] at h1
    omega
  obtain ⟨g, cap, hv2, -⟩ := row_form h hn
  rw [hv] at hv2
  injection hv2 with hA _ _
  subst hA
  refine ⟨_, rfl, ?_, fun j u hu => ?_⟩
  · rw [hv] at h; exact (h.lt g rfl).2
  · rw [hv] at h; exact h.cells rfl j u hu
set_option maxRecDepth 20000 in
set_option maxHeartbeats 4000000 in
theorem possible_any {E : En} {gh gcv gch : Nat} (c : List Bool) (hE : FEnv E) (hc : E.n = c.length) (fr : Nat) (hfr : fr ≤ c.length) (W : World) (h : Sep W (cits E gh gcv gch c)) :
    Calls Tryd.prog 56 #[.int .i64 (fr : Int), .pointer (some ⟨gcv, 0, none⟩), .pointer (some ⟨E.gn, 0, none⟩), .pointer (some ⟨gh, 0, none⟩)] W fun e w' => e = .returned (.bool (holdsP E.F (fillM c fr))) ∧ Hp (ow (cits E gh gcv gch c)) W (cits E gh gcv gch c) w' := by
  have hS := Hp.self h
  have hn := hE.n256
  have HN := Lib.hid hc
  rw [hc] at hn
  clear hc
  generalize ow (cits E gh gcv gch c) = o at *
  have c1 := (hS.blk 1 rfl).cell 0
  simp only [List.getElem?_cons_zero] at c1
  have hgch : gch < W.heap.size := (hS.blk 0 rfl).lt
  go_enter Tryd.func56, Tryd.ntmps56
  go_wp2_with fail
  refine (clone_bools ⟨gch, 0, none⟩ c.length c.length (blv c) (by simp [blv]) (by omega) W (fun j u hu => by
    have e : (⟨gch, 0, none⟩ : Addr).add j = ⟨gch, j, none⟩ := by unfold Addr.add; split <;> simp_all
    rw [e, (hS.blk 0 rfl).cell j]; exact hu) (by intro u hu; obtain ⟨x, _, rfl⟩ := List.mem_map.1 hu; rfl) (fun _ => hgch)).mono ?_
  rintro e w1 ⟨v, rfl, hv⟩
  have hS1 : Hp o W (irow 4 1 v c.length (blv c) :: cits E gh gcv gch c) w1 := Hp.call (a := []) hS hv
  obtain ⟨A1, k1, rfl⟩ := row_forms (hS1.row 0 rfl)
  clear hS hv c1
  go_upto_region 3 with fail
  go_loopg [7] (c.length - fr) (fun m s7 wx => ∃ (i : Nat) (L : List Bool), fr ≤ i ∧ i ≤ c.length ∧ m = c.length - i ∧ s7 = .int .i64 (i : Int) ∧ L.length = c.length ∧ Hp o W (irow 4 1 (.slice A1 c.length k1) c.length (blv L) :: cits E gh gcv gch c) wx ∧ Hid (∀ j, j < c.length → gb L j = if fr ≤ j ∧ j < i then true else gb c j))
  case atStart => exact ⟨fr, c, Nat.le_refl _, hfr, rfl, rfl, rfl, hS1, Lib.hid (fun j _ => by rw [if_neg (by omega)])⟩
  case round =>
    obtain ⟨i, L, hfi, hi, rfl, rfl, hLl, hS2, HL⟩ := hrel
    clear hS1
    have HLl := Lib.hid hLl
    clear hLl
    have cn : wr.cell? ⟨E.gn, 0, none⟩ = some (.int .i64 (c.length : Int)) := by
      rw [← HN.out]; exact (hS2.blk 5 rfl).cell 0
    by_cases hil : i < c.length
    · have hii : (i : Int) < (c.length : Int) := by omega
      obtain ⟨g1, k2, hv1, -⟩ := row_form (hS2.row 0 rfl) (by omega)
      injection hv1 with hA1 _ hk
      subst hA1
      subst hk
      have hx : ∃ x, (blv L)[i]? = some (.bool x) := by
        obtain ⟨x, hx⟩ : ∃ x, L[i]? = some x := ⟨_, List.getElem?_eq_getElem (by have := HLl.out; omega)⟩
        exact ⟨x, by rw [blv, List.getElem?_map, hx]; rfl⟩
      obtain ⟨x, hx⟩ := hx
      have cx := row_cell (hS2.row 0 rfl) hx
      have fx := row_frozen (hS2.row 0 rfl) i
      have hS3 := hS2.rowset 0 rfl i (by omega) (.bool true)
      rw [show (blv L).set i (.bool true) = blv (L.set i true) from by simp [blv, List.map_set]] at hS3
      have HS3 := Lib.hid hS3
      have HL2 : Hid (∀ j, j < c.length → gb (L.set i true) j = if fr ≤ j ∧ j < i + 1 then true else gb c j) := by
        refine Lib.hid fun j hj => ?_
        rw [gb_set _ _ _ _ (by have := HLl.out; omega)]
        by_cases hji : j = i
        · rw [if_pos hji, if_pos (by omega)]
        · rw [if_neg hji, HL.out j hj]
          by_cases h5 : fr ≤ j ∧ j < i
          · rw [if_pos h5, if_pos (by omega)]
          · rw [if_neg h5, if_neg (by omega)]
      clear hx hS3 hS2 HL
      go_wp2_with fail
      go_roundg (c.length - (i + 1))
      case measure => omega
      case rel => exact ⟨i + 1, L.set i true, by omega, by omega, rfl, by first | rfl | simp, by rw [List.length_set]; exact HLl.out, HS3.out, HL2⟩
    · have hii : ¬ (i : Int) < (c.length : Int) := by omega
      have HF : Hid (L = fillM c fr) := by
        refine Lib.hid (mask_ext (by rw [fillM_length _ _ hfr]; exact HLl.out) fun j hj => ?_)
        have hj' : j < c.length := by have := HLl.out; omega
        rw [HL.out j hj', gb_fill _ _ _ hfr hj']
        by_cases h5 : j < fr
        · rw [if_pos h5, if_neg (by omega)]
        · rw [if_neg h5, if_pos (by omega)]
      obtain ⟨A2, k2, hv2, hBL⟩ := row_bools (hS2.row 0 rfl)
      injection hv2 with hA2 _ hk2
      subst hA2
      subst hk2
      have c2 := (hS2.blk 3 rfl).cell 0
      simp only [List.getElem?_cons_zero] at c2
      have HC := Lib.hid (holds_any E.gf E.A A1 E.cc k1 E.F L hE.F512 hE.kids (hE.valid (HLl.out.trans HN.out.symm)) wr ((hS2.blk 4 rfl).cell 0) (hE.gates (hS2.sep.ok _ (List.mem_of_getElem? (i := 6) rfl))) hBL (by have := HLl.out; omega))
      rw [HLl.out, HF.out] at HC
      have HS2 := Lib.hid hS2
      clear HF HL HLl hBL hS2
      go_wp2_with fail
      refine HC.out.mono ?_
      rintro e w4 ⟨rfl, hb4⟩
      go_wp2_with fail
      go_ret
      exact ⟨rfl, (HS2.out.next hb4).tail⟩
end Go.Proofs.YteaaeaimjbaomaaDoor

/-
  formula.copied.
-/
namespace Go.Proofs.YteaaeaimjbaomaaDoor
open Go.RowKit
set_option linter.unusedVariables false

theorem add_pos (ad : Addr) (n k : Nat) (hk : 0 < k) : ad.add (n + k) = ⟨(ad.add n).block, (ad.add n).off + k, none⟩ := by
  unfold Addr.add
  rw [if_neg (by omega)]
  by_cases hn : n = 0
  · rw [if_pos hn, hn, Nat.zero_add]
  · rw [if_neg hn, Nat.add_assoc]
/-- the gates of a formula as they come in, with the slices of their kids -/
theorem Gates.vals {w : World} {ad : Addr} {F : List Gt} (h : Gates w w.heap.size (some ad) F) : ∃ P : List GV, gts P = F ∧ (∀ x ∈ P, ∃ KA c, x.2 = .slice KA x.1.kids.length c ∧ Ints w w.heap.size KA x.1.kids) ∧
    (∀ u ∈ gcells P, u.oneCell' = true) ∧ ∀ j u, (gcells P)[j]? = some u → w.cell? (ad.add j) = some u := by
  have hP : ∀ i x, (F.zipIdx.map fun y => ((y.1, (w.cell? (ad.add (y.2 * 3 + 1))).getD undef) : GV))[i]? = some x → F[i]? = some x.1 ∧ (∃ KA c, x.2 = .slice KA x.1.kids.length c ∧ Ints w w.heap.size KA x.1.kids) ∧
      w.cell? (ad.add (i * 3)) = some (.int .i64 x.1.need) ∧ w.cell? (ad.add (i * 3 + 1)) = some x.2 ∧ w.cell? (ad.add (i * 3 + 2)) = some (.int .i64 x.1.leaf) := by
    intro i x hx
    rw [List.getElem?_map, List.getElem?_zipIdx] at hx
    cases hg : F[i]? with
    | none => rw [hg] at hx; cases hx
    | some g =>
      rw [hg] at hx
      simp only [Option.map_some, Nat.zero_add] at hx
      cases hx
      obtain ⟨ad', hA, KA, kc, a, b, c, d⟩ := h.read (Below.refl _ _) hg
      cases hA
      have b' : w.cell? (ad.add (i * 3 + 1)) = some (.slice KA g.kids.length kc) := by rw [add_pos ad (i * 3) 1 (by omega)]; exact b
      have c' : w.cell? (ad.add (i * 3 + 2)) = some (.int .i64 g.leaf) := by rw [add_pos ad (i * 3) 2 (by omega)]; exact c
      refine ⟨rfl, ⟨KA, kc, ?_, d⟩, a, ?_, c'⟩
      · show (w.cell? _).getD undef = _
        rw [b']; rfl
      · show _ = some ((w.cell? _).getD undef)
        rw [b']; rfl
  generalize hPP : (F.zipIdx.map fun y => ((y.1, (w.cell? (ad.add (y.2 * 3 + 1))).getD undef) : GV)) = P at *
  have hlen : P.length = F.length := by rw [← hPP]; simp
  have hall : ∀ j u, (gcells P)[j]? = some u → w.cell? (ad.add j) = some u ∧ u.oneCell' = true := by
    intro j u hu
    have hj : j < P.length * 3 := by
      have := (List.getElem?_eq_some_iff.1 hu).1
      rw [gcells_length] at this; exact this
    obtain ⟨x, hx⟩ : ∃ x, P[j / 3]? = some x := ⟨_, List.getElem?_eq_getElem (by omega)⟩
    obtain ⟨a1, a2, a3⟩ := gcells_at hx
    obtain ⟨_, ⟨KA, kc, hv, _⟩, b1, b2, b3⟩ := hP _ _ hx
    rcases (by omega : j = j / 3 * 3 ∨ j = j / 3 * 3 + 1 ∨ j = j / 3 * 3 + 2) with hh | hh | hh
    · rw [hh, a1] at hu; cases hu; rw [hh]; exact ⟨b1, rfl⟩
    · rw [hh, a2] at hu; cases hu; rw [hh]; exact ⟨b2, by rw [hv]; rfl⟩
    · rw [hh, a3] at hu; cases hu; rw [hh]; exact ⟨b3, rfl⟩
  refine ⟨P, ?_, fun x hx => ?_, fun u hu => ?_, fun j u hu => (hall j u hu).1⟩
  · apply List.ext_getElem?
    intro i
    rw [List.getElem?_map]
    cases hx : P[i]? with
    | none => rw [Option.map_none, List.getElem?_eq_none (by have := List.getElem?_eq_none_iff.1 hx; omega)]
    | some x => rw [Option.map_some, (hP i x hx).1]
  · obtain ⟨i, hi⟩ := List.mem_iff_getElem?.1 hx
    exact (hP i x hi).2.1
  · obtain ⟨i, hi⟩ := List.mem_iff_getElem?.1 hu
    exact (hall i u hi).2
end Go.Proofs.YteaaeaimjbaomaaDoor

/-
  formula.copied walked.
-/
namespace Go.Proofs.YteaaeaimjbaomaaDoor
open Go.RowKit
set_option linter.unusedVariables false

theorem ints_row {w W : World} {B : Nat} {KA : Option Addr} {l : List Int} (h : Ints w B KA l) (hb : Below B w W) : ∀ ka, KA = some ka → ∀ j u, (ivals l)[j]? = some u → W.cell? (ka.add j) = some u := by
  intro ka hka j u hu
  rw [ivals, List.getElem?_map] at hu
  obtain ⟨x, hx, rfl⟩ := Option.map_eq_some_iff.1 hu
  obtain ⟨ka', hk', hc⟩ := h.read hb hx
  rw [hka] at hk'
  cases hk'
  exact hc
/-- []int is cloned -/
theorem clone_kids {w W : World} {B : Nat} {KA : Option Addr} {l : List Int} {c : Nat} (h : Ints w B KA l) (hb : Below B w W) (hB : B ≤ W.heap.size) (hl : l.length ≤ 1000000) :
    Calls Tryd.prog 38 #[.slice KA l.length c] W fun e w' => ∃ v, e = .returned v ∧ Hp [] W [irow 3 1 v l.length (ivals l)] w' := by
  cases hKA : KA with
  | none =>
    have hl0 : l = [] := by
      apply Classical.byContradiction
      intro h9
      obtain ⟨ad, h1, _⟩ := h.some_ h9
      rw [hKA] at h1; cases h1
    subst hl0
    refine (clone_ints_nil 0 c W).mono ?_
    rintro e w' ⟨rfl, rfl⟩
    exact ⟨_, rfl, (Hp.start w').nilrow 3 1⟩
  | some ka =>
    refine clone_ints ka l.length c (ivals l) (by simp [ivals]) hl W (ints_row h hb ka hKA) (by intro u hu; obtain ⟨x, _, rfl⟩ := List.mem_map.1 hu; rfl) (fun hne => ?_)
    have hl0 : l ≠ [] := by rintro rfl; exact hne rfl
    obtain ⟨ad, h1, h2, _⟩ := h.some_ hl0
    rw [hKA] at h1
    cases h1
    omega
/-- []api.Gate is cloned -/
theorem clone_formula {w : World} {A : Option Addr} {F : List Gt} {c : Nat} (h : Gates w w.heap.size A F) (hF : F.length ≤ 1000000) :
    Calls Tryd.prog 63 #[.slice A F.length c] w fun e w' => ∃ v P, e = .returned v ∧ Hp [] w [irow 40 3 v F.length (gcells P)] w' ∧ gts P = F ∧ ∀ x ∈ P, ∃ KA c, x.2 = .slice KA x.1.kids.length c ∧ Ints w w.heap.size KA x.1.kids := by
  cases hA : A with
  | none =>
    have hF0 : F = [] := by
      apply Classical.byContradiction
      intro h9
      obtain ⟨ad, h1, _⟩ := h.some_ h9
      rw [hA] at h1; cases h1
    subst hF0
    refine (clone_gates_nil 0 c w).mono ?_
    rintro e w' ⟨rfl, rfl⟩
    exact ⟨_, [], rfl, (Hp.start w').nilrow 40 3, rfl, fun x hx => (by cases hx)⟩
  | some ad =>
    rw [hA] at h
    obtain ⟨P, h1, h2, h3, h4⟩ := h.vals
    have hl : P.length = F.length := by rw [← h1]; simp
    refine (clone_gates ad F.length c (gcells P) (by rw [gcells_length, hl]) hF w h4 h3 (fun hne => ?_)).mono ?_
    · have hl0 : F ≠ [] := by
        rintro rfl
        rw [List.length_nil] at hl
        rw [List.eq_nil_of_length_eq_zero hl] at hne
        exact hne rfl
      obtain ⟨ad', g1, g2, _⟩ := h.some_ hl0
      cases g1
      exact g2
    · rintro e w' ⟨v, rfl, hv⟩
      exact ⟨v, P, rfl, hv, h1, h2⟩
set_option maxRecDepth 20000 in
set_option maxHeartbeats 4000000 in
theorem copied_any (A : Option Addr) (c : Nat) (F : List Gt) (hF : F.length ≤ 1000000) (hK : ∀ g ∈ F, g.kids.length ≤ 1000000) (w : World) (hG : Gates w w.heap.size A F) :
    Calls Tryd.prog 52 #[.agg #[.slice A F.length c]] w fun e w' => ∃ x A' c' Q, e = .returned (.agg #[.slice A' F.length c']) ∧ gts Q = F ∧ Q.length = F.length ∧ Hp [] w (x :: irow 40 3 (.slice A' F.length c') F.length (gcells Q) :: kidIts Q) w' := by
  have hk : Hp [] w [iblk (w.heap.size + 1) 24 [.slice none 0 0], iblk w.heap.size 24 [.slice A F.length c]] ((w.alloc (.cells #[.slice A F.length c] 24)).alloc (.cells #[.slice none 0 0] 24)) := by
    have := ((Hp.start w).new 24 [.slice A F.length c]).new 24 [.slice none 0 0]
    have hsz : ∀ (w : World) (o : Obj), (w.alloc o).heap.size = w.heap.size + 1 := fun w o => by simp
    rw [hsz] at this
    exact this
  go_enter Tryd.func52, Tryd.ntmps52
  go_upto_region 1 with fail
  generalize (w.alloc (.cells #[.slice A F.length c] 24)).alloc (.cells #[.slice none 0 0] 24) = W at *
  generalize w.heap.size + 1 = gr at *
  have c0 := (hk.blk 1 rfl).cell 0
  simp only [List.getElem?_cons_zero] at c0
  have hGW := hG.keep' hk.below0
  have HC := Lib.hid (clone_formula (c := c) hGW hF)
  go_wp2_with fail
  refine HC.out.mono ?_
  rintro e w1 ⟨v, P, rfl, hv, hP, hI⟩
  have hS1 : Hp [] w (irow 40 3 v F.length (gcells P) :: [iblk gr 24 [.slice none 0 0], iblk w.heap.size 24 [.slice A F.length c]]) w1 := Hp.call (a := []) hk hv
  have hbW : Below W.heap.size W w1 := hv.below0
  have hge0 : ∀ b, v.ownBlock = some b → W.heap.size ≤ b := fun b hb => hv.ge (by simp [irow, hb])
  have hsW := hk.size
  obtain ⟨A1, k1, rfl⟩ := row_forms (hS1.row 0 rfl)
  have hPl : P.length = F.length := by rw [← hP]; simp
  clear hk HC hv c0
  go_upto_region 3 with fail
  go_loopg [10] F.length (fun m s10 wx => ∃ (i : Nat) (Q : List GV), i ≤ F.length ∧ m = F.length - i ∧ s10 = .int .i64 (i : Int) ∧ Hid (gts Q = F) ∧ Below W.heap.size W wx ∧ Hp [] w (irow 40 3 (.slice A1 F.length k1) F.length (gcells Q) :: (kidIts (Q.take i) ++ [iblk gr 24 [.slice none 0 0], iblk w.heap.size 24 [.slice A F.length c]])) wx ∧ Hid (∀ j x, i ≤ j → Q[j]? = some x → ∃ KA c, x.2 = .slice KA x.1.kids.length c ∧ Ints W W.heap.size KA x.1.kids))
  case atStart => exact ⟨0, P, Nat.zero_le _, rfl, rfl, Lib.hid hP, hbW, hS1, Lib.hid (fun j x _ hx => hI x (List.mem_of_getElem? hx))⟩
  case round =>
    obtain ⟨i, Q, hi, rfl, rfl, HQ, hbx, hS, HI⟩ := hrel
    clear hS1 hbW
    have hQl : Q.length = F.length := by rw [← HQ.out]; simp
    have HQl := Lib.hid hQl
    clear hQl
    by_cases hil : i < F.length
    · obtain ⟨x, hx⟩ : ∃ x, Q[i]? = some x := ⟨_, List.getElem?_eq_getElem (by have := HQl.out; omega)⟩
      obtain ⟨KA, kc, hxv, hxi⟩ := HI.out i x (Nat.le_refl _) hx
      have hxF : F[i]? = some x.1 := by rw [← HQ.out, List.getElem?_map, hx]; rfl
      have hkx := hK x.1 (List.mem_of_getElem? hxF)
      obtain ⟨g1, k2, hv1, -⟩ := row_form (hS.row 0 rfl) (by omega)
      injection hv1 with hA1 _ hk2
      subst hA1
      subst hk2
      obtain ⟨q1, q2, q3⟩ := gcells_at hx
      have ck := row_cell (hS.row 0 rfl) q2
      rw [hxv] at ck
      have hii : (i : Int) < (F.length : Int) := by omega
      have hi0 : (0 : Int) ≤ (i : Int) := by omega
      have HC := Lib.hid (clone_kids (c := kc) hxi hbx hbx.size hkx)
      go_wp2_with fail
      refine HC.out.mono ?_
      rintro e w3 ⟨v', rfl, hv'⟩
      have hS3 : Hp [] w (irow 3 1 v' x.1.kids.length (ivals x.1.kids) :: irow 40 3 (.slice (some ⟨g1, 0, none⟩) F.length k1) F.length (gcells Q) :: (kidIts (Q.take i) ++ [iblk gr 24 [.slice none 0 0], iblk w.heap.size 24 [.slice A F.length c]])) w3 := Hp.call (a := []) hS hv'
      have hb3 : Below W.heap.size wr w3 := hv'.below0.mono hbx.size
      obtain ⟨A5, k5, rfl⟩ := row_forms (hS3.row 0 rfl)
      have ck3 := row_cell (hS3.row 1 rfl) q2
      rw [hxv] at ck3
      have fk3 := row_frozen (hS3.row 1 rfl) (i * 3 + 1)
      have hS4 := hS3.rowset 1 rfl (i * 3 + 1) (by omega) (.slice A5 x.1.kids.length k5)
      rw [(gcells_set hx 0 0 x.1.kids (.slice A5 x.1.kids.length k5)).2.1] at hS4
      have hge : W.heap.size ≤ g1 := hge0 g1 rfl
      have hb4 : Below W.heap.size W (w3.setCell ⟨g1, i * 3 + 1, none⟩ (.slice A5 x.1.kids.length k5)) := (hbx.trans hb3).setCell hge _
      have HB4 := Lib.hid hb4
      have HS4 := Lib.hid hS4
      have HX := Lib.hid hx
      clear hS hS3 hS4 HC hv' hb3 hb4 ck q1 q2 q3 hx hxv hxF
      go_wp2_with fail
      go_roundg (F.length - (i + 1))
      case measure => omega
      case rel =>
        have hil' : i < Q.length := by have := HQl.out; omega
        refine ⟨i + 1, Q.set i (⟨x.1.need, x.1.kids, x.1.leaf⟩, .slice A5 x.1.kids.length k5), hil, rfl, by first | rfl | simp, ?_, HB4.out, ?_, ?_⟩
        · refine Lib.hid ?_
          rw [← HQ.out]
          show (Q.set i _).map Prod.fst = _
          rw [List.map_set]
          apply List.ext_getElem?
          intro j
          rw [List.getElem?_set]
          split
          · rename_i hij
            subst hij
            rw [if_pos (by simpa using hil'), List.getElem?_map, HX.out]; rfl
          · rfl
        · have e : (Q.set i ((⟨x.1.need, x.1.kids, x.1.leaf⟩ : Gt), Value.slice A5 x.1.kids.length k5)).take (i + 1) = Q.take i ++ [(⟨x.1.need, x.1.kids, x.1.leaf⟩, .slice A5 x.1.kids.length k5)] := by
            rw [List.take_add_one, List.take_set_of_le (Nat.le_refl _), List.getElem?_set_self hil']; rfl
          rw [e, kidIts_append]
          refine HS4.out.perm ?_
          refine (List.Perm.swap _ _ _).trans (List.Perm.cons _ ?_)
          rw [List.append_assoc]
          exact List.perm_middle.symm
        · refine Lib.hid fun j y hj hy => ?_
          rw [List.getElem?_set_ne (by omega)] at hy
          exact HI.out j y (by omega) hy
    · have hie : i = F.length := by omega
      have hii : ¬ (i : Int) < (F.length : Int) := by omega
      have htk : Q.take i = Q := List.take_of_length_le (by have := HQl.out; omega)
      rw [htk] at hS
      have hS2 : Hp [] w (iblk gr 24 [.slice none 0 0] :: iblk w.heap.size 24 [.slice A F.length c] :: irow 40 3 (.slice A1 F.length k1) F.length (gcells Q) :: kidIts Q) wr := hS.perm (List.perm_append_comm (l₁ := irow 40 3 (.slice A1 F.length k1) F.length (gcells Q) :: kidIts Q))
      have cr := (hS2.blk 0 rfl).cell 0
      have fr := (hS2.blk 0 rfl).frozen 0
      simp only [List.getElem?_cons_zero] at cr
      have hS3 := hS2.set 0 rfl 0 (.slice A1 F.length k1)
      have d0 := (hS3.blk 0 rfl).cell 0
      simp only [List.getElem?_cons_zero, List.set_cons_zero] at d0
      have HS3 := Lib.hid hS3
      clear hS hS2 hS3 htk
      go_wp2_with fail
      refine bodyPost_ret (v := .agg #[.slice A1 F.length k1]) (by simp [results, Tryd.results52, go_sem, d0]) rfl ?_
      have h9 := HS3.out
      exact ⟨_, A1, k1, rfl, Q, HQ.out, HQl.out, h9.tail⟩
end Go.Proofs.YteaaeaimjbaomaaDoor
