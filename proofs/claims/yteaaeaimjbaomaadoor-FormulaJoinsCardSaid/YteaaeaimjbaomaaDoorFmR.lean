import Derived.Test.YteaaeaimjbaomaaDoorFmT
import Derived.Lib.Atoi
import Derived.Test.YteaaeaimjbaomaaDoorHp
import Derived.Test.YteaaeaimjbaomaaDoorShelf
import Derived.Deep.LoopGhost
import Derived.Deep.DeepCutAuto
import Derived.Deep.CutBlock
import Derived.Deep.RegionHeld3
import Derived.Lib.AtoiErrMem
import Derived.Deep.QuietTactic
import Derived.BigQuiet
import Derived.Defers
import Derived.Recover
import Derived.Laws.Pointers
import Derived.Test.YteaaeaimjbaomaaDoorFmA
/-
  Reading the text of a formula, plain.
-/
namespace Go.Proofs.YteaaeaimjbaomaaDoor
set_option linter.unusedVariables false

def isD (b : UInt8) : Bool := decide (48 ≤ b.toNat) && decide (b.toNat ≤ 57)
/-- how many digits of a number are read; z: the first one is 0 -/
def numL (z : Bool) : Nat → List UInt8 → Nat
  | k, [] => k
  | k, b :: r => if isD b && decide (k < 9) && !(decide (0 < k) && z) then numL z (k + 1) r else k
def isZ (l : List UInt8) : Bool := decide (l.headD 0 = 48)
def numLen (l : List UInt8) : Nat := numL (isZ l) 0 l
def numV (p : List UInt8) : Int := p.foldl (fun v b => 10 * v + ((b.toNat : Int) - 48)) 0
def nOk (l : List UInt8) : Bool := decide (0 < numLen l) && !isD ((l.drop (numLen l)).headD 0)
abbrev GR := Bool × List UInt8 × List Gt
def kidsR (g : List UInt8 → List Gt → GR) : Nat → List UInt8 → List Gt → List Int → GR × List Int
  | 0, l, G, ks => ((false, l, G), ks)
  | m + 1, l, G, ks =>
    if (g (l.drop 1) G).1 = false then (g (l.drop 1) G, ks)
    else if (g (l.drop 1) G).2.1.headD 0 = 44 then kidsR g m (g (l.drop 1) G).2.1 (g (l.drop 1) G).2.2 (ks ++ [(G.length : Int)])
    else if (g (l.drop 1) G).2.1.headD 0 = 41 then ((true, (g (l.drop 1) G).2.1.drop 1, (g (l.drop 1) G).2.2), ks ++ [(G.length : Int)])
    else ((false, (g (l.drop 1) G).2), ks ++ [(G.length : Int)])
def gateP : Nat → List UInt8 → List Gt → GR
  | 0, l, G => (false, l, G)
  | f + 1, l, G =>
    if nOk l = false then (false, l.drop (numLen l), G)
    else if (l.drop (numLen l)).headD 0 ≠ 40 then (true, l.drop (numLen l), G ++ [⟨0, [], numV (l.take (numLen l))⟩])
    else if (kidsR (gateP f) f (l.drop (numLen l)) (G ++ [⟨0, [], 0⟩]) []).1.1 = false then (kidsR (gateP f) f (l.drop (numLen l)) (G ++ [⟨0, [], 0⟩]) []).1
    else (true, (kidsR (gateP f) f (l.drop (numLen l)) (G ++ [⟨0, [], 0⟩]) []).1.2.1, (kidsR (gateP f) f (l.drop (numLen l)) (G ++ [⟨0, [], 0⟩]) []).1.2.2.set G.length ⟨numV (l.take (numLen l)), (kidsR (gateP f) f (l.drop (numLen l)) (G ++ [⟨0, [], 0⟩]) []).2, 0⟩)
theorem numL_le (z : Bool) : ∀ (l : List UInt8) (k : Nat), k ≤ numL z k l ∧ numL z k l ≤ k + l.length
  | [], k => ⟨Nat.le_refl _, by simp [numL]⟩
  | b :: r, k => by
    have := numL_le z r (k + 1)
    rw [numL, List.length_cons]
    split <;> omega
theorem numLen_le (l : List UInt8) : numLen l ≤ l.length := by have := (numL_le (isZ l) l 0).2; rw [numLen]; omega
theorem numL_nine (z : Bool) : ∀ (l : List UInt8) (k : Nat), k ≤ 9 → numL z k l ≤ 9
  | [], k, h => by simpa [numL] using h
  | b :: r, k, h => by
    rw [numL]
    split
    · rename_i h9
      simp only [Bool.and_eq_true, decide_eq_true_eq] at h9
      exact numL_nine z r (k + 1) (by omega)
    · exact h
theorem numLen_nine (l : List UInt8) : numLen l ≤ 9 := numL_nine _ l 0 (by omega)
theorem numV_append (p : List UInt8) (b : UInt8) : numV (p ++ [b]) = 10 * numV p + ((b.toNat : Int) - 48) := by simp [numV]
theorem numL_digits (z : Bool) : ∀ (l : List UInt8) (k : Nat), ∀ b ∈ l.take (numL z k l - k), isD b = true
  | [], k, b, h => by simp at h
  | c :: r, k, b, h => by
    rw [numL] at h
    by_cases h9 : (isD c && decide (k < 9) && !(decide (0 < k) && z)) = true
    · rw [if_pos h9] at h
      have hle := (numL_le z r (k + 1)).1
      rw [show numL z (k + 1) r - k = (numL z (k + 1) r - (k + 1)) + 1 by omega, List.take_succ_cons] at h
      rcases List.mem_cons.1 h with rfl | h
      · simp only [Bool.and_eq_true] at h9
        exact h9.1.1
      · exact numL_digits z r (k + 1) b h
    · rw [if_neg h9, Nat.sub_self] at h
      cases h
theorem numLen_digits (l : List UInt8) : ∀ b ∈ l.take (numLen l), isD b = true := by
  have := numL_digits (isZ l) l 0
  rw [Nat.sub_zero] at this
  exact this
theorem decFrom_digits : ∀ (p : List UInt8) (acc : Nat), (∀ b ∈ p, isD b = true) → ∃ m, Lib.decFrom acc p = some m ∧ (m : Int) = p.foldl (fun v b => 10 * v + ((b.toNat : Int) - 48)) (acc : Int)
  | [], acc, _ => ⟨acc, rfl, rfl⟩
  | b :: r, acc, h => by
    have hb := h b (List.mem_cons_self ..)
    unfold isD at hb
    simp only [Bool.and_eq_true, decide_eq_true_eq] at hb
    obtain ⟨m, h1, h2⟩ := decFrom_digits r (acc * 10 + (b.toNat - 48)) (fun c hc => h c (List.mem_cons_of_mem _ hc))
    refine ⟨m, ?_, ?_⟩
    · rw [Lib.decFrom, Lib.digitVal, if_pos hb]; exact h1
    · rw [h2, List.foldl_cons]
      congr 1
      omega
theorem atoi_digits (p : List UInt8) (hp : p ≠ []) (h : ∀ b ∈ p, isD b = true) : Lib.atoi p = some (numV p) := by
  obtain ⟨m, h1, h2⟩ := decFrom_digits p 0 h
  cases p with
  | nil => exact absurd rfl hp
  | cons b r =>
    have hb := h b (List.mem_cons_self ..)
    unfold isD at hb
    simp only [Bool.and_eq_true, decide_eq_true_eq] at hb
    have hn : Lib.decNat (b :: r) = some m := by rw [Lib.decNat, if_neg (by simp)]; exact h1
    have c1 : (b == 45) = false := by
      rw [beq_eq_false_iff_ne]; intro h9; rw [h9] at hb; simp at hb
    have c2 : (b == 43) = false := by
      rw [beq_eq_false_iff_ne]; intro h9; rw [h9] at hb; simp at hb
    rw [Lib.atoi, c1, c2]
    simp only [Bool.false_eq_true, if_false]
    rw [hn]
    show some (m : Int) = _
    rw [h2]; rfl
theorem nOk_pos {l : List UInt8} (h : nOk l = true) : 0 < numLen l ∧ isD ((l.drop (numLen l)).headD 0) = false := by
  unfold nOk at h
  simpa using h
theorem nOk_rest {l : List UInt8} (h : nOk l = true) : (l.drop (numLen l)).length < l.length := by
  have := nOk_pos h
  have := numLen_le l
  rw [List.length_drop]
  omega
theorem headD_pos {l : List UInt8} {c : UInt8} (h : l.headD 0 = c) (hc : c ≠ 0) : (l.drop 1).length + 1 = l.length := by
  cases l with
  | nil => exact absurd h.symm hc
  | cons a r => simp
/-- what a reader of gates keeps -/
structure GOut (l : List UInt8) (G : List Gt) (r : GR) : Prop where
  rest : r.2.1.length ≤ l.length
  lt : r.1 = true → r.2.1.length < l.length
  cnt : r.1 = true → r.2.2.length + r.2.1.length ≤ G.length + l.length
  pre : r.1 = true → ∃ Gn, r.2.2 = G ++ Gn ∧ 0 < Gn.length
structure KOut (l : List UInt8) (G : List Gt) (ks : List Int) (r : GR × List Int) : Prop where
  rest : r.1.2.1.length ≤ l.length
  cnt : r.1.1 = true → r.1.2.2.length + r.1.2.1.length + 1 ≤ G.length + l.length
  pre : r.1.1 = true → ∃ Gn, r.1.2.2 = G ++ Gn
  kn : r.1.1 = true → r.2.length + G.length ≤ r.1.2.2.length + ks.length ∧ ks.length < r.2.length
theorem kids_out {g : List UInt8 → List Gt → GR} (hg : ∀ l G, GOut l G (g l G)) : ∀ (m : Nat) (l : List UInt8) (G : List Gt) (ks : List Int), l ≠ [] → KOut l G ks (kidsR g m l G ks)
  | 0, l, G, ks, hl => ⟨Nat.le_refl _, fun h => (by cases h), fun h => (by cases h), fun h => (by cases h)⟩
  | m + 1, l, G, ks, hl => by
    have h := hg (l.drop 1) G
    have hl1 : (l.drop 1).length + 1 = l.length := by
      cases l with
      | nil => exact absurd rfl hl
      | cons a r => simp
    rw [kidsR]
    by_cases c1 : (g (l.drop 1) G).1 = false
    · rw [if_pos c1]
      have := h.rest
      exact ⟨by show (g (l.drop 1) G).2.1.length ≤ _; omega, fun h9 => (by rw [c1] at h9; cases h9), fun h9 => (by rw [c1] at h9; cases h9), fun h9 => (by rw [c1] at h9; cases h9)⟩
    · rw [if_neg c1]
      have c1' : (g (l.drop 1) G).1 = true := by simpa using c1
      have e1 := h.lt c1'
      have e2 := h.cnt c1'
      obtain ⟨Gn, e3, e4⟩ := h.pre c1'
      by_cases c2 : (g (l.drop 1) G).2.1.headD 0 = 44
      · rw [if_pos c2]
        have hne : (g (l.drop 1) G).2.1 ≠ [] := by
          intro h9
          rw [h9] at c2; cases c2
        have ih := kids_out hg m (g (l.drop 1) G).2.1 (g (l.drop 1) G).2.2 (ks ++ [(G.length : Int)]) hne
        refine ⟨?_, fun h9 => ?_, fun h9 => ?_, fun h9 => ?_⟩
        · have := ih.rest; omega
        · have := ih.cnt h9; omega
        · obtain ⟨Gm, q⟩ := ih.pre h9
          exact ⟨Gn ++ Gm, by rw [q, e3, List.append_assoc]⟩
        · obtain ⟨q1, q2⟩ := ih.kn h9
          have e5 := congrArg List.length e3
          simp only [List.length_append, List.length_cons, List.length_nil] at q1 q2 e5
          omega
      · rw [if_neg c2]
        by_cases c3 : (g (l.drop 1) G).2.1.headD 0 = 41
        · rw [if_pos c3]
          have := headD_pos c3 (by decide)
          refine ⟨?_, fun _ => ?_, fun _ => ⟨Gn, e3⟩, fun _ => ?_⟩
          · show ((g (l.drop 1) G).2.1.drop 1).length ≤ _; omega
          · show (g (l.drop 1) G).2.2.length + ((g (l.drop 1) G).2.1.drop 1).length + 1 ≤ _; omega
          · show (ks ++ [(G.length : Int)]).length + G.length ≤ (g (l.drop 1) G).2.2.length + ks.length ∧ ks.length < (ks ++ [(G.length : Int)]).length
            rw [e3]
            simp only [List.length_append, List.length_cons, List.length_nil]
            omega
        · rw [if_neg c3]
          exact ⟨by show (g (l.drop 1) G).2.1.length ≤ _; omega, fun h9 => (by cases h9), fun h9 => (by cases h9), fun h9 => (by cases h9)⟩
theorem gate_out : ∀ (f : Nat) (l : List UInt8) (G : List Gt), GOut l G (gateP f l G)
  | 0, l, G => ⟨Nat.le_refl _, fun h => (by cases h), fun h => (by cases h), fun h => (by cases h)⟩
  | f + 1, l, G => by
    have hd : (l.drop (numLen l)).length ≤ l.length := by rw [List.length_drop]; omega
    rw [gateP]
    by_cases c1 : nOk l = false
    · rw [if_pos c1]
      exact ⟨hd, fun h => (by cases h), fun h => (by cases h), fun h => (by cases h)⟩
    · rw [if_neg c1]
      have hr := nOk_rest (l := l) (by simpa using c1)
      by_cases c2 : (l.drop (numLen l)).headD 0 ≠ 40
      · rw [if_pos c2]
        refine ⟨hd, fun _ => hr, fun _ => ?_, fun _ => ⟨_, rfl, by simp⟩⟩
        show (G ++ [_]).length + _ ≤ _
        simp only [List.length_append, List.length_cons, List.length_nil]
        omega
      · rw [if_neg c2]
        have c2' : (l.drop (numLen l)).headD 0 = 40 := Classical.byContradiction c2
        have hne : l.drop (numLen l) ≠ [] := by
          intro h9
          rw [h9] at c2'; cases c2'
        have hk := kids_out (gate_out f) f (l.drop (numLen l)) (G ++ [⟨0, [], 0⟩]) [] hne
        generalize kidsR (gateP f) f (l.drop (numLen l)) (G ++ [⟨0, [], 0⟩]) [] = q at *
        have k1 := hk.rest
        by_cases c3 : q.1.1 = false
        · rw [if_pos c3]
          exact ⟨by omega, fun h => (by rw [c3] at h; cases h), fun h => (by rw [c3] at h; cases h), fun h => (by rw [c3] at h; cases h)⟩
        · rw [if_neg c3]
          have c3' : q.1.1 = true := by simpa using c3
          have k2 := hk.cnt c3'
          obtain ⟨Gn, k3⟩ := hk.pre c3'
          refine ⟨by show q.1.2.1.length ≤ _; omega, fun _ => by show q.1.2.1.length < _; omega, fun _ => ?_, fun _ => ?_⟩
          · show (q.1.2.2.set _ _).length + q.1.2.1.length ≤ _
            rw [List.length_set]
            simp only [List.length_append, List.length_cons, List.length_nil] at k2
            omega
          · refine ⟨⟨numV (l.take (numLen l)), q.2, 0⟩ :: Gn, ?_, by simp⟩
            show q.1.2.2.set _ _ = _
            rw [k3]
            simp
end Go.Proofs.YteaaeaimjbaomaaDoor

/-
  (*formula.reader).number.
-/
namespace Go.Proofs.YteaaeaimjbaomaaDoor
open Go.RowKit
set_option linter.unusedVariables false

abbrev ptr (g : Nat) : Value := .pointer (some ⟨g, 0, none⟩)
/-- the reader of formula.Parse -/
abbrev irdr (g : Nat) (s : ByteArray) (p : Nat) (v : Value) : It := iblk g 88 [.string s, .int .i64 (p : Int), v]
theorem rdr_at {o : List Nat} {w W : World} {g : Nat} {s : ByteArray} {p : Nat} {v : Value} {r : List It} (h : Hp o w (irdr g s p v :: r) W) (q : Nat) (n : Int) (hn : n = (q : Int)) : Hp o w (irdr g s q v :: r) (W.setCell ⟨g, 1, none⟩ (.int .i64 n)) := by
  subst hn; exact h.set 0 rfl 1 (.int .i64 (q : Int))
theorem rdr_cells {o : List Nat} {w W : World} {g : Nat} {s : ByteArray} {p : Nat} {v : Value} {r : List It} (h : Hp o w (irdr g s p v :: r) W) : W.cell? ⟨g, 0, none⟩ = some (.string s) ∧ W.cell? ⟨g, 1, none⟩ = some (.int .i64 (p : Int)) := ⟨(h.blk 0 rfl).cell 0, (h.blk 0 rfl).cell 1⟩
def pan : Ending := .panicked [{ v := .iface 27 (.int .i64 4), recovered := false }]
def numOut (l : List UInt8) : Ending := if nOk l then .returned (.int .i64 (numV (l.take (numLen l)))) else pan
theorem at_tl (s : ByteArray) (p : Nat) (h : p < s.size) : (tl s).drop p = s[p] :: (tl s).drop (p + 1) := by
  rw [List.drop_eq_getElem_cons (by rw [length_tl]; exact h), tl_getElem s p h]
set_option maxHeartbeats 2000000 in
set_option maxRecDepth 20000 in
theorem number_any (g : Nat) (s : ByteArray) (a : Nat) (v : Value) (hs : s.size ≤ 2000) (W : World) (hB : Blk W g 88 [.string s, .int .i64 (a : Int), v]) :
    Calls Tryd.prog 62 #[ptr g] W fun e w' => e = numOut ((tl s).drop a) ∧ Hp [g] W [irdr g s (a + numLen ((tl s).drop a)) v] w' := by
  have hk0 : Hp [g] W [irdr g s a v] W := Hp.self (it := [irdr g s a v]) ⟨fun x hx => by rw [List.mem_singleton.1 hx]; exact hB, by simp [iblk]⟩
  clear hB
  generalize hl : (tl s).drop a = l at *
  have HL := Lib.hid hl
  clear hl
  have c1 := (hk0.blk 0 rfl).cell 1
  simp only [List.getElem?_cons_succ, List.getElem?_cons_zero] at c1
  go_enter Tryd.func62, Tryd.ntmps62
  go_upto_block 0 with fail
  clear c1
  go_cut [] (fun wx => Hp [g] W [irdr g s (a + numLen l) v] wx ∧ Hid (isD ((l.drop (numLen l)).headD 0) = false))
  case first =>
   go_wp2_with fail
   go_loopg [] (10 - 0) (fun m wx => ∃ p : Nat, a ≤ p ∧ p ≤ a + 9 ∧ m = 10 - (p - a) ∧ Hp [g] W [irdr g s p v] wx ∧ Hid (numL (isZ l) (p - a) ((tl s).drop p) = numLen l))
   case atStart => exact ⟨a, Nat.le_refl _, by omega, by omega, hk0, Lib.hid (by rw [HL.out, Nat.sub_self]; rfl)⟩
   case round =>
     obtain ⟨p, hp, hp9, rfl, hS, HN⟩ := hrel
     clear hk0
     obtain ⟨c0, c1, -⟩ := (hS.blk 0 rfl).get3
     have f1 := (hS.blk 0 rfl).frozen 1
     by_cases hps : p < s.size
     · have hz : decide ((p : Int) < (s.size : Int)) = true := by rw [decide_eq_true_iff]; omega
       have hd := at_tl s p hps
       by_cases hdig : isD s[p] = true
       · have hdd := hdig
         unfold isD at hdd
         simp only [Bool.and_eq_true, decide_eq_true_eq] at hdd
         have hz1 : decide ((48 : Int) ≤ (s[p].toNat : Int)) = true := by rw [decide_eq_true_iff]; omega
         have hz2 : decide ((s[p].toNat : Int) ≤ (57 : Int)) = true := by rw [decide_eq_true_iff]; omega
         go_wp2_with fail
         go_quiet (fail)
         have hS2 := hS.drewN nq
         clear c0 c1 f1 hS
         generalize wr.drewN nq = w2 at *
         have q1 := (hS2.blk 0 rfl).cell 1
         have q2 := (hS2.blk 0 rfl).frozen 1
         simp only [List.getElem?_cons_succ, List.getElem?_cons_zero] at q1
         go_upto_region 4 with fail
         have hS3 : Hp [g] W [irdr g s (p + 1) v] (w2.setCell ⟨g, 1, none⟩ (.int .i64 ((p : Int) + 1))) := rdr_at hS2 (p + 1) _ (by omega)
         clear hS2 q1 q2
         generalize w2.setCell ⟨g, 1, none⟩ (.int .i64 ((p : Int) + 1)) = w3 at *
         obtain ⟨c0, c1, -⟩ := (hS3.blk 0 rfl).get3
         have f1 := (hS3.blk 0 rfl).frozen 1
         have HZ : Hid (isZ l = true ↔ (s[a]'(by omega)).toNat = 48) := by
           refine Lib.hid ?_
           rw [← HL.out, at_tl s a (by omega)]
           unfold isZ
           rw [List.headD_cons, decide_eq_true_iff]
           constructor
           · intro h; rw [h]; rfl
           · intro h; exact UInt8.toNat_inj.1 h
         have hNd : numL (isZ l) (p - a) ((tl s).drop p) = if decide (p - a < 9) && !(decide (0 < p - a) && isZ l) then numL (isZ l) (p + 1 - a) ((tl s).drop (p + 1)) else p - a := by
           rw [hd, numL, hdig, Bool.true_and, show p - a + 1 = p + 1 - a by omega]
         rw [hNd] at HN
         have has : a < s.size := by omega
         have hai : (a : Int) < (s.size : Int) := by omega
         have hai0 : (0 : Int) ≤ (a : Int) := by omega
         by_cases hstop : (decide (p - a < 9) && !(decide (0 < p - a) && isZ l)) = true
         · have HN2 : Hid (numL (isZ l) (p + 1 - a) ((tl s).drop (p + 1)) = numLen l) := by
             refine Lib.hid ?_
             have h9 := HN.out
             rw [if_pos hstop] at h9
             exact h9
           clear HN hNd hd
           simp only [Bool.and_eq_true, decide_eq_true_eq, Bool.not_eq_true', Bool.and_eq_false_imp, decide_eq_true_eq] at hstop
           have tb : decide ((9 : Int) < (p : Int) + 1 - (a : Int)) = false := by rw [decide_eq_false_iff_not]; omega
           by_cases hpa : p = a
           · have ta : decide ((1 : Int) < (p : Int) + 1 - (a : Int)) = false := by rw [decide_eq_false_iff_not]; omega
             have HPA := Lib.hid hpa
             clear hpa
             go_wp2_with fail
             go_roundg (10 - (p + 1 - a))
             case measure => omega
             case rel => exact ⟨p + 1, by omega, by omega, rfl, hS3, HN2⟩
           · have ta : decide ((1 : Int) < (p : Int) + 1 - (a : Int)) = true := by rw [decide_eq_true_iff]; omega
             have hzf : isZ l = false := hstop.2 (by omega)
             have tc : ((s[a].toNat : Int) == 48) = false := by
               rw [beq_eq_false_iff_ne]
               intro h9
               have h8 := HZ.out.2 (by omega)
               rw [hzf] at h8; cases h8
             go_wp2_with fail
             go_roundg (10 - (p + 1 - a))
             case measure => omega
             case rel => exact ⟨p + 1, by omega, by omega, rfl, hS3, HN2⟩
         · have HN2 : Hid (p - a = numLen l) := by
             refine Lib.hid ?_
             have h9 := HN.out
             rw [if_neg hstop] at h9
             exact h9
           have HBad : Hid (nOk l = false) := by
             refine Lib.hid ?_
             unfold nOk
             rw [← HN2.out, ← HL.out, List.drop_drop, show a + (p - a) = p by omega, hd, List.headD_cons, hdig]
             simp
           clear HN hNd hd
           have hpa : a < p := by
             rcases Nat.lt_or_ge a p with h | h
             · exact h
             · exact absurd (by simp [show p - a = 0 by omega]) hstop
           have ta : decide ((1 : Int) < (p : Int) + 1 - (a : Int)) = true := by rw [decide_eq_true_iff]; omega
           by_cases hzf : isZ l = true
           · have tc : ((s[a].toNat : Int) == 48) = true := by
               rw [beq_iff_eq]
               have h8 := HZ.out.1 hzf
               omega
             clear hstop
             go_upto_region 6 with fail
             have hS4 : Hp [g] W [irdr g s p v] (w3.setCell ⟨g, 1, none⟩ (.int .i64 (p : Int))) := rdr_at hS3 p _ rfl
             go_wp2_with fail
             refine ⟨rfl, ?_⟩
             rw [numOut, HBad.out, ← HN2.out, show a + (p - a) = p by omega]
             exact ⟨rfl, hS4⟩
           · have tc : ((s[a].toNat : Int) == 48) = false := by
               rw [beq_eq_false_iff_ne]
               intro h9
               exact hzf (HZ.out.2 (by omega))
             have tb : decide ((9 : Int) < (p : Int) + 1 - (a : Int)) = true := by
               rw [decide_eq_true_iff]
               have h7 : isZ l = false := by simpa using hzf
               rw [h7] at hstop
               simp at hstop
               omega
             clear hstop
             go_upto_region 6 with fail
             have hS4 : Hp [g] W [irdr g s p v] (w3.setCell ⟨g, 1, none⟩ (.int .i64 (p : Int))) := rdr_at hS3 p _ rfl
             go_wp2_with fail
             refine ⟨rfl, ?_⟩
             rw [numOut, HBad.out, ← HN2.out, show a + (p - a) = p by omega]
             exact ⟨rfl, hS4⟩
       · have HN2 : Hid (p - a = numLen l) := by
           refine Lib.hid ?_
           have h9 := HN.out
           rw [hd, numL, show isD s[p] = false by simpa using hdig] at h9
           exact h9
         have HT : Hid (isD ((l.drop (p - a)).headD 0) = false) := by
           refine Lib.hid ?_
           rw [← HL.out, List.drop_drop, show a + (p - a) = p by omega, hd, List.headD_cons]
           simpa using hdig
         clear HN hd
         have hdd : (s[p].toNat : Int) < 48 ∨ ((48 : Int) ≤ (s[p].toNat : Int) ∧ (57 : Int) < (s[p].toNat : Int)) := by
           unfold isD at hdig
           simp only [Bool.and_eq_true, decide_eq_true_eq] at hdig
           omega
         rcases hdd with hdd | ⟨hd1, hd2⟩
         · have hz1 : decide ((48 : Int) ≤ (s[p].toNat : Int)) = false := by rw [decide_eq_false_iff_not]; omega
           go_wp2_with fail
           go_quiet (fail)
           have hS2 := hS.drewN nq
           clear c0 c1 f1 hS
           generalize wr.drewN nq = w2 at *
           go_wp2_with fail
           go_meet
           rw [← HN2.out, show a + (p - a) = p by omega]
           exact ⟨hS2, HT⟩
         · have hz1 : decide ((48 : Int) ≤ (s[p].toNat : Int)) = true := by rw [decide_eq_true_iff]; omega
           have hz2 : decide ((s[p].toNat : Int) ≤ (57 : Int)) = false := by rw [decide_eq_false_iff_not]; omega
           go_wp2_with fail
           go_quiet (fail)
           have hS2 := hS.drewN nq
           clear c0 c1 f1 hS
           generalize wr.drewN nq = w2 at *
           go_wp2_with fail
           go_meet
           rw [← HN2.out, show a + (p - a) = p by omega]
           exact ⟨hS2, HT⟩
     · have HN2 : Hid (p - a = numLen l) := by
         refine Lib.hid ?_
         have h9 := HN.out
         rw [List.drop_eq_nil_of_le (by rw [length_tl]; omega)] at h9
         exact h9
       have HT : Hid (isD ((l.drop (p - a)).headD 0) = false) := by
         refine Lib.hid ?_
         rw [← HL.out, List.drop_drop, show a + (p - a) = p by omega, List.drop_eq_nil_of_le (by rw [length_tl]; omega)]
         rfl
       clear HN
       have hz : decide ((p : Int) < (s.size : Int)) = false := by rw [decide_eq_false_iff_not]; omega
       go_wp2_with fail
       go_quiet (fail)
       have hS2 := hS.drewN nq
       clear c0 c1 f1 hS
       generalize wr.drewN nq = w2 at *
       go_wp2_with fail
       go_meet
       rw [← HN2.out, show a + (p - a) = p by omega]
       exact ⟨hS2, HT⟩
  case rest =>
    obtain ⟨hS, HT⟩ := hcut
    clear hk0
    have hn9 := numLen_nine l
    have hnl := numLen_le l
    have hll : l.length = s.size - a := by rw [← HL.out, List.length_drop, length_tl]
    obtain ⟨c0, c1, -⟩ := (hS.blk 0 rfl).get3
    by_cases hz : numLen l = 0
    · have HO : Hid (numOut l = pan) := by refine Lib.hid ?_; rw [numOut, nOk, hz]; rfl
      have t1 : (((a + numLen l : Nat) : Int) == (a : Int)) = true := by rw [hz, beq_iff_eq]; rfl
      go_wp2_with fail
      refine ⟨rfl, ?_⟩
      rw [HO.out]
      exact ⟨rfl, hS⟩
    · have HO : Hid (numOut l = .returned (.int .i64 (numV (l.take (numLen l))))) := by
        refine Lib.hid ?_
        rw [numOut, nOk, HT.out, decide_eq_true (by omega)]; rfl
      have t1 : (((a + numLen l : Nat) : Int) == (a : Int)) = false := by rw [beq_eq_false_iff_ne]; omega
      have HX : Hid ((s.extract a (a + numLen l)).data.toList = l.take (numLen l)) := by
        refine Lib.hid ?_
        rw [← HL.out]
        show (s.extract a (a + numLen ((tl s).drop a))).data.toList = _
        rw [ByteArray.data_extract, Array.toList_extract]
        show ((tl s).drop a).take (a + _ - a) = _
        congr 1
        omega
      have hat := Tryd.strconv_Atoi (s.extract a (a + numLen l)) (numV (l.take (numLen l))) (by rw [← length_tl]; show (s.extract a (a + numLen l)).data.toList.length ≤ 18; rw [HX.out, List.length_take]; omega) (by rw [HX.out]; exact atoi_digits _ (by intro h9; have h8 := congrArg List.length h9; rw [List.length_take, List.length_nil] at h8; omega) (numLen_digits l))
      have HA := Lib.hid hat
      clear hat HX HT
      generalize numV (l.take (numLen l)) = nv at *
      have hab : (a : Int) ≤ ((a + numLen l : Nat) : Int) := by omega
      have hbs : ((a + numLen l : Nat) : Int) ≤ (s.size : Int) := by omega
      have hab2 : a ≤ a + numLen l := by omega
      have hbs2 : a + numLen l ≤ s.size := by omega
      generalize hq : a + numLen l = q at *
      have HQ := Lib.hid hq
      clear hq
      go_upto_region 9 with fail
      have hSd := hS.drew
      clear hS c0 c1
      go_region_held3 (fun w' => w'.cell? ⟨g, 0, none⟩ = some (.string s) ∧ w'.cell? ⟨g, 1, none⟩ = some (.int .i64 (q : Int))) (exact rdr_cells (o := [g]) (w := W) (by assumption))
        (first | (go_at_call 66; refine (HA.out _).mono ?_; rintro e w5 ⟨rfl, t, rfl⟩; have hS5 := Hp.next (o := [g]) (w := W) (by assumption) (Lib.bytesWorld_below _ 5 t)))
      go_wp2_with fail
      go_ret
      rw [HO.out, HQ.out]
      exact ⟨rfl, by assumption⟩
end Go.Proofs.YteaaeaimjbaomaaDoor

/-
  Gates that are being built: their cells and their kids' rows. Over any program.
-/
namespace Go.Proofs.YteaaeaimjbaomaaDoor
open Go.RowKit
set_option linter.unusedVariables false

abbrev GV := Gt × Value
def ivals (l : List Int) : List Value := l.map (.int .i64 ·)
def gcell (x : GV) : List Value := [.int .i64 x.1.need, x.2, .int .i64 x.1.leaf]
def gcells (P : List GV) : List Value := P.flatMap gcell
def kidIt (x : GV) : It := irow 3 1 x.2 x.1.kids.length (ivals x.1.kids)
def kidIts (P : List GV) : List It := P.map kidIt
abbrev gts (P : List GV) : List Gt := P.map Prod.fst
/-- the pieces of a reader of formula.Parse -/
abbrev rits (g : Nat) (s : ByteArray) (p : Nat) (vg : Value) (P : List GV) : List It := irdr g s p vg :: irow 40 3 vg P.length (gcells P) :: kidIts P
theorem gcells_length (P : List GV) : (gcells P).length = P.length * 3 := by
  induction P with
  | nil => rfl
  | cons x P ih =>
    have e : gcells (x :: P) = gcell x ++ gcells P := rfl
    rw [e, List.length_append, ih, List.length_cons]
    simp [gcell]
    omega
theorem gcells_append (P Q : List GV) : gcells (P ++ Q) = gcells P ++ gcells Q := List.flatMap_append
theorem kidIts_append (P Q : List GV) : kidIts (P ++ Q) = kidIts P ++ kidIts Q := List.map_append
/-- the cells of gate i -/
theorem gcells_at : ∀ {P : List GV} {i : Nat} {x : GV}, P[i]? = some x → (gcells P)[i * 3]? = some (.int .i64 x.1.need) ∧ (gcells P)[i * 3 + 1]? = some x.2 ∧ (gcells P)[i * 3 + 2]? = some (.int .i64 x.1.leaf)
  | y :: P, 0, x, h => by
    cases h
    exact ⟨rfl, rfl, rfl⟩
  | y :: P, i + 1, x, h => by
    obtain ⟨a, b, c⟩ := gcells_at (P := P) (i := i) (x := x) (by simpa using h)
    have e : gcells (y :: P) = [.int .i64 y.1.need, y.2, .int .i64 y.1.leaf] ++ gcells P := rfl
    have q : ∀ j, (gcells (y :: P))[3 + j]? = (gcells P)[j]? := fun j => by
      rw [e, List.getElem?_append_right (by simp)]; simp
    refine ⟨?_, ?_, ?_⟩
    · rw [show (i + 1) * 3 = 3 + i * 3 by omega, q]; exact a
    · rw [show (i + 1) * 3 + 1 = 3 + (i * 3 + 1) by omega, q]; exact b
    · rw [show (i + 1) * 3 + 2 = 3 + (i * 3 + 2) by omega, q]; exact c
theorem gcells_set : ∀ {P : List GV} {i : Nat} {x : GV}, P[i]? = some x → ∀ (n l : Int) (k : List Int) (v : Value),
    (gcells P).set (i * 3) (.int .i64 n) = gcells (P.set i (⟨n, x.1.kids, x.1.leaf⟩, x.2)) ∧ (gcells P).set (i * 3 + 1) v = gcells (P.set i (⟨x.1.need, k, x.1.leaf⟩, v)) ∧
    (gcells P).set (i * 3 + 2) (.int .i64 l) = gcells (P.set i (⟨x.1.need, x.1.kids, l⟩, x.2))
  | y :: P, 0, x, h, n, l, k, v => by
    cases h
    exact ⟨rfl, rfl, rfl⟩
  | y :: P, i + 1, x, h, n, l, k, v => by
    obtain ⟨a, b, c⟩ := gcells_set (P := P) (i := i) (x := x) (by simpa using h) n l k v
    have q : ∀ Q, gcells (y :: Q) = .int .i64 y.1.need :: y.2 :: .int .i64 y.1.leaf :: gcells Q := fun Q => rfl
    refine ⟨?_, ?_, ?_⟩
    · rw [List.set_cons_succ, q, q, show (i + 1) * 3 = i * 3 + 1 + 1 + 1 by omega, List.set_cons_succ, List.set_cons_succ, List.set_cons_succ, a]
    · rw [List.set_cons_succ, q, q, show (i + 1) * 3 + 1 = i * 3 + 1 + 1 + 1 + 1 by omega, List.set_cons_succ, List.set_cons_succ, List.set_cons_succ, b]
    · rw [List.set_cons_succ, q, q, show (i + 1) * 3 + 2 = i * 3 + 2 + 1 + 1 + 1 by omega, List.set_cons_succ, List.set_cons_succ, List.set_cons_succ, c]
theorem gate_info : (Tryd.prog.info? 40).map (fun i => (i.zero, i.size, i.bytes)) = some (some (.agg #[.int .i64 0, .slice none 0 0, .int .i64 0]), 3, 40) := by kernel_rfl
theorem int_info : (Tryd.prog.info? 3).map (fun i => (i.zero, i.size, i.bytes)) = some (some (.int .i64 0), 1, 8) := by kernel_rfl
/-- the cells of a new block of three -/
theorem new3' (w : World) (t : TypeId) (a b c : Value) : ∀ (j : Nat) u, [a, b, c][j]? = some u → (w.alloc (.cells #[a, b, c] t)).cell? ((⟨w.heap.size, 0, none⟩ : Addr).add j) = some u := by
  intro j u hu
  have e : (⟨w.heap.size, 0, none⟩ : Addr).add j = ⟨w.heap.size, j, none⟩ := by unfold Addr.add; split <;> simp_all
  rw [e, (show Blk (w.alloc (.cells #[a, b, c] t)) w.heap.size t [a, b, c] from Blk.new w t [a, b, c]).cell j]
  exact hu
theorem new1' (w : World) (t : TypeId) (a : Value) : ∀ (j : Nat) u, [a][j]? = some u → (w.alloc (.cells #[a] t)).cell? ((⟨w.heap.size, 0, none⟩ : Addr).add j) = some u := by
  intro j u hu
  have e : (⟨w.heap.size, 0, none⟩ : Addr).add j = ⟨w.heap.size, j, none⟩ := by unfold Addr.add; split <;> simp_all
  rw [e, (show Blk (w.alloc (.cells #[a] t)) w.heap.size t [a] from Blk.new w t [a]).cell j]
  exact hu
/-- what reading a gate leaves behind -/
def GatePost (o : List Nat) (W : World) (g : Nat) (s : ByteArray) (P : List GV) (r : GR) (e : Ending) (w' : World) : Prop :=
  ∃ p' vg' its, p' ≤ s.size ∧ r.2.1 = (tl s).drop p' ∧ Hp o W (irdr g s p' vg' :: its) w' ∧ (r.1 = false → e = pan) ∧
    (r.1 = true → e = .returned (.int .i64 (P.length : Int)) ∧ ∃ Pn, its = irow 40 3 vg' (P ++ Pn).length (gcells (P ++ Pn)) :: kidIts (P ++ Pn) ∧ gts (P ++ Pn) = r.2.2)
/-- a new gate, at the end -/
theorem rits_push {o : List Nat} {w W W' : World} {g : Nat} {s : ByteArray} {p : Nat} {vg vg' : Value} {P : List GV} {r : List It} (h : Hp o w (rits g s p vg P ++ r) W) (ob : Obj) (hr : W'.ownsRow 0 40 3 vg' (P.length + 1) (gcells P ++ [.int .i64 0, .slice none 0 0, .int .i64 0])) (hg : (W.alloc ob).grownBy W' vg.ownBlock)
    (hv : vg'.ownBlock = vg.ownBlock ∨ ∀ k, vg'.ownBlock = some k → (W.alloc ob).heap.size ≤ k) : Hp o w (rits g s p vg' (P ++ [(⟨0, [], 0⟩, .slice none 0 0)]) ++ r) (W'.setCell ⟨g, 2, none⟩ vg') := by
  have h1 := (h.alloc ob).grown 1 (v' := vg') (n' := P.length + 1) (xs' := gcells P ++ [.int .i64 0, .slice none 0 0, .int .i64 0]) rfl hr hg hv
  have h2 := h1.set 0 rfl 2 vg'
  have h3 := h2.nilrow 3 1
  refine h3.perm ?_
  have e : gcells (P ++ [(⟨0, [], 0⟩, .slice none 0 0)]) = gcells P ++ [.int .i64 0, .slice none 0 0, .int .i64 0] := by rw [gcells_append]; rfl
  show (_ :: _ :: _ :: (kidIts P ++ r)).Perm (_ :: _ :: (kidIts (P ++ [(⟨0, [], 0⟩, .slice none 0 0)]) ++ r))
  rw [e, kidIts_append, List.length_append]
  refine ((List.Perm.swap _ _ _).trans ((List.Perm.swap _ _ _).cons _)).trans (((?_ : List.Perm _ _).cons _).cons _)
  show (_ :: (kidIts P ++ r)).Perm _
  rw [List.append_assoc]
  exact List.perm_middle.symm
theorem foldl_bd : ∀ (p : List UInt8) (acc : Int), 0 ≤ acc → (∀ b ∈ p, isD b = true) → 0 ≤ p.foldl (fun v b => 10 * v + ((b.toNat : Int) - 48)) acc ∧ p.foldl (fun v b => 10 * v + ((b.toNat : Int) - 48)) acc + 1 ≤ (acc + 1) * 10 ^ p.length
  | [], acc, h0, _ => by simp [h0]
  | b :: r, acc, h0, h => by
    have hb := h b (List.mem_cons_self ..)
    unfold isD at hb
    simp only [Bool.and_eq_true, decide_eq_true_eq] at hb
    obtain ⟨h1, h2⟩ := foldl_bd r (10 * acc + ((b.toNat : Int) - 48)) (by omega) (fun c hc => h c (List.mem_cons_of_mem _ hc))
    refine ⟨h1, ?_⟩
    rw [List.foldl_cons, List.length_cons]
    refine Int.le_trans h2 ?_
    rw [Int.pow_succ, Int.mul_comm (10 ^ r.length) 10, ← Int.mul_assoc]
    refine Int.mul_le_mul_of_nonneg_right (by omega) (Int.le_of_lt (Int.pow_pos (by decide)))
theorem numV_bd (l : List UInt8) : 0 ≤ numV (l.take (numLen l)) ∧ numV (l.take (numLen l)) ≤ 1000000000 := by
  obtain ⟨h1, h2⟩ := foldl_bd (l.take (numLen l)) 0 (Int.le_refl _) (numLen_digits l)
  refine ⟨h1, ?_⟩
  have h3 : (10 : Int) ^ (l.take (numLen l)).length ≤ 10 ^ 9 := by
    have h9 := numLen_nine l
    have hl : (l.take (numLen l)).length ≤ 9 := by rw [List.length_take]; omega
    generalize (l.take (numLen l)).length = k at *
    obtain rfl | rfl | rfl | rfl | rfl | rfl | rfl | rfl | rfl | rfl : k = 0 ∨ k = 1 ∨ k = 2 ∨ k = 3 ∨ k = 4 ∨ k = 5 ∨ k = 6 ∨ k = 7 ∨ k = 8 ∨ k = 9 := by omega
    all_goals decide
  have h4 : numV (l.take (numLen l)) + 1 ≤ (0 + 1) * 10 ^ (l.take (numLen l)).length := h2
  have h5 : (10 : Int) ^ 9 = 1000000000 := by decide
  omega
/-- the last piece is a row that has grown -/
theorem Hp.grownLast {o : List Nat} {w W W' : World} {A : List It} {e : TypeId} {size n n' : Nat} {v v' : Value} {xs xs' : List Value} (h : Hp o w (A ++ [irow e size v n xs]) W) (hr : W'.ownsRow 0 e size v' n' xs') (hg : W.grownBy W' v.ownBlock)
    (hv : v'.ownBlock = v.ownBlock ∨ ∀ g, v'.ownBlock = some g → W.heap.size ≤ g) : Hp o w (A ++ [irow e size v' n' xs']) W' := by
  have h1 := h.grown A.length (by rw [List.getElem?_append_right (Nat.le_refl _), Nat.sub_self]; rfl) hr hg hv
  rwa [List.set_append_right _ _ (Nat.le_refl _), Nat.sub_self] at h1
theorem Hp.rowLast {o : List Nat} {w W : World} {A : List It} {e : TypeId} {size n : Nat} {v : Value} {xs : List Value} (h : Hp o w (A ++ [irow e size v n xs]) W) : W.ownsRow 0 e size v n xs := h.sep.ok _ (List.mem_append_right _ (List.mem_singleton.2 rfl))
/-- the gate at the end is a leaf -/
theorem rits_leaf {o : List Nat} {w W : World} {g : Nat} {s : ByteArray} {p : Nat} {g3 c3 : Nat} {P : List GV} (h : Hp o w (rits g s p (.slice (some ⟨g3, 0, none⟩) (P.length + 1) c3) (P ++ [(⟨0, [], 0⟩, .slice none 0 0)])) W) :
    W.cell? ⟨g3, P.length * 3 + 2, none⟩ = some (.int .i64 0) ∧ W.frozen? ⟨g3, P.length * 3 + 2, none⟩ = false ∧
    ∀ n : Int, Hp o w (rits g s p (.slice (some ⟨g3, 0, none⟩) (P.length + 1) c3) (P ++ [(⟨0, [], n⟩, .slice none 0 0)])) (W.setCell ⟨g3, P.length * 3 + 2, none⟩ (.int .i64 n)) := by
  have el : ∀ x : GV, (P ++ [x]).length = P.length + 1 := fun x => by simp
  rw [rits, el] at h
  have hx : (P ++ [((⟨0, [], 0⟩ : Gt), Value.slice none 0 0)])[P.length]? = some (⟨0, [], 0⟩, .slice none 0 0) := by simp
  have hr := h.row 1 rfl
  refine ⟨row_cell hr (gcells_at hx).2.2, row_frozen hr _, fun n => ?_⟩
  have h1 := h.rowset 1 rfl (P.length * 3 + 2) (by omega) (.int .i64 n)
  rw [(gcells_set hx 0 n [] (.slice none 0 0)).2.2] at h1
  have e1 : (P ++ [((⟨0, [], 0⟩ : Gt), Value.slice none 0 0)]).set P.length (⟨0, [], n⟩, .slice none 0 0) = P ++ [(⟨0, [], n⟩, .slice none 0 0)] := by simp
  simp only at h1
  rw [e1] at h1
  rw [rits, el]
  have e2 : kidIts (P ++ [(⟨0, [], n⟩, .slice none 0 0)]) = kidIts (P ++ [(⟨0, [], 0⟩, .slice none 0 0)]) := by
    rw [kidIts_append, kidIts_append]; rfl
  rw [e2]
  exact h1
/-- a gate gets its kids -/
theorem rits_kids {o : List Nat} {w W : World} {g : Nat} {s : ByteArray} {p : Nat} {g3 c3 n : Nat} {P : List GV} {i : Nat} {ks : List Int} {vk : Value} (hn : n = P.length) (hx : P[i]? = some (⟨0, [], 0⟩, .slice none 0 0))
    (h : Hp o w (rits g s p (.slice (some ⟨g3, 0, none⟩) n c3) P ++ [irow 3 1 vk ks.length (ivals ks)]) W) (m : Int) :
    W.cell? ⟨g3, i * 3, none⟩ = some (.int .i64 0) ∧ W.frozen? ⟨g3, i * 3, none⟩ = false ∧ W.cell? ⟨g3, i * 3 + 1, none⟩ = some (.slice none 0 0) ∧ W.frozen? ⟨g3, i * 3 + 1, none⟩ = false ∧
    Hp o w (rits g s p (.slice (some ⟨g3, 0, none⟩) n c3) (P.set i (⟨m, ks, 0⟩, vk))) ((W.setCell ⟨g3, i * 3, none⟩ (.int .i64 m)).setCell ⟨g3, i * 3 + 1, none⟩ vk) ∧
    Hp o w (rits g s p (.slice (some ⟨g3, 0, none⟩) n c3) (P.set i (⟨m, ks, 0⟩, vk))) ((W.setCell ⟨g3, i * 3 + 1, none⟩ vk).setCell ⟨g3, i * 3, none⟩ (.int .i64 m)) := by
  subst hn
  have hil : i < P.length := (List.getElem?_eq_some_iff.1 hx).1
  have hr := h.row 1 rfl
  obtain ⟨a1, a2, a3⟩ := gcells_at hx
  have hend : ∀ (W' : World), Hp o w ([irdr g s p (.slice (some ⟨g3, 0, none⟩) P.length c3), irow 40 3 (.slice (some ⟨g3, 0, none⟩) P.length c3) P.length (gcells (P.set i (⟨m, ks, 0⟩, vk)))] ++ kidIts P ++ [irow 3 1 vk ks.length (ivals ks)]) W' →
      Hp o w (rits g s p (.slice (some ⟨g3, 0, none⟩) P.length c3) (P.set i (⟨m, ks, 0⟩, vk))) W' := fun W' h9 => by
    have hk : (kidIts P)[i]? = some (kidIt (⟨0, [], 0⟩, .slice none 0 0)) := by rw [kidIts, List.getElem?_map, hx]; rfl
    have hkl : i < (kidIts P).length := (List.getElem?_eq_some_iff.1 hk).1
    have hp1 : (kidIts P ++ [irow 3 1 vk ks.length (ivals ks)]).Perm (kidIt (⟨0, [], 0⟩, .slice none 0 0) :: kidIts (P.set i (⟨m, ks, 0⟩, vk))) := by
      have q1 := pull_perm (kidIts P) i hkl
      have q2 : (kidIts P)[i] = kidIt (⟨0, [], 0⟩, .slice none 0 0) := by
        rw [List.getElem?_eq_getElem hkl] at hk; exact Option.some.inj hk
      rw [q2] at q1
      have hl2 : i < ((kidIts P).set i (kidIt (⟨m, ks, 0⟩, vk))).length := by rw [List.length_set]; exact hkl
      have q3 := pull_perm ((kidIts P).set i (kidIt (⟨m, ks, 0⟩, vk))) i hl2
      rw [List.getElem_set_self, List.eraseIdx_set_eq] at q3
      have e : kidIts (P.set i (⟨m, ks, 0⟩, vk)) = (kidIts P).set i (kidIt (⟨m, ks, 0⟩, vk)) := List.map_set
      rw [e]
      refine (q1.symm.append_right _).trans ?_
      show (kidIt _ :: ((kidIts P).eraseIdx i ++ _)).Perm _
      refine (List.Perm.cons _ ?_)
      exact (List.perm_append_singleton _ _).trans q3
    have h10 := h9
    rw [List.append_assoc] at h10
    have h11 := h10.perm (hp1.append_left _)
    have h12 := h11.perm (List.perm_middle (l₁ := [irdr g s p (.slice (some ⟨g3, 0, none⟩) P.length c3), irow 40 3 (.slice (some ⟨g3, 0, none⟩) P.length c3) P.length (gcells (P.set i (⟨m, ks, 0⟩, vk)))]))
    have h13 := h12.tail
    rw [rits, List.length_set]
    exact h13
  have hxm : ∀ v, (P.set i v)[i]? = some v := fun v => by rw [List.getElem?_set_self hil]
  have e2 : ∀ a b : GV, (P.set i a).set i b = P.set i b := fun a b => by rw [List.set_set]
  refine ⟨row_cell hr a1, row_frozen hr _, row_cell hr a2, row_frozen hr _, hend _ ?_, hend _ ?_⟩
  · have h1 := h.rowset 1 rfl (i * 3) (by omega) (.int .i64 m)
    rw [(gcells_set hx m 0 [] vk).1] at h1
    have h2 := h1.rowset 1 rfl (i * 3 + 1) (by omega) vk
    rw [(gcells_set (hxm _) m 0 ks vk).2.1, e2] at h2
    exact h2
  · have h1 := h.rowset 1 rfl (i * 3 + 1) (by omega) vk
    rw [(gcells_set hx m 0 ks vk).2.1] at h1
    have h2 := h1.rowset 1 rfl (i * 3) (by omega) (.int .i64 m)
    rw [(gcells_set (hxm _) m 0 ks vk).1, e2] at h2
    exact h2
/-- the cells of the two stores, each behind the other one -/
theorem rits_kids2 {o : List Nat} {w W : World} {g : Nat} {s : ByteArray} {p : Nat} {g3 c3 n : Nat} {P : List GV} {i : Nat} {r : List It} {vk : Value} (hn : n = P.length) (hx : P[i]? = some (⟨0, [], 0⟩, .slice none 0 0))
    (h : Hp o w (rits g s p (.slice (some ⟨g3, 0, none⟩) n c3) P ++ r) W) (m : Int) :
    (W.setCell ⟨g3, i * 3, none⟩ (.int .i64 m)).cell? ⟨g3, i * 3 + 1, none⟩ = some (.slice none 0 0) ∧ (W.setCell ⟨g3, i * 3, none⟩ (.int .i64 m)).frozen? ⟨g3, i * 3 + 1, none⟩ = false ∧
    (W.setCell ⟨g3, i * 3 + 1, none⟩ vk).cell? ⟨g3, i * 3, none⟩ = some (.int .i64 0) ∧ (W.setCell ⟨g3, i * 3 + 1, none⟩ vk).frozen? ⟨g3, i * 3, none⟩ = false := by
  subst hn
  have hil : i < P.length := (List.getElem?_eq_some_iff.1 hx).1
  obtain ⟨a1, a2, a3⟩ := gcells_at hx
  have h1 := h.rowset 1 rfl (i * 3) (by omega) (.int .i64 m)
  have h2 := h.rowset 1 rfl (i * 3 + 1) (by omega) vk
  have r1 := h1.row 1 rfl
  have r2 := h2.row 1 rfl
  refine ⟨row_cell r1 ?_, row_frozen r1 _, row_cell r2 ?_, row_frozen r2 _⟩
  · rw [List.getElem?_set_ne (by omega)]; exact a2
  · rw [List.getElem?_set_ne (by omega)]; exact a1
end Go.Proofs.YteaaeaimjbaomaaDoor

/-
  (*formula.reader).gate.
-/
namespace Go.Proofs.YteaaeaimjbaomaaDoor
open Go.RowKit
set_option linter.unusedVariables false

theorem size_drop {s : ByteArray} {p : Nat} {l : List UInt8} (hp : p ≤ s.size) (h : l = (tl s).drop p) : l.length = s.size - p := by rw [h, List.length_drop, length_tl]
theorem headD_at {s : ByteArray} {p : Nat} {l : List UInt8} (h : l = (tl s).drop p) (hp : p < s.size) : l.headD 0 = s[p] := by rw [h, at_tl s p hp]; rfl
theorem headD_end {s : ByteArray} {p : Nat} {l : List UInt8} (h : l = (tl s).drop p) (hp : s.size ≤ p) : l.headD 0 = 0 := by rw [h, List.drop_eq_nil_of_le (by rw [length_tl]; exact hp)]; rfl
/-- the call of number by a reader -/
theorem number_call {g : Nat} {s : ByteArray} {p : Nat} {v : Value} {o : List Nat} {w W : World} {r : List It} (hs : s.size ≤ 2000) (h : Hp o w (irdr g s p v :: r) W) :
    Calls Tryd.prog 62 #[ptr g] W fun e w' => e = numOut ((tl s).drop p) ∧ Hp o w (irdr g s (p + numLen ((tl s).drop p)) v :: r) w' :=
  (number_any g s p v hs W (h.blk 0 rfl)).mono fun e w' ⟨h1, h2⟩ => ⟨h1, Hp.call (a := [irdr g s p v]) (a' := [irdr g s (p + numLen ((tl s).drop p)) v]) h h2⟩
/-- the loop over a gate's kids -/
def KidLoop (g : Nat) (s : ByteArray) (o : List Nat) (W : World) (f : Nat) (P : List GV) (R : GR × List Int) (gh : Nat) (vk : Value) (wx : World) : Prop :=
  ∃ q rr vg Q ks m, q ≤ s.size ∧ rr = (tl s).drop q ∧ rr ≠ [] ∧ gh = s.size + 1 - q ∧ s.size - q < m ∧ s.size - q < f ∧ Q.length + (s.size - q) ≤ 2000 ∧ ∃ Pn, Q = P ++ [(⟨0, [], 0⟩, .slice none 0 0)] ++ Pn ∧ ks.length < Q.length ∧
    Hp o W (rits g s q vg Q ++ [irow 3 1 vk ks.length (ivals ks)]) wx ∧ Hid (kidsR (gateP f) m rr (gts Q) ks = R)
set_option maxRecDepth 20000 in
set_option maxHeartbeats 4000000 in
theorem gate_any (g : Nat) (s : ByteArray) (hs : s.size ≤ 2000) (f : Nat) : ∀ (p : Nat) (vg : Value) (P : List GV) (W : World), p ≤ s.size → s.size - p < f → P.length + (s.size - p) ≤ 2000 → Sep W (rits g s p vg P) →
    Calls Tryd.prog 46 #[ptr g] W fun e w' => GatePost (ow (rits g s p vg P)) W g s P (gateP f ((tl s).drop p) (gts P)) e w' := by
  induction f with
  | zero => intro p vg P W hp hf; omega
  | succ f ih =>
    intro p vg P W hp hf hcnt hsep
    have hS := Hp.self hsep
    clear hsep
    generalize hoo : ow (rits g s p vg P) = o at *
    clear hoo
    generalize hl : (tl s).drop p = l at *
    have hll := size_drop hp hl.symm
    obtain ⟨A, cap, rfl⟩ := row_forms (hS.row 1 rfl)
    obtain ⟨-, -, c2⟩ := (hS.blk 0 rfl).get3
    have f2 := (hS.blk 0 rfl).frozen 2
    obtain ⟨i0, hi0, hz0, hz1, hz2⟩ := info_parts gate_info
    have hrow := hS.row 1 rfl
    go_enter Tryd.func46, Tryd.ntmps46
    go_wp2_with (first | (at_builtin; refine wpList_append_own2 rfl _ _ 22 rfl 0 40 i0 _ 3 40 Tryd.underlying22 hi0 hz0 hz1 hz2 rfl (by decide) _ _ _ rfl (hrow.alloc _) ⟨W.heap.size, 0, none⟩ 1 1 [.int .i64 0, .slice none 0 0, .int .i64 0] rfl rfl (new3' _ _ _ _ _) ?c2 (by decide) ?c3 ?c4 ?c5 ?_))
    case c2 => intro u hu; simp at hu; rcases hu with rfl | rfl | rfl <;> rfl
    case c3 => unfold maxLen; omega
    case c4 => omega
    case c5 => omega
    intro v' w3 hown3 hg3 hv3
    obtain ⟨g3, cap3, rfl, -⟩ := row_form hown3 (by omega)
    have hS0 : Hp o W (rits g s p (.slice A P.length cap) P ++ []) W := by rw [List.append_nil]; exact hS
    have hS3 := (hS.alloc _).grown 1 rfl hown3 hg3 (new_at hv3)
    have c2' := (hS3.blk 0 rfl).cell 2
    have f2' := (hS3.blk 0 rfl).frozen 2
    simp only [List.getElem?_cons_succ, List.getElem?_cons_zero] at c2'
    have hS4 := rits_push hS0 _ hown3 hg3 (new_at hv3)
    rw [List.append_nil] at hS4
    clear hS hS0 hS3 hown3 hg3 hv3 hrow c2 f2
    go_upto_region 3 with fail
    clear c2' f2'
    generalize w3.setCell ⟨g, 2, none⟩ (.slice (some ⟨g3, 0, none⟩) (P.length + 1) cap3) = w4 at *
    go_wp2_with fail
    refine (number_call hs hS4).mono ?_
    rintro e w5 ⟨rfl, hS5⟩
    clear hS4
    rw [hl]
    rw [hl] at hS5
    have hnl := numLen_le l
    have hn9 := numLen_nine l
    have hdr : l.drop (numLen l) = (tl s).drop (p + numLen l) := by rw [← hl, List.drop_drop]
    have hq : p + numLen l ≤ s.size := by omega
    have hgl : (gts P).length = P.length := by simp
    by_cases hok : nOk l = true
    · have hpos := (nOk_pos hok).1
      have HO : Hid (numOut l = .returned (.int .i64 (numV (l.take (numLen l))))) := by refine Lib.hid ?_; rw [numOut, if_pos hok]
      have HG : Hid (gateP (f + 1) l (gts P) = if (l.drop (numLen l)).headD 0 ≠ 40 then (true, l.drop (numLen l), gts P ++ [⟨0, [], numV (l.take (numLen l))⟩])
          else if (kidsR (gateP f) f (l.drop (numLen l)) (gts P ++ [⟨0, [], 0⟩]) []).1.1 = false then (kidsR (gateP f) f (l.drop (numLen l)) (gts P ++ [⟨0, [], 0⟩]) []).1
          else (true, (kidsR (gateP f) f (l.drop (numLen l)) (gts P ++ [⟨0, [], 0⟩]) []).1.2.1, (kidsR (gateP f) f (l.drop (numLen l)) (gts P ++ [⟨0, [], 0⟩]) []).1.2.2.set (gts P).length ⟨numV (l.take (numLen l)), (kidsR (gateP f) f (l.drop (numLen l)) (gts P ++ [⟨0, [], 0⟩]) []).2, 0⟩)) := by
        refine Lib.hid ?_
        rw [gateP, if_neg (by simp [hok])]
      rw [HO.out]
      clear hok HO hnl
      have hnv : 0 ≤ numV (l.take (numLen l)) ∧ numV (l.take (numLen l)) ≤ 1000000000 := numV_bd l
      generalize numV (l.take (numLen l)) = nv at *
      generalize hrr : l.drop (numLen l) = rr at *
      clear hrr
      generalize hqq : p + numLen l = q at *
      have HQ := Lib.hid hqq
      clear hqq
      have hrl := size_drop hq hdr
      go_upto_region 4 with fail
      go_cut [44] (fun s44 wx => s44 = .bool (decide (rr.headD 0 ≠ 40)) ∧ Hp o W (rits g s q (.slice (some ⟨g3, 0, none⟩) (P.length + 1) cap3) (P ++ [(⟨0, [], 0⟩, .slice none 0 0)])) wx)
      case first =>
        obtain ⟨c0, c1⟩ := rdr_cells hS5
        by_cases hqs : q < s.size
        · have hz : ((q : Int) == (s.size : Int)) = false := by rw [beq_eq_false_iff_ne]; omega
          have hqi : (q : Int) < (s.size : Int) := by omega
          have hqj : (0 : Int) ≤ (q : Int) := by omega
          have hh := headD_at hdr hqs
          by_cases h40 : s[q] = 40
          · have t1 : ((s[q].toNat : Int) != 40) = false := by rw [h40]; rfl
            have HD : Hid (decide (rr.headD 0 ≠ 40) = false) := by refine Lib.hid ?_; rw [hh, h40]; rfl
            clear hh h40 HG
            go_quiet (fail)
            go_wp2_with fail
            go_meet
            rw [HD.out]
            exact ⟨rfl, hS5.drewN nq⟩
          · have t1 : ((s[q].toNat : Int) != 40) = true := by
              rw [bne_iff_ne]
              intro h9
              exact h40 (UInt8.toNat_inj.1 (by show _ = 40; omega))
            have HD : Hid (decide (rr.headD 0 ≠ 40) = true) := by refine Lib.hid ?_; rw [hh]; simpa using h40
            clear hh h40 HG
            go_quiet (fail)
            go_wp2_with fail
            go_meet
            rw [HD.out]
            exact ⟨rfl, hS5.drewN nq⟩
        · have hz : ((q : Int) == (s.size : Int)) = true := by rw [beq_iff_eq]; omega
          have HD : Hid (decide (rr.headD 0 ≠ 40) = true) := by refine Lib.hid ?_; rw [headD_end hdr (by omega)]; rfl
          clear HG
          go_quiet (fail)
          go_wp2_with fail
          go_meet
          rw [HD.out]
          exact ⟨rfl, hS5.drewN nq⟩
      case rest =>
        obtain ⟨rfl, hS6⟩ := hcut
        clear hS5
        by_cases h40 : rr.headD 0 = 40
        · have HG2 : Hid (gateP (f + 1) l (gts P) = if (kidsR (gateP f) f rr (gts P ++ [⟨0, [], 0⟩]) []).1.1 = false then (kidsR (gateP f) f rr (gts P ++ [⟨0, [], 0⟩]) []).1
              else (true, (kidsR (gateP f) f rr (gts P ++ [⟨0, [], 0⟩]) []).1.2.1, (kidsR (gateP f) f rr (gts P ++ [⟨0, [], 0⟩]) []).1.2.2.set (gts P).length ⟨nv, (kidsR (gateP f) f rr (gts P ++ [⟨0, [], 0⟩]) []).2, 0⟩)) := by
            refine Lib.hid ?_
            rw [HG.out, if_neg (by simpa using h40)]
          rw [decide_eq_false (by simpa using h40)]
          clear HG
          have hkid := Lib.hid ih
          clear ih
          have H40 := Lib.hid h40
          have hnum : q ≤ s.size ∧ s.size - q < f ∧ P.length + 1 + (s.size - q) ≤ 2000 := by
            have := HQ.out
            omega
          clear h40 hn9 hpos hcnt hf
          obtain ⟨K0, hK0⟩ : ∃ K0, kidsR (gateP f) f rr (gts P ++ [⟨0, [], 0⟩]) [] = K0 := ⟨_, rfl⟩
          rw [hK0] at HG2
          have HK0 := Lib.hid hK0
          clear hK0
          go_upto_region 7 with fail
          go_wp2_with fail
          go_loopg [5] (s.size + 1 - q) (KidLoop g s o W f P K0)
          case atStart =>
            refine ⟨q, rr, _, P ++ [(⟨0, [], 0⟩, .slice none 0 0)], [], f, hnum.1, hdr, ?_, rfl, by omega, by omega, by simpa using hnum.2.2, [], (by simp), by simp, (by have := hS6.nilrow 3 1; exact this.perm (List.perm_append_singleton _ _).symm), Lib.hid (by rw [← HK0.out]; simp [gts])⟩
            intro h9
            rw [h9] at H40
            exact absurd H40.out (by decide)
          case round =>
            obtain ⟨q, rr, vg, Q, ks, m, hq, hdr, hne, rfl, hm, hqf, hcnt, Pn, hPn, hksl, hS, HK⟩ := hrel
            clear hS6 H40 hnum HQ hrl HK0
            have hqs : q < s.size := by
              rcases Nat.lt_or_ge q s.size with h | h
              · exact h
              · exact absurd (by rw [hdr, List.drop_eq_nil_of_le (by rw [length_tl]; exact h)]) hne
            obtain ⟨Ak, ck, rfl⟩ := row_forms hS.rowLast
            obtain ⟨m, rfl⟩ : ∃ m', m = m' + 1 := ⟨m - 1, by omega⟩
            have hrd : rr.drop 1 = (tl s).drop (q + 1) := by rw [hdr, List.drop_drop]
            obtain ⟨-, c1⟩ := rdr_cells hS
            have f1 := (hS.blk 0 rfl).frozen 1
            go_upto_region 9 with fail
            have hS1 : Hp o W (rits g s (q + 1) vg Q ++ [irow 3 1 (.slice Ak ks.length ck) ks.length (ivals ks)]) (wr.setCell ⟨g, 1, none⟩ (.int .i64 ((q : Int) + 1))) := rdr_at hS (q + 1) ((q : Int) + 1) (by omega)
            clear hS c1 f1
            generalize wr.setCell ⟨g, 1, none⟩ (.int .i64 ((q : Int) + 1)) = w7 at *
            have HC := Lib.hid (hkid.out (q + 1) vg Q w7 (by omega) (by omega) (by omega) hS1.sub.sep)
            go_wp2_with fail
            refine HC.out.mono ?_
            rintro e w8 ⟨p', vg', its, hp', hrest, hH, hbad, hgood⟩
            have hS8 := Hp.call (a := rits g s (q + 1) vg Q) hS1 hH
            have hout := gate_out f (rr.drop 1) (gts Q)
            have HK2 := HK.out
            rw [kidsR] at HK2
            rw [← hrd] at hrest hbad hgood
            clear HC hS1 hH HK hrd
            generalize gateP f (rr.drop 1) (gts Q) = r at *
            by_cases hb : r.1 = true
            · obtain ⟨rfl, Qn, rfl, hgts⟩ := hgood hb
              have HK3 : Hid ((if r.2.1.headD 0 = 44 then kidsR (gateP f) m r.2.1 r.2.2 (ks ++ [((gts Q).length : Int)]) else if r.2.1.headD 0 = 41 then ((true, r.2.1.drop 1, r.2.2), ks ++ [((gts Q).length : Int)]) else ((false, r.2), ks ++ [((gts Q).length : Int)])) = K0) := by
                refine Lib.hid ?_
                have h9 := HK2
                rw [if_neg (by rw [hb]; decide)] at h9
                exact h9
              have hcn := hout.cnt hb
              obtain ⟨Gn, hGn, hGnl⟩ := hout.pre hb
              have hgl2 : (gts Q).length = Q.length := by simp
              have hrl2 := size_drop hq hdr
              have hd1 : (rr.drop 1).length + 1 = s.size - q := by
                rw [List.length_drop]; omega
              have hrl3 := size_drop hp' hrest
              have hgl3 : Gn.length = Qn.length := by
                have h9 := congrArg List.length hgts
                rw [hGn] at h9
                simp only [List.length_append, List.length_map] at h9
                omega
              have hcn2 : (Q ++ Qn).length + (s.size - p') ≤ 2000 := by
                rw [hGn, List.length_append] at hcn
                rw [List.length_append]
                omega
              have hlt3 : p' > q := by
                have := hout.lt hb
                omega
              have HG3 := Lib.hid hgts
              have HR := Lib.hid hrest
              have HPn := Lib.hid hPn
              clear HK2 hgood hbad hout hGn hgts hcn hPn
              obtain ⟨j0, hj0, hy0, hy1, hy2⟩ := info_parts int_info
              have hrowk := hS8.rowLast
              rw [hgl2] at HK3
              go_wp2_with (first | (at_builtin; refine wpList_append_own2 rfl _ _ 38 rfl 0 3 j0 _ 1 8 Tryd.underlying38 hj0 hy0 hy1 hy2 rfl (by decide) _ _ _ rfl (hrowk.alloc _) ⟨w8.heap.size, 0, none⟩ 1 1 [.int .i64 (Q.length : Int)] rfl rfl (new1' _ _ _) ?c2 (by decide) ?c3 ?c4 ?c5 ?_))
              case c2 => intro u hu; simp at hu; subst hu; rfl
              case c3 => unfold maxLen; omega
              case c4 => omega
              case c5 => omega
              intro v' w9 hown9 hg9 hv9
              obtain ⟨g9, c9, rfl, -⟩ := row_form hown9 (by omega)
              have hS9 : Hp o W (rits g s p' vg' (Q ++ Qn) ++ [irow 3 1 (.slice (some ⟨g9, 0, none⟩) (ks.length + 1) c9) (ks ++ [(Q.length : Int)]).length (ivals (ks ++ [(Q.length : Int)]))]) w9 := by
                have h9 := (hS8.alloc _).grownLast hown9 hg9 (new_at hv9)
                rw [show (ks ++ [(Q.length : Int)]).length = ks.length + 1 by simp, show ivals (ks ++ [(Q.length : Int)]) = ivals ks ++ [.int .i64 (Q.length : Int)] by simp [ivals]]
                exact h9
              clear hS8 hown9 hg9 hv9 hrowk
              have hqq2 : (Q ++ Qn).length = Q.length + Qn.length := List.length_append
              go_upto_region 10 with fail
              go_cut [87] (fun s87 wx => s87 = .bool (decide (r.2.1.headD 0 = 44)) ∧ Hp o W (rits g s p' vg' (Q ++ Qn) ++ [irow 3 1 (.slice (some ⟨g9, 0, none⟩) (ks.length + 1) c9) (ks ++ [(Q.length : Int)]).length (ivals (ks ++ [(Q.length : Int)]))]) wx)
              case first =>
                obtain ⟨c0, c1⟩ := rdr_cells hS9
                by_cases hqs : p' < s.size
                · have hqi : (p' : Int) < (s.size : Int) := by omega
                  have hqj : (0 : Int) ≤ (p' : Int) := by omega
                  have hz : decide ((p' : Int) < (s.size : Int)) = true := by rw [decide_eq_true_iff]; omega
                  have hh := headD_at HR.out hqs
                  by_cases hch : s[p'] = 44
                  · have t1 : ((s[p'].toNat : Int) == 44) = true := by rw [hch]; rfl
                    have HD : Hid (decide (r.2.1.headD 0 = 44) = true) := by refine Lib.hid ?_; rw [hh, hch]; rfl
                    clear hh hch 
                    go_quiet (fail)
                    go_wp2_with fail
                    go_meet
                    rw [HD.out]
                    exact ⟨rfl, hS9.drewN nq⟩
                  · have t1 : ((s[p'].toNat : Int) == 44) = false := by
                      rw [beq_eq_false_iff_ne]
                      intro h9
                      exact hch (UInt8.toNat_inj.1 (by show _ = 44; omega))
                    have HD : Hid (decide (r.2.1.headD 0 = 44) = false) := by refine Lib.hid ?_; rw [hh]; simpa using hch
                    clear hh hch 
                    go_quiet (fail)
                    go_wp2_with fail
                    go_meet
                    rw [HD.out]
                    exact ⟨rfl, hS9.drewN nq⟩
                · have hz : decide ((p' : Int) < (s.size : Int)) = false := by rw [decide_eq_false_iff_not]; omega
                  have HD : Hid (decide (r.2.1.headD 0 = 44) = false) := by refine Lib.hid ?_; rw [headD_end HR.out (by omega)]; rfl
                  skip
                  go_quiet (fail)
                  go_wp2_with fail
                  go_meet
                  rw [HD.out]
                  exact ⟨rfl, hS9.drewN nq⟩
              case rest =>
                obtain ⟨rfl, hS10⟩ := hcut
                clear hS9
                by_cases h44 : r.2.1.headD 0 = 44
                · rw [decide_eq_true h44]
                  have HK5 : Hid (kidsR (gateP f) m r.2.1 r.2.2 (ks ++ [(Q.length : Int)]) = K0) := by
                    refine Lib.hid ?_
                    have h9 := HK3.out
                    rw [if_pos h44] at h9
                    exact h9
                  have hne2 : r.2.1 ≠ [] := by
                    intro h9
                    rw [h9] at h44; exact absurd h44 (by decide)
                  clear HK3 h44
                  go_wp2_with fail
                  go_roundg (s.size + 1 - p')
                  case measure => omega
                  case rel =>
                    refine ⟨p', r.2.1, vg', Q ++ Qn, ks ++ [(Q.length : Int)], m, hp', HR.out, hne2, rfl, by omega, by omega, hcn2, Pn ++ Qn, ?_, ?_, hS10, ?_⟩
                    · rw [HPn.out]; simp only [List.append_assoc]
                    · rw [List.length_append, List.length_append]
                      simp only [List.length_cons, List.length_nil]
                      omega
                    · rw [HG3.out]; exact HK5
                · rw [decide_eq_false h44]
                  have HK5 : Hid ((if r.2.1.headD 0 = 41 then ((true, r.2.1.drop 1, r.2.2), ks ++ [(Q.length : Int)]) else ((false, r.2), ks ++ [(Q.length : Int)])) = K0) := by
                    refine Lib.hid ?_
                    have h9 := HK3.out
                    rw [if_neg h44] at h9
                    exact h9
                  clear HK3 h44
                  go_upto_region 11 with fail
                  go_cut [109] (fun s109 wx => s109 = .bool (decide (r.2.1.headD 0 ≠ 41)) ∧ Hp o W (rits g s p' vg' (Q ++ Qn) ++ [irow 3 1 (.slice (some ⟨g9, 0, none⟩) (ks.length + 1) c9) (ks ++ [(Q.length : Int)]).length (ivals (ks ++ [(Q.length : Int)]))]) wx)
                  case first =>
                    obtain ⟨c0, c1⟩ := rdr_cells hS10
                    by_cases hqs : p' < s.size
                    · have hqi : (p' : Int) < (s.size : Int) := by omega
                      have hqj : (0 : Int) ≤ (p' : Int) := by omega
                      have hz : ((p' : Int) == (s.size : Int)) = false := by rw [beq_eq_false_iff_ne]; omega
                      have hh := headD_at HR.out hqs
                      by_cases hch : s[p'] = 41
                      · have t1 : ((s[p'].toNat : Int) != 41) = false := by rw [hch]; rfl
                        have HD : Hid (decide (r.2.1.headD 0 ≠ 41) = false) := by refine Lib.hid ?_; rw [hh, hch]; rfl
                        clear hh hch 
                        go_quiet (fail)
                        go_wp2_with fail
                        go_meet
                        rw [HD.out]
                        exact ⟨rfl, hS10.drewN nq⟩
                      · have t1 : ((s[p'].toNat : Int) != 41) = true := by
                          rw [bne_iff_ne]
                          intro h9
                          exact hch (UInt8.toNat_inj.1 (by show _ = 41; omega))
                        have HD : Hid (decide (r.2.1.headD 0 ≠ 41) = true) := by refine Lib.hid ?_; rw [hh]; simpa using hch
                        clear hh hch 
                        go_quiet (fail)
                        go_wp2_with fail
                        go_meet
                        rw [HD.out]
                        exact ⟨rfl, hS10.drewN nq⟩
                    · have hz : ((p' : Int) == (s.size : Int)) = true := by rw [beq_iff_eq]; omega
                      have HD : Hid (decide (r.2.1.headD 0 ≠ 41) = true) := by refine Lib.hid ?_; rw [headD_end HR.out (by omega)]; rfl
                      skip
                      go_quiet (fail)
                      go_wp2_with fail
                      go_meet
                      rw [HD.out]
                      exact ⟨rfl, hS10.drewN nq⟩
                  case rest =>
                    obtain ⟨rfl, hS11⟩ := hcut
                    clear hS10
                    by_cases h41 : r.2.1.headD 0 = 41
                    · have HK6 : Hid (K0 = ((true, r.2.1.drop 1, r.2.2), ks ++ [(Q.length : Int)])) := by
                        refine Lib.hid ?_
                        have h9 := HK5.out
                        rw [if_pos h41] at h9
                        exact h9.symm
                      have hrd2 := headD_pos h41 (by decide)
                      have hps : p' < s.size := by omega
                      rw [decide_eq_false (by simpa using h41)]
                      have hx : (Q ++ Qn)[P.length]? = some (⟨0, [], 0⟩, .slice none 0 0) := by rw [HPn.out]; simp
                      have HQ2 : Hid (Q ++ Qn = P ++ [(⟨0, [], 0⟩, .slice none 0 0)] ++ Pn ++ Qn) := by refine Lib.hid ?_; rw [HPn.out]
                      have hHR : r.2.1.drop 1 = (tl s).drop (p' + 1) := by rw [HR.out, List.drop_drop]
                      have HR2 := Lib.hid hHR
                      clear HK5 h41 hHR HPn
                      generalize Q ++ Qn = Q2 at *
                      generalize ks ++ [(Q.length : Int)] = ks2 at *
                      have hil : P.length < Q2.length := (List.getElem?_eq_some_iff.1 hx).1
                      obtain ⟨gg, cc, rfl, -⟩ := row_form (hS11.row 1 rfl) (by omega)
                      obtain ⟨-, c1⟩ := rdr_cells hS11
                      have f1 := (hS11.blk 0 rfl).frozen 1
                      go_upto_region 14 with fail
                      have hS12 : Hp o W (rits g s (p' + 1) (.slice (some ⟨gg, 0, none⟩) Q2.length cc) Q2 ++ [irow 3 1 (.slice (some ⟨g9, 0, none⟩) (ks.length + 1) c9) ks2.length (ivals ks2)]) (wc.setCell ⟨g, 1, none⟩ (.int .i64 ((p' : Int) + 1))) := rdr_at hS11 (p' + 1) ((p' : Int) + 1) (by omega)
                      clear hS11 c1 f1
                      generalize wc.setCell ⟨g, 1, none⟩ (.int .i64 ((p' : Int) + 1)) = w10 at *
                      have hS13 := hS12.drew
                      have c2 := (hS13.blk 0 rfl).cell 2
                      simp only [List.getElem?_cons_succ, List.getElem?_cons_zero] at c2
                      obtain ⟨k1, k2, k3, k4, k5, k6⟩ := rits_kids rfl hx hS13 nv
                      have hili : (P.length : Int) < (Q2.length : Int) := by omega
                      have hili0 : (0 : Int) ≤ (P.length : Int) := by omega
                      obtain ⟨m1, m2, m3, m4⟩ := rits_kids2 (vk := .slice (some ⟨g9, 0, none⟩) (ks.length + 1) c9) rfl hx hS12 nv
                      have m1 : (w10.setCell ⟨gg, P.length * 3, none⟩ (.int .i64 nv)).drew.cell? ⟨gg, P.length * 3 + 1, none⟩ = some (.slice none 0 0) := m1
                      have m2 : (w10.setCell ⟨gg, P.length * 3, none⟩ (.int .i64 nv)).drew.frozen? ⟨gg, P.length * 3 + 1, none⟩ = false := m2
                      have m3 : (w10.setCell ⟨gg, P.length * 3 + 1, none⟩ (.slice (some ⟨g9, 0, none⟩) (ks.length + 1) c9)).drew.cell? ⟨gg, P.length * 3, none⟩ = some (.int .i64 0) := m3
                      have m4 : (w10.setCell ⟨gg, P.length * 3 + 1, none⟩ (.slice (some ⟨g9, 0, none⟩) (ks.length + 1) c9)).drew.frozen? ⟨gg, P.length * 3, none⟩ = false := m4
                      clear hqq2
                      have K5 := Lib.hid k5
                      have K6 := Lib.hid k6
                      clear hS12 hS13 k5 k6
                      have HE : Hid ((gateP (f + 1) l (gts P)).1 = true ∧ (gateP (f + 1) l (gts P)).2.1 = (tl s).drop (p' + 1) ∧ ∃ Pn', P ++ Pn' = Q2.set P.length (⟨nv, ks2, 0⟩, .slice (some ⟨g9, 0, none⟩) (ks.length + 1) c9) ∧ gts (P ++ Pn') = (gateP (f + 1) l (gts P)).2.2) := by
                        refine Lib.hid ?_
                        have e : P ++ ([((⟨nv, ks2, 0⟩ : Gt), Value.slice (some ⟨g9, 0, none⟩) (ks.length + 1) c9)] ++ Pn ++ Qn) = Q2.set P.length (⟨nv, ks2, 0⟩, .slice (some ⟨g9, 0, none⟩) (ks.length + 1) c9) := by rw [HQ2.out]; simp
                        have e2 : gateP (f + 1) l (gts P) = (true, r.2.1.drop 1, r.2.2.set (gts P).length ⟨nv, ks2, 0⟩) := by rw [HG2.out, HK6.out]; rfl
                        rw [e2]
                        refine ⟨rfl, HR2.out, _, e, ?_⟩
                        rw [e, hgl, ← HG3.out]
                        exact List.map_set
                      clear HG2 HK6 HR2 HG3 HR HQ2 hx
                      go_region
                      all_goals
                        go_wp2_with fail
                        go_ret
                        obtain ⟨e1, e2, Pn', e3, e4⟩ := HE.out
                        exact ⟨p' + 1, _, _, by omega, e2, by first | exact K5.out | exact K6.out, fun h9 => (by rw [e1] at h9; cases h9), fun _ => ⟨rfl, Pn', (by rw [e3, List.length_set]), e4⟩⟩
                    · have HK6 : Hid (K0 = ((false, r.2), ks ++ [(Q.length : Int)])) := by
                        refine Lib.hid ?_
                        have h9 := HK5.out
                        rw [if_neg h41] at h9
                        exact h9.symm
                      rw [decide_eq_true (by simpa using h41)]
                      clear HK5 h41
                      go_wp2_with fail
                      refine ⟨rfl, p', vg', _, hp', ?_, hS11, fun _ => rfl, fun h9 => ?_⟩
                      · rw [HG2.out, HK6.out, if_pos rfl]; exact HR.out
                      · rw [HG2.out, HK6.out, if_pos rfl] at h9; cases h9
            · have hb0 : r.1 = false := by simpa using hb
              obtain rfl := hbad hb0
              rw [if_pos hb0] at HK2
              unfold pan
              clear hbad hgood hout hb
              have HB := Lib.hid hb0
              have HK4 := Lib.hid HK2
              have HR := Lib.hid hrest
              clear hb0 HK2 hrest
              go_wp2_with fail
              refine ⟨rfl, p', vg', its ++ [irow 3 1 (.slice Ak ks.length ck) ks.length (ivals ks)], hp', ?_, hS8, fun _ => rfl, fun h9 => ?_⟩
              · rw [HG2.out, ← HK4.out, if_pos HB.out]; exact HR.out
              · rw [HG2.out, ← HK4.out, if_pos HB.out, HB.out] at h9; cases h9
        · have HG2 : Hid (gateP (f + 1) l (gts P) = (true, rr, gts P ++ [⟨0, [], nv⟩])) := by refine Lib.hid ?_; rw [HG.out, if_pos h40]
          obtain ⟨q1, q2, q3⟩ := rits_leaf hS6
          have hS7 := q3 nv
          have c2 := (hS6.blk 0 rfl).cell 2
          simp only [List.getElem?_cons_succ, List.getElem?_cons_zero] at c2
          rw [decide_eq_true (by simpa using h40)]
          clear HG h40 q3 hS6
          go_wp2_with fail
          go_ret
          refine ⟨q, _, _, hq, ?_, hS7, fun h9 => ?_, fun _ => ⟨rfl, [(⟨0, [], nv⟩, .slice none 0 0)], rfl, ?_⟩⟩
          · rw [HG2.out]; exact hdr
          · rw [HG2.out] at h9; cases h9
          · rw [HG2.out]; simp [gts]
    · have hok0 : nOk l = false := by simpa using hok
      have HO : Hid (numOut l = pan) := by refine Lib.hid ?_; rw [numOut, hok0]; rfl
      have HG : Hid (gateP (f + 1) l (gts P) = (false, l.drop (numLen l), gts P)) := by refine Lib.hid ?_; rw [gateP, if_pos hok0]
      rw [HO.out]
      clear hok hok0 HO
      unfold pan
      go_wp2_with fail
      refine ⟨rfl, p + numLen l, _, _, hq, ?_, hS5, fun _ => rfl, fun h9 => ?_⟩
      · rw [HG.out]; exact hdr
      · rw [HG.out] at h9; cases h9
end Go.Proofs.YteaaeaimjbaomaaDoor

/-
  formula.Parse's deferred closure, and formula.Parse.
-/
namespace Go.Proofs.YteaaeaimjbaomaaDoor
open Go.RowKit
set_option linter.unusedVariables false

set_option maxRecDepth 20000 in
set_option maxHeartbeats 2000000 in
theorem catch_pan (bp bf ba be gr : Nat) (p : Nat) (fv av ev : Value) (older : List PanicEntry) (w : World) (c0 : w.cell? ⟨bp, 0, none⟩ = some (ptr gr)) (c1 : w.cell? ⟨gr, 1, none⟩ = some (.int .i64 (p : Int))) (c2 : w.cell? ⟨bf, 0, none⟩ = some fv) (c3 : w.cell? ⟨ba, 0, none⟩ = some av) (c4 : w.cell? ⟨be, 0, none⟩ = some ev)
    (f2 : w.frozen? ⟨bf, 0, none⟩ = false) (f3 : w.frozen? ⟨ba, 0, none⟩ = false) (f4 : w.frozen? ⟨be, 0, none⟩ = false) (hne : bf ≠ ba ∧ bf ≠ be ∧ ba ≠ be) :
    CallsD Tryd.prog 45 #[ptr bp, ptr bf, ptr ba, ptr be] (.panicking ({ v := .iface 27 (.int .i64 4), recovered := false } :: older)) w fun e u' w' =>
      e = .returned (.tuple #[]) ∧ u' = .panicking ({ v := .iface 27 (.int .i64 4), recovered := true } :: older) ∧ w' = ((w.setCell ⟨bf, 0, none⟩ (.slice none 0 0)).setCell ⟨ba, 0, none⟩ (.int .i64 (p : Int))).setCell ⟨be, 0, none⟩ (.int .i64 4) := by
  have hta : ∀ w : World, (Instr.typeAssert (.iface 27 (.int .i64 4)) 20 27 true).run Tryd.prog w = .ok (.tuple #[.int .i64 4, .bool true]) w := fun w => by kernel_rfl
  have hnt : ∀ (x : Bool) (w : World), (Op.unary .not (.bool x)).run Tryd.prog w = .ok (.bool (!x)) w := fun _ _ => rfl
  refine callsD_of_wpS Tryd.func45 rfl fun c₀ cs hu => ?_
  apply wpS_seq
  apply wpS_region
  simp [wpOpsS, go_sem, recoverD, hu, Tryd.ntmps45, Exit.thenS]
  refine wpS_of_wp ?_
  have e : (#[ptr bp, ptr bf, ptr ba, ptr be] ++ ((Array.replicate 20 undef).setIfInBounds 3 (Value.iface 27 (Value.int IntKind.i64 4))).setIfInBounds 0 (Value.iface 27 (Value.int IntKind.i64 4)) : Array Value) =
      #[ptr bp, ptr bf, ptr ba, ptr be, .iface 27 (.int .i64 4), undef, undef, .iface 27 (.int .i64 4), undef, undef, undef, undef, undef, undef, undef, undef, undef, undef, undef, undef, undef, undef, undef, undef] := by kernel_rfl
  rw [e]
  generalize hQ : (fun (e : Exit) (a' : Act) (w' : World) => bodyPostS _ _ _ _ _ e a' _ w') = Q
  go_wp2_with fail
  subst hQ
  simp [bodyPostS, results, Tryd.results45]
set_option maxRecDepth 20000 in
set_option maxHeartbeats 2000000 in
theorem catch_idle (bp bf ba be : Nat) (w : World) :
    CallsD Tryd.prog 45 #[ptr bp, ptr bf, ptr ba, ptr be] .returning w fun e u' w' => e = .returned (.tuple #[]) ∧ u' = .returning ∧ w' = w := by
  refine callsD_of_wpS Tryd.func45 rfl fun c₀ cs hu => ?_
  apply wpS_seq
  apply wpS_region
  simp [wpOpsS, go_sem, recoverD, hu, Tryd.ntmps45, Exit.thenS]
  refine wpS_of_wp ?_
  have e : (#[ptr bp, ptr bf, ptr ba, ptr be] ++ ((Array.replicate 20 undef).setIfInBounds 3 Value.nilIface).setIfInBounds 0 Value.nilIface : Array Value) =
      #[ptr bp, ptr bf, ptr ba, ptr be, .nilIface, undef, undef, .nilIface, undef, undef, undef, undef, undef, undef, undef, undef, undef, undef, undef, undef, undef, undef, undef, undef] := by kernel_rfl
  rw [e]
  generalize hQ : (fun (e : Exit) (a' : Act) (w' : World) => bodyPostS _ _ _ _ _ e a' _ w') = Q
  go_wp2_with fail
  subst hQ
  cases c₀
  simp_all [bodyPostS, results, Tryd.results45]
end Go.Proofs.YteaaeaimjbaomaaDoor

/-
  formula.Parse.
-/
namespace Go.Proofs.YteaaeaimjbaomaaDoor
open Go.RowKit
set_option linter.unusedVariables false

def parseP (l : List UInt8) : List Gt × Nat × Int :=
  if l = [] then ([], 0, 0)
  else if (gateP (l.length + 1) l []).1 = false ∨ (gateP (l.length + 1) l []).2.1 ≠ [] then ([], l.length - (gateP (l.length + 1) l []).2.1.length, 4)
  else if (leavesP (gateP (l.length + 1) l []).2.2).2 = false ∨ 512 < (gateP (l.length + 1) l []).2.2.length then ([], 0, 3)
  else ((gateP (l.length + 1) l []).2.2, 0, 0)
/-- gates that have been built lie in memory -/
theorem gates_of {o : List Nat} {w W : World} {x : It} {A : Option Addr} {n c : Nat} {P : List GV} {r : List It} (h : Hp o w (x :: irow 40 3 (.slice A n c) P.length (gcells P) :: (kidIts P ++ r)) W) : Gates W W.heap.size A (gts P) := by
  refine ⟨fun hne => ?_⟩
  have hr := h.row 1 rfl
  have hpos : 0 < P.length := by
    rcases Nat.eq_zero_or_pos P.length with h9 | h9
    · exact absurd (by rw [List.eq_nil_of_length_eq_zero h9]; rfl) hne
    · exact h9
  obtain ⟨g, cap, hv, -⟩ := row_form hr hpos
  injection hv with hA hn hc
  subst hA
  subst hn
  subst hc
  refine ⟨_, rfl, (hr.lt g rfl).2, fun i y hy => ?_⟩
  rw [List.getElem?_map] at hy
  obtain ⟨z, hz, rfl⟩ := Option.map_eq_some_iff.1 hy
  obtain ⟨a1, a2, a3⟩ := gcells_at hz
  have e0 : ∀ j, (⟨g, 0, none⟩ : Addr).add j = ⟨g, j, none⟩ := fun j => by unfold Addr.add; split <;> simp_all
  have hk : W.ownsRow 0 3 1 z.2 z.1.kids.length (ivals z.1.kids) := h.row (i + 2) (by
    show (kidIts P ++ r)[i]? = _
    have hl : i < (kidIts P).length := by rw [kidIts, List.length_map]; exact (List.getElem?_eq_some_iff.1 hz).1
    rw [List.getElem?_append_left hl, kidIts, List.getElem?_map, hz]; rfl)
  obtain ⟨KA, kc, hzz⟩ := row_forms hk
  rw [e0]
  refine ⟨row_cell hr a1, ⟨KA, kc, ?_, ⟨fun hl => ?_⟩⟩, row_cell hr a3⟩
  · rw [← hzz]; exact row_cell hr a2
  · have hkp : 0 < z.1.kids.length := by
      rcases Nat.eq_zero_or_pos z.1.kids.length with h9 | h9
      · exact absurd (List.eq_nil_of_length_eq_zero h9) hl
      · exact h9
    obtain ⟨gk, ck, hv, -⟩ := row_form hk hkp
    rw [hzz] at hv
    injection hv with hA _ _
    rw [hzz] at hk
    subst hA
    refine ⟨_, rfl, (hk.lt gk rfl).2, fun j v hv => ?_⟩
    exact hk.cells rfl j v hv
/-- no gate has more kids than the text has bytes -/
theorem kids_kids {g : List UInt8 → List Gt → GR} {b : Nat} (hg : ∀ l G, l.length ≤ b → (g l G).1 = true → ∀ x ∈ (g l G).2.2, x ∈ G ∨ x.kids.length ≤ b) (hgo : ∀ l G, GOut l G (g l G)) :
    ∀ (m : Nat) (l : List UInt8) (G : List Gt) (ks : List Int), l.length ≤ b → (kidsR g m l G ks).1.1 = true → ∀ x ∈ (kidsR g m l G ks).1.2.2, x ∈ G ∨ x.kids.length ≤ b
  | 0, l, G, ks, hb, h => by cases h
  | m + 1, l, G, ks, hb, h => by
    have hd : (l.drop 1).length ≤ b := by rw [List.length_drop]; omega
    rw [kidsR] at h ⊢
    by_cases c1 : (g (l.drop 1) G).1 = false
    · rw [if_pos c1] at h; rw [c1] at h; cases h
    · have c1' : (g (l.drop 1) G).1 = true := by simpa using c1
      rw [if_neg c1] at h ⊢
      have h1 := hg _ G hd c1'
      by_cases c2 : (g (l.drop 1) G).2.1.headD 0 = 44
      · rw [if_pos c2] at h ⊢
        intro x hx
        rcases kids_kids hg hgo m _ _ _ (Nat.le_trans (hgo (l.drop 1) G).rest hd) h x hx with h2 | h2
        · exact h1 x h2
        · exact .inr h2
      · rw [if_neg c2] at h ⊢
        by_cases c3 : (g (l.drop 1) G).2.1.headD 0 = 41
        · rw [if_pos c3]; exact h1
        · rw [if_neg c3] at h; cases h
theorem gate_kids : ∀ (f : Nat) (b : Nat) (l : List UInt8) (G : List Gt), l.length ≤ b → (gateP f l G).1 = true → ∀ x ∈ (gateP f l G).2.2, x ∈ G ∨ x.kids.length ≤ b
  | 0, b, l, G, hb, h => by cases h
  | f + 1, b, l, G, hb, h => by
    rw [gateP] at h ⊢
    by_cases c1 : nOk l = false
    · rw [if_pos c1] at h; cases h
    · rw [if_neg c1] at h ⊢
      have hr := nOk_rest (l := l) (by simpa using c1)
      by_cases c2 : (l.drop (numLen l)).headD 0 ≠ 40
      · rw [if_pos c2]
        intro x hx
        rcases List.mem_append.1 hx with hx | hx
        · exact .inl hx
        · rw [List.mem_singleton.1 hx]; exact .inr (Nat.zero_le _)
      · rw [if_neg c2] at h ⊢
        have c2' : (l.drop (numLen l)).headD 0 = 40 := Classical.byContradiction c2
        have hne : l.drop (numLen l) ≠ [] := by
          intro h9
          rw [h9] at c2'; cases c2'
        have ho := kids_out (gate_out f) f (l.drop (numLen l)) (G ++ [⟨0, [], 0⟩]) [] hne
        have hk := kids_kids (g := gateP f) (b := b) (fun l G hl => gate_kids f b l G hl) (gate_out f) f (l.drop (numLen l)) (G ++ [⟨0, [], 0⟩]) [] (by omega)
        generalize kidsR (gateP f) f (l.drop (numLen l)) (G ++ [⟨0, [], 0⟩]) [] = q at *
        by_cases c3 : q.1.1 = false
        · rw [if_pos c3] at h; rw [c3] at h; cases h
        · rw [if_neg c3]
          have c3' : q.1.1 = true := by simpa using c3
          have k1 := (ho.kn c3').1
          have k2 := ho.cnt c3'
          simp only [List.length_nil, List.length_append, List.length_cons] at k1 k2
          intro x hx
          rcases List.mem_or_eq_of_mem_set hx with hx | rfl
          · rcases hk c3' x hx with h1 | h1
            · rcases List.mem_append.1 h1 with h1 | h1
              · exact .inl h1
              · rw [List.mem_singleton.1 h1]; exact .inr (Nat.zero_le _)
            · exact .inr h1
          · right
            show q.2.length ≤ b
            omega
theorem parse_kids {l : List UInt8} {b : Nat} (hb : l.length ≤ b) : ∀ x ∈ (parseP l).1, x.kids.length ≤ b := by
  intro x hx
  unfold parseP at hx
  split at hx
  · cases hx
  · split at hx
    · cases hx
    · split at hx
      · cases hx
      · rename_i h1 h2
        rcases gate_kids (l.length + 1) b l [] hb (by simpa using fun h9 => h1 (.inl h9)) x hx with h3 | h3
        · cases h3
        · exact h3
def ParseOut (r : List Gt × Nat × Int) (e : Ending) (w' : World) : Prop := ∃ A c, e = .returned (.tuple #[.agg #[.slice A r.1.length c], .int .i64 (r.2.1 : Int), .int .i64 r.2.2]) ∧ Gates w' w'.heap.size A r.1
set_option maxRecDepth 20000 in
set_option maxHeartbeats 4000000 in
theorem Parse_any (s : ByteArray) (hs : s.size ≤ 2000) (w : World) : Calls Tryd.prog 24 #[.string s] w fun e w' => ParseOut (parseP (tl s)) e w' ∧ Below w.heap.size w w' := by
  have hmf : ∀ (fn : Fn) (first cap : Array Value) (w : World), (Instr.makeFunc fn first cap).run Tryd.prog w = .ok (.func fn first cap) w := fun _ _ _ _ => rfl
  have hlt : ¬ (65536 : Int) < (s.size : Int) := by omega
  have hk : Kp w [(w.heap.size + 1 + 1, 27, [.int .i64 0]), (w.heap.size + 1, 3, [.int .i64 0]), (w.heap.size, 24, [.slice none 0 0])] (((w.alloc (.cells #[.slice none 0 0] 24)).alloc (.cells #[.int .i64 0] 3)).alloc (.cells #[.int .i64 0] 27)) := by
    have := (((Kp.start w).new 24 [.slice none 0 0]).new 3 [.int .i64 0]).new 27 [.int .i64 0]
    simpa using this
  by_cases hz : s.size = 0
  · have HV : Hid (parseP (tl s) = ([], 0, 0)) := by refine Lib.hid ?_; rw [parseP, if_pos (tl_empty hz)]
    obtain ⟨e1, e2⟩ := str_empty hz
    go_enter_defers Tryd.func24, Tryd.ntmps24
    go_wp2_with fail
    obtain ⟨b0, b1, b2⟩ := And.intro ((hk.at_ 2 rfl).cell 0) (And.intro ((hk.at_ 1 rfl).cell 0) ((hk.at_ 0 rfl).cell 0))
    simp only [List.getElem?_cons_zero] at b0 b1 b2
    simp [bodyPostD, Leaves, results, Tryd.results24, go_sem, b0, b1, b2]
    refine ⟨⟨none, 0, ?_, ?_⟩, hk.below⟩
    · rw [HV.out]; rfl
    · rw [HV.out]; exact ⟨fun h9 => absurd rfl h9⟩
  · obtain ⟨e1, e2⟩ := str_full (s := s) (by omega)
    go_enter_defers Tryd.func24, Tryd.ntmps24
    have hlen : (tl s).length = s.size := length_tl s
    have hPne : tl s ≠ [] := by intro h9; rw [h9] at hlen; simp at hlen; omega
    have hh : Hp [] w [iblk (w.heap.size + 1 + 1 + 1 + 1) 86 [ptr (w.heap.size + 1 + 1 + 1)], irdr (w.heap.size + 1 + 1 + 1) s 0 (.slice none 0 0), iblk (w.heap.size + 1 + 1) 27 [.int .i64 0], iblk (w.heap.size + 1) 3 [.int .i64 0], iblk w.heap.size 24 [.slice none 0 0]]
        (((((w.alloc (.cells #[.slice none 0 0] 24)).alloc (.cells #[.int .i64 0] 3)).alloc (.cells #[.int .i64 0] 27)).alloc (.cells #[.string s, .int .i64 0, .slice none 0 0] 88)).alloc (.cells #[.pointer (some ⟨w.heap.size + 1 + 1 + 1, 0, none⟩)] 86)) := by
      have := (((((Hp.start w).new 24 [.slice none 0 0]).new 3 [.int .i64 0]).new 27 [.int .i64 0]).new 88 [.string s, .int .i64 0, .slice none 0 0]).new 86 [ptr (w.heap.size + 1 + 1 + 1)]
      have hsz : ∀ (w : World) (o : Obj), (w.alloc o).heap.size = w.heap.size + 1 := fun w o => by simp
      simp only [hsz] at this
      exact this
    go_wp2_with fail
    generalize ((((w.alloc (.cells #[.slice none 0 0] 24)).alloc (.cells #[.int .i64 0] 3)).alloc (.cells #[.int .i64 0] 27)).alloc (.cells #[.string s, .int .i64 0, .slice none 0 0] 88)).alloc (.cells #[.pointer (some ⟨w.heap.size + 1 + 1 + 1, 0, none⟩)] 86) = W5 at *
    have hD : w.heap.size < w.heap.size + 1 ∧ w.heap.size + 1 < w.heap.size + 1 + 1 ∧ w.heap.size + 1 + 1 < w.heap.size + 1 + 1 + 1 ∧ w.heap.size + 1 + 1 + 1 < w.heap.size + 1 + 1 + 1 + 1 := by omega
    clear hk
    generalize w.heap.size + 1 + 1 + 1 + 1 = bp at *
    generalize w.heap.size + 1 + 1 + 1 = gr at *
    generalize w.heap.size + 1 + 1 = be at *
    generalize w.heap.size + 1 = ba at *
    generalize hbf : w.heap.size = bf at *
    have hh2 : Hp [] w (rits gr s 0 (.slice none 0 0) [] ++ [iblk bp 86 [ptr gr], iblk be 27 [.int .i64 0], iblk ba 3 [.int .i64 0], iblk bf 24 [.slice none 0 0]]) W5 := by
      have h1 := hh.nilrow 40 3
      refine h1.perm ?_
      refine (List.Perm.swap _ _ _).trans ?_
      refine List.Perm.trans (List.Perm.cons _ (List.Perm.swap _ _ _)) ?_
      refine List.Perm.trans (List.Perm.swap _ _ _) ?_
      exact List.Perm.cons _ (List.Perm.swap _ _ _)
    clear hh
    refine (gate_any gr s hs (s.size + 1) 0 (.slice none 0 0) [] W5 (Nat.zero_le _) (by omega) (by simpa using hs) hh2.sub.sep).mono ?_
    rintro e w6 ⟨p', vg', its, hp', hrest, hH, hbad, hgood⟩
    have hS := (Hp.call hh2 hH).perm List.perm_append_comm
    clear hh2 hH
    rw [List.drop_zero] at hrest hbad hgood
    have HV0 : Hid (parseP (tl s) = if (gateP (s.size + 1) (tl s) []).1 = false ∨ (gateP (s.size + 1) (tl s) []).2.1 ≠ [] then ([], s.size - (gateP (s.size + 1) (tl s) []).2.1.length, 4)
        else if (leavesP (gateP (s.size + 1) (tl s) []).2.2).2 = false ∨ 512 < (gateP (s.size + 1) (tl s) []).2.2.length then ([], 0, 3)
        else ((gateP (s.size + 1) (tl s) []).2.2, 0, 0)) := by
      refine Lib.hid ?_
      rw [parseP, if_neg hPne, hlen]
    have hkids := gate_kids (s.size + 1) 2000 (tl s) [] (by omega)
    have hout := gate_out (s.size + 1) (tl s) []
    have hgts : gts [] = [] := rfl
    rw [hgts] at hrest hbad hgood
    generalize gateP (s.size + 1) (tl s) [] = r at *
    have hrl := size_drop hp' hrest
    by_cases hb : r.1 = true
    · obtain ⟨rfl, Pn, rfl, hg9⟩ := hgood hb
      rw [List.nil_append] at hS hg9
      have hcn := hout.cnt hb
      rw [List.length_nil, Nat.zero_add, hlen] at hcn
      have hgl : (gts Pn).length = Pn.length := by simp
      have hrg : r.2.2.length = Pn.length := by rw [← hg9, hgl]
      obtain ⟨A, c, rfl⟩ := row_forms (hS.row 5 rfl)
      have hkk := hkids hb
      clear hbad hgood hkids hout
      by_cases hps : p' < s.size
      · have HV : Hid (parseP (tl s) = ([], p', 4)) := by
          refine Lib.hid ?_
          rw [HV0.out, if_pos (.inr (by intro h9; rw [h9] at hrl; simp at hrl; omega)), hrl, show s.size - (s.size - p') = p' by omega]
        have hpi : (p' : Int) < (s.size : Int) := by omega
        have c0 := (hS.blk 0 rfl).cell 0
        have c1 := (hS.blk 4 rfl).cell 1
        have c4 := (hS.blk 1 rfl).cell 0
        have c3 := (hS.blk 2 rfl).cell 0
        have c2 := (hS.blk 3 rfl).cell 0
        have f4 := (hS.blk 1 rfl).frozen 0
        have f3 := (hS.blk 2 rfl).frozen 0
        have f2 := (hS.blk 3 rfl).frozen 0
        have hS2 := ((hS.set 3 rfl 0 (.slice none 0 0)).set 2 rfl 0 (.int .i64 (p' : Int))).set 1 rfl 0 (.int .i64 4)
        have d0 := (hS2.blk 3 rfl).cell 0
        have d1 := (hS2.blk 2 rfl).cell 0
        have d2 := (hS2.blk 1 rfl).cell 0
        simp only [List.getElem?_cons_zero, List.getElem?_cons_succ, List.set_cons_zero] at c0 c1 c2 c3 c4 d0 d1 d2
        have HS2 := Lib.hid hS2.below0
        clear hS hS2 hb HV0 hkk hg9 hrg hcn
        go_wp2_with fail
        refine leaves_cons (f := 45) (args := #[ptr bp, ptr bf, ptr ba, ptr be]) (by simp) (by simp [go_sem]) ?_
        refine (catch_pan bp bf ba be gr p' _ _ _ [] _ c0 c1 c2 c3 c4 f2 f3 f4 (by omega)).mono ?_
        rintro e u' w'' ⟨rfl, rfl, rfl⟩
        simp [Leaves, settle, results, Tryd.results24, go_sem, d0, d1, d2]
        refine ⟨⟨none, 0, ?_, ?_⟩, HS2.out⟩
        · rw [HV.out]; rfl
        · rw [HV.out]; exact ⟨fun h9 => absurd rfl h9⟩
      · have hpe : p' = s.size := by omega
        have hpi : ¬ (p' : Int) < (s.size : Int) := by omega
        have hnil : r.2.1 = [] := by rw [hrest, List.drop_eq_nil_of_le (by rw [length_tl]; omega)]
        have HV1 : Hid (parseP (tl s) = if (leavesP (gts Pn)).2 = false ∨ 512 < Pn.length then ([], 0, 3) else (gts Pn, 0, 0)) := by
          refine Lib.hid ?_
          rw [HV0.out, if_neg (by rw [hb, hnil]; simp), hg9, hrg]
        have hF : (gts Pn).length ≤ 1000000 := by omega
        have hK : ∀ x ∈ gts Pn, x.kids.length ≤ 1000000 := fun x hx => by
          rw [hg9] at hx
          rcases hkk x hx with h9 | h9
          · cases h9
          · omega
        have c0 := (hS.blk 0 rfl).cell 0
        have c1 := (hS.blk 4 rfl).cell 1
        have c2 := (hS.blk 4 rfl).cell 2
        have c3 := (hS.blk 3 rfl).cell 0
        have f3 := (hS.blk 3 rfl).frozen 0
        simp only [List.getElem?_cons_zero, List.getElem?_cons_succ] at c0 c1 c2 c3
        have hS3 := hS.set 3 rfl 0 (.slice A Pn.length c)
        clear hS HV0 hkk hg9 hrg hrest hnil
        go_upto_region 11 with fail
        clear c0 c1 c2 c3 f3
        have hS4 : Hp [] w (iblk bp 86 [ptr gr] :: iblk be 27 [.int .i64 0] :: iblk ba 3 [.int .i64 0] :: iblk bf 24 [.slice A Pn.length c] :: rits gr s p' (.slice A Pn.length c) Pn) (w6.setCell ⟨bf, 0, none⟩ (.slice A Pn.length c)) := hS3
        clear hS3
        generalize w6.setCell ⟨bf, 0, none⟩ (.slice A Pn.length c) = w7 at *
        have hS5 : Hp [] w (rits gr s p' (.slice A Pn.length c) Pn ++ [iblk bp 86 [ptr gr], iblk be 27 [.int .i64 0], iblk ba 3 [.int .i64 0], iblk bf 24 [.slice A Pn.length c]]) w7 := hS4.perm (List.perm_append_comm (l₁ := [iblk bp 86 [ptr gr], iblk be 27 [.int .i64 0], iblk ba 3 [.int .i64 0], iblk bf 24 [.slice A Pn.length c]]))
        have hG7 := gates_of hS5
        have HC := Lib.hid (leaves_any A c (gts Pn) hF hK w7 hG7)
        rw [hgl] at HC
        have HGL := Lib.hid hgl
        clear hgl hS5
        have c3 := (hS4.blk 3 rfl).cell 0
        simp only [List.getElem?_cons_zero] at c3
        go_wp2_with fail
        refine HC.out.mono ?_
        rintro e w8 ⟨rfl, hb8⟩
        have hS8 := hS4.next hb8
        have hG8 := hG7.keep' hb8
        clear HC hS4 hG7 hb8 c3
        have c3 := (hS8.blk 3 rfl).cell 0
        have c2 := (hS8.blk 2 rfl).cell 0
        have c1 := (hS8.blk 1 rfl).cell 0
        have f3 := (hS8.blk 3 rfl).frozen 0
        have f2 := (hS8.blk 2 rfl).frozen 0
        have f1 := (hS8.blk 1 rfl).frozen 0
        simp only [List.getElem?_cons_zero] at c3 c2 c1
        by_cases hlv : (leavesP (gts Pn)).2 = true
        · rw [hlv]
          by_cases h512 : 512 < Pn.length
          · have HV : Hid (parseP (tl s) = ([], 0, 3)) := by refine Lib.hid ?_; rw [HV1.out, if_pos (.inr h512)]
            have h5i : (512 : Int) < (Pn.length : Int) := by omega
            clear HV1
            have hS9 := ((hS8.set 3 rfl 0 (.slice none 0 0)).set 2 rfl 0 (.int .i64 0)).set 1 rfl 0 (.int .i64 3)
            have d0 := (hS9.blk 3 rfl).cell 0
            have d1 := (hS9.blk 2 rfl).cell 0
            have d2 := (hS9.blk 1 rfl).cell 0
            simp only [List.getElem?_cons_zero, List.set_cons_zero] at d0 d1 d2
            have HS9 := Lib.hid hS9.below0
            clear hS8 hS9
            go_wp2_with fail
            refine leaves_cons (f := 45) (args := #[ptr bp, ptr bf, ptr ba, ptr be]) (by simp) (by simp [go_sem]) ?_
            refine (catch_idle bp bf ba be _).mono ?_
            rintro e u' w'' ⟨rfl, rfl, rfl⟩
            simp [Leaves, settle, results, Tryd.results24, go_sem, d0, d1, d2]
            refine ⟨⟨none, 0, ?_, ?_⟩, HS9.out⟩
            · rw [HV.out]; rfl
            · rw [HV.out]; exact ⟨fun h9 => absurd rfl h9⟩
          · have HV : Hid (parseP (tl s) = (gts Pn, 0, 0)) := by
              refine Lib.hid ?_
              rw [HV1.out, if_neg (by rw [hlv]; simp; omega)]
            have h5i : ¬ (512 : Int) < (Pn.length : Int) := by omega
            clear HV1
            have hS9 := ((hS8.set 3 rfl 0 (.slice A Pn.length c)).set 2 rfl 0 (.int .i64 0)).set 1 rfl 0 (.int .i64 0)
            have d0 := (hS9.blk 3 rfl).cell 0
            have d1 := (hS9.blk 2 rfl).cell 0
            have d2 := (hS9.blk 1 rfl).cell 0
            simp only [List.getElem?_cons_zero, List.set_cons_zero] at d0 d1 d2
            have HS9 := Lib.hid hS9
            clear hS8 hS9
            go_wp2_with fail
            refine leaves_cons (f := 45) (args := #[ptr bp, ptr bf, ptr ba, ptr be]) (by simp) (by simp [go_sem]) ?_
            refine (catch_idle bp bf ba be _).mono ?_
            rintro e u' w'' ⟨rfl, rfl, rfl⟩
            simp [Leaves, settle, results, Tryd.results24, go_sem, d0, d1, d2]
            refine ⟨⟨A, c, ?_, ?_⟩, HS9.out.below0⟩
            · rw [HV.out, HGL.out]; rfl
            · rw [HV.out]
              have h9 := HS9.out.perm (List.perm_append_comm (l₁ := [iblk bp 86 [ptr gr], iblk be 27 [.int .i64 0], iblk ba 3 [.int .i64 0], iblk bf 24 [.slice A Pn.length c]]))
              exact gates_of h9
        · have hlv0 : (leavesP (gts Pn)).2 = false := by simpa using hlv
          have HV : Hid (parseP (tl s) = ([], 0, 3)) := by refine Lib.hid ?_; rw [HV1.out, if_pos (.inl hlv0)]
          rw [hlv0]
          clear HV1
          have hS9 := ((hS8.set 3 rfl 0 (.slice none 0 0)).set 2 rfl 0 (.int .i64 0)).set 1 rfl 0 (.int .i64 3)
          have d0 := (hS9.blk 3 rfl).cell 0
          have d1 := (hS9.blk 2 rfl).cell 0
          have d2 := (hS9.blk 1 rfl).cell 0
          simp only [List.getElem?_cons_zero, List.set_cons_zero] at d0 d1 d2
          have HS9 := Lib.hid hS9.below0
          clear hS8 hS9
          go_wp2_with fail
          refine leaves_cons (f := 45) (args := #[ptr bp, ptr bf, ptr ba, ptr be]) (by simp) (by simp [go_sem]) ?_
          refine (catch_idle bp bf ba be _).mono ?_
          rintro e u' w'' ⟨rfl, rfl, rfl⟩
          simp [Leaves, settle, results, Tryd.results24, go_sem, d0, d1, d2]
          refine ⟨⟨none, 0, ?_, ?_⟩, HS9.out⟩
          · rw [HV.out]; rfl
          · rw [HV.out]; exact ⟨fun h9 => absurd rfl h9⟩
    · have hb0 : r.1 = false := by simpa using hb
      obtain rfl := hbad hb0
      have HV : Hid (parseP (tl s) = ([], p', 4)) := by
        refine Lib.hid ?_
        rw [HV0.out, if_pos (.inl hb0), hrl, show s.size - (s.size - p') = p' by omega]
      have c0 := (hS.blk 0 rfl).cell 0
      have c1 := (hS.blk 4 rfl).cell 1
      have c4 := (hS.blk 1 rfl).cell 0
      have c3 := (hS.blk 2 rfl).cell 0
      have c2 := (hS.blk 3 rfl).cell 0
      have f4 := (hS.blk 1 rfl).frozen 0
      have f3 := (hS.blk 2 rfl).frozen 0
      have f2 := (hS.blk 3 rfl).frozen 0
      have hS2 := ((hS.set 3 rfl 0 (.slice none 0 0)).set 2 rfl 0 (.int .i64 (p' : Int))).set 1 rfl 0 (.int .i64 4)
      have d0 := (hS2.blk 3 rfl).cell 0
      have d1 := (hS2.blk 2 rfl).cell 0
      have d2 := (hS2.blk 1 rfl).cell 0
      simp only [List.getElem?_cons_zero, List.getElem?_cons_succ, List.set_cons_zero] at c0 c1 c2 c3 c4 d0 d1 d2
      have HS2 := Lib.hid hS2.below0
      clear hS hS2 hbad hgood hb hb0 HV0 hout hkids
      unfold pan
      go_wp2_with fail
      refine leaves_cons (f := 45) (args := #[ptr bp, ptr bf, ptr ba, ptr be]) (by simp) (by simp [go_sem]) ?_
      refine (catch_pan bp bf ba be gr p' _ _ _ [] _ c0 c1 c2 c3 c4 f2 f3 f4 (by omega)).mono ?_
      rintro e u' w'' ⟨rfl, rfl, rfl⟩
      simp [Leaves, settle, results, Tryd.results24, go_sem, d0, d1, d2]
      refine ⟨⟨none, 0, ?_, ?_⟩, HS2.out⟩
      · rw [HV.out]; rfl
      · rw [HV.out]; exact ⟨fun h9 => absurd rfl h9⟩
end Go.Proofs.YteaaeaimjbaomaaDoor
