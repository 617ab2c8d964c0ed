/-
  What Parse returns is tidy, and its offsets ascend. Plain; the law of Forms.
-/
import Derived.Test.YtminghdnclpocaaGreatDoorPqC
import Derived.Test.YtminghdnclpocaaGreatDoorPqT
import Derived.Test.YtminghdnclpocaaGreatDoorPfS
namespace Go.Proofs.YtminghdnclpocaaGreatDoor.Pa
open Lx (Tok)
set_option linter.unusedVariables false

/-- the nodes in preorder -/
def F.pre : F → List Nd
  | .nil => []
  | .cons n k r => n :: (k.pre ++ r.pre)
theorem F.pre_app (f g : F) : (f.app g).pre = f.pre ++ g.pre := by
  induction f with
  | nil => rfl
  | cons n k r _ ih => rw [F.app, F.pre, F.pre, ih, List.cons_append, List.append_assoc]
theorem F.num_pre (f : F) : ∀ a, (f.num a).map Prod.fst = f.pre := by
  induction f with
  | nil => intro a; rfl
  | cons n k r ih1 ih2 => intro a; rw [F.num, List.map_cons, List.map_append, ih1, ih2]; rfl
/-- how the offsets of two nodes in a row lie -/
def Rl (x y : Nd) : Prop := if 6 ≤ x.kind ∧ x.kind ≤ 8 then y.at_ = x.at_ else x.at_ < y.at_
def Cn : List Nd → Prop
  | [] => True
  | [_] => True
  | x :: y :: l => Rl x y ∧ Cn (y :: l)
theorem Cn.app : ∀ {l m : List Nd}, Cn l → Cn m → (∀ x y, l.getLast? = some x → m.head? = some y → Rl x y) → Cn (l ++ m)
  | [], m, _, h, _ => h
  | [x], [], _, _, _ => trivial
  | [x], y :: m, _, h, g => ⟨g x y rfl rfl, h⟩
  | x :: y :: l, m, h1, h2, g => ⟨h1.1, Cn.app (l := y :: l) h1.2 h2 fun a b ha hb => g a b (by rw [List.getLast?_cons_cons]; exact ha) hb⟩
theorem Cn.at_ : ∀ {l : List Nd} {i : Nat} {x y : Nd}, Cn l → l[i]? = some x → l[i + 1]? = some y → Rl x y
  | [], i, x, y, _, h, _ => by simp at h
  | [a], i, x, y, _, _, h => by simp at h
  | a :: b :: l, 0, x, y, h, h1, h2 => by
    simp only [List.getElem?_cons_zero, Option.some.injEq, List.getElem?_cons_succ] at h1 h2
    subst h1 h2
    exact h.1
  | a :: b :: l, i + 1, x, y, h, h1, h2 => Cn.at_ (l := b :: l) (i := i) h.2 (by simpa using h1) (by simpa using h2)
/-- what is known of the nodes of trees that were derived from tokens -/
structure Oc (us : List Tok) (f : F) : Prop where
  ne : f.pre ≠ []
  cn : Cn f.pre
  mem : ∀ n ∈ f.pre, ∃ t ∈ us, t.at_ = n.at_
  last : ∀ n, f.pre.getLast? = some n → ¬ (6 ≤ n.kind ∧ n.kind ≤ 8)
theorem Oc.mono {us vs : List Tok} {f : F} (h : Oc us f) (hs : ∀ t ∈ us, t ∈ vs) : Oc vs f := ⟨h.ne, h.cn, fun n hn => by
  obtain ⟨t, ht, e⟩ := h.mem n hn
  exact ⟨t, hs t ht, e⟩, h.last⟩
theorem getLast_app {α : Type} {l m : List α} (h : m ≠ []) : (l ++ m).getLast? = m.getLast? := by
  rw [List.getLast?_append]
  cases hm : m.getLast? with
  | none => exact absurd (List.getLast?_eq_none_iff.1 hm) h
  | some x => rfl
theorem Oc.app {us vs : List Tok} {f g : F} (h : Oc us f) (k : Oc vs g) (ha : ∀ s ∈ us, ∀ t ∈ vs, s.at_ < t.at_) : Oc (us ++ vs) (f.app g) := by
  refine ⟨?_, ?_, fun n hn => ?_, fun n hn => ?_⟩
  · rw [F.pre_app]; simp [h.ne]
  · rw [F.pre_app]
    refine h.cn.app k.cn fun x y hx hy => ?_
    unfold Rl
    rw [if_neg (h.last x hx)]
    obtain ⟨s, hs, e1⟩ := h.mem x (List.mem_of_getLast? hx)
    obtain ⟨t, ht, e2⟩ := k.mem y (List.mem_of_mem_head? (by rw [hy]; rfl))
    rw [← e1, ← e2]
    exact ha s hs t ht
  · rw [F.pre_app] at hn
    rcases List.mem_append.1 hn with hn | hn
    · obtain ⟨t, ht, e⟩ := h.mem n hn; exact ⟨t, List.mem_append_left _ ht, e⟩
    · obtain ⟨t, ht, e⟩ := k.mem n hn; exact ⟨t, List.mem_append_right _ ht, e⟩
  · rw [F.pre_app, getLast_app k.ne] at hn
    exact k.last n hn
theorem Oc.leaf {us : List Tok} {n : Nd} (h : ∃ t ∈ us, t.at_ = n.at_) (hk : ¬ (6 ≤ n.kind ∧ n.kind ≤ 8)) : Oc us (leaf n) := by
  refine ⟨by simp [Pa.leaf, F.pre], trivial, fun m hm => ?_, fun m hm => ?_⟩
  · have : m = n := by simpa [Pa.leaf, F.pre] using hm
    rw [this]; exact h
  · have : n = m := by simpa [Pa.leaf, F.pre] using hm
    rw [← this]; exact hk
/-- a node over trees -/
theorem Oc.node {us vs : List Tok} {n : Nd} {g : F} (h : Oc vs g) (hn : ∃ t ∈ us, t.at_ = n.at_) (hs : ∀ t ∈ vs, t ∈ us) (hr : ∀ y, g.pre.head? = some y → Rl n y) : Oc us (.cons n g .nil) := by
  have e : (F.cons n g .nil).pre = [n] ++ g.pre := by rw [F.pre, F.pre, List.append_nil]; rfl
  refine ⟨by rw [e]; simp, ?_, fun m hm => ?_, fun m hm => ?_⟩
  · rw [e]
    refine Cn.app trivial h.cn fun x y hx hy => ?_
    have : n = x := by simpa using hx
    rw [← this]; exact hr y hy
  · rw [e] at hm
    rcases List.mem_append.1 hm with hm | hm
    · rw [List.mem_singleton.1 hm]; exact hn
    · obtain ⟨t, ht, e⟩ := h.mem m hm; exact ⟨t, hs t ht, e⟩
  · rw [e, getLast_app h.ne] at hm
    exact h.last m hm
abbrev As (us : List Tok) : Prop := us.Pairwise fun s t => s.at_ < t.at_
theorem vl_at {us : List Tok} {n : Nd} (h : Vl us n) : atT us = n.at_ ∧ (∃ t ∈ us, t.at_ = n.at_) ∧ 9 ≤ n.kind := by
  cases h with
  | ref a d b _ _ _ => exact ⟨rfl, ⟨a, by simp, rfl⟩, show 9 ≤ 9 by decide⟩
  | word a _ => exact ⟨rfl, ⟨a, by simp, rfl⟩, show 9 ≤ 11 by decide⟩
  | num a _ => exact ⟨rfl, ⟨a, by simp, rfl⟩, show 9 ≤ 10 by decide⟩
theorem vl_oc {us : List Tok} {n : Nd} (h : Vl us n) : Oc us (leaf n) := by
  obtain ⟨_, h2, h3⟩ := vl_at h
  exact Oc.leaf h2 (by omega)
theorem as_app {us vs : List Tok} (h : As (us ++ vs)) : As us ∧ As vs ∧ ∀ s ∈ us, ∀ t ∈ vs, s.at_ < t.at_ := List.pairwise_append.1 h
theorem as_cons {c : Tok} {vs : List Tok} (h : As (c :: vs)) : As vs ∧ ∀ t ∈ vs, c.at_ < t.at_ := ⟨(List.pairwise_cons.1 h).2, (List.pairwise_cons.1 h).1⟩
theorem vs_oc {us : List Tok} {g : F} (h : Vs us g) : As us → Oc us g := by
  induction h with
  | one us n hv => intro _; exact vl_oc hv
  | more us n c vs g hv hc _ ih =>
    intro ha
    obtain ⟨a1, a2, a3⟩ := as_app ha
    have h1 := (vl_oc hv).app (ih (as_cons a2).1) (fun s hs t ht => a3 s hs t (List.mem_cons_of_mem _ ht))
    exact h1.mono fun t ht => by
      rcases List.mem_append.1 ht with ht | ht
      · exact List.mem_append_left _ ht
      · exact List.mem_append_right _ (List.mem_cons_of_mem _ ht)
theorem rl_gt {n : Nd} {us : List Tok} {g : F} (h : Oc us g) (hk : ¬ (6 ≤ n.kind ∧ n.kind ≤ 8)) (ha : ∀ t ∈ us, n.at_ < t.at_) : ∀ y, g.pre.head? = some y → Rl n y := fun y hy => by
  unfold Rl
  rw [if_neg hk]
  obtain ⟨t, ht, e⟩ := h.mem y (List.mem_of_mem_head? (by rw [hy]; rfl))
  rw [← e]; exact ha t ht
theorem ex_oc {b : Bool} {us : List Tok} {f : F} (h : Ex b us f) : As us → Oc us f := by
  have gate : ∀ (a : Tok) (p vs q us : List Tok) (k : Nat) (m : Int) (g : F), us = a :: (p ++ (vs ++ q)) → ¬ (6 ≤ k ∧ k ≤ 8) → (As vs → Oc vs g) → As us → Oc us (.cons ⟨k, m, [], [], a.at_⟩ g .nil) := by
    intro a p vs q us k m g e hk ih ha
    subst e
    obtain ⟨a1, a2⟩ := as_cons ha
    have h1 := ih (as_app (as_app a1).2.1).1
    exact h1.node ⟨a, by simp, rfl⟩ (fun t ht => by simp [ht]) (rl_gt h1 hk fun t ht => a2 t (by simp [ht]))
  induction h with
  | one us f _ ih => exact ih
  | more us f c vs g _ _ _ ih ih2 =>
    intro ha
    obtain ⟨a1, a2, a3⟩ := as_app ha
    have h1 := (ih a1).app (ih2 (as_cons a2).1) (fun s hs t ht => a3 s hs t (List.mem_cons_of_mem _ ht))
    exact h1.mono fun t ht => by
      rcases List.mem_append.1 ht with ht | ht
      · exact List.mem_append_left _ ht
      · exact List.mem_append_right _ (List.mem_cons_of_mem _ ht)
  | all a o c vs g _ _ _ _ ih => exact gate a [o] vs [c] _ 3 0 g rfl (by decide) ih
  | any a o c vs g _ _ _ _ ih => exact gate a [o] vs [c] _ 4 0 g rfl (by decide) ih
  | atleast a m o c vs g _ _ _ _ _ ih => exact gate a [m, o] vs [c] _ 5 _ g rfl (by decide) ih
  | not a us f _ _ ih => exact gate a [] us [] _ 2 0 f (by simp) (by decide) ih
  | true a _ => intro _; exact Oc.leaf ⟨a, by simp, rfl⟩ (show ¬ (6 ≤ 0 ∧ 0 ≤ 8) by decide)
  | false a _ => intro _; exact Oc.leaf ⟨a, by simp, rfl⟩ (show ¬ (6 ≤ 1 ∧ 1 ≤ 8) by decide)
  | paren o c us f _ _ _ ih =>
    intro ha
    exact (ih (as_app (as_cons ha).1).1).mono fun t ht => by simp [ht]
  | cmp us vs c k a b hv hc hb =>
    intro ha
    obtain ⟨a1, a2, a3⟩ := as_app ha
    obtain ⟨e1, e2, _⟩ := vl_at hv
    have h1 := (vl_oc hv).app (vl_oc hb) (fun s hs t ht => a3 s hs t (List.mem_cons_of_mem _ ht))
    refine h1.node (by rw [e1]; obtain ⟨t, ht, e⟩ := e2; exact ⟨t, List.mem_append_left _ ht, e⟩) (fun t ht => ?_) fun y hy => ?_
    · rcases List.mem_append.1 ht with ht | ht
      · exact List.mem_append_left _ ht
      · exact List.mem_append_right _ (List.mem_cons_of_mem _ ht)
    · have : a = y := by simpa [F.pre_app, leaf, F.pre] using hy
      unfold Rl
      rw [if_pos ⟨Nat.le_refl 6, show 6 ≤ 8 by decide⟩, ← this, e1]
  | between us vs ws c d a b e hv hc hb hd he =>
    intro ha
    obtain ⟨a1, a2, a3⟩ := as_app ha
    obtain ⟨b1, b2, b3⟩ := as_app (as_cons a2).1
    obtain ⟨e1, e2, _⟩ := vl_at hv
    have h0 := (vl_oc hb).app (vl_oc he) (fun s hs t ht => b3 s hs t (List.mem_cons_of_mem _ ht))
    have h1 := (vl_oc hv).app h0 (fun s hs t ht => a3 s hs t (by
      rcases List.mem_append.1 ht with ht | ht
      · simp [ht]
      · simp [ht]))
    refine h1.node (by rw [e1]; obtain ⟨t, ht, e⟩ := e2; exact ⟨t, List.mem_append_left _ ht, e⟩) (fun t ht => ?_) fun y hy => ?_
    · rcases List.mem_append.1 ht with ht | ht
      · exact List.mem_append_left _ ht
      · rcases List.mem_append.1 ht with ht | ht
        · simp [ht]
        · simp [ht]
    · have : a = y := by simpa [F.pre_app, leaf, F.pre] using hy
      unfold Rl
      rw [if_pos ⟨show 6 ≤ 7 by decide, show 7 ≤ 8 by decide⟩, ← this, e1]
  | in_ us vs c o d a g hv hc ho hg hd =>
    intro ha
    obtain ⟨a1, a2, a3⟩ := as_app ha
    obtain ⟨e1, e2, _⟩ := vl_at hv
    have h0 := vs_oc hg (as_app (as_cons (as_cons a2).1).1).1
    have h1 := (vl_oc hv).app h0 (fun s hs t ht => a3 s hs t (by simp [ht]))
    refine h1.node (by rw [e1]; obtain ⟨t, ht, e⟩ := e2; exact ⟨t, List.mem_append_left _ ht, e⟩) (fun t ht => ?_) fun y hy => ?_
    · rcases List.mem_append.1 ht with ht | ht
      · exact List.mem_append_left _ ht
      · simp [ht]
    · have : a = y := by simpa [F.pre_app, leaf, F.pre] using hy
      unfold Rl
      rw [if_pos ⟨show 6 ≤ 8 by decide, show 8 ≤ 8 by decide⟩, ← this, e1]
/-- kids stand behind, and within -/
theorem F.idx_lt (f : F) : ∀ a, ∀ k ∈ f.idx a, k < a + f.size := by
  induction f with
  | nil => intro a k hk; exact (List.not_mem_nil hk).elim
  | cons n k r _ ih =>
    intro a j hj
    rw [F.idx] at hj
    rw [F.size]
    rcases List.mem_cons.1 hj with rfl | hj
    · omega
    · have := ih _ j hj; omega
theorem F.num_lt (f : F) : ∀ a, ∀ x ∈ f.num a, ∀ k ∈ x.2, k < a + f.size := by
  induction f with
  | nil => intro a x hx; exact (List.not_mem_nil hx).elim
  | cons n k r ih1 ih2 =>
    intro a x hx j hj
    rw [F.num] at hx
    rw [F.size]
    rcases List.mem_cons.1 hx with rfl | hx
    · have := k.idx_lt _ j hj; omega
    · rcases List.mem_append.1 hx with hx | hx
      · have := ih1 _ x hx j hj; omega
      · have := ih2 _ x hx j hj; omega
end Go.Proofs.YtminghdnclpocaaGreatDoor.Pa
namespace Go.Proofs.YtminghdnclpocaaGreatDoor
open Go.RowKit Go.Shelf
set_option linter.unusedVariables false

/-- the numbers below n -/
def rng (n : Nat) : List Int := (List.range n).map fun (i : Nat) => (i : Int)
theorem rng_len (n : Nat) : (rng n).length = n := by simp [rng]
theorem rng_mem {n : Nat} {x : Int} : x ∈ rng n ↔ 0 ≤ x ∧ x < (n : Int) := by
  unfold rng
  rw [List.mem_map]
  constructor
  · rintro ⟨i, hi, rfl⟩
    rw [List.mem_range] at hi; omega
  · intro h; exact ⟨x.toNat, by rw [List.mem_range]; omega, by omega⟩
theorem rng_succ (n : Nat) : rng (n + 1) = rng n ++ [(n : Int)] := by simp [rng, List.range_succ]
/-- nodes that are numbered in preorder are reached in their order -/
theorem reach_num (ns : List Nk) (f : Pa.F) : ∀ (a fuel : Nat), (∀ i x, (f.num a)[i]? = some x → ns[a + i]? = some (nkOf x)) → a + f.size ≤ 512 → f.size ≤ fuel → loopB (fun k S => reachP ns fuel k S) ((f.idx a).map fun (n : Nat) => (n : Int)) (rng a) = (true, rng (a + f.size)) := by
  induction f with
  | nil => intro a fuel _ _ _; rfl
  | cons n k r ih1 ih2 =>
    intro a fuel hn h1 h2
    rw [Pa.F.size] at h1 h2
    obtain ⟨fuel, rfl⟩ : ∃ g, fuel = g + 1 := ⟨fuel - 1, by omega⟩
    have h0 : ns[a]? = some (nkOf (n, k.idx (a + 1))) := by
      have := hn 0 (n, k.idx (a + 1)) rfl
      exact this
    have hal := (List.getElem?_eq_some_iff.1 h0).1
    have hkn : ∀ i x, (k.num (a + 1))[i]? = some x → ns[a + 1 + i]? = some (nkOf x) := fun i x hx => by
      have := hn (i + 1) x (by
        rw [Pa.F.num, List.getElem?_cons_succ, List.getElem?_append_left (List.getElem?_eq_some_iff.1 hx).1]; exact hx)
      rw [show a + 1 + i = a + (i + 1) by omega]; exact this
    have hrn : ∀ i x, (r.num (a + 1 + k.size))[i]? = some x → ns[a + 1 + k.size + i]? = some (nkOf x) := fun i x hx => by
      have := hn (k.size + i + 1) x (by
        rw [Pa.F.num, List.getElem?_cons_succ, List.getElem?_append_right (by rw [Pa.F.num_len]; omega), Pa.F.num_len, show k.size + i - k.size = i by omega]; exact hx)
      rw [show a + 1 + k.size + i = a + (k.size + i + 1) by omega]; exact this
    have hk := ih1 (a + 1) fuel hkn (by omega) (by omega)
    have hv : reachP ns (fuel + 1) (a : Int) (rng a) = (true, rng (a + 1 + k.size)) := by
      rw [reachP_in (n := nkOf (n, k.idx (a + 1))) (by
        rintro (h | h | h | h)
        · omega
        · omega
        · rw [rng_mem] at h; omega
        · rw [rng_len] at h; omega) (by rw [Int.toNat_natCast]; exact h0), ← rng_succ]
      exact hk
    have hr := ih2 (a + 1 + k.size) (fuel + 1) hrn (by omega) (by omega)
    rw [Pa.F.idx, List.map_cons, loopB, hv, if_neg (by simp)]
    rw [Pa.F.size, show a + (k.size + r.size + 1) = a + 1 + k.size + r.size by omega]
    exact hr
theorem posD_rng {n k : Nat} (h : k < n) : posD (rng n) (k : Int) = (k : Int) := by
  unfold posD
  rw [if_pos (rng_mem.2 (by omega))]
  have h1 : (rng n).idxOf (k : Int) < (rng n).length := List.idxOf_lt_length_of_mem (rng_mem.2 (by omega))
  have h2 := List.getElem_idxOf h1
  simp only [rng, List.getElem_map, List.getElem_range] at h2
  exact h2
/-- what was parsed is tidy -/
theorem tidy_num (p : Pa.Pl) (hl : p.root.len = 1) (hs : p.root.size ≤ 512) (hc : checkP (poOf p) = 0) : tidyP (poOf p) = (poOf p, 0) := by
  have hN : (poOf p).nodes = (p.root.num 0).map nkOf := rfl
  have hNl : (poOf p).nodes.length = p.root.size := by rw [hN, List.length_map, Pa.F.num_len]
  have hidx : p.root.idx 0 = [0] := by
    cases hp : p.root with
    | nil => rw [hp] at hl; cases hl
    | cons n k r =>
      cases r with
      | nil => rfl
      | cons _ _ _ => rw [hp] at hl; simp [Pa.F.len] at hl
  have h1 := reach_num (poOf p).nodes p.root 0 513 (fun i x hx => by rw [hN, List.getElem?_map, Nat.zero_add, hx]; rfl) (by omega) (by omega)
  rw [hidx, Nat.zero_add] at h1
  have h2 : reachP (poOf p).nodes 513 0 [] = (true, rng p.root.size) := by
    have h3 : loopB (fun k S => reachP (poOf p).nodes 513 k S) [(0 : Int)] [] = (true, rng p.root.size) := h1
    rw [loopB] at h3
    by_cases hb : (reachP (poOf p).nodes 513 0 []).1 = false
    · rw [if_pos hb] at h3; rw [h3] at hb; cases hb
    · rw [if_neg hb, loopB] at h3
      have hb' : (reachP (poOf p).nodes 513 0 []).1 = true := by simpa using hb
      have h4 := congrArg Prod.snd h3
      exact Prod.ext hb' h4
  have h3 : (poOf p).pick (rng p.root.size) = poOf p := by
    have h4 : ((rng p.root.size).map fun a => (((poOf p).nodes[a.toNat]?).getD ⟨0, 0, ⟨#[]⟩, ⟨#[]⟩, [], 0⟩).at_pos (rng p.root.size)) = (poOf p).nodes := by
      apply List.ext_getElem?
      intro i
      by_cases hi : i < p.root.size
      · obtain ⟨x, hx⟩ : ∃ x, (p.root.num 0)[i]? = some x := ⟨_, List.getElem?_eq_getElem (by rw [Pa.F.num_len]; exact hi)⟩
        have h5 : (poOf p).nodes[i]? = some (nkOf x) := by rw [hN, List.getElem?_map, hx]; rfl
        have h6 : (rng p.root.size)[i]? = some (i : Int) := by simp [rng, hi]
        rw [List.getElem?_map, h6, h5]
        show some ((((poOf p).nodes[(i : Int).toNat]?).getD _).at_pos _) = _
        rw [Int.toNat_natCast, h5]
        congr 1
        show Nk.at_pos (rng p.root.size) (nkOf x) = nkOf x
        unfold Nk.at_pos nkOf
        congr 1
        rw [List.map_map]
        refine List.map_congr_left fun k hk => ?_
        have := p.root.num_lt 0 x (List.mem_of_getElem? hx) k hk
        exact posD_rng (by omega)
      · rw [List.getElem?_eq_none (by rw [List.length_map, rng_len]; omega), List.getElem?_eq_none (by omega)]
    show Po.mk _ _ _ _ 0 _ _ _ = _
    rw [h4]; rfl
  unfold tidyP
  rw [show (poOf p).root = 0 from rfl, h2]
  simp only [h3, hc]
  simp
theorem as_of : ∀ {ts : List Lx.Tok}, (∀ us t vs, ts = us ++ t :: vs → ∀ u ∈ us, u.at_ < t.at_) → Pa.As ts
  | [], _ => List.Pairwise.nil
  | a :: ts, h => List.pairwise_cons.2 ⟨fun b hb => by
      obtain ⟨p, q, rfl⟩ := List.append_of_mem hb
      exact h (a :: p) b q rfl a (List.mem_cons_self ..), as_of fun us t vs e u hu => h (a :: us) t vs (by rw [e]; rfl) u (List.mem_cons_of_mem _ hu)⟩
theorem scF_err_le : ∀ (f a : Nat) (l : List UInt8) (b e : Nat), Lx.scF f a l = .err b e → b ≤ a + l.length := by
  intro f
  induction f with
  | zero => intro a l b e h; simp [Lx.scF] at h
  | succ f ih =>
    intro a l b e h
    have hsk := Lx.sk_le false l
    rw [Lx.scF] at h
    by_cases hm : l.drop (Lx.sk false l) = []
    · rw [hm] at h; simp [Lx.st] at h
    · cases ht : Lx.tk (l.drop (Lx.sk false l)) with
      | inl e' =>
        rw [Lx.st_inl ht hm] at h
        simp only [Lx.Res.err.injEq] at h
        omega
      | inr kn =>
        obtain ⟨k, n⟩ := kn
        have hlen := Lx.tk_len ht
        rw [List.length_drop] at hlen
        rw [Lx.st_inr ht] at h
        split at h
        · simp only [Lx.Res.err.injEq] at h
          omega
        · cases hr : Lx.scF f (a + Lx.sk false l + n) ((l.drop (Lx.sk false l)).drop n) with
          | ok ts => rw [hr] at h; simp [Lx.Res.pre] at h
          | err b' e' =>
            rw [hr] at h
            simp only [Lx.Res.pre, Lx.Res.err.injEq] at h
            have := ih _ _ _ _ hr
            rw [List.length_drop, List.length_drop] at this
            omega
theorem forms_bad {l : List UInt8} (h : (parseP l).2.2 ≠ 0) : (parseP l).1 = zPo ∧ (parseP l).2.1 ≤ l.length := by
  unfold parseP at h ⊢
  cases hs : Lx.sc l with
  | err a e =>
    have := scF_err_le _ _ _ _ _ (show Lx.scF (l.length + 1) 0 l = .err a e from hs)
    exact ⟨rfl, by show a ≤ _; omega⟩
  | ok ts =>
    dsimp only at h ⊢
    have hS := Lx.sc_iff.1 hs
    have hg := Pa.sc_good hS
    have hk := Pa.policy_keeps ts hg
    unfold parseT at h ⊢
    cases hr : Pa.policyR ts with
    | mk o q =>
      rw [hr] at hk
      try rw [hr] at h
      cases o with
      | none =>
        refine ⟨rfl, ?_⟩
        show Pa.atT q ≤ _
        obtain ⟨us, hus⟩ := hk.1
        cases q with
        | nil => exact Nat.zero_le _
        | cons t vs =>
          have := hS.within t (by rw [← hus]; simp)
          show t.at_ ≤ _
          omega
      | some p =>
        dsimp only at h ⊢
        split
        · exact ⟨rfl, Nat.zero_le _⟩
        · rename_i h1
          rw [hs] at h
          dsimp only at h
          rw [hr] at h
          dsimp only at h
          rw [if_neg h1] at h
          exact absurd rfl h
/-- the law of Forms -/
theorem forms_ok {l : List UInt8} (h : (parseP l).2.2 = 0) : (parseP l).2.1 = 0 ∧ (parseP l).1.root = 0 ∧ checkP (parseP l).1 = 0 ∧ tidyP (parseP l).1 = ((parseP l).1, 0) ∧ (∀ n ∈ (parseP l).1.nodes, 0 ≤ n.at_ ∧ n.at_ < (l.length : Int)) ∧
    ∀ i x y, (parseP l).1.nodes[i]? = some x → (parseP l).1.nodes[i + 1]? = some y → if 6 ≤ x.kind ∧ x.kind ≤ 8 then y.at_ = x.at_ else x.at_ < y.at_ := by
  cases hs : Lx.sc l with
  | err a e =>
    unfold parseP at h
    rw [hs] at h
    have := sc_err_ne hs
    have h2 : (e : Int) = 0 := h
    omega
  | ok ts =>
    have e1 : parseP l = parseT ts := by unfold parseP; rw [hs]
    rw [e1] at h ⊢
    have hS := Lx.sc_iff.1 hs
    cases hr : Pa.policyR ts with
    | mk o q =>
      cases o with
      | none => unfold parseT at h; rw [hr] at h; cases h
      | some p =>
        have hc : checkP (poOf p) = 0 := by
          unfold parseT at h
          rw [hr] at h
          dsimp only at h
          split at h
          · exact h
          · rename_i h1; exact Decidable.not_not.1 h1
        have e2 : parseT ts = (poOf p, 0, 0) := by
          unfold parseT
          rw [hr]
          dsimp only
          rw [if_neg (fun h => h hc)]
        rw [e2]
        obtain ⟨a, b, c, e, z, us, rv, pv, so, eo, q', rfl, hg⟩ := Pa.policy_inv hr
        have hsz : p.root.size ≤ 512 := by
          have h5 : (poOf p).nodes.length = p.root.size := by
            show ((p.root.num 0).map nkOf).length = _
            rw [List.length_map, Pa.F.num_len]
          rw [← h5]
          have h6 := hc
          unfold checkP at h6
          split at h6
          · cases h6
          · rename_i h7; omega
        have hlen : p.root.len = 1 := by
          have := hg.pv
          generalize p.root = f at this
          cases this with
          | none => rfl
          | some r vs f _ hex => exact hex.one_len rfl
        have hts : ts = (a :: b :: c :: (us ++ (rv ++ (pv ++ (so ++ (eo ++ [e])))))) ++ z :: q' := by rw [hg.eq]; simp
        have hpre := hS.asc _ z q' hts
        have hAs : Pa.As ts := as_of fun us t vs e u hu => ((hS.asc us t vs e).1 u hu).1
        have hOc : Pa.Oc (pv ++ (so ++ (eo ++ [e]))) p.root := by
          have h8 := hg.pv
          rw [hg.eq] at hAs
          have h9 : Pa.As pv := by
            have := (Pa.as_cons (Pa.as_cons (Pa.as_cons hAs).1).1).1
            exact (Pa.as_app (Pa.as_app (Pa.as_app this).2.1).2.1).1
          generalize p.root = f at h8
          cases h8 with
          | none =>
            refine Pa.Oc.leaf ?_ (show ¬ (6 ≤ 0 ∧ 0 ≤ 8) by decide)
            show ∃ t ∈ ([] ++ (so ++ (eo ++ [e])) : List Lx.Tok), t.at_ = Pa.atT (so ++ (eo ++ e :: z :: q'))
            cases so with
            | cons s r => exact ⟨s, by simp, rfl⟩
            | nil =>
              cases eo with
              | cons s r => exact ⟨s, by simp, rfl⟩
              | nil => exact ⟨e, by simp, rfl⟩
          | some r vs f _ hex =>
            exact (Pa.ex_oc hex (Pa.as_cons h9).1).mono fun t ht => by simp [ht]
        have hin : ∀ t ∈ pv ++ (so ++ (eo ++ [e])), t.at_ < l.length := by
          intro t ht
          have h10 := hpre.1 t (by
            rcases List.mem_append.1 ht with h | h
            · simp [h]
            · rcases List.mem_append.1 h with h | h
              · simp [h]
              · rcases List.mem_append.1 h with h | h
                · simp [h]
                · simp at h; simp [h])
          have h11 := hS.within z (by rw [hts]; simp)
          omega
        have hnum := p.root.num_pre 0
        refine ⟨rfl, rfl, hc, tidy_num p hlen hsz hc, fun n hn => ?_, fun i x y hx hy => ?_⟩
        · obtain ⟨v, hv, rfl⟩ := List.mem_map.1 (show n ∈ (p.root.num 0).map nkOf from hn)
          obtain ⟨t, ht, e3⟩ := hOc.mem v.1 (by rw [← hnum]; exact List.mem_map.2 ⟨v, hv, rfl⟩)
          have := hin t ht
          show 0 ≤ ((v.1.at_ : Nat) : Int) ∧ ((v.1.at_ : Nat) : Int) < _
          omega
        · have hx' : ((p.root.num 0).map nkOf)[i]? = some x := hx
          have hy' : ((p.root.num 0).map nkOf)[i + 1]? = some y := hy
          rw [List.getElem?_map] at hx' hy'
          obtain ⟨v, hv, rfl⟩ := Option.map_eq_some_iff.1 hx'
          obtain ⟨u, hu, rfl⟩ := Option.map_eq_some_iff.1 hy'
          have h12 := hOc.cn.at_ (i := i) (x := v.1) (y := u.1) (by rw [← hnum, List.getElem?_map, hv]; rfl) (by rw [← hnum, List.getElem?_map, hu]; rfl)
          unfold Pa.Rl at h12
          show if 6 ≤ ((v.1.kind : Nat) : Int) ∧ ((v.1.kind : Nat) : Int) ≤ 8 then ((u.1.at_ : Nat) : Int) = ((v.1.at_ : Nat) : Int) else ((v.1.at_ : Nat) : Int) < ((u.1.at_ : Nat) : Int)
          split at h12
          · rw [if_pos (by omega)]; omega
          · rw [if_neg (by omega)]; omega
end Go.Proofs.YtminghdnclpocaaGreatDoor
