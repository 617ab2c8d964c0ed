import Derived.Test.YtpfiggokicedbaaGreatDoorPrX
/-
  The root's text stands in a line of its own. Plain; the law of Parts. No program in sight.
-/
namespace Go.Proofs.YtpfiggokicedbaaGreatDoor.Pa
open Lx (Tok)
set_option linter.unusedVariables false
set_option linter.unusedSimpArgs false

/-- how often a text occurs in another one -/
def occ (w : Tx) : Tx → Nat
  | [] => 0
  | c :: s => (if w.isPrefixOf (c :: s) = true then 1 else 0) + occ w s
def No10 (l : Tx) : Prop := ∀ c ∈ l, c ≠ 10
theorem No10.app {l m : Tx} (h : No10 l) (k : No10 m) : No10 (l ++ m) := fun c hc => by
  rcases List.mem_append.1 hc with hc | hc
  · exact h c hc
  · exact k c hc
theorem occ_line {q r : Tx} : ∀ {l : Tx}, No10 l → occ (10 :: q) (l ++ 10 :: r) = (if (10 :: q).isPrefixOf (10 :: r) = true then 1 else 0) + occ (10 :: q) r
  | [], _ => rfl
  | c :: l, h => by
    have h1 : c ≠ 10 := h c (List.mem_cons_self ..)
    rw [List.cons_append, occ, if_neg (by
      rw [List.isPrefixOf]
      have : ((10 : UInt8) == c) = false := by rw [beq_eq_false_iff_ne]; exact fun e => h1 e.symm
      rw [this]; simp), Nat.zero_add]
    exact occ_line fun x hx => h x (List.mem_cons_of_mem _ hx)
/-- a line is the looked for one just if it is equal -/
theorem pre_line : ∀ {p l r : Tx}, No10 p → No10 l → (p ++ [10]).isPrefixOf (l ++ 10 :: r) = decide (p = l)
  | [], [], r, _, _ => by simp [List.isPrefixOf]
  | [], c :: l, r, _, h => by
    have h1 : c ≠ 10 := h c (List.mem_cons_self ..)
    have : ((10 : UInt8) == c) = false := by rw [beq_eq_false_iff_ne]; exact fun e => h1 e.symm
    show ((10 : UInt8) == c && _) = _
    rw [this]; simp
  | c :: p, [], r, h, _ => by
    have h1 : c ≠ 10 := h c (List.mem_cons_self ..)
    have : (c == (10 : UInt8)) = false := by rw [beq_eq_false_iff_ne]; exact h1
    show (c == (10 : UInt8) && _) = _
    rw [this]; simp
  | c :: p, d :: l, r, h, k => by
    show (c == d && (p ++ [10]).isPrefixOf (l ++ 10 :: r)) = _
    rw [pre_line (fun x hx => h x (List.mem_cons_of_mem _ hx)) (fun x hx => k x (List.mem_cons_of_mem _ hx))]
    by_cases e : c = d
    · subst e; simp
    · simp [e]
/-- texts, each with a newline behind it -/
def lines (l : List Tx) : Tx := l.flatMap fun x => x ++ [10]
/-- how often a line stands among lines that follow a newline -/
def cnt (p : Tx) (l : List Tx) : Nat := (l.filter fun x => decide (p = x)).length
theorem occ_lines {p : Tx} (hp : No10 p) : ∀ {l : List Tx}, (∀ x ∈ l, No10 x) → ∀ {a : Tx}, No10 a → occ (10 :: (p ++ [10])) (a ++ 10 :: lines l) = cnt p l
  | [], _, a, ha => by
    rw [occ_line ha]
    show (if (10 :: (p ++ [10])).isPrefixOf [10] = true then 1 else 0) + 0 = 0
    rw [if_neg]
    cases p with
    | nil => decide
    | cons c p => simp [List.isPrefixOf]
  | x :: l, h, a, ha => by
    have hx := h x (List.mem_cons_self ..)
    have e : lines (x :: l) = x ++ 10 :: lines l := by simp [lines]
    rw [occ_line ha, e, occ_lines hp (fun y hy => h y (List.mem_cons_of_mem _ hy)) hx]
    have h2 : (10 :: (p ++ [10])).isPrefixOf (10 :: (x ++ 10 :: lines l)) = decide (p = x) := by
      show ((10 : UInt8) == 10 && (p ++ [10]).isPrefixOf (x ++ 10 :: lines l)) = _
      rw [pre_line hp hx]; simp
    rw [h2]
    unfold cnt
    by_cases e2 : p = x
    · rw [List.filter_cons_of_pos (by simpa using e2), if_pos (by simpa using e2), List.length_cons]; omega
    · rw [List.filter_cons_of_neg (by simpa using e2), if_neg (by simpa using e2)]; omega
theorem nm_no10 {t : Tx} (h : ∀ c ∈ t, Lx.isNm c = true) : No10 t := fun c hc e => by
  have := h c hc
  rw [e] at this
  exact absurd this (by decide)
theorem wd_no10 {t : Tx} (h : ∀ c ∈ t, Lx.isWd c = true) : No10 t := fun c hc e => by
  have := h c hc
  rw [e] at this
  exact absurd this (by decide)
theorem itoa_no10 (n : Int) : No10 (Lib.itoa n) := by
  have hd : ∀ u, No10 (Lib.decDigits u) := fun u c hc e => by
    have := (decd u).1 c hc
    rw [e] at this
    exact absurd this (by decide)
  unfold Lib.itoa
  split
  · intro c hc
    rcases List.mem_cons.1 hc with rfl | hc
    · decide
    · exact hd _ c hc
  · exact hd _
theorem commas_no10 : ∀ {l : List Tx}, (∀ x ∈ l, No10 x) → No10 (commas l)
  | [], _ => fun c hc => (List.not_mem_nil hc).elim
  | [t], h => h t (by simp)
  | t :: u :: r, h => by
    rw [commas]
    exact (h t (by simp)).app (No10.app (by unfold No10; decide) (commas_no10 fun x hx => h x (List.mem_cons_of_mem _ hx)))
theorem getD_no10 {l : List Tx} (h : ∀ x ∈ l, No10 x) (i : Nat) : No10 (l.getD i []) := by
  rw [List.getD_eq_getElem?_getD]
  cases hx : l[i]? with
  | none => exact fun c hc => (List.not_mem_nil hc).elim
  | some x => exact h x (List.mem_of_getElem? hx)
theorem node_no10 {kind num : Int} {name attr : Tx} {l : List Tx} (h1 : No10 name) (h2 : No10 attr) (h : ∀ x ∈ l, No10 x) : No10 (nodeText kind num name attr l) := by
  have hc := commas_no10 h
  have hg := getD_no10 h
  have hi := itoa_no10 num
  have ht := commas_no10 (l := l.tail) fun x hx => h x (List.mem_of_mem_tail hx)
  have hs : No10 (sgn num) := by
    unfold sgn
    rw [List.getD_eq_getElem?_getD]
    cases hx : cmps[num.toNat]? with
    | none => exact fun c hc => (List.not_mem_nil hc).elim
    | some x =>
      have : ∀ y ∈ cmps, No10 y := by unfold No10; decide
      exact this x (List.mem_of_getElem? hx)
  have lit : ∀ {t : Tx}, (∀ c ∈ t, c ≠ 10) → No10 t := fun h => h
  unfold nodeText
  by_cases k0 : kind = 0
  · rw [if_pos k0]; exact lit (by decide)
  rw [if_neg k0]
  by_cases k1 : kind = 1
  · rw [if_pos k1]; exact lit (by decide)
  rw [if_neg k1]
  by_cases k2 : kind = 2
  · rw [if_pos k2]; exact (lit (by decide)).app (hg 0)
  rw [if_neg k2]
  by_cases k3 : kind = 3
  · rw [if_pos k3]; exact ((lit (by decide)).app hc).app (lit (by decide))
  rw [if_neg k3]
  by_cases k4 : kind = 4
  · rw [if_pos k4]; exact ((lit (by decide)).app hc).app (lit (by decide))
  rw [if_neg k4]
  by_cases k5 : kind = 5
  · rw [if_pos k5]; exact ((((lit (by decide)).app hi).app (lit (by decide))).app hc).app (lit (by decide))
  rw [if_neg k5]
  by_cases k6 : kind = 6
  · rw [if_pos k6]; exact ((((hg 0).app (lit (by decide))).app hs).app (lit (by decide))).app (hg 1)
  rw [if_neg k6]
  by_cases k7 : kind = 7
  · rw [if_pos k7]; exact ((((hg 0).app (lit (by decide))).app (hg 1)).app (lit (by decide))).app (hg 2)
  rw [if_neg k7]
  by_cases k8 : kind = 8
  · rw [if_pos k8]; exact (((hg 0).app (lit (by decide))).app ht).app (lit (by decide))
  rw [if_neg k8]
  by_cases k9 : kind = 9
  · rw [if_pos k9]; exact (h1.app (lit (by decide))).app h2
  rw [if_neg k9]
  by_cases k10 : kind = 10
  · rw [if_pos k10]; exact hi
  rw [if_neg k10]
  exact ((lit (by decide)).app h1).app (lit (by decide))
theorem text_no10 (ns : List Nk) : ∀ f c a, VN ns f c a → No10 (textN ns f a)
  | 0, _, _, h => h.elim
  | f + 1, c, a, h => by
    obtain ⟨n, hn, hf, hk⟩ := h
    have hF := form_fm hf
    have htx := hF.texts
    rw [textN_in hn]
    have hnm : No10 (tl n.name) ∧ No10 (tl n.attr) := by
      unfold textsP at htx
      by_cases h9 : n.kind = 9
      · rw [if_pos h9, Bool.and_eq_true] at htx
        exact ⟨nm_no10 (name_t htx.1).all, nm_no10 (name_t htx.2).all⟩
      · rw [if_neg h9] at htx
        by_cases h11 : n.kind = 11
        · rw [if_pos h11, Bool.and_eq_true] at htx
          refine ⟨wd_no10 (word_t htx.1).1, ?_⟩
          rw [size0 (of_decide_eq_true htx.2)]; exact fun c hc => (List.not_mem_nil hc).elim
        · rw [if_neg h11, Bool.and_eq_true] at htx
          rw [size0 (of_decide_eq_true htx.1), size0 (of_decide_eq_true htx.2)]
          exact ⟨fun c hc => (List.not_mem_nil hc).elim, fun c hc => (List.not_mem_nil hc).elim⟩
    exact node_no10 hnm.1 hnm.2 fun x hx => by
      obtain ⟨k, hk', rfl⟩ := List.mem_map.1 hx
      exact text_no10 ns f _ k (hk k hk')
theorem cnt_app (p : Tx) (l m : List Tx) : cnt p (l ++ m) = cnt p l + cnt p m := by
  unfold cnt; rw [List.filter_append, List.length_append]
theorem cnt_ne {p x : Tx} (h : p.head? ≠ x.head?) : cnt p [x] = 0 := by
  unfold cnt
  rw [List.filter_cons_of_neg (by simp only [decide_eq_true_eq]; exact fun e => h (by rw [e]))]; rfl
theorem lines_app (l m : List Tx) : lines (l ++ m) = lines l ++ lines m := by simp [lines]
theorem lines_one (x : Tx) : lines [x] = x ++ [10] := by simp [lines]
theorem flat_nl (l : List Pc) : flat (l ++ nl) = lines [flat l] := by rw [flat_app, lines_one]; rfl
theorem pieces_no10 {l : List Pc} (h : ∀ x ∈ l, No10 x.txt) : No10 (flat l) := fun c hc => by
  obtain ⟨x, hx, hc⟩ := List.mem_flatMap.1 hc
  exact h x hx c hc
/-- the lines behind the first -/
def lnUses (d : Po) : List Tx := [flat (.tok 2 kUses :: .sp 32 :: commasP (d.uses.map usePc))]
def lnReveal (d : Po) : List Tx := if d.reveal = [] then [] else [flat (.tok 2 kReveal :: .sp 32 :: commasP (d.reveal.map refPc))]
def lnProve (d : Po) : List Tx := if rootK d = 0 then [] else [flat (.tok 2 kProve :: .sp 32 :: piecesN d.nodes 32 d.root)]
def lnScope (d : Po) : List Tx := if d.scope.size = 0 then [] else [flat (.tok 2 kScope :: .sp 32 :: .tok 0 (39 :: (tl d.scope ++ [39])) :: limitPc d)]
def lnEscrow (d : Po) : List Tx := if d.escrow.size = 0 then [] else [flat [.tok 2 kEscrow, .sp 32, .tok 0 (tl d.escrow)]]
def lnEnd : List Tx := [kEnd]
theorem print_lines (d : Po) : printP d = (kPolicy ++ 32 :: tl d.name) ++ 10 :: lines (lnUses d ++ (lnReveal d ++ (lnProve d ++ (lnScope d ++ (lnEscrow d ++ lnEnd))))) := by
  have e1 : flat (revealPc d) = lines (lnReveal d) := by
    unfold revealPc lnReveal
    split
    · rfl
    · exact flat_nl (.tok 2 kReveal :: .sp 32 :: commasP (d.reveal.map refPc))
  have e2 : flat (provePc d) = lines (lnProve d) := by
    unfold provePc lnProve
    split
    · rfl
    · exact flat_nl (.tok 2 kProve :: .sp 32 :: piecesN d.nodes 32 d.root)
  have e3 : flat (scopePc d) = lines (lnScope d) := by
    unfold scopePc lnScope
    split
    · rfl
    · exact flat_nl (.tok 2 kScope :: .sp 32 :: .tok 0 (39 :: (tl d.scope ++ [39])) :: limitPc d)
  have e4 : flat (escrowPc d) = lines (lnEscrow d) := by
    unfold escrowPc lnEscrow
    split
    · rfl
    · exact flat_nl [.tok 2 kEscrow, .sp 32, .tok 0 (tl d.escrow)]
  have e5 : flat [.tok 2 kEnd, .sp 10] = lines lnEnd := by decide
  rw [lines_app, lines_app, lines_app, lines_app, lines_app, ← e1, ← e2, ← e3, ← e4, ← e5, lnUses, lines_one]
  unfold printP printPc
  simp only [flat_cons, flat_app, Pc.txt, List.append_assoc, List.cons_append, List.nil_append]
theorem use_no10 {x : Bp} (h : NameT (tl x.1) ∧ NameT (tl x.2)) : No10 (flat (usePc x)) := by
  have h1 := nm_no10 h.1.all
  have h2 := nm_no10 h.2.all
  show No10 (tl x.1 ++ (sColon ++ ([32] ++ (tl x.2 ++ []))))
  exact h1.app (No10.app (by unfold No10; decide) (No10.app (by unfold No10; decide) (h2.app fun c hc => (List.not_mem_nil hc).elim)))
theorem ref_no10 {x : Bp} (h : NameT (tl x.1) ∧ NameT (tl x.2)) : No10 (flat (refPc x)) := by
  have h1 := nm_no10 h.1.all
  have h2 := nm_no10 h.2.all
  show No10 (tl x.1 ++ (sDot ++ (tl x.2 ++ [])))
  exact h1.app (No10.app (by unfold No10; decide) (h2.app fun c hc => (List.not_mem_nil hc).elim))
theorem nil_no10 : No10 [] := fun c hc => (List.not_mem_nil hc).elim
theorem lines_no10 {d : Po} (h : checkP d = 0) : No10 (kPolicy ++ 32 :: tl d.name) ∧ ∀ x ∈ lnUses d ++ (lnReveal d ++ (lnProve d ++ (lnScope d ++ (lnEscrow d ++ lnEnd)))), No10 x := by
  have C := check_ck h
  have hn := C.nms
  have ht := text_no10 d.nodes 32 true d.root (tree_vn h)
  refine ⟨No10.app (by unfold No10; decide) (show No10 ([32] ++ tl d.name) from No10.app (by unfold No10; decide) (nm_no10 hn.name.all)), fun x hx => ?_⟩
  simp only [List.mem_append] at hx
  rcases hx with hx | hx | hx | hx | hx | hx
  · rw [lnUses, List.mem_singleton] at hx
    subst hx
    rw [flat_cons, flat_cons, commas_flat, List.map_map]
    refine No10.app (show No10 kUses by unfold No10; decide) (No10.app (show No10 [32] by unfold No10; decide) (commas_no10 fun y hy => ?_))
    obtain ⟨z, hz, rfl⟩ := List.mem_map.1 hy
    exact use_no10 (hn.uses z hz)
  · unfold lnReveal at hx
    split at hx
    · exact (List.not_mem_nil hx).elim
    rw [List.mem_singleton] at hx
    subst hx
    rw [flat_cons, flat_cons, commas_flat, List.map_map]
    refine No10.app (show No10 kReveal by unfold No10; decide) (No10.app (show No10 [32] by unfold No10; decide) (commas_no10 fun y hy => ?_))
    obtain ⟨z, hz, rfl⟩ := List.mem_map.1 hy
    exact ref_no10 (hn.reveal z hz)
  · unfold lnProve at hx
    split at hx
    · exact (List.not_mem_nil hx).elim
    rw [List.mem_singleton] at hx
    subst hx
    rw [flat_cons, flat_cons, pieces_text]
    exact No10.app (show No10 kProve by unfold No10; decide) (No10.app (show No10 [32] by unfold No10; decide) ht)
  · unfold lnScope at hx
    split at hx
    · exact (List.not_mem_nil hx).elim
    rename_i h0
    rw [List.mem_singleton] at hx
    subst hx
    rw [flat_cons, flat_cons, flat_cons]
    refine No10.app (show No10 kScope by unfold No10; decide) (No10.app (show No10 [32] by unfold No10; decide) (No10.app (show No10 ([39] ++ (tl d.scope ++ [39])) from No10.app (by unfold No10; decide) (No10.app (wd_no10 (hn.scope h0).1) (by unfold No10; decide))) ?_))
    unfold limitPc
    split
    · show No10 ([32] ++ (kLimit ++ ([32] ++ (Lib.itoa d.limit ++ []))))
      exact No10.app (by unfold No10; decide) (No10.app (by unfold No10; decide) (No10.app (by unfold No10; decide) ((itoa_no10 _).app nil_no10)))
    · exact nil_no10
  · unfold lnEscrow at hx
    split at hx
    · exact (List.not_mem_nil hx).elim
    rename_i h0
    rw [List.mem_singleton] at hx
    subst hx
    show No10 (kEscrow ++ ([32] ++ (tl d.escrow ++ [])))
    exact No10.app (by unfold No10; decide) (No10.app (by unfold No10; decide) ((nm_no10 (hn.escrow h0).all).app nil_no10))
  · rw [lnEnd, List.mem_singleton] at hx
    subst hx
    unfold No10; decide
/-- how often the root's line stands in a text -/
theorem count_prove {d : Po} (h : checkP d = 0) : occ (10 :: ((kProve ++ 32 :: textN d.nodes 32 d.root) ++ [10])) (printP d) = if rootK d = 0 then 0 else 1 := by
  obtain ⟨h1, h2⟩ := lines_no10 h
  have ht := text_no10 d.nodes 32 true d.root (tree_vn h)
  have hp : No10 (kProve ++ 32 :: textN d.nodes 32 d.root) := No10.app (by unfold No10; decide) (show No10 ([32] ++ textN d.nodes 32 d.root) from No10.app (by unfold No10; decide) ht)
  rw [print_lines, occ_lines hp h2 h1]
  simp only [cnt_app]
  have hd : ∀ x : Tx, x.head? ≠ some 112 → cnt (kProve ++ 32 :: textN d.nodes 32 d.root) [x] = 0 := fun x hx => cnt_ne (by
    show some (112 : UInt8) ≠ _
    exact fun e => hx e.symm)
  have c1 : cnt (kProve ++ 32 :: textN d.nodes 32 d.root) (lnUses d) = 0 := hd _ (show some (117 : UInt8) ≠ some 112 by decide)
  have c2 : cnt (kProve ++ 32 :: textN d.nodes 32 d.root) (lnReveal d) = 0 := by
    unfold lnReveal
    split
    · rfl
    · exact hd _ (show some (114 : UInt8) ≠ some 112 by decide)
  have c4 : cnt (kProve ++ 32 :: textN d.nodes 32 d.root) (lnScope d) = 0 := by
    unfold lnScope
    split
    · rfl
    · exact hd _ (show some (115 : UInt8) ≠ some 112 by decide)
  have c5 : cnt (kProve ++ 32 :: textN d.nodes 32 d.root) (lnEscrow d) = 0 := by
    unfold lnEscrow
    split
    · rfl
    · exact hd _ (show some (101 : UInt8) ≠ some 112 by decide)
  have c6 : cnt (kProve ++ 32 :: textN d.nodes 32 d.root) lnEnd = 0 := hd _ (by decide)
  rw [c1, c2, c4, c5, c6]
  unfold lnProve
  split
  · rfl
  · rw [flat_cons, flat_cons, pieces_text]
    show 0 + (0 + (cnt (kProve ++ 32 :: textN d.nodes 32 d.root) [kProve ++ 32 :: textN d.nodes 32 d.root] + _)) = 1
    unfold cnt
    rw [List.filter_cons_of_pos (by simp)]
    rfl
/-- the root's text is that of a True just if it is one -/
theorem root_true {d : Po} (h : checkP d = 0) : textN d.nodes 32 d.root = kTrue ↔ rootK d = 0 := by
  obtain ⟨n, hn, hf, hk⟩ := tree_vn h
  have hF := form_fm hf
  have e1 : rootK d = n.kind := by unfold rootK; rw [hn]
  rw [textN_in hn, e1]
  constructor
  · intro e
    have hlo := hF.lo
    have hhi : n.kind ≤ 8 := of_decide_eq_true hF.ctx
    have sp : ∀ {l : Tx}, l = kTrue → (32 : UInt8) ∈ l → False := fun e h => by
      rw [e] at h
      exact absurd h (by decide)
    unfold nodeText at e
    by_cases k0 : n.kind = 0
    · exact k0
    rw [if_neg k0] at e
    by_cases k1 : n.kind = 1
    · rw [if_pos k1] at e; exact absurd e (by decide)
    rw [if_neg k1] at e
    by_cases k2 : n.kind = 2
    · rw [if_pos k2] at e; exact (sp e (by simp)).elim
    rw [if_neg k2] at e
    by_cases k3 : n.kind = 3
    · rw [if_pos k3] at e
      have := congrArg List.head? e
      exact absurd this (by
        show some (97 : UInt8) ≠ some 116
        decide)
    rw [if_neg k3] at e
    by_cases k4 : n.kind = 4
    · rw [if_pos k4] at e
      have := congrArg List.head? e
      exact absurd this (by
        show some (97 : UInt8) ≠ some 116
        decide)
    rw [if_neg k4] at e
    by_cases k5 : n.kind = 5
    · rw [if_pos k5] at e; exact (sp e (by simp)).elim
    rw [if_neg k5] at e
    by_cases k6 : n.kind = 6
    · rw [if_pos k6] at e; exact (sp e (by simp)).elim
    rw [if_neg k6] at e
    by_cases k7 : n.kind = 7
    · rw [if_pos k7] at e; exact (sp e (by simp)).elim
    rw [if_neg k7] at e
    have k8 : n.kind = 8 := by omega
    rw [if_pos k8] at e; exact (sp e (by simp)).elim
  · intro e
    unfold nodeText
    rw [if_pos e]
/-- the law of Parts -/
theorem parts_law {d : Po} (h : checkP d = 0) : (textN d.nodes 32 d.root = kTrue ↔ occ (10 :: ((kProve ++ 32 :: textN d.nodes 32 d.root) ++ [10])) (printP d) = 0) ∧ occ (10 :: ((kProve ++ 32 :: textN d.nodes 32 d.root) ++ [10])) (printP d) ≤ 1 := by
  rw [count_prove h, root_true h]
  by_cases e : rootK d = 0
  · rw [if_pos e]; exact ⟨⟨fun _ => rfl, fun _ => e⟩, by omega⟩
  · rw [if_neg e]; exact ⟨⟨fun h => absurd h e, fun h => by omega⟩, by omega⟩
end Go.Proofs.YtpfiggokicedbaaGreatDoor.Pa

/-
  The tokens of a source and those of its policy's text, apart from parentheses and numbers. Plain; the law of Tokens. No program in sight.
-/
namespace Go.Proofs.YtpfiggokicedbaaGreatDoor.Pa
open Lx (Tok)
set_option linter.unusedVariables false
set_option linter.unusedSimpArgs false

/-- a token, numbers made alike -/
def cl (x : Nat × Tx) : Option Tx := if x.1 = 1 then none else some x.2
def np (x : Nat × Tx) : Bool := x.2 != sOpen && x.2 != sClose
/-- tokens without parentheses -/
def bk (l : List (Nat × Tx)) : List (Option Tx) := (l.filter np).map cl
theorem bk_app (l m : List (Nat × Tx)) : bk (l ++ m) = bk l ++ bk m := by
  unfold bk; rw [List.filter_append, List.map_append]
theorem bk_cons (x : Nat × Tx) (l : List (Nat × Tx)) : bk (x :: l) = bk [x] ++ bk l := bk_app [x] l
def bT (ts : List Tok) : List (Option Tx) := bk (ts.map Lx.kt)
theorem bT_app (l m : List Tok) : bT (l ++ m) = bT l ++ bT m := by
  unfold bT; rw [List.map_append, bk_app]
theorem bT_cons (a : Tok) (l : List Tok) : bT (a :: l) = bT [a] ++ bT l := bT_app [a] l
def comB : List (List (Option Tx)) → List (Option Tx)
  | [] => []
  | [t] => t
  | t :: u :: r => t ++ (some sComma :: comB (u :: r))
theorem comB_cons {t : List (Option Tx)} {l : List (List (Option Tx))} (h : l ≠ []) : comB (t :: l) = t ++ (some sComma :: comB l) := by
  cases l with
  | nil => exact absurd rfl h
  | cons u r => rfl
def nodeB (kind : Nat) (num : Int) (name attr : Tx) (l : List (List (Option Tx))) : List (Option Tx) :=
  if kind = 0 then [some kTrue]
  else if kind = 1 then [some kFalse]
  else if kind = 2 then some kNot :: l.getD 0 []
  else if kind = 3 then some kAll :: comB l
  else if kind = 4 then some kAny :: comB l
  else if kind = 5 then some kAtleast :: none :: comB l
  else if kind = 6 then l.getD 0 [] ++ (some (sgn num) :: l.getD 1 [])
  else if kind = 7 then l.getD 0 [] ++ (some kBetween :: (l.getD 1 [] ++ (some kAnd :: l.getD 2 [])))
  else if kind = 8 then l.getD 0 [] ++ (some kIn :: some sBra :: (comB l.tail ++ [some sKet]))
  else if kind = 9 then bk [(0, name), (2, sDot), (0, attr)]
  else if kind = 10 then [none]
  else bk [(0, 39 :: (name ++ [39]))]
/-- the tokens that a tree is made of -/
def bl : F → List (List (Option Tx))
  | .nil => []
  | .cons n g r => nodeB n.kind n.num n.name n.attr (bl g) :: bl r
theorem bl_app (f g : F) : bl (f.app g) = bl f ++ bl g := by
  induction f with
  | nil => rfl
  | cons n k r _ ih => rw [F.app, bl, bl, ih, List.cons_append]
theorem bl_er (f : F) : bl f.er = bl f := by
  induction f with
  | nil => rfl
  | cons n k r ih1 ih2 => rw [F.er, bl, bl, ih1, ih2]; rfl
theorem bT_t {s : Tx} {a : Tok} (h : isT s [a] = true) : bT [a] = bk [(2, s)] := by
  obtain ⟨h1, h2⟩ := isT_text h
  show bk [(a.kind, a.text)] = _
  rw [h1, h2]
theorem bT_n {a : Tok} (h : isN [a] = true) : bT [a] = bk [(0, a.text)] := by
  show bk [(a.kind, a.text)] = _
  rw [(isN_kind h).1]
theorem bT_m {a : Tok} (h : isM [a] = true) (hf : Fine a) : bT [a] = [none] := by
  have h1 := isM_kind h
  show bk [(a.kind, a.text)] = _
  have h2 : ∀ c, (c = 40 ∨ c = 41) → a.text ≠ [c] := by
    intro c hc e
    cases hf with
    | word w hk _ => omega
    | name hk _ => omega
    | sign hk _ => omega
    | end_ hk _ => omega
    | num neg d hk h =>
      have he := h.eq
      rw [e] at he
      cases neg with
      | true =>
        have : c = 45 := by injection he
        rcases hc with rfl | rfl <;> exact absurd this (by decide)
      | false =>
        have := h.all c (by
          have : d = [c] := he.symm
          rw [this]; simp)
        rcases hc with rfl | rfl <;> exact absurd this (by decide)
  have h3 : np (a.kind, a.text) = true := by
    unfold np
    simp only [Bool.and_eq_true, bne_iff_ne]
    exact ⟨h2 40 (.inl rfl), h2 41 (.inr rfl)⟩
  unfold bk
  rw [List.filter_cons_of_pos h3, List.filter_nil, List.map_cons, List.map_nil, cl, if_pos h1]
theorem bT_w {a : Tok} (h : isW [a] = true) (hf : Fine a) : bT [a] = bk [(0, 39 :: (a.text.tail.dropLast ++ [39]))] := by
  have h1 := isW_kind h
  show bk [(a.kind, a.text)] = _
  rw [h1]
  have h2 : a.text = 39 :: (a.text.tail.dropLast ++ [39]) := by
    cases hf with
    | word w hk h => rw [h.eq, List.tail_cons, List.dropLast_concat]
    | name hk h' =>
      unfold isW at h
      simp only [Bool.and_eq_true, beq_iff_eq] at h
      obtain ⟨c, m, e, hc⟩ := h'.fst
      rw [e] at h
      have : c = 39 := by simpa using h.2
      exact absurd this (isLet_ne hc)
    | num neg d hk _ => omega
    | sign hk _ => omega
    | end_ hk _ => omega
  rw [← h2]
theorem bT_cmp {a : Tok} {k : Nat} (h : cmpOf [a] = some k) : bT [a] = [some (sgn k)] := by
  obtain ⟨h1, h2, h3⟩ := cmp_kind h
  have e : a.text = sgn k := by
    unfold sgn
    rw [Int.toNat_natCast, List.getD_eq_getElem?_getD, h3]; rfl
  show bk [(a.kind, a.text)] = _
  rw [h1, e]
  match k, h2 with
  | 0, _ | 1, _ | 2, _ | 3, _ | 4, _ | 5, _ => decide
theorem vl_bare {us : List Tok} {n : Nd} (h : Vl us n) (hf : ∀ t ∈ us, Fine t) : bl (leaf n) = [bT us] := by
  cases h with
  | ref a d b ha hd hb =>
    rw [bT_cons, bT_cons d, bT_n ha, bT_t hd, bT_n hb]
    show [bk [(0, a.text), (2, sDot), (0, b.text)]] = _
    rw [bk_cons, bk_cons (2, sDot)]
  | word a ha => rw [bT_w ha (hf a (by simp))]; rfl
  | num a ha => rw [bT_m ha (hf a (by simp))]; rfl
theorem vs_bare {us : List Tok} {g : F} (h : Vs us g) : (∀ t ∈ us, Fine t) → comB (bl g) = bT us ∧ bl g ≠ [] := by
  induction h with
  | one us n h => intro hf; rw [vl_bare h hf]; exact ⟨rfl, by simp⟩
  | more us n c vs g h hc _ ih =>
    intro hf
    obtain ⟨i1, i2⟩ := ih fun t ht => hf t (by simp [ht])
    rw [bl_app, vl_bare h fun t ht => hf t (by simp [ht]), List.singleton_append]
    refine ⟨?_, by simp⟩
    rw [comB_cons i2, i1, bT_app, bT_cons, bT_t hc]; rfl
theorem ex_bare {b : Bool} {us : List Tok} {g : F} (h : Ex b us g) : (∀ t ∈ us, Fine t) → (b = false → bl g = [bT us]) ∧ comB (bl g) = bT us ∧ bl g ≠ [] := by
  induction h with
  | one us f _ ih => intro hf; exact ⟨fun h => (by cases h), (ih hf).2⟩
  | more us f c vs g _ hc _ ih1 ih2 =>
    intro hf
    obtain ⟨i1, -, -⟩ := ih1 fun t ht => hf t (by simp [ht])
    obtain ⟨-, i2, i3⟩ := ih2 fun t ht => hf t (by simp [ht])
    refine ⟨fun h => (by cases h), ?_, by rw [bl_app, i1 rfl]; simp⟩
    rw [bl_app, i1 rfl, List.singleton_append, comB_cons i3, i2, bT_app, bT_cons, bT_t hc]; rfl
  | all a o c vs g ha ho _ hc ih =>
    intro hf
    obtain ⟨-, i2, -⟩ := ih fun t ht => hf t (by simp [ht])
    have e : bl (.cons ⟨3, 0, [], [], a.at_⟩ g .nil) = [bT (a :: o :: (vs ++ [c]))] := by
      rw [bT_cons, bT_cons o, bT_app, bT_t ha, bT_t ho, bT_t hc, ← i2]
      show [some kAll :: comB (bl g)] = [some kAll :: (comB (bl g) ++ [])]
      rw [List.append_nil]
    exact ⟨fun _ => e, by rw [e]; rfl, by rw [e]; simp⟩
  | any a o c vs g ha ho _ hc ih =>
    intro hf
    obtain ⟨-, i2, -⟩ := ih fun t ht => hf t (by simp [ht])
    have e : bl (.cons ⟨4, 0, [], [], a.at_⟩ g .nil) = [bT (a :: o :: (vs ++ [c]))] := by
      rw [bT_cons, bT_cons o, bT_app, bT_t ha, bT_t ho, bT_t hc, ← i2]
      show [some kAny :: comB (bl g)] = [some kAny :: (comB (bl g) ++ [])]
      rw [List.append_nil]
    exact ⟨fun _ => e, by rw [e]; rfl, by rw [e]; simp⟩
  | atleast a m o c vs g ha hm ho _ hc ih =>
    intro hf
    obtain ⟨-, i2, -⟩ := ih fun t ht => hf t (by simp [ht])
    have e : bl (.cons ⟨5, numV m.text, [], [], a.at_⟩ g .nil) = [bT (a :: m :: o :: (vs ++ [c]))] := by
      rw [bT_cons, bT_cons m, bT_cons o, bT_app, bT_t ha, bT_m hm (hf m (by simp)), bT_t ho, bT_t hc, ← i2]
      show [some kAtleast :: none :: comB (bl g)] = [some kAtleast :: none :: (comB (bl g) ++ [])]
      rw [List.append_nil]
    exact ⟨fun _ => e, by rw [e]; rfl, by rw [e]; simp⟩
  | not a us f ha _ ih =>
    intro hf
    obtain ⟨i1, -, -⟩ := ih fun t ht => hf t (by simp [ht])
    have e : bl (.cons ⟨2, 0, [], [], a.at_⟩ f .nil) = [bT (a :: us)] := by
      rw [bT_cons, bT_t ha]
      show [some kNot :: (bl f).getD 0 []] = _
      rw [i1 rfl]; rfl
    exact ⟨fun _ => e, by rw [e]; rfl, by rw [e]; simp⟩
  | true a ha => intro hf; rw [bT_t ha]; exact ⟨fun _ => rfl, rfl, by simp [bl, leaf]⟩
  | false a ha => intro hf; rw [bT_t ha]; exact ⟨fun _ => rfl, rfl, by simp [bl, leaf]⟩
  | paren o c us f ho _ hc ih =>
    intro hf
    obtain ⟨i1, i2, i3⟩ := ih fun t ht => hf t (by simp [ht])
    have e : bT (o :: (us ++ [c])) = bT us := by
      rw [bT_cons, bT_app, bT_t ho, bT_t hc]
      show [] ++ (bT us ++ []) = bT us
      rw [List.append_nil, List.nil_append]
    rw [e]; exact ⟨i1, i2, i3⟩
  | cmp us vs c k a b ha hc hb =>
    intro hf
    have e : bl (.cons ⟨6, k, [], [], atT us⟩ ((leaf a).app (leaf b)) .nil) = [bT (us ++ c :: vs)] := by
      rw [bT_app, bT_cons, bT_cmp hc]
      show [(bl ((leaf a).app (leaf b))).getD 0 [] ++ (some (sgn k) :: (bl ((leaf a).app (leaf b))).getD 1 [])] = _
      rw [bl_app, vl_bare ha fun t ht => hf t (by simp [ht]), vl_bare hb fun t ht => hf t (by simp [ht])]; rfl
    exact ⟨fun _ => e, by rw [e]; rfl, by rw [e]; simp⟩
  | between us vs ws c d a b x ha hc hb hd hx =>
    intro hf
    have e : bl (.cons ⟨7, 0, [], [], atT us⟩ ((leaf a).app ((leaf b).app (leaf x))) .nil) = [bT (us ++ c :: (vs ++ d :: ws))] := by
      rw [bT_app, bT_cons, bT_app, bT_cons d, bT_t hc, bT_t hd]
      show [(bl ((leaf a).app ((leaf b).app (leaf x)))).getD 0 [] ++ (some kBetween :: ((bl ((leaf a).app ((leaf b).app (leaf x)))).getD 1 [] ++ (some kAnd :: (bl ((leaf a).app ((leaf b).app (leaf x)))).getD 2 [])))] = _
      rw [bl_app, bl_app, vl_bare ha fun t ht => hf t (by simp [ht]), vl_bare hb fun t ht => hf t (by simp [ht]), vl_bare hx fun t ht => hf t (by simp [ht])]; rfl
    exact ⟨fun _ => e, by rw [e]; rfl, by rw [e]; simp⟩
  | in_ us vs c o d a g ha hc ho hg hd =>
    intro hf
    have e : bl (.cons ⟨8, 0, [], [], atT us⟩ ((leaf a).app g) .nil) = [bT (us ++ c :: o :: (vs ++ [d]))] := by
      rw [bT_app, bT_cons, bT_cons o, bT_app, bT_t hc, bT_t ho, bT_t hd, ← (vs_bare hg fun t ht => hf t (by simp [ht])).1]
      show [(bl ((leaf a).app g)).getD 0 [] ++ (some kIn :: some sBra :: (comB (bl ((leaf a).app g)).tail ++ [some sKet]))] = _
      rw [bl_app, vl_bare ha fun t ht => hf t (by simp [ht])]; rfl
    exact ⟨fun _ => e, by rw [e]; rfl, by rw [e]; simp⟩
end Go.Proofs.YtpfiggokicedbaaGreatDoor.Pa

/-
  The law of Tokens: a source and its policy's text have the same tokens, apart from parentheses and numbers. Plain. No program in sight.
-/
namespace Go.Proofs.YtpfiggokicedbaaGreatDoor
open Go.RowKit Go.Shelf
set_option linter.unusedVariables false
set_option linter.unusedSimpArgs false

theorem bk2 (a b : Nat × Pa.Tx) : Pa.bk [a, b] = Pa.bk [a] ++ Pa.bk [b] := Pa.bk_app [a] [b]
theorem bk3 (a b c : Nat × Pa.Tx) : Pa.bk [a, b, c] = Pa.bk [a] ++ (Pa.bk [b] ++ Pa.bk [c]) := by
  rw [← Pa.bk_app, ← Pa.bk_app]; rfl
theorem bkH (a b c : Nat × Pa.Tx) (l : List (Nat × Pa.Tx)) : Pa.bk (a :: b :: c :: l) = Pa.bk [a] ++ (Pa.bk [b] ++ (Pa.bk [c] ++ Pa.bk l)) := by
  rw [← Pa.bk_app, ← Pa.bk_app, ← Pa.bk_app]; rfl
theorem bk4 (a b c d : Nat × Pa.Tx) : Pa.bk [a, b, c, d] = Pa.bk [a] ++ (Pa.bk [b] ++ (Pa.bk [c] ++ Pa.bk [d])) := by
  rw [← Pa.bk_app, ← Pa.bk_app, ← Pa.bk_app]; rfl
theorem bk_commas : ∀ l : List (List Pa.Pc), Pa.bk (Pa.toks (Pa.commasP l)) = Pa.comB (l.map fun x => Pa.bk (Pa.toks x))
  | [] => rfl
  | [t] => rfl
  | t :: u :: r => by
    have e : Pa.toks (Pa.Pc.tok 2 Pa.sComma :: Pa.Pc.sp 32 :: Pa.commasP (u :: r)) = (2, Pa.sComma) :: Pa.toks (Pa.commasP (u :: r)) := rfl
    rw [Pa.commasP, Pa.toks_app, Pa.bk_app, e, Pa.bk_cons, bk_commas (u :: r)]
    rfl
theorem ps_bare {s : Pa.Tx} {ts : List Lx.Tok} {l : List (Pa.Tx × Pa.Tx)} (h : Pa.Ps s ts l) : Pa.bT ts = Pa.comB (l.map fun x => Pa.bk [(0, x.1), (2, s), (0, x.2)]) ∧ l ≠ [] := by
  induction h with
  | one a d b ha hd hb =>
    refine ⟨?_, by simp⟩
    rw [Pa.bT_cons, Pa.bT_cons d, Pa.bT_n ha, Pa.bT_t hd, Pa.bT_n hb, List.map_cons, List.map_nil, Pa.comB, bk3]
  | more a d b c vs l ha hd hb hc _ ih =>
    refine ⟨?_, by simp⟩
    rw [Pa.bT_cons, Pa.bT_cons d, Pa.bT_cons b, Pa.bT_cons c, Pa.bT_n ha, Pa.bT_t hd, Pa.bT_n hb, Pa.bT_t hc, ih.1, List.map_cons, Pa.comB_cons (by simpa using ih.2), bk3]
    simp only [List.append_assoc]; rfl
/-- trees that are numbered as the nodes of a policy -/
theorem tree_num (ns : List Nk) : ∀ (f : Nat) (g : Pa.F) (c : Bool) (k : Nat), (∀ x ∈ g.idx k, Pa.VN ns f c (x : Int)) → Holds ns g k → g.er = Pa.F.cat ((g.idx k).map fun (x : Nat) => Pa.treeN ns f (x : Int)) := by
  intro f
  induction f with
  | zero =>
    intro g c k hv _
    cases g with
    | nil => rfl
    | cons n g1 g2 => exact (hv k (List.mem_cons_self ..)).elim
  | succ f ihf =>
    intro g
    induction g with
    | nil => intro c k _ _; rfl
    | cons n g1 g2 _ ih2 =>
      intro c k hv hH
      obtain ⟨h1, h2, h3⟩ := hH.cons
      obtain ⟨m, hm, hf, hk⟩ := hv k (List.mem_cons_self ..)
      rw [Int.toNat_natCast] at hm
      obtain rfl : nkOf (n, g1.idx (k + 1)) = m := Option.some.inj (h1.symm.trans hm)
      have e1 := ihf g1 _ (k + 1) (fun x hx => hk (x : Int) (List.mem_map.2 ⟨x, hx, rfl⟩)) h2
      have e2 := ih2 c (k + 1 + g1.size) (fun x hx => hv x (List.mem_cons_of_mem _ hx)) h3
      rw [Pa.F.idx, List.map_cons, Pa.F.cat, Pa.treeN_in (by rw [Int.toNat_natCast]; exact h1), Pa.F.er, e1, e2]
      have e3 : (nkOf (n, g1.idx (k + 1))).kids.map (Pa.treeN ns f) = (g1.idx (k + 1)).map fun (x : Nat) => Pa.treeN ns f (x : Int) := by
        show ((g1.idx (k + 1)).map fun (n : Nat) => (n : Int)).map (Pa.treeN ns f) = _
        rw [List.map_map]; rfl
      rw [e3]
      have e4 : (⟨(nkOf (n, g1.idx (k + 1))).kind.toNat, (nkOf (n, g1.idx (k + 1))).num, tl (nkOf (n, g1.idx (k + 1))).name, tl (nkOf (n, g1.idx (k + 1))).attr, 0⟩ : Pa.Nd) = n.er := by
        show (⟨((n.kind : Nat) : Int).toNat, n.num, tl (bs n.name), tl (bs n.attr), 0⟩ : Pa.Nd) = n.er
        rw [Int.toNat_natCast, tl_bs, tl_bs]; rfl
      rw [e4, Pa.F.app, Pa.F.app]
theorem parse_read {l : List UInt8} (h : (parseP l).2.2 = 0) : ∃ ts p q, Lx.Sc 0 l ts ∧ Pa.policyR ts = (some p, q) ∧ checkP (poOf p) = 0 ∧ parseP l = (poOf p, 0, 0) := by
  cases hs : Lx.sc l with
  | err a e =>
    unfold parseP at h
    rw [hs] at h
    have := sc_err_ne hs
    have h2 : (e : Int) = 0 := h
    omega
  | ok ts =>
    have e1 : parseP l = parseT ts := by unfold parseP; rw [hs]
    rw [e1] at h ⊢
    have hS := Lx.sc_iff.1 hs
    cases hr : Pa.policyR ts with
    | mk o q =>
      cases o with
      | none => unfold parseT at h; rw [hr] at h; cases h
      | some p =>
        have hc : checkP (poOf p) = 0 := by
          unfold parseT at h
          rw [hr] at h
          dsimp only at h
          split at h
          · exact h
          · rename_i h1; exact Decidable.not_not.1 h1
        have e2 : parseT ts = (poOf p, 0, 0) := by
          unfold parseT
          rw [hr]
          dsimp only
          rw [if_neg (fun h => h hc)]
        exact ⟨ts, p, q, hS, hr, hc, e2⟩
theorem idx_one {g : Pa.F} (h : g.len = 1) : g.idx 0 = [0] := by
  cases g with
  | nil => cases h
  | cons n k r =>
    cases r with
    | nil => rfl
    | cons _ _ _ => simp [Pa.F.len] at h
theorem sc_uniq {l : List UInt8} {ts us : List Lx.Tok} (h : Lx.Sc 0 l ts) (k : Lx.Sc 0 l us) : ts = us := by
  have h1 := Lx.sc_iff.2 h
  rw [Lx.sc_iff.2 k] at h1
  injection h1 with e
  exact e.symm
/-- the law of Tokens -/
theorem tokens_law {l : List UInt8} {ts : List Lx.Tok} (hs : Lx.sc l = .ok ts) (h : (parseP l).2.2 = 0) (hb : ∀ n ∈ (parseP l).1.nodes, n.kids.length ≤ 1000000) (hk : Pa.rootK (parseP l).1 ≠ 0) (hl : (∀ t ∈ ts, t.text ≠ Pa.kLimit) ∨ (parseP l).1.limit ≠ 0) :
    ∃ us, Lx.sc (Pa.printP (parseP l).1) = .ok us ∧ Pa.bT ts = Pa.bT us := by
  obtain ⟨ts', p, q, hS, hr, hc, e⟩ := parse_read h
  obtain rfl := sc_uniq hS (Lx.sc_iff.1 hs)
  rw [e] at hb hk hl ⊢
  have hG := Pa.sc_good hS
  obtain ⟨a, b, c, ed, z, us, rv, pv, so, eo, q', rfl, hg⟩ := Pa.policy_inv hr
  have C := Pa.check_ck hc
  have hV := Pa.tree_vn hc
  obtain ⟨t2, h1, h2⟩ := Pa.okk_sc (Pa.print_okk hc hb) 0
  refine ⟨_, Lx.sc_iff.2 h1, ?_⟩
  -- nothing stands behind the end
  have hq : q' = [] := by
    obtain ⟨xs, x, g1, g2, g3⟩ := hG.ends
    have g4 := hg.eq
    rw [g1] at g4
    rcases List.eq_nil_or_concat q' with rfl | ⟨ys, y, rfl⟩
    · rfl
    · have g5 : xs ++ [x] = (a :: b :: c :: (us ++ (rv ++ (pv ++ (so ++ (eo ++ ed :: z :: ys)))))) ++ [y] := by rw [g4]; simp
      have g6 := (List.append_inj' g5 rfl).1
      have g7 := g3 z (by rw [g6]; simp)
      have g8 := hg.z
      unfold Pa.isE at g8
      simp only [beq_iff_eq] at g8
      omega
  subst hq
  have hF := hG.fine
  have hz : Pa.bT [z] = [some []] := by
    have g8 := hg.z
    unfold Pa.isE at g8
    simp only [beq_iff_eq] at g8
    have g9 : z.text = [] := by
      cases hF z (by rw [hg.eq]; simp) with
      | word w hk _ => omega
      | name hk _ => omega
      | num _ _ hk _ => omega
      | sign hk _ => omega
      | end_ hk h => exact h
    show Pa.bk [(z.kind, z.text)] = _
    rw [g8, g9]; rfl
  -- the tokens of the text
  have F2 := Pa.sc_fine h1
  have f2 : ∀ t ∈ t2, Pa.Fine t := fun t ht => F2 t (List.mem_append_left _ ht)
  have hR : Pa.bT (t2 ++ [⟨3, [], 0 + (Pa.flat (Pa.printPc (poOf p))).length⟩]) = Pa.bk (Pa.toks (Pa.printPc (poOf p))) ++ [some []] := by
    rw [Pa.bT_app]
    show Pa.bk (t2.map Lx.kt) ++ _ = _
    rw [h2]; rfl
  rw [hR]
  have hT : Pa.toks (Pa.printPc (poOf p)) = (2, Pa.kPolicy) :: (0, p.name) :: (2, Pa.kUses) :: (Pa.toks (Pa.commasP ((poOf p).uses.map Pa.usePc)) ++ (Pa.toks (Pa.revealPc (poOf p)) ++ (Pa.toks (Pa.provePc (poOf p)) ++ (Pa.toks (Pa.scopePc (poOf p)) ++ (Pa.toks (Pa.escrowPc (poOf p)) ++ [(2, Pa.kEnd)]))))) := by
    unfold Pa.printPc
    rw [show tl (poOf p).name = p.name from tl_bs _]
    simp only [Pa.toks, Pa.toks_app]
  -- the parts
  have p1 : Pa.bT us = Pa.bk (Pa.toks (Pa.commasP ((poOf p).uses.map Pa.usePc))) := by
    rw [(ps_bare hg.us).1, bk_commas]
    show _ = Pa.comB (((p.uses.map bpOf).map Pa.usePc).map _)
    rw [List.map_map, List.map_map]
    congr 1
  have p2 : Pa.bT rv = Pa.bk (Pa.toks (Pa.revealPc (poOf p))) := by
    unfold Pa.revealPc
    have := hg.rv
    have e1 : (poOf p).reveal = p.reveal.map bpOf := rfl
    rw [e1]
    generalize p.reveal = rl at this
    cases this with
    | none => rfl
    | some r vs l hr hp =>
      obtain ⟨g1, g2⟩ := ps_bare hp
      rw [if_neg (by simpa using g2), Pa.bT_cons, Pa.bT_t hr, g1]
      have e2 : Pa.toks (Pa.Pc.tok 2 Pa.kReveal :: Pa.Pc.sp 32 :: (Pa.commasP ((rl.map bpOf).map Pa.refPc) ++ Pa.nl)) = (2, Pa.kReveal) :: Pa.toks (Pa.commasP ((rl.map bpOf).map Pa.refPc)) := by
        simp only [Pa.toks, Pa.toks_app, Pa.nl]; simp
      rw [e2, Pa.bk_cons _ (Pa.toks _), bk_commas, List.map_map, List.map_map]
      congr 2
  have p3 : Pa.bT pv = Pa.bk (Pa.toks (Pa.provePc (poOf p))) := by
    unfold Pa.provePc
    rw [if_neg hk]
    have e2 : Pa.toks (Pa.Pc.tok 2 Pa.kProve :: Pa.Pc.sp 32 :: (Pa.piecesN (poOf p).nodes 32 (poOf p).root ++ Pa.nl)) = (2, Pa.kProve) :: Pa.toks (Pa.piecesN (poOf p).nodes 32 (poOf p).root) := by
      simp only [Pa.toks, Pa.toks_app, Pa.nl]; simp
    rw [e2, Pa.bk_cons _ (Pa.toks _)]
    have hpv := hg.pv
    have hlen : p.root.len = 1 := by
      have := hpv
      generalize p.root = f at this
      cases this with
      | none => rfl
      | some r vs f _ hex => exact hex.one_len rfl
    have hH : Holds (poOf p).nodes p.root 0 := fun i x hx => by
      show ((p.root.num 0).map nkOf)[0 + i]? = _
      rw [List.getElem?_map, Nat.zero_add, hx]; rfl
    have her : p.root.er = Pa.treeN (poOf p).nodes 32 (poOf p).root := by
      rw [tree_num (poOf p).nodes 32 p.root true 0 (by rw [idx_one hlen]; intro x hx; rw [List.mem_singleton.1 hx]; exact hV) hH, idx_one hlen]
      show (Pa.treeN (poOf p).nodes 32 0).app .nil = Pa.treeN (poOf p).nodes 32 0
      rw [Pa.F.app_nil]
    -- the text's tokens of the condition
    obtain ⟨v2, hv1, hv2⟩ : ∃ vs2 : List Lx.Tok, (∀ t ∈ vs2, Pa.Fine t) ∧ vs2.map Lx.kt = Pa.toks (Pa.piecesN (poOf p).nodes 32 (poOf p).root) := by
      rw [hT] at h2
      obtain ⟨a', t3, rfl, -, -, g1⟩ := Pa.kt_cons h2
      obtain ⟨b', t4, rfl, -, -, g2⟩ := Pa.kt_cons g1
      obtain ⟨c', t5, rfl, -, -, g3⟩ := Pa.kt_cons g2
      obtain ⟨x1, t6, rfl, -, g4⟩ := Pa.kt_app g3
      obtain ⟨x2, t7, rfl, -, g5⟩ := Pa.kt_app g4
      obtain ⟨x3, t8, rfl, g6, -⟩ := Pa.kt_app g5
      unfold Pa.provePc at g6
      rw [if_neg hk, e2] at g6
      obtain ⟨y, v, rfl, -, -, g7⟩ := Pa.kt_cons g6
      exact ⟨v, fun t ht => f2 t (by simp [ht]), g7⟩
    obtain ⟨g, hg1, hg2⟩ := (Pa.tree_dv (poOf p).nodes hb 32 true (poOf p).root hV).2.1 rfl v2 hv2
    have g3 := (Pa.ex_bare hg1 hv1).1 rfl
    have g4 : Pa.bl p.root = [Pa.bk (Pa.toks (Pa.piecesN (poOf p).nodes 32 (poOf p).root))] := by
      rw [← Pa.bl_er, her, ← hg2, Pa.bl_er, g3, ← hv2]; rfl
    have hroot : Pa.rootK (poOf p) ≠ 0 := hk
    have hpF : ∀ t ∈ pv, Pa.Fine t := fun t ht => hF t (by rw [hg.eq]; simp [ht])
    cases hf : p.root with
    | nil => rw [hf] at hlen; cases hlen
    | cons n g1 g2 =>
      rw [hf] at hpv g4
      cases hpv with
      | none =>
        exfalso
        apply hroot
        unfold Pa.rootK
        have : (poOf p).nodes[(poOf p).root.toNat]? = some (nkOf (⟨0, 0, [], [], Pa.atT (so ++ (eo ++ [ed, z]))⟩, [])) := by
          show ((p.root.num 0).map nkOf)[0]? = _
          rw [hf]; rfl
        rw [this]; rfl
      | some r vs f hr' hex =>
        have g5 := (Pa.ex_bare hex fun t ht => hpF t (by simp [ht])).1 rfl
        rw [g5] at g4
        rw [Pa.bT_cons, Pa.bT_t hr']
        congr 1
        injection g4
  have p4 : Pa.bT so = Pa.bk (Pa.toks (Pa.scopePc (poOf p))) := by
    unfold Pa.scopePc
    have hsF : ∀ t ∈ so, Pa.Fine t := fun t ht => hF t (by rw [hg.eq]; simp [ht])
    have hsl : (∀ t ∈ so, t.text ≠ Pa.kLimit) ∨ p.limit ≠ 0 := hl.imp (fun h t ht => h t (by rw [hg.eq]; simp [ht])) fun h => h
    have hso := hg.so
    have h0 := C.lim0
    have e1 : (poOf p).scope = bs p.scope := rfl
    have e2 : (poOf p).limit = p.limit := rfl
    have e3 : Pa.limitPc (poOf p) = if 0 < p.limit then [.sp 32, .tok 2 Pa.kLimit, .sp 32, .tok 1 (Lib.itoa p.limit)] else [] := rfl
    rw [e2] at h0
    rw [e1, e3, size_bs, tl_bs]
    have hw : ∀ w : Lx.Tok, Pa.isW [w] = true → Pa.Fine w → w.text.tail.dropLast.length ≠ 0 := by
      intro w h1 h2
      have hw0 := Pa.isW_kind h1
      cases h2 with
      | word x hk h =>
        rw [h.eq, List.tail_cons, List.dropLast_concat]
        have := h.pos
        omega
      | name hk h' =>
        unfold Pa.isW at h1
        simp only [Bool.and_eq_true, beq_iff_eq] at h1
        obtain ⟨c, m, e, hc⟩ := h'.fst
        rw [e] at h1
        have : c = 39 := by simpa using h1.2
        exact absurd this (Pa.isLet_ne hc)
      | num neg d hk _ => omega
      | sign hk _ => omega
      | end_ hk _ => omega
    have hlm : p.limit = (p.scope, p.limit).2 := rfl
    generalize hsc : p.scope = sc at hso
    generalize hlt : p.limit = lt at hso hsl h0
    cases hso with
    | none => rfl
    | one s w hs1 hw1 =>
      have w2 := hsF w (by simp)
      rw [if_neg (hw w hw1 w2), if_neg (by omega), Pa.bT_cons, Pa.bT_t hs1, Pa.bT_w hw1 w2]
      show _ = Pa.bk [(2, Pa.kScope), (0, 39 :: (w.text.tail.dropLast ++ [39]))]
      rw [bk2]
    | both s w lt' n hs1 hw1 hl1 hn1 =>
      have w2 := hsF w (by simp)
      have w3 : Pa.numV n.text ≠ 0 := by
        rcases hsl with h | h
        · exact absurd (Pa.isT_text hl1).2 (h lt' (by simp))
        · exact h
      rw [if_neg (hw w hw1 w2), if_pos (by omega), Pa.bT_cons, Pa.bT_cons w, Pa.bT_cons lt', Pa.bT_t hs1, Pa.bT_w hw1 w2, Pa.bT_t hl1, Pa.bT_m hn1 (hsF n (by simp))]
      show _ = Pa.bk [(2, Pa.kScope), (0, 39 :: (w.text.tail.dropLast ++ [39])), (2, Pa.kLimit), (1, Lib.itoa (Pa.numV n.text))]
      rw [bk4]
      congr 3
      have hit : Lib.itoa (Pa.numV n.text) ≠ [40] ∧ Lib.itoa (Pa.numV n.text) ≠ [41] := by
        have hd : ∀ c ∈ Lib.itoa (Pa.numV n.text), Lx.isDig c = true := by
          intro c hc
          unfold Lib.itoa at hc
          rw [if_neg (by omega)] at hc
          exact (decd _).1 c hc
        refine ⟨fun e => ?_, fun e => ?_⟩
        · exact absurd (hd 40 (by rw [e]; simp)) (by decide)
        · exact absurd (hd 41 (by rw [e]; simp)) (by decide)
      unfold Pa.bk
      rw [List.filter_cons_of_pos (by
        unfold Pa.np
        simp only [Bool.and_eq_true, bne_iff_ne]
        exact hit)]
      rfl
  have p5 : Pa.bT eo = Pa.bk (Pa.toks (Pa.escrowPc (poOf p))) := by
    unfold Pa.escrowPc
    have heo := hg.eo
    have heF : ∀ t ∈ eo, Pa.Fine t := fun t ht => hF t (by rw [hg.eq]; simp [ht])
    have e1 : (poOf p).escrow = bs p.escrow := rfl
    rw [e1, size_bs, tl_bs]
    generalize p.escrow = x at heo
    cases heo with
    | none => rfl
    | some s n hs1 hn1 =>
      have h9 : n.text.length ≠ 0 := by
        have hk0 := (Pa.isN_kind hn1).1
        cases heF n (by simp) with
        | word x hk h => rw [h.eq]; simp
        | name hk h => obtain ⟨c, m, e, _⟩ := h.fst; rw [e]; simp
        | num neg d hk _ => omega
        | sign hk _ => omega
        | end_ hk _ => omega
      rw [if_neg h9, Pa.bT_cons, Pa.bT_t hs1, Pa.bT_n hn1]
      show _ = Pa.bk [(2, Pa.kEscrow), (0, n.text)]
      rw [bk2]
  rw [hT, hg.eq, Pa.bT_cons, Pa.bT_cons b, Pa.bT_cons c, Pa.bT_app, Pa.bT_app, Pa.bT_app, Pa.bT_app, Pa.bT_app, Pa.bT_cons ed, hz, p1, p2, p3, p4, p5, Pa.bT_t hg.pol, Pa.bT_n hg.nm, Pa.bT_t hg.uses, Pa.bT_t hg.end_, ← hg.name]
  rw [bkH, Pa.bk_app, Pa.bk_app, Pa.bk_app, Pa.bk_app, Pa.bk_app]
  simp only [List.append_assoc]
end Go.Proofs.YtpfiggokicedbaaGreatDoor
