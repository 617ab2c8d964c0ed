/- Policies that are the same apart from the numbers of their nodes: plain. No program in sight. -/
import Derived.Test.YtekkapgknohadaaGreatDoorM1
import Derived.Test.YtekkapgknohadaaGreatDoorM20
import Derived.Lib.ItoaNum
import Derived.Test.YtekkapgknohadaaGreatDoorM2
import Derived.Deep.RegionHeld3
set_option linter.unusedVariables false
namespace Go.Proofs.YtekkapgknohadaaGreatDoor
def eqN (x y : Nk) : Bool := decide (x.kind = y.kind) && decide (x.num = y.num) && decide (x.name = y.name) && decide (x.attr = y.attr)
def eachP (v : Int → Int → Bool) : List Int → List Int → Bool
 | [], [] => true
 | a :: l, b :: m => v a b && eachP v l m
 | _, _ => false
theorem eachP_len {v : Int → Int → Bool} : ∀ {l m : List Int}, l.length ≠ m.length → eachP v l m = false
 | [], [], h => (h rfl).elim
 | [], _ :: _, _ => rfl
 | _ :: _, [], _ => rfl
 | a :: l, b :: m, h => by
   rw [eachP, eachP_len (l := l) (m := m) (by simpa using h), Bool.and_false]
def sameN (ns ms : List Nk) : Nat → Int → Int → Bool
 | 0, _, _ => false
 | f + 1, i, k => match ns[i.toNat]?, ms[k.toNat]? with
   | some x, some y => eqN x y && eachP (sameN ns ms f) x.kids y.kids
   | _, _ => false
def WfP (ns : List Nk) : Nat → Int → Prop
 | 0, _ => False
 | f + 1, a => 0 ≤ a ∧ ∃ n, ns[a.toNat]? = some n ∧ ∀ k ∈ n.kids, WfP ns f k
def sameP (a b : Po) : Bool :=
 decide (checkP a = 0) && decide (checkP b = 0) && decide (a.name = b.name) && decide (a.scope = b.scope) && decide (a.limit = b.limit) && decide (a.escrow = b.escrow) && decide (a.uses = b.uses) && decide (a.reveal = b.reveal) && sameN a.nodes b.nodes 32 a.root b.root
theorem loopP_ok {v : Int → List Int → Int × List Int} : ∀ (l S : List Int), (loopP v l S).1 = 0 → ∀ k ∈ l, ∃ T, (v k T).1 = 0
 | [], S, _, k, hk => by cases hk
 | a :: l, S, h, k, hk => by
   rw [loopP] at h
   split at h
   ·rename_i h1; exact absurd h h1
   ·rename_i h1
    rcases List.mem_cons.1 hk with rfl | hk
    ·exact ⟨S, by omega⟩
    ·exact loopP_ok l _ h k hk
theorem visit_wf (ns : List Nk) : ∀ (f : Nat) (a : Int) (c : Bool) (S : List Int), (visitP ns f a c S).1 = 0 → WfP ns f a
 | 0, a, c, S, h => by
   by_cases hb : a < 0 ∨ (ns.length : Int) ≤ a ∨ a ∈ S
   ·rw [zau hb] at h; cases h
   ·rw [zb6 hb] at h; cases h
 | f + 1, a, c, S, h => by
   by_cases hb : a < 0 ∨ (ns.length : Int) ≤ a ∨ a ∈ S
   ·rw [zau hb] at h; cases h
   ·obtain ⟨n, hn⟩ : ∃ n, ns[a.toNat]? = some n := ⟨_, List.getElem?_eq_getElem (by omega)⟩
    rw [zct hb hn] at h
    split at h
    ·rename_i h1; exact absurd h h1
    ·refine ⟨by omega, n, hn, fun k hk => ?_⟩
     obtain ⟨T, hT⟩ := loopP_ok _ _ h k hk
     exact visit_wf ns f k _ T hT
theorem tree_wf {d : Po} (h : treeP d = 0) : WfP d.nodes 32 d.root := by
 refine visit_wf d.nodes 32 d.root true [] ?_
 unfold treeP at h
 split at h
 ·rename_i h1; exact absurd h h1
 ·rename_i h1; omega
theorem za7 {d : Po} (h : checkP d = 0) : treeP d = 0 := by
 unfold checkP at h
 repeat' split at h
 all_goals first | omega | (rename_i h1 _ _ _; omega)
def Nk.er (n : Nk) : Nk := ⟨n.kind, n.num, n.name, n.attr, n.kids, 0⟩
def Po.er (d : Po) : Po := ⟨d.name, d.uses, d.reveal, d.nodes.map Nk.er, d.root, d.scope, d.limit, d.escrow⟩
open Go.RowKit Go.Shelf
theorem digb (k : Nat) (h : k < 10) : Lx.isDig (UInt8.ofNat (48 + k)) = true ∧ (UInt8.ofNat (48 + k)).toNat = 48 + k := by
 rcases (by omega : k = 0 ∨ k = 1 ∨ k = 2 ∨ k = 3 ∨ k = 4 ∨ k = 5 ∨ k = 6 ∨ k = 7 ∨ k = 8 ∨ k = 9) with rfl | rfl | rfl | rfl | rfl | rfl | rfl | rfl | rfl | rfl <;> decide
theorem decd (u : Nat) : (∀ c ∈ Lib.decDigits u, Lx.isDig c = true) ∧ Lx.dv (Lib.decDigits u) = u ∧ Lib.decDigits u ≠ [] := by
 induction u using Nat.strongRecOn with
 | _ u ih =>
   by_cases h : u < 10
   ·rw [Lib.decDigits, dif_pos h]
    obtain ⟨h1, h2⟩ := digb u h
    refine ⟨fun c hc => by rw [List.mem_singleton.1 hc]; exact h1, ?_, by simp⟩
    simp only [Lx.dv, List.foldl_cons, List.foldl_nil, h2]
    omega
   ·obtain ⟨h1, h2, h3⟩ := ih (u / 10) (by omega)
    obtain ⟨h4, h5⟩ := digb (u % 10) (by omega)
    rw [Lib.decDigits, dif_neg h]
    refine ⟨fun c hc => ?_, ?_, by simp⟩
    ·rcases List.mem_append.1 hc with h6 | h6
     ·exact h1 c h6
     ·rw [List.mem_singleton.1 h6]; exact h4
    ·rw [Lx.dv_snoc, h2, h5]; omega
theorem sp_every {p : UInt8 → Bool} : ∀ (l : List UInt8), (∀ c ∈ l, p c = true) → Lx.sp p l = l.length
 | [], _ => rfl
 | c :: l, h => by rw [Lx.sp_succ (h c (List.mem_cons_self ..)), sp_every l (fun x hx => h x (List.mem_cons_of_mem _ hx))]; rfl
theorem dig_not {c : UInt8} (h : Lx.isDig c = true) : Lx.isLet c = false ∧ (c == 39) = false ∧ (c == 45) = false ∧ c ≠ 45 := by
 obtain ⟨v⟩ := c
 revert h
 revert v
 decide +kernel
theorem numV_dec (n : Int) : Pa.numV (Lib.itoa n) = n := by
 unfold Lib.itoa
 split
 ·rw [Pa.numV, if_pos rfl, (decd n.natAbs).2.1]; omega
 ·obtain ⟨h4, h5, h6⟩ := decd n.toNat
  cases hd : Lib.decDigits n.toNat with
  | nil => exact absurd hd h6
  | cons c m =>
    rw [hd] at h4 h5
    rw [Pa.numV, if_neg (dig_not (h4 c (List.mem_cons_self ..))).2.2.2, h5]; omega
theorem dig_in {c : UInt8} (h : Lx.isDig c = true) : c ∈ ([45, 48, 49, 50, 51, 52, 53, 54, 55, 56, 57] : List UInt8) := by
 obtain ⟨v⟩ := c
 revert h
 revert v
 decide +kernel
theorem itoa_in (n : Int) : ∃ c m, Lib.itoa n = c :: m ∧ c ∈ ([45, 48, 49, 50, 51, 52, 53, 54, 55, 56, 57] : List UInt8) := by
 unfold Lib.itoa
 split
 ·exact ⟨45, _, rfl, by decide⟩
 ·obtain ⟨h4, h5, h6⟩ := decd n.toNat
  cases hd : Lib.decDigits n.toNat with
  | nil => exact absurd hd h6
  | cons c m =>
    rw [hd] at h4
    exact ⟨c, m, rfl, dig_in (h4 c (List.mem_cons_self ..))⟩
end Go.Proofs.YtekkapgknohadaaGreatDoor
namespace Go.Proofs.YtekkapgknohadaaGreatDoor.Lx
end Go.Proofs.YtekkapgknohadaaGreatDoor.Lx
namespace Go.Proofs.YtekkapgknohadaaGreatDoor
open Go.RowKit Go.Shelf
def Nk.flat (n : Nk) : Nk := ⟨n.kind, if n.kind = 10 then 0 else n.num, n.name, n.attr, n.kids, 0⟩
instance : DecidableEq Nk := fun a b => decidable_of_iff (a.kind = b.kind ∧ a.num = b.num ∧ a.name = b.name ∧ a.attr = b.attr ∧ a.kids = b.kids ∧ a.at_ = b.at_) (by cases a; cases b; simp)
instance : DecidableEq Po := fun a b => decidable_of_iff (a.name = b.name ∧ a.uses = b.uses ∧ a.reveal = b.reveal ∧ a.nodes = b.nodes ∧ a.root = b.root ∧ a.scope = b.scope ∧ a.limit = b.limit ∧ a.escrow = b.escrow) (by cases a; cases b; simp)
end Go.Proofs.YtekkapgknohadaaGreatDoor
namespace Go.Proofs.YtekkapgknohadaaGreatDoor.Pa
open Lx (Tok)
inductive Vl : List Tok → Nd → Prop
 | ref (a d b : Tok) : isN [a] = true → isT sDot [d] = true → isN [b] = true → Vl [a, d, b] ⟨9, 0, a.text, b.text, a.at_⟩
 | word (a : Tok) : isW [a] = true → Vl [a] ⟨11, 0, a.text.tail.dropLast, [], a.at_⟩
 | num (a : Tok) : isM [a] = true → Vl [a] ⟨10, numV a.text, [], [], a.at_⟩
inductive Vs : List Tok → F → Prop
 | one (us : List Tok) (n : Nd) : Vl us n → Vs us (leaf n)
 | more (us : List Tok) (n : Nd) (c : Tok) (vs : List Tok) (g : F) : Vl us n → isT sComma [c] = true → Vs vs g → Vs (us ++ c :: vs) ((leaf n).app g)
inductive Ex : Bool → List Tok → F → Prop
 | one (us : List Tok) (f : F) : Ex false us f → Ex true us f
 | more (us : List Tok) (f : F) (c : Tok) (vs : List Tok) (g : F) : Ex false us f → isT sComma [c] = true → Ex true vs g → Ex true (us ++ c :: vs) (f.app g)
 | all (a o c : Tok) (vs : List Tok) (g : F) : isT kAll [a] = true → isT sOpen [o] = true → Ex true vs g → isT sClose [c] = true → Ex false (a :: o :: (vs ++ [c])) (.cons ⟨3, 0, [], [], a.at_⟩ g .nil)
 | any (a o c : Tok) (vs : List Tok) (g : F) : isT kAny [a] = true → isT sOpen [o] = true → Ex true vs g → isT sClose [c] = true → Ex false (a :: o :: (vs ++ [c])) (.cons ⟨4, 0, [], [], a.at_⟩ g .nil)
 | atleast (a m o c : Tok) (vs : List Tok) (g : F) : isT kAtleast [a] = true → isM [m] = true → isT sOpen [o] = true → Ex true vs g → isT sClose [c] = true → Ex false (a :: m :: o :: (vs ++ [c])) (.cons ⟨5, numV m.text, [], [], a.at_⟩ g .nil)
 | not (a : Tok) (us : List Tok) (f : F) : isT kNot [a] = true → Ex false us f → Ex false (a :: us) (.cons ⟨2, 0, [], [], a.at_⟩ f .nil)
 | true (a : Tok) : isT kTrue [a] = true → Ex false [a] (leaf ⟨0, 0, [], [], a.at_⟩)
 | false (a : Tok) : isT kFalse [a] = true → Ex false [a] (leaf ⟨1, 0, [], [], a.at_⟩)
 | paren (o c : Tok) (us : List Tok) (f : F) : isT sOpen [o] = true → Ex false us f → isT sClose [c] = true → Ex false (o :: (us ++ [c])) f
 | cmp (us vs : List Tok) (c : Tok) (k : Nat) (a b : Nd) : Vl us a → cmpOf [c] = some k → Vl vs b → Ex false (us ++ c :: vs) (.cons ⟨6, k, [], [], atT us⟩ ((leaf a).app (leaf b)) .nil)
 | between (us vs ws : List Tok) (c d : Tok) (a b e : Nd) : Vl us a → isT kBetween [c] = true → Vl vs b → isT kAnd [d] = true → Vl ws e → Ex false (us ++ c :: (vs ++ d :: ws)) (.cons ⟨7, 0, [], [], atT us⟩ ((leaf a).app ((leaf b).app (leaf e))) .nil)
 | in_ (us vs : List Tok) (c o d : Tok) (a : Nd) (g : F) : Vl us a → isT kIn [c] = true → isT sBra [o] = true → Vs vs g → isT sKet [d] = true → Ex false (us ++ c :: o :: (vs ++ [d])) (.cons ⟨8, 0, [], [], atT us⟩ ((leaf a).app g) .nil)
theorem atT_app {us : List Tok} {n : Nd} (h : Vl us n) (q : List Tok) : atT (us ++ q) = atT us := by cases h <;> rfl
theorem za6 {s : Tx} {a : Tok} (h : isT s [a] = Bool.true) (q : List Tok) : isT s (a :: q) = Bool.true := h
theorem zbj {s : Tx} {a : Tok} (h : isT s [a] = Bool.true) (q : List Tok) : needR s (a :: q) = (some (), q) := by
 unfold needR; rw [if_pos (za6 h q)]; rfl
theorem isT_text {s : Tx} {a : Tok} (h : isT s [a] = Bool.true) : a.kind = 2 ∧ a.text = s := by
 simp only [isT, Bool.and_eq_true, beq_iff_eq] at h; exact h
theorem zah {s s' : Tx} {a : Tok} {q : List Tok} (h : isT s [a] = Bool.true) (hs : (s == s') = Bool.false) : isT s' (a :: q) = Bool.false := by
 obtain ⟨h1, h2⟩ := isT_text h
 rw [isT, h1, h2, hs]; rfl
theorem isT_kind {s : Tx} {a : Tok} {q : List Tok} (h : a.kind ≠ 2) : isT s (a :: q) = Bool.false := by
 rw [isT, beq_eq_false_iff_ne.2 h]; rfl
theorem name_ok {a : Tok} (h : isN [a] = Bool.true) (q : List Tok) : nameR (a :: q) = (some a.text, q) := by
 unfold nameR; rw [if_pos (show isN (a :: q) = Bool.true from h)]; rfl
theorem isN_kind {a : Tok} (h : isN [a] = Bool.true) : a.kind = 0 ∧ isW [a] = Bool.false := by
 simp only [isN, Bool.and_eq_true, beq_iff_eq, Bool.not_eq_true'] at h; exact h
theorem isW_kind {a : Tok} (h : isW [a] = Bool.true) : a.kind = 0 := by
 simp only [isW, Bool.and_eq_true, beq_iff_eq] at h; exact h.1
theorem isM_kind {a : Tok} (h : isM [a] = Bool.true) : a.kind = 1 := by
 simp only [isM, beq_iff_eq] at h; exact h
theorem word_ok {a : Tok} (h : isW [a] = Bool.true) (q : List Tok) : wordR (a :: q) = (some a.text.tail.dropLast, q) := by
 unfold wordR; rw [if_pos (show isW (a :: q) = Bool.true from h)]; rfl
theorem num_ok {a : Tok} (h : isM [a] = Bool.true) (q : List Tok) : numR (a :: q) = (some (numV a.text), q) := by
 unfold numR; rw [if_pos (show isM (a :: q) = Bool.true from h)]; rfl
theorem pair_ok {s : Tx} {a d b : Tok} (ha : isN [a] = Bool.true) (hd : isT s [d] = Bool.true) (hb : isN [b] = Bool.true) (q : List Tok) : pairR s (a :: d :: b :: q) = (some (a.text, b.text), q) := by
 unfold pairR; rw [name_ok ha, then_some, zbj hd, then_some, name_ok hb, then_some]
theorem zcy {us : List Tok} {n : Nd} (h : Vl us n) (q : List Tok) : valueR (us ++ q) = (some n, q) := by
 cases h with
 | ref a d b ha hd hb =>
  have e : refR (a :: d :: b :: q) = (some (a.text, b.text), q) := pair_ok ha hd hb q
  show valueR (a :: d :: b :: q) = _
  unfold valueR
  rw [if_pos (show isN (a :: d :: b :: q) = Bool.true from ha), e]; rfl
 | word a ha =>
  show valueR (a :: q) = _
  unfold valueR
  have hN : isN (a :: q) = Bool.false := by
   rw [isN, show isW (a :: q) = Bool.true from ha]; simp
  rw [if_neg (by rw [hN]; decide), if_pos (show isW (a :: q) = Bool.true from ha), word_ok ha]; rfl
 | num a ha =>
  show valueR (a :: q) = _
  unfold valueR
  have hk := isM_kind ha
  have hW : isW (a :: q) = Bool.false := by rw [isW, hk]; rfl
  have hN : isN (a :: q) = Bool.false := by rw [isN, hk]; rfl
  rw [if_neg (by rw [hN]; decide), if_neg (by rw [hW]; decide), if_pos (show isM (a :: q) = Bool.true from ha), num_ok ha]; rfl
theorem Vl.first {us : List Tok} {n : Nd} (h : Vl us n) : ∃ a p, us = a :: p ∧ a.kind ≠ 2 ∧ a.kind ≠ 3 := by
 cases h with
 | ref a d b ha hd hb => exact ⟨a, _, rfl, by rw [(isN_kind ha).1]; decide, by rw [(isN_kind ha).1]; decide⟩
 | word a ha => exact ⟨a, _, rfl, by rw [isW_kind ha]; decide, by rw [isW_kind ha]; decide⟩
 | num a ha => exact ⟨a, _, rfl, by rw [isM_kind ha]; decide, by rw [isM_kind ha]; decide⟩
theorem leaf_ok {us : List Tok} {n : Nd} (h : Vl us n) (q : List Tok) : leafR (us ++ q) = (some (leaf n), q) := by
 unfold leafR; rw [zcy h, then_some]
theorem Vl.len {us : List Tok} {n : Nd} (h : Vl us n) : 0 < us.length := by obtain ⟨a, p, rfl, _⟩ := h.first; simp
theorem vals_ok {us : List Tok} {g : F} (h : Vs us g) : ∀ k q, us.length ≤ k → isT sComma q = Bool.false → ∃ l, F.cat l = g ∧ listR leafR k (us ++ q) = (some l, q) := by
 induction h with
 | one us n hv =>
  intro k q hk hq
  have := hv.len
  obtain ⟨k, rfl⟩ : ∃ j, k = j + 1 := ⟨k - 1, by omega⟩
  refine ⟨[leaf n], by rw [F.cat, F.cat, F.app_nil], ?_⟩
  rw [listR, leaf_ok hv, then_some, hq]; rfl
 | more us n c vs g hv hc _ ih =>
  intro k q hk hq
  have := hv.len
  simp only [List.length_append, List.length_cons] at hk
  obtain ⟨k, rfl⟩ : ∃ j, k = j + 1 := ⟨k - 1, by omega⟩
  obtain ⟨l, hl, h2⟩ := ih k q (by omega) hq
  refine ⟨leaf n :: l, by rw [F.cat, hl], ?_⟩
  rw [List.append_assoc, List.cons_append, listR, leaf_ok hv, then_some, if_pos (za6 hc _), List.tail_cons, h2, then_some]
theorem zcd {a : Tok} (h : isT sClose [a] = Bool.true) (q : List Tok) : isT sComma (a :: q) = Bool.false := zah h (by decide)
theorem cmp_no {s : Tx} {a : Tok} {q : List Tok} (h : isT s [a] = Bool.true) (hs : (cmps.findIdx? (fun x => x == s)) = none) : cmpOf (a :: q) = none := by
 obtain ⟨h1, h2⟩ := isT_text h
 show (if (a.kind == 2) = Bool.true then cmps.findIdx? (fun s => s == a.text) else none) = none
 rw [h1, h2, hs]; rfl
theorem Ex.len {b : Bool} {us : List Tok} {f : F} (h : Ex b us f) : 0 < us.length := by
 induction h with
 | one _ _ _ ih => exact ih
 | more _ _ _ _ _ _ _ _ ih _ => rw [List.length_append]; omega
 | cmp us vs c k a b hv hc hb => rw [List.length_append]; have := hv.len; omega
 | between us vs ws c d a b e hv _ _ _ _ => rw [List.length_append]; have := hv.len; omega
 | in_ us vs c o d a g hv _ _ _ _ => rw [List.length_append]; have := hv.len; omega
 | _ => simp
theorem cond_way {us : List Tok} {n : Nd} (h : Vl us n) (k : Nat) (q : List Tok) : exprR (k + 1) (us ++ q) = condR (us ++ q) := by
 obtain ⟨a, p, rfl, h2, _⟩ := h.first
 rw [List.cons_append, exprR]
 simp only [isT_kind (q := p ++ q) h2, Bool.false_eq_true, if_false]
theorem expr_ok {b : Bool} {us : List Tok} {f : F} (h : Ex b us f) : match b with
 | .false => ∀ k q, us.length ≤ k → exprR k (us ++ q) = (some f, q)
 | .true => ∀ k n q, us.length ≤ k → us.length ≤ n → isT sComma q = Bool.false → ∃ l, F.cat l = f ∧ listR (exprR n) k (us ++ q) = (some l, q) := by
 induction h with
 | one us f h ih =>
  intro k n q hk hn hq
  have := h.len
  obtain ⟨k, rfl⟩ : ∃ j, k = j + 1 := ⟨k - 1, by omega⟩
  refine ⟨[f], by rw [F.cat, F.cat, F.app_nil], ?_⟩
  rw [listR, ih n q hn, then_some, hq]; rfl
 | more us f c vs g h hc hg ih ih2 =>
  intro k n q hk hn hq
  have := h.len
  simp only [List.length_append, List.length_cons] at hk hn
  obtain ⟨k, rfl⟩ : ∃ j, k = j + 1 := ⟨k - 1, by omega⟩
  obtain ⟨l, hl, h2⟩ := ih2 k n q (by omega) (by omega) hq
  refine ⟨f :: l, by rw [F.cat, hl], ?_⟩
  rw [List.append_assoc, List.cons_append, listR, ih n _ (by omega), then_some, if_pos (za6 hc _), List.tail_cons, h2, then_some]
 | all a o c vs g ha ho hg hc ih =>
  intro k q hk
  simp only [List.length_cons, List.length_append, List.length_nil] at hk
  obtain ⟨k, rfl⟩ : ∃ j, k = j + 1 := ⟨k - 1, by omega⟩
  obtain ⟨l, hl, h2⟩ := ih (vs ++ c :: q).length k (c :: q) (by simp) (by omega) (zcd hc q)
  have e : a :: o :: (vs ++ [c]) ++ q = a :: o :: (vs ++ c :: q) := by simp
  rw [e, exprR, if_pos (za6 ha _)]
  unfold kidsR
  rw [List.tail_cons, zbj ho, then_some, h2, then_some, zbj hc, then_some, hl]; rfl
 | any a o c vs g ha ho hg hc ih =>
  intro k q hk
  simp only [List.length_cons, List.length_append, List.length_nil] at hk
  obtain ⟨k, rfl⟩ : ∃ j, k = j + 1 := ⟨k - 1, by omega⟩
  obtain ⟨l, hl, h2⟩ := ih (vs ++ c :: q).length k (c :: q) (by simp) (by omega) (zcd hc q)
  have e : a :: o :: (vs ++ [c]) ++ q = a :: o :: (vs ++ c :: q) := by simp
  rw [e, exprR, zah ha (s' := kAll) (by decide), if_neg Bool.false_ne_true, if_pos (za6 ha _)]
  unfold kidsR
  rw [List.tail_cons, zbj ho, then_some, h2, then_some, zbj hc, then_some, hl]; rfl
 | atleast a m o c vs g ha hm ho hg hc ih =>
  intro k q hk
  simp only [List.length_cons, List.length_append, List.length_nil] at hk
  obtain ⟨k, rfl⟩ : ∃ j, k = j + 1 := ⟨k - 1, by omega⟩
  obtain ⟨l, hl, h2⟩ := ih (vs ++ c :: q).length k (c :: q) (by simp) (by omega) (zcd hc q)
  have e : a :: m :: o :: (vs ++ [c]) ++ q = a :: m :: o :: (vs ++ c :: q) := by simp
  rw [e, exprR, zah ha (s' := kAll) (by decide), if_neg Bool.false_ne_true, zah ha (s' := kAny) (by decide), if_neg Bool.false_ne_true, if_pos (za6 ha _), List.tail_cons, num_ok hm, then_some]
  unfold kidsR
  rw [zbj ho, then_some, h2, then_some, zbj hc, then_some, hl]; rfl
 | not a us f ha hf ih =>
  intro k q hk
  simp only [List.length_cons] at hk
  obtain ⟨k, rfl⟩ : ∃ j, k = j + 1 := ⟨k - 1, by omega⟩
  rw [List.cons_append, exprR, zah ha (s' := kAll) (by decide), if_neg Bool.false_ne_true, zah ha (s' := kAny) (by decide), if_neg Bool.false_ne_true, zah ha (s' := kAtleast) (by decide), if_neg Bool.false_ne_true, if_pos (za6 ha _), List.tail_cons, ih k q (by omega), then_some]; rfl
 | true a ha =>
  intro k q hk
  simp only [List.length_cons] at hk
  obtain ⟨k, rfl⟩ : ∃ j, k = j + 1 := ⟨k - 1, by omega⟩
  show exprR (k + 1) (a :: q) = _
  rw [exprR, zah ha (s' := kAll) (by decide), if_neg Bool.false_ne_true, zah ha (s' := kAny) (by decide), if_neg Bool.false_ne_true, zah ha (s' := kAtleast) (by decide), if_neg Bool.false_ne_true, zah ha (s' := kNot) (by decide), if_neg Bool.false_ne_true, if_pos (za6 ha _)]; rfl
 | false a ha =>
  intro k q hk
  simp only [List.length_cons] at hk
  obtain ⟨k, rfl⟩ : ∃ j, k = j + 1 := ⟨k - 1, by omega⟩
  show exprR (k + 1) (a :: q) = _
  rw [exprR, zah ha (s' := kAll) (by decide), if_neg Bool.false_ne_true, zah ha (s' := kAny) (by decide), if_neg Bool.false_ne_true, zah ha (s' := kAtleast) (by decide), if_neg Bool.false_ne_true, zah ha (s' := kNot) (by decide), if_neg Bool.false_ne_true, zah ha (s' := kTrue) (by decide), if_neg Bool.false_ne_true, if_pos (za6 ha _)]; rfl
 | paren o c us f ha hf hc ih =>
  intro k q hk
  simp only [List.length_cons, List.length_append, List.length_nil] at hk
  obtain ⟨k, rfl⟩ : ∃ j, k = j + 1 := ⟨k - 1, by omega⟩
  have e : o :: (us ++ [c]) ++ q = o :: (us ++ c :: q) := by simp
  rw [e, exprR, zah ha (s' := kAll) (by decide), if_neg Bool.false_ne_true, zah ha (s' := kAny) (by decide), if_neg Bool.false_ne_true, zah ha (s' := kAtleast) (by decide), if_neg Bool.false_ne_true, zah ha (s' := kNot) (by decide), if_neg Bool.false_ne_true, zah ha (s' := kTrue) (by decide), if_neg Bool.false_ne_true, zah ha (s' := kFalse) (by decide), if_neg Bool.false_ne_true, if_pos (za6 ha _), List.tail_cons, ih k _ (by omega), then_some, zbj hc, then_some]
 | cmp us vs c j a b hv hc hb =>
  intro k q hk
  have := hv.len
  simp only [List.length_cons, List.length_append] at hk
  obtain ⟨k, rfl⟩ : ∃ j, k = j + 1 := ⟨k - 1, by omega⟩
  rw [List.append_assoc, cond_way hv]
  unfold condR
  rw [zcy hv, then_some, List.cons_append, show cmpOf (c :: (vs ++ q)) = some j from hc, atT_app hv]
  dsimp only
  rw [List.tail_cons, zcy hb, then_some]
 | between us vs ws c d a b e hv hc hb hd he =>
  intro k q hk
  have := hv.len
  simp only [List.length_cons, List.length_append] at hk
  obtain ⟨k, rfl⟩ : ∃ j, k = j + 1 := ⟨k - 1, by omega⟩
  rw [List.append_assoc, cond_way hv]
  unfold condR
  rw [zcy hv, then_some, List.cons_append, cmp_no hc (by decide), atT_app hv]
  dsimp only
  rw [if_pos (za6 hc _), List.tail_cons, List.append_assoc, zcy hb, then_some, List.cons_append, zbj hd, then_some, zcy he, then_some]
 | in_ us vs c o d a g hv hc ho hg hd =>
  intro k q hk
  have := hv.len
  simp only [List.length_cons, List.length_append] at hk
  obtain ⟨k, rfl⟩ : ∃ j, k = j + 1 := ⟨k - 1, by omega⟩
  obtain ⟨l, hl, h2⟩ := vals_ok hg (vs ++ d :: q).length (d :: q) (by simp) (zah hd (by decide))
  have e : us ++ c :: o :: (vs ++ [d]) ++ q = us ++ (c :: o :: (vs ++ d :: q)) := by simp
  rw [e, cond_way hv]
  unfold condR
  rw [zcy hv, then_some, cmp_no hc (by decide), atT_app hv]
  dsimp only
  rw [zah hc (s' := kBetween) (by decide), if_neg Bool.false_ne_true, if_pos (za6 hc _), List.tail_cons, zbj ho, then_some, h2, then_some, zbj hd, then_some, hl]
end Go.Proofs.YtekkapgknohadaaGreatDoor.Pa
namespace Go.Proofs.YtekkapgknohadaaGreatDoor.Lx
end Go.Proofs.YtekkapgknohadaaGreatDoor.Lx
namespace Go.Proofs.YtekkapgknohadaaGreatDoor.Pa
open Lx (Tok)
inductive Ps (s : Tx) : List Tok → List (Tx × Tx) → Prop
 | one (a d b : Tok) : isN [a] = true → isT s [d] = true → isN [b] = true → Ps s [a, d, b] [(a.text, b.text)]
 | more (a d b c : Tok) (vs : List Tok) (l : List (Tx × Tx)) : isN [a] = true → isT s [d] = true → isN [b] = true → isT sComma [c] = true → Ps s vs l → Ps s (a :: d :: b :: c :: vs) ((a.text, b.text) :: l)
inductive Rv : List Tok → List (Tx × Tx) → Prop
 | none : Rv [] []
 | some (r : Tok) (vs : List Tok) (l : List (Tx × Tx)) : isT kReveal [r] = true → Ps sDot vs l → Rv (r :: vs) l
inductive Pv (at_ : Nat) : List Tok → F → Prop
 | none : Pv at_ [] (leaf ⟨0, 0, [], [], at_⟩)
 | some (r : Tok) (vs : List Tok) (f : F) : isT kProve [r] = true → Ex false vs f → Pv at_ (r :: vs) f
inductive So : List Tok → Tx × Int → Prop
 | none : So [] ([], 0)
 | one (s w : Tok) : isT kScope [s] = true → isW [w] = true → So [s, w] (w.text.tail.dropLast, 0)
 | both (s w l n : Tok) : isT kScope [s] = true → isW [w] = true → isT kLimit [l] = true → isM [n] = true → So [s, w, l, n] (w.text.tail.dropLast, numV n.text)
inductive Eo : List Tok → Tx → Prop
 | none : Eo [] []
 | some (s n : Tok) : isT kEscrow [s] = true → isN [n] = true → Eo [s, n] n.text
theorem pairs_ok {s : Tx} {us : List Tok} {l : List (Tx × Tx)} (h : Ps s us l) : ∀ k q, us.length ≤ k → isT sComma q = Bool.false → listR (pairR s) k (us ++ q) = (some l, q) := by
 induction h with
 | one a d b ha hd hb =>
  intro k q hk hq
  simp only [List.length_cons, List.length_nil] at hk
  obtain ⟨k, rfl⟩ : ∃ j, k = j + 1 := ⟨k - 1, by omega⟩
  show listR (pairR s) (k + 1) (a :: d :: b :: q) = _
  rw [listR, pair_ok ha hd hb, then_some, hq]; rfl
 | more a d b c vs l ha hd hb hc _ ih =>
  intro k q hk hq
  simp only [List.length_cons] at hk
  obtain ⟨k, rfl⟩ : ∃ j, k = j + 1 := ⟨k - 1, by omega⟩
  show listR (pairR s) (k + 1) (a :: d :: b :: c :: (vs ++ q)) = _
  rw [listR, pair_ok ha hd hb, then_some, if_pos (za6 hc _), List.tail_cons, ih k q (by omega) hq, then_some]
structure Pg (ts : List Tok) (p : Pl) (q : List Tok) (a b c e z : Tok) (us rv pv so eo : List Tok) : Prop where
 eq : ts = a :: b :: c :: (us ++ (rv ++ (pv ++ (so ++ (eo ++ e :: z :: q)))))
 pol : isT kPolicy [a] = true
 nm : isN [b] = true
 uses : isT kUses [c] = true
 us : Ps sColon us p.uses
 rv : Rv rv p.reveal
 pv : Pv (atT (so ++ (eo ++ e :: z :: q))) pv p.root
 so : So so (p.scope, p.limit)
 eo : Eo eo p.escrow
 end_ : isT kEnd [e] = true
 z : isE [z] = true
 name : p.name = b.text
theorem eo_hd {eo : List Tok} {x : Tx} (h : Eo eo x) {e : Tok} (he : isT kEnd [e] = true) (q : List Tok) {s : Tx} (h1 : (kEscrow == s) = Bool.false) (h2 : (kEnd == s) = Bool.false) : isT s (eo ++ e :: q) = Bool.false := by
 cases h with
 | none => exact zah he h2
 | some a n ha hn => exact zah ha h1
theorem so_hd {so eo : List Tok} {x : Tx} {y : Tx × Int} (hs : So so y) (h : Eo eo x) {e : Tok} (he : isT kEnd [e] = true) (q : List Tok) {s : Tx} (h0 : (kScope == s) = Bool.false) (h1 : (kEscrow == s) = Bool.false) (h2 : (kEnd == s) = Bool.false) : isT s (so ++ (eo ++ e :: q)) = Bool.false := by
 cases hs with
 | none => exact eo_hd h he q h1 h2
 | one a w ha hw => exact zah ha h0
 | both a w l n ha hw hl hn => exact zah ha h0
theorem pv_hd {pv so eo : List Tok} {x : Tx} {y : Tx × Int} {f : F} {n : Nat} (hp : Pv n pv f) (hs : So so y) (h : Eo eo x) {e : Tok} (he : isT kEnd [e] = true) (q : List Tok) {s : Tx} (h3 : (kProve == s) = Bool.false) (h0 : (kScope == s) = Bool.false) (h1 : (kEscrow == s) = Bool.false) (h2 : (kEnd == s) = Bool.false) : isT s (pv ++ (so ++ (eo ++ e :: q))) = Bool.false := by
 cases hp with
 | none => exact so_hd hs h he q h0 h1 h2
 | some a w f ha hw => exact zah ha h3
theorem rv_hd {rv pv so eo : List Tok} {l : List (Tx × Tx)} {x : Tx} {y : Tx × Int} {f : F} {n : Nat} (hr : Rv rv l) (hp : Pv n pv f) (hs : So so y) (h : Eo eo x) {e : Tok} (he : isT kEnd [e] = true) (q : List Tok) {s : Tx} (h4 : (kReveal == s) = Bool.false) (h3 : (kProve == s) = Bool.false) (h0 : (kScope == s) = Bool.false) (h1 : (kEscrow == s) = Bool.false) (h2 : (kEnd == s) = Bool.false) : isT s (rv ++ (pv ++ (so ++ (eo ++ e :: q)))) = Bool.false := by
 cases hr with
 | none => exact pv_hd hp hs h he q h3 h0 h1 h2
 | some a w l ha hw => exact zah ha h4
theorem reveal_ok {rv : List Tok} {l : List (Tx × Tx)} (h : Rv rv l) (q : List Tok) (h1 : isT kReveal q = Bool.false) (h2 : isT sComma q = Bool.false) : revealR (rv ++ q) = (some l, q) := by
 cases h with
 | none => unfold revealR; rw [List.nil_append, h1]; rfl
 | some a vs _ ha hv =>
  unfold revealR
  rw [List.cons_append, if_pos (za6 ha _), List.tail_cons]
  exact pairs_ok hv _ q (by simp only [List.length_cons, List.length_append]; omega) h2
theorem prove_ok {pv : List Tok} {f : F} (q : List Tok) (h : Pv (atT q) pv f) (h1 : isT kProve q = Bool.false) : proveR (pv ++ q) = (some f, q) := by
 cases h with
 | none => unfold proveR; rw [List.nil_append, h1]; rfl
 | some a vs _ ha hv =>
  unfold proveR
  rw [List.cons_append, if_pos (za6 ha _), List.tail_cons]
  exact (expr_ok hv) _ q (by simp; omega)
theorem scope_ok {so : List Tok} {s : Tx × Int} (h : So so s) (q : List Tok) (h1 : isT kScope q = Bool.false) (h2 : isT kLimit q = Bool.false) : scopeR (so ++ q) = (some s, q) := by
 cases h with
 | none => unfold scopeR; rw [List.nil_append, h1]; rfl
 | one a w ha hw =>
  show scopeR (a :: w :: q) = _
  unfold scopeR
  rw [if_pos (za6 ha _), List.tail_cons, word_ok hw, then_some, h2]; rfl
 | both a w l n ha hw hl hn =>
  show scopeR (a :: w :: l :: n :: q) = _
  unfold scopeR
  rw [if_pos (za6 ha _), List.tail_cons, word_ok hw, then_some, if_pos (za6 hl _), List.tail_cons, num_ok hn]; rfl
theorem escrow_ok {eo : List Tok} {s : Tx} (h : Eo eo s) (q : List Tok) (h1 : isT kEscrow q = Bool.false) : escrowR (eo ++ q) = (some s, q) := by
 cases h with
 | none => unfold escrowR; rw [List.nil_append, h1]; rfl
 | some a n ha hn =>
  show escrowR (a :: n :: q) = _
  unfold escrowR
  rw [if_pos (za6 ha _), List.tail_cons, name_ok hn]
theorem policy_ok {ts q : List Tok} {p : Pl} {a b c e z : Tok} {us rv pv so eo : List Tok} (h : Pg ts p q a b c e z us rv pv so eo) : policyR ts = (some p, z :: q) := by
 obtain ⟨rfl, h1, h2, h3, h4, h5, h6, h7, h8, h9, h10, h11⟩ := h
 rw [policy_p, zbj h1, then_some, name_ok h2, then_some]
 unfold p0
 rw [zbj h3, then_some]
 unfold p1
 rw [pairs_ok h4 _ _ (by simp) (rv_hd h5 h6 h7 h8 h9 _ (by decide) (by decide) (by decide) (by decide) (by decide)), then_some]
 unfold p2
 rw [reveal_ok h5 _ (pv_hd h6 h7 h8 h9 _ (by decide) (by decide) (by decide) (by decide)) (pv_hd h6 h7 h8 h9 _ (by decide) (by decide) (by decide) (by decide)), then_some]
 unfold p3
 rw [prove_ok _ h6 (so_hd h7 h8 h9 _ (by decide) (by decide) (by decide)), then_some]
 unfold p4
 rw [scope_ok h7 _ (eo_hd h8 h9 _ (by decide) (by decide)) (eo_hd h8 h9 _ (by decide) (by decide)), then_some]
 unfold p5
 rw [escrow_ok h8 _ (zah h9 (by decide)), then_some]
 unfold p6
 rw [zbj h9, then_some]
 unfold endR
 rw [if_pos (show isE (z :: q) = Bool.true from h10), ← h11]
end Go.Proofs.YtekkapgknohadaaGreatDoor.Pa
namespace Go.Proofs.YtekkapgknohadaaGreatDoor
structure Rch (ns : List Nk) (S : List Int) : Prop where
 met : Met ns S
 len : S.length ≤ 512
structure Clo (ns : List Nk) (S T : List Int) : Prop where
 sub : ∀ x ∈ S, x ∈ T
 kids : ∀ b ∈ T, b ∉ S → ∀ n, ns[b.toNat]? = some n → ∀ k ∈ n.kids, k ∈ T
end Go.Proofs.YtekkapgknohadaaGreatDoor
namespace Go.Proofs.YtekkapgknohadaaGreatDoor.Lx
end Go.Proofs.YtekkapgknohadaaGreatDoor.Lx
namespace Go.Proofs.YtekkapgknohadaaGreatDoor
open Go.RowKit Go.Shelf
end Go.Proofs.YtekkapgknohadaaGreatDoor
namespace Go.Proofs.YtekkapgknohadaaGreatDoor.Pa
open Lx (Tok)
end Go.Proofs.YtekkapgknohadaaGreatDoor.Pa
namespace Go.Proofs.YtekkapgknohadaaGreatDoor
open Go.RowKit Go.Shelf
open Go.RowKit Go.Shelf
open Go.RowKit Go.Shelf
theorem parse_at {l : List UInt8} {r : Po × Nat × Int} (h : zav l = r) (hl : l.length ≤ 65536) (w : World) : Calls Tryz.prog 7 #[.string ⟨l.toArray⟩] w fun e w' => PaOut r e w' ∧ Below w.heap.size w w' := by
 have := Parse_any (bs l) (by rw [zbc]; exact hl) w
 rw [tl_bs, h] at this
 exact this
open Go.RowKit Go.Shelf
end Go.Proofs.YtekkapgknohadaaGreatDoor
namespace Go.Proofs.YtekkapgknohadaaGreatDoor.Lx
end Go.Proofs.YtekkapgknohadaaGreatDoor.Lx
namespace Go.Proofs.YtekkapgknohadaaGreatDoor
open Go.RowKit Go.Shelf
open Go.RowKit Go.Shelf
end Go.Proofs.YtekkapgknohadaaGreatDoor
namespace Go.Proofs.YtekkapgknohadaaGreatDoor.Pa
open Lx (Tok)
def F.pre : F → List Nd
 | .nil => []
 | .cons n k r => n :: (k.pre ++ r.pre)
theorem F.pre_app (f g : F) : (f.app g).pre = f.pre ++ g.pre := by
 induction f with
 | nil => rfl
 | cons n k r _ ih => rw [F.app, F.pre, F.pre, ih, List.cons_append, List.append_assoc]
theorem F.num_pre (f : F) : ∀ a, (f.num a).map Prod.fst = f.pre := by
 induction f with
 | nil => intro a; rfl
 | cons n k r ih1 ih2 => intro a; rw [F.num, List.map_cons, List.map_append, ih1, ih2]; rfl
def Rl (x y : Nd) : Prop := if 6 ≤ x.kind ∧ x.kind ≤ 8 then y.at_ = x.at_ else x.at_ < y.at_
def Cn : List Nd → Prop
 | [] => True
 | [_] => True
 | x :: y :: l => Rl x y ∧ Cn (y :: l)
theorem Cn.app : ∀ {l m : List Nd}, Cn l → Cn m → (∀ x y, l.getLast? = some x → m.head? = some y → Rl x y) → Cn (l ++ m)
 | [], m, _, h, _ => h
 | [x], [], _, _, _ => trivial
 | [x], y :: m, _, h, g => ⟨g x y rfl rfl, h⟩
 | x :: y :: l, m, h1, h2, g => ⟨h1.1, Cn.app (l := y :: l) h1.2 h2 fun a b ha hb => g a b (by rw [List.getLast?_cons_cons]; exact ha) hb⟩
theorem Cn.at_ : ∀ {l : List Nd} {i : Nat} {x y : Nd}, Cn l → l[i]? = some x → l[i + 1]? = some y → Rl x y
 | [], i, x, y, _, h, _ => by simp at h
 | [a], i, x, y, _, _, h => by simp at h
 | a :: b :: l, 0, x, y, h, h1, h2 => by
  simp only [List.getElem?_cons_zero, Option.some.injEq, List.getElem?_cons_succ] at h1 h2
  subst h1 h2
  exact h.1
 | a :: b :: l, i + 1, x, y, h, h1, h2 => Cn.at_ (l := b :: l) (i := i) h.2 (by simpa using h1) (by simpa using h2)
structure Oc (us : List Tok) (f : F) : Prop where
 ne : f.pre ≠ []
 cn : Cn f.pre
 mem : ∀ n ∈ f.pre, ∃ t ∈ us, t.at_ = n.at_
 last : ∀ n, f.pre.getLast? = some n → ¬ (6 ≤ n.kind ∧ n.kind ≤ 8)
theorem getLast_app {α : Type} {l m : List α} (h : m ≠ []) : (l ++ m).getLast? = m.getLast? := by
 rw [List.getLast?_append]
 cases hm : m.getLast? with
 | none => exact absurd (List.getLast?_eq_none_iff.1 hm) h
 | some x => rfl
theorem Oc.app {us vs : List Tok} {f g : F} (h : Oc us f) (k : Oc vs g) (ha : ∀ s ∈ us, ∀ t ∈ vs, s.at_ < t.at_) : Oc (us ++ vs) (f.app g) := by
 refine ⟨?_, ?_, fun n hn => ?_, fun n hn => ?_⟩
 ·rw [F.pre_app]; simp [h.ne]
 ·rw [F.pre_app]
  refine h.cn.app k.cn fun x y hx hy => ?_
  unfold Rl
  rw [if_neg (h.last x hx)]
  obtain ⟨s, hs, e1⟩ := h.mem x (List.mem_of_getLast? hx)
  obtain ⟨t, ht, e2⟩ := k.mem y (List.mem_of_mem_head? (by rw [hy]; rfl))
  rw [← e1, ← e2]
  exact ha s hs t ht
 ·rw [F.pre_app] at hn
  rcases List.mem_append.1 hn with hn | hn
  ·obtain ⟨t, ht, e⟩ := h.mem n hn; exact ⟨t, List.mem_append_left _ ht, e⟩
  ·obtain ⟨t, ht, e⟩ := k.mem n hn; exact ⟨t, List.mem_append_right _ ht, e⟩
 ·rw [F.pre_app, getLast_app k.ne] at hn
  exact k.last n hn
theorem Oc.leaf {us : List Tok} {n : Nd} (h : ∃ t ∈ us, t.at_ = n.at_) (hk : ¬ (6 ≤ n.kind ∧ n.kind ≤ 8)) : Oc us (leaf n) := by
 refine ⟨by simp [Pa.leaf, F.pre], trivial, fun m hm => ?_, fun m hm => ?_⟩
 ·have : m = n := by simpa [Pa.leaf, F.pre] using hm
  rw [this]; exact h
 ·have : n = m := by simpa [Pa.leaf, F.pre] using hm
  rw [← this]; exact hk
end Go.Proofs.YtekkapgknohadaaGreatDoor.Pa
namespace Go.Proofs.YtekkapgknohadaaGreatDoor
open Go.RowKit Go.Shelf
def rng (n : Nat) : List Int := (List.range n).map fun (i : Nat) => (i : Int)
theorem rng_len (n : Nat) : (rng n).length = n := by simp [rng]
theorem rng_mem {n : Nat} {x : Int} : x ∈ rng n ↔ 0 ≤ x ∧ x < (n : Int) := by
 unfold rng
 rw [List.mem_map]
 constructor
 ·rintro ⟨i, hi, rfl⟩
  rw [List.mem_range] at hi; omega
 ·intro h; exact ⟨x.toNat, by rw [List.mem_range]; omega, by omega⟩
theorem rng_succ (n : Nat) : rng (n + 1) = rng n ++ [(n : Int)] := by simp [rng, List.range_succ]
end Go.Proofs.YtekkapgknohadaaGreatDoor
