import Derived.Test.YtminghdnclpocaaGreatDoorPcA
import Derived.Test.YtminghdnclpocaaGreatDoorPbZ
import Derived.Lib.ItoaNum
/-
  Policies that are the same apart from the numbers of their nodes: plain. No program in sight.
-/
namespace Go.Proofs.YtminghdnclpocaaGreatDoor
set_option linter.unusedVariables false

/-- two nodes alone, without their kids' places -/
def eqN (x y : Nk) : Bool := decide (x.kind = y.kind) && decide (x.num = y.num) && decide (x.name = y.name) && decide (x.attr = y.attr)
/-- lists of nodes, one by one -/
def eachP (v : Int → Int → Bool) : List Int → List Int → Bool
  | [], [] => true
  | a :: l, b :: m => v a b && eachP v l m
  | _, _ => false
theorem eachP_len {v : Int → Int → Bool} : ∀ {l m : List Int}, l.length ≠ m.length → eachP v l m = false
  | [], [], h => (h rfl).elim
  | [], _ :: _, _ => rfl
  | _ :: _, [], _ => rfl
  | a :: l, b :: m, h => by
    rw [eachP, eachP_len (l := l) (m := m) (by simpa using h), Bool.and_false]
/-- nodes that are equal, and what is below them -/
def sameN (ns ms : List Nk) : Nat → Int → Int → Bool
  | 0, _, _ => false
  | f + 1, i, k => match ns[i.toNat]?, ms[k.toNat]? with
    | some x, some y => eqN x y && eachP (sameN ns ms f) x.kids y.kids
    | _, _ => false
/-- a tree of so many levels stands here -/
def WfP (ns : List Nk) : Nat → Int → Prop
  | 0, _ => False
  | f + 1, a => 0 ≤ a ∧ ∃ n, ns[a.toNat]? = some n ∧ ∀ k ∈ n.kids, WfP ns f k
def sameP (a b : Po) : Bool :=
  decide (checkP a = 0) && decide (checkP b = 0) && decide (a.name = b.name) && decide (a.scope = b.scope) && decide (a.limit = b.limit) && decide (a.escrow = b.escrow) && decide (a.uses = b.uses) && decide (a.reveal = b.reveal) && sameN a.nodes b.nodes 32 a.root b.root
theorem loopP_ok {v : Int → List Int → Int × List Int} : ∀ (l S : List Int), (loopP v l S).1 = 0 → ∀ k ∈ l, ∃ T, (v k T).1 = 0
  | [], S, _, k, hk => by cases hk
  | a :: l, S, h, k, hk => by
    rw [loopP] at h
    split at h
    · rename_i h1; exact absurd h h1
    · rename_i h1
      rcases List.mem_cons.1 hk with rfl | hk
      · exact ⟨S, by omega⟩
      · exact loopP_ok l _ h k hk
theorem visit_wf (ns : List Nk) : ∀ (f : Nat) (a : Int) (c : Bool) (S : List Int), (visitP ns f a c S).1 = 0 → WfP ns f a
  | 0, a, c, S, h => by
    by_cases hb : a < 0 ∨ (ns.length : Int) ≤ a ∨ a ∈ S
    · rw [visitP_out hb] at h; cases h
    · rw [visitP_deep hb] at h; cases h
  | f + 1, a, c, S, h => by
    by_cases hb : a < 0 ∨ (ns.length : Int) ≤ a ∨ a ∈ S
    · rw [visitP_out hb] at h; cases h
    · obtain ⟨n, hn⟩ : ∃ n, ns[a.toNat]? = some n := ⟨_, List.getElem?_eq_getElem (by omega)⟩
      rw [visitP_in hb hn] at h
      split at h
      · rename_i h1; exact absurd h h1
      · refine ⟨by omega, n, hn, fun k hk => ?_⟩
        obtain ⟨T, hT⟩ := loopP_ok _ _ h k hk
        exact visit_wf ns f k _ T hT
theorem tree_wf {d : Po} (h : treeP d = 0) : WfP d.nodes 32 d.root := by
  refine visit_wf d.nodes 32 d.root true [] ?_
  unfold treeP at h
  split at h
  · rename_i h1; exact absurd h h1
  · rename_i h1; omega
theorem check_tree {d : Po} (h : checkP d = 0) : treeP d = 0 := by
  unfold checkP at h
  repeat' split at h
  all_goals first | omega | (rename_i h1 _ _ _; omega)
/-- a node without its offset -/
def Nk.er (n : Nk) : Nk := ⟨n.kind, n.num, n.name, n.attr, n.kids, 0⟩
def Po.er (d : Po) : Po := ⟨d.name, d.uses, d.reveal, d.nodes.map Nk.er, d.root, d.scope, d.limit, d.escrow⟩
theorem loopP_congr {v w : Int → List Int → Int × List Int} (h : ∀ k S, v k S = w k S) : ∀ l S, loopP v l S = loopP w l S
  | [], S => rfl
  | k :: r, S => by rw [loopP, loopP, h, loopP_congr h r]
theorem visit_er (ns : List Nk) : ∀ f a c S, visitP (ns.map Nk.er) f a c S = visitP ns f a c S
  | 0, a, c, S => by
    by_cases hb : a < 0 ∨ (ns.length : Int) ≤ a ∨ a ∈ S
    · rw [visitP_out hb, visitP_out (by rw [List.length_map]; exact hb)]
    · rw [visitP_deep hb, visitP_deep (by rw [List.length_map]; exact hb)]
  | f + 1, a, c, S => by
    by_cases hb : a < 0 ∨ (ns.length : Int) ≤ a ∨ a ∈ S
    · rw [visitP_out hb, visitP_out (by rw [List.length_map]; exact hb)]
    · obtain ⟨n, hn⟩ : ∃ n, ns[a.toNat]? = some n := ⟨_, List.getElem?_eq_getElem (by omega)⟩
      rw [visitP_in hb hn, visitP_in (n := n.er) (by rw [List.length_map]; exact hb) (by rw [List.getElem?_map, hn]; rfl)]
      show (if formP n c ≠ 0 then _ else loopP _ n.kids _) = _
      rw [loopP_congr (fun k S => visit_er ns f k _ S)]
      rfl
theorem check_er (d : Po) : checkP d.er = checkP d := by
  have e0 : d.er.nodes = d.nodes.map Nk.er := rfl
  have h1 : treeP d.er = treeP d := by
    have h3 : visitP d.er.nodes 32 d.er.root true [] = visitP d.nodes 32 d.root true [] := visit_er d.nodes 32 d.root true []
    have h4 : d.er.nodes.length = d.nodes.length := by rw [e0, List.length_map]
    unfold treeP
    simp only [h3, h4]
  have h2 : d.er.nodes.all (fun n => !decide (n.kind = 9) || memD n.name d.al) = d.nodes.all (fun n => !decide (n.kind = 9) || memD n.name d.al) := by
    rw [e0, List.all_map]; rfl
  have h4 : d.er.nodes.length = d.nodes.length := by rw [e0, List.length_map]
  have h5 : d.er.uses = d.uses := rfl
  have h6 : d.er.reveal = d.reveal := rfl
  have h7 : namesP d.er = namesP d := rfl
  have h8 : d.er.limit = d.limit := rfl
  have h9 : d.er.scope = d.scope := rfl
  have h10 : d.er.al = d.al := rfl
  unfold checkP
  simp only [h1, h2, h4, h5, h6, h7, h8, h9, h10]
theorem eachP_refl {v : Int → Int → Bool} : ∀ {l : List Int}, (∀ k ∈ l, v k k = true) → eachP v l l = true
  | [], _ => rfl
  | a :: l, h => by rw [eachP, h a (List.mem_cons_self ..), eachP_refl fun k hk => h k (List.mem_cons_of_mem _ hk)]; rfl
theorem same_er {ns ms : List Nk} (h : ns.map Nk.er = ms.map Nk.er) : ∀ f a, WfP ns f a → sameN ns ms f a a = true
  | 0, a, hw => hw.elim
  | f + 1, a, hw => by
    obtain ⟨h0, n, hn, hk⟩ := hw
    have h1 := congrArg (fun l => l[a.toNat]?) h
    simp only [List.getElem?_map, hn, Option.map_some] at h1
    cases hm : ms[a.toNat]? with
    | none => rw [hm] at h1; cases h1
    | some m =>
      rw [hm] at h1
      simp only [Option.map_some, Option.some.injEq] at h1
      unfold Nk.er at h1
      simp only [Nk.mk.injEq] at h1
      obtain ⟨e1, e2, e3, e4, e5, -⟩ := h1
      rw [sameN, hn, hm]
      show (eqN n m && eachP (sameN ns ms f) n.kids m.kids) = true
      rw [← e5, eachP_refl fun k hk' => same_er h f k (hk k hk')]
      simp [eqN, e1, e2, e3, e4]
theorem sameP_er {a b : Po} (h : a.er = b.er) (hc : checkP a = 0) : sameP a b = true := by
  have hb : checkP b = 0 := by rw [← check_er, ← h, check_er]; exact hc
  have h1 := same_er (ns := a.nodes) (ms := b.nodes) (by have := congrArg Po.nodes h; exact this) 32 a.root (tree_wf (check_tree hc))
  have e1 : a.name = b.name := (congrArg Po.name h : _)
  have e2 : a.uses = b.uses := (congrArg Po.uses h : _)
  have e3 : a.reveal = b.reveal := (congrArg Po.reveal h : _)
  have e4 : a.root = b.root := (congrArg Po.root h : _)
  have e5 : a.scope = b.scope := (congrArg Po.scope h : _)
  have e6 : a.limit = b.limit := (congrArg Po.limit h : _)
  have e7 : a.escrow = b.escrow := (congrArg Po.escrow h : _)
  unfold sameP
  rw [← e4, h1]
  simp [hc, hb, e1, e2, e3, e5, e6, e7]
end Go.Proofs.YtminghdnclpocaaGreatDoor

/-
  Decimal texts are numbers of the lexer. Plain.
-/
namespace Go.Proofs.YtminghdnclpocaaGreatDoor
open Go.RowKit Go.Shelf
set_option linter.unusedVariables false

theorem digb (k : Nat) (h : k < 10) : Lx.isDig (UInt8.ofNat (48 + k)) = true ∧ (UInt8.ofNat (48 + k)).toNat = 48 + k := by
  rcases (by omega : k = 0 ∨ k = 1 ∨ k = 2 ∨ k = 3 ∨ k = 4 ∨ k = 5 ∨ k = 6 ∨ k = 7 ∨ k = 8 ∨ k = 9) with rfl | rfl | rfl | rfl | rfl | rfl | rfl | rfl | rfl | rfl <;> decide
theorem decd (u : Nat) : (∀ c ∈ Lib.decDigits u, Lx.isDig c = true) ∧ Lx.dv (Lib.decDigits u) = u ∧ Lib.decDigits u ≠ [] := by
  induction u using Nat.strongRecOn with
  | _ u ih =>
    by_cases h : u < 10
    · rw [Lib.decDigits, dif_pos h]
      obtain ⟨h1, h2⟩ := digb u h
      refine ⟨fun c hc => by rw [List.mem_singleton.1 hc]; exact h1, ?_, by simp⟩
      simp only [Lx.dv, List.foldl_cons, List.foldl_nil, h2]
      omega
    · obtain ⟨h1, h2, h3⟩ := ih (u / 10) (by omega)
      obtain ⟨h4, h5⟩ := digb (u % 10) (by omega)
      rw [Lib.decDigits, dif_neg h]
      refine ⟨fun c hc => ?_, ?_, by simp⟩
      · rcases List.mem_append.1 hc with h6 | h6
        · exact h1 c h6
        · rw [List.mem_singleton.1 h6]; exact h4
      · rw [Lx.dv_snoc, h2, h5]; omega
theorem sp_every {p : UInt8 → Bool} : ∀ (l : List UInt8), (∀ c ∈ l, p c = true) → Lx.sp p l = l.length
  | [], _ => rfl
  | c :: l, h => by rw [Lx.sp_succ (h c (List.mem_cons_self ..)), sp_every l (fun x hx => h x (List.mem_cons_of_mem _ hx))]; rfl
theorem sp_dec (u : Nat) (r : List UInt8) : Lx.sp Lx.isDig (Lib.decDigits u ++ 32 :: r) = (Lib.decDigits u).length := by
  rw [Lx.sp_app_all (sp_every _ (decd u).1), Lx.sp_stop (by decide)]; rfl
theorem dig_not {c : UInt8} (h : Lx.isDig c = true) : Lx.isLet c = false ∧ (c == 39) = false ∧ (c == 45) = false ∧ c ≠ 45 := by
  obtain ⟨v⟩ := c
  revert h
  revert v
  decide +kernel
theorem tk_dec (n : Int) (h1 : -2147483648 ≤ n) (h2 : n ≤ 2147483647) (r : List UInt8) : Lx.tk (Lib.itoa n ++ 32 :: r) = .inr (1, (Lib.itoa n).length) := by
  unfold Lib.itoa
  split
  · obtain ⟨h4, h5, h6⟩ := decd n.natAbs
    have h7 : (Lib.decDigits n.natAbs).length ≠ 0 := fun h => h6 (List.eq_nil_of_length_eq_zero h)
    rw [List.cons_append, Lx.tk, if_neg (by decide), if_neg (by decide), if_pos (by decide), sp_dec, if_neg h7, List.take_left, h5, if_pos (by omega)]; rfl
  · obtain ⟨h4, h5, h6⟩ := decd n.toNat
    have hs := sp_dec n.toNat r
    cases hd : Lib.decDigits n.toNat with
    | nil => exact absurd hd h6
    | cons c m =>
      rw [hd] at hs h4 h5
      obtain ⟨e1, e2, e3, -⟩ := dig_not (h4 c (List.mem_cons_self ..))
      rw [List.cons_append] at hs ⊢
      rw [Lx.tk, e1, e2, e3, hs]
      simp only [Bool.false_eq_true, if_false, List.length_cons, Nat.succ_ne_zero]
      rw [← List.cons_append, show m.length + 1 = (c :: m).length from rfl, List.take_left, h5, if_pos (by omega)]
theorem numV_dec (n : Int) : Pa.numV (Lib.itoa n) = n := by
  unfold Lib.itoa
  split
  · rw [Pa.numV, if_pos rfl, (decd n.natAbs).2.1]; omega
  · obtain ⟨h4, h5, h6⟩ := decd n.toNat
    cases hd : Lib.decDigits n.toNat with
    | nil => exact absurd hd h6
    | cons c m =>
      rw [hd] at h4 h5
      rw [Pa.numV, if_neg (dig_not (h4 c (List.mem_cons_self ..))).2.2.2, h5]; omega
theorem dig_in {c : UInt8} (h : Lx.isDig c = true) : c ∈ ([45, 48, 49, 50, 51, 52, 53, 54, 55, 56, 57] : List UInt8) := by
  obtain ⟨v⟩ := c
  revert h
  revert v
  decide +kernel
theorem itoa_in (n : Int) : ∃ c m, Lib.itoa n = c :: m ∧ c ∈ ([45, 48, 49, 50, 51, 52, 53, 54, 55, 56, 57] : List UInt8) := by
  unfold Lib.itoa
  split
  · exact ⟨45, _, rfl, by decide⟩
  · obtain ⟨h4, h5, h6⟩ := decd n.toNat
    cases hd : Lib.decDigits n.toNat with
    | nil => exact absurd hd h6
    | cons c m =>
      rw [hd] at h4
      exact ⟨c, m, rfl, dig_in (h4 c (List.mem_cons_self ..))⟩
end Go.Proofs.YtminghdnclpocaaGreatDoor

/-
  Comparisons with every number. Plain; the law of Compares.
-/
namespace Go.Proofs.YtminghdnclpocaaGreatDoor.Lx
set_option linter.unusedVariables false

theorem pre_all (T : List Tok) (r : Res) : T.foldr (fun t r => r.pre [t]) r = r.pre T := by
  induction T with
  | nil => exact (Res.pre_nil r).symm
  | cons t T ih => rw [List.foldr_cons, ih, Res.pre_pre]; rfl
end Go.Proofs.YtminghdnclpocaaGreatDoor.Lx
namespace Go.Proofs.YtminghdnclpocaaGreatDoor
open Go.RowKit Go.Shelf
set_option linter.unusedVariables false

/-- "policy p uses a: A, b: B prove" -/
abbrev cmPre : List UInt8 := [112, 111, 108, 105, 99, 121, 32, 112, 32, 117, 115, 101, 115, 32, 97, 58, 32, 65, 44, 32, 98, 58, 32, 66, 32, 112, 114, 111, 118, 101]
abbrev cmEnd : List UInt8 := [32, 101, 110, 100]
def cmSign (k : Nat) : List UInt8 := Pa.cmps.getD k []
def cmNum1 (k : Nat) (d : List UInt8) : List UInt8 := cmPre ++ ([32, 97, 46, 120] ++ (cmSign k ++ (d ++ cmEnd)))
def cmNum2 (k : Nat) (d : List UInt8) : List UInt8 := cmPre ++ (32 :: (d ++ (32 :: (cmSign k ++ [32, 97, 46, 120, 32, 101, 110, 100]))))
def cmT0 : List Lx.Tok := [⟨2, Pa.kPolicy, 0⟩, ⟨0, [112], 7⟩, ⟨2, Pa.kUses, 9⟩, ⟨0, [97], 14⟩, ⟨2, Pa.sColon, 15⟩, ⟨0, [65], 17⟩, ⟨2, Pa.sComma, 18⟩, ⟨0, [98], 20⟩, ⟨2, Pa.sColon, 21⟩, ⟨0, [66], 23⟩, ⟨2, Pa.kProve, 25⟩]
theorem cm_pre0 (f : Nat) (m : List UInt8) : Lx.scF (f + 11) 0 (cmPre ++ 32 :: m) = (Lx.scF f 30 (32 :: m)).pre cmT0 := by
  rw [← Lx.pre_all]
  kernel_rfl
theorem cm_pre1 (k : Nat) (hk : k < 6) (c : UInt8) (hc : c ∈ ([45, 48, 49, 50, 51, 52, 53, 54, 55, 56, 57] : List UInt8)) (f : Nat) (m : List UInt8) : Lx.scF (f + 4) 30 ([32, 97, 46, 120] ++ (cmSign k ++ c :: m)) = (Lx.scF f (34 + (cmSign k).length) (c :: m)).pre [⟨0, [97], 31⟩, ⟨2, Pa.sDot, 32⟩, ⟨0, [120], 33⟩, ⟨2, cmSign k, 34⟩] := by
  rw [← Lx.pre_all]
  simp only [List.mem_cons, List.not_mem_nil, or_false] at hc
  rcases (by omega : k = 0 ∨ k = 1 ∨ k = 2 ∨ k = 3 ∨ k = 4 ∨ k = 5) with rfl | rfl | rfl | rfl | rfl | rfl <;> rcases hc with rfl | rfl | rfl | rfl | rfl | rfl | rfl | rfl | rfl | rfl | rfl <;> kernel_rfl
theorem scF_num (n : Int) (h1 : -2147483648 ≤ n) (h2 : n ≤ 2147483647) (f a : Nat) (r : List UInt8) : Lx.scF (f + 1) a (Lib.itoa n ++ 32 :: r) = (Lx.scF f (a + (Lib.itoa n).length) (32 :: r)).pre [⟨1, Lib.itoa n, a⟩] := by
  have hs : Lx.sk false (Lib.itoa n ++ 32 :: r) = 0 := by
    obtain ⟨c, m, hc, hm⟩ := itoa_in n
    rw [hc, List.cons_append]
    refine Lx.sk_stop ?_ ?_ <;> (simp only [List.mem_cons, List.not_mem_nil, or_false] at hm; rcases hm with rfl | rfl | rfl | rfl | rfl | rfl | rfl | rfl | rfl | rfl | rfl <;> decide)
  rw [Lx.scF, hs, Nat.add_zero, List.drop_zero, Lx.st_inr (tk_dec n h1 h2 r), List.drop_left, List.take_left, if_neg (by rintro ⟨-, h⟩; exact absurd h (by show ¬ Lx.isLU 32 = true; decide))]
theorem scF_sp (f a : Nat) (l : List UInt8) : Lx.scF (f + 1) a (32 :: l) = Lx.scF (f + 1) (a + 1) l := by
  have e : Lx.sk false (32 :: l) = Lx.sk false l + 1 := Lx.sk_sp (by decide)
  rw [Lx.scF, Lx.scF, e, List.drop_succ_cons, Nat.add_assoc a 1, Nat.add_comm 1]
theorem scF_end (f b : Nat) : Lx.scF (f + 2) b cmEnd = .ok [⟨2, Pa.kEnd, b + 1⟩, ⟨3, [], b + 4⟩] := by kernel_rfl
theorem scF_end2 (k : Nat) (hk : k < 6) (f b : Nat) : Lx.scF (f + 6) b (32 :: (cmSign k ++ [32, 97, 46, 120, 32, 101, 110, 100])) = .ok [⟨2, cmSign k, b + 1⟩, ⟨0, [97], b + (cmSign k).length + 2⟩, ⟨2, Pa.sDot, b + (cmSign k).length + 3⟩, ⟨0, [120], b + (cmSign k).length + 4⟩, ⟨2, Pa.kEnd, b + (cmSign k).length + 6⟩, ⟨3, [], b + (cmSign k).length + 9⟩] := by
  rcases (by omega : k = 0 ∨ k = 1 ∨ k = 2 ∨ k = 3 ∨ k = 4 ∨ k = 5) with rfl | rfl | rfl | rfl | rfl | rfl <;> kernel_rfl
def cmT1 (k : Nat) (d : List UInt8) : List Lx.Tok := cmT0 ++ ([⟨0, [97], 31⟩, ⟨2, Pa.sDot, 32⟩, ⟨0, [120], 33⟩, ⟨2, cmSign k, 34⟩] ++ ([⟨1, d, 34 + (cmSign k).length⟩] ++ [⟨2, Pa.kEnd, 34 + (cmSign k).length + d.length + 1⟩, ⟨3, [], 34 + (cmSign k).length + d.length + 4⟩]))
theorem sc_num1 (k : Nat) (hk : k < 6) (n : Int) (h1 : -2147483648 ≤ n) (h2 : n ≤ 2147483647) : Lx.sc (cmNum1 k (Lib.itoa n)) = .ok (cmT1 k (Lib.itoa n)) := by
  refine Lx.sc_iff.2 (Lx.Sc.of (f := (cmNum1 k (Lib.itoa n)).length + 3 + 4 + 11) (by omega) ?_)
  generalize (cmNum1 k (Lib.itoa n)).length = F
  obtain ⟨c, m, hc, hm⟩ := itoa_in n
  have e1 : cmNum1 k (Lib.itoa n) = cmPre ++ 32 :: ([97, 46, 120] ++ (cmSign k ++ (Lib.itoa n ++ cmEnd))) := rfl
  have e2 : (32 :: ([97, 46, 120] ++ (cmSign k ++ (Lib.itoa n ++ cmEnd))) : List UInt8) = [32, 97, 46, 120] ++ (cmSign k ++ c :: (m ++ cmEnd)) := by rw [hc]; rfl
  have e3 : c :: (m ++ cmEnd) = Lib.itoa n ++ 32 :: [101, 110, 100] := by rw [hc]; rfl
  rw [e1, cm_pre0, e2, cm_pre1 k hk c hm, e3, scF_num n h1 h2, scF_end, Lx.Res.pre, Lx.Res.pre, Lx.Res.pre]
  rfl
def cmT2 (k : Nat) (d : List UInt8) : List Lx.Tok := cmT0 ++ ([⟨1, d, 31⟩] ++ [⟨2, cmSign k, 31 + d.length + 1⟩, ⟨0, [97], 31 + d.length + (cmSign k).length + 2⟩, ⟨2, Pa.sDot, 31 + d.length + (cmSign k).length + 3⟩, ⟨0, [120], 31 + d.length + (cmSign k).length + 4⟩, ⟨2, Pa.kEnd, 31 + d.length + (cmSign k).length + 6⟩, ⟨3, [], 31 + d.length + (cmSign k).length + 9⟩])
theorem sc_num2 (k : Nat) (hk : k < 6) (n : Int) (h1 : -2147483648 ≤ n) (h2 : n ≤ 2147483647) : Lx.sc (cmNum2 k (Lib.itoa n)) = .ok (cmT2 k (Lib.itoa n)) := by
  refine Lx.sc_iff.2 (Lx.Sc.of (f := (cmNum2 k (Lib.itoa n)).length + 6 + 1 + 11) (by omega) ?_)
  generalize (cmNum2 k (Lib.itoa n)).length = F
  rw [cmNum2, cm_pre0, scF_sp, scF_num n h1 h2, scF_end2 k hk, Lx.Res.pre, Lx.Res.pre]
  rfl
/-- two nodes that Check cannot tell apart -/
structure SimN (n m : Nk) : Prop where
  f : ∀ c, formP n c = formP m c
  kids : n.kids = m.kids
  kind : n.kind = m.kind
  name : n.name = m.name
theorem visit_sim {ns : List Nk} {g : Nk → Nk} (h : ∀ n ∈ ns, SimN n (g n)) : ∀ f a c S, visitP (ns.map g) f a c S = visitP ns f a c S
  | 0, a, c, S => by
    by_cases hb : a < 0 ∨ (ns.length : Int) ≤ a ∨ a ∈ S
    · rw [visitP_out hb, visitP_out (by rw [List.length_map]; exact hb)]
    · rw [visitP_deep hb, visitP_deep (by rw [List.length_map]; exact hb)]
  | f + 1, a, c, S => by
    by_cases hb : a < 0 ∨ (ns.length : Int) ≤ a ∨ a ∈ S
    · rw [visitP_out hb, visitP_out (by rw [List.length_map]; exact hb)]
    · obtain ⟨n, hn⟩ : ∃ n, ns[a.toNat]? = some n := ⟨_, List.getElem?_eq_getElem (by omega)⟩
      have hs := h n (List.mem_of_getElem? hn)
      rw [visitP_in hb hn, visitP_in (n := g n) (by rw [List.length_map]; exact hb) (by rw [List.getElem?_map, hn]; rfl), ← hs.f, ← hs.kids, ← hs.kind, loopP_congr (fun k S => visit_sim h f k _ S)]
theorem all_cong {α : Type} {p q : α → Bool} : ∀ {l : List α}, (∀ x ∈ l, p x = q x) → l.all p = l.all q
  | [], _ => rfl
  | a :: l, h => by rw [List.all_cons, List.all_cons, h a (List.mem_cons_self ..), all_cong fun x hx => h x (List.mem_cons_of_mem _ hx)]
theorem check_sim (d : Po) (g : Nk → Nk) (h : ∀ n ∈ d.nodes, SimN n (g n)) : checkP ⟨d.name, d.uses, d.reveal, d.nodes.map g, d.root, d.scope, d.limit, d.escrow⟩ = checkP d := by
  have h1 : treeP ⟨d.name, d.uses, d.reveal, d.nodes.map g, d.root, d.scope, d.limit, d.escrow⟩ = treeP d := by
    unfold treeP
    simp only [visit_sim h, List.length_map]
  have h2 : (d.nodes.map g).all (fun n => !decide (n.kind = 9) || memD n.name d.al) = d.nodes.all (fun n => !decide (n.kind = 9) || memD n.name d.al) := by
    rw [List.all_map]
    refine all_cong fun n hn => ?_
    have hs := h n hn
    simp only [Function.comp, ← hs.kind, ← hs.name]
  unfold checkP
  simp only [h1, List.length_map, namesP, Po.al] at h2 ⊢
  simp only [h2]
/-- numbers in their range, and offsets, do not matter to Check -/
def Nk.flat (n : Nk) : Nk := ⟨n.kind, if n.kind = 10 then 0 else n.num, n.name, n.attr, n.kids, 0⟩
theorem flat_sim {n : Nk} (h : n.kind = 10 → -2147483648 ≤ n.num ∧ n.num ≤ 2147483647) : SimN n n.flat := by
  refine ⟨fun c => ?_, rfl, rfl, rfl⟩
  have e : shapeP n.flat c = shapeP n c := rfl
  unfold formP
  rw [e]
  split
  · rfl
  · by_cases hk : n.kind = 10
    · obtain ⟨h1, h2⟩ := h hk
      have a1 : lowP n = -2147483648 := by unfold lowP; rw [if_neg (by omega), if_pos hk]
      have a2 : highP n = 2147483647 := by unfold highP; rw [if_neg (by omega), if_neg (by omega), if_pos hk]
      have b1 : lowP n.flat = -2147483648 := a1
      have b2 : highP n.flat = 2147483647 := a2
      have b3 : n.flat.num = 0 := if_pos hk
      rw [a1, a2, b1, b2, b3, if_neg (by omega), if_neg (by omega)]
    · have b1 : lowP n.flat = lowP n := rfl
      have b2 : highP n.flat = highP n := rfl
      have b3 : n.flat.num = n.num := if_neg hk
      rw [b1, b2, b3]
theorem check_flat (d : Po) (h : ∀ n ∈ d.nodes, n.kind = 10 → -2147483648 ≤ n.num ∧ n.num ≤ 2147483647) : checkP ⟨d.name, d.uses, d.reveal, d.nodes.map Nk.flat, d.root, d.scope, d.limit, d.escrow⟩ = checkP d := check_sim d _ fun n hn => flat_sim (h n hn)
def cmPo (ns : List Nk) : Po := ⟨bs [112], [(bs [97], bs [65]), (bs [98], bs [66])], [], ns, 0, bs [], 0, bs []⟩
def cmN1 (k : Nat) (n : Int) : List Nk := [⟨6, k, bs [], bs [], [1, 2], 31⟩, ⟨9, 0, bs [97], bs [120], [], 31⟩, ⟨10, n, bs [], bs [], [], ((34 + (cmSign k).length : Nat) : Int)⟩]
def cmN2 (k : Nat) (n : Int) (b : Int) : List Nk := [⟨6, k, bs [], bs [], [1, 2], 31⟩, ⟨10, n, bs [], bs [], [], 31⟩, ⟨9, 0, bs [97], bs [120], [], b⟩]
theorem cm_check1 (k : Nat) (hk : k < 6) (n : Int) (h1 : -2147483648 ≤ n) (h2 : n ≤ 2147483647) : checkP (cmPo (cmN1 k n)) = 0 := by
  rw [← check_flat]
  · rcases (by omega : k = 0 ∨ k = 1 ∨ k = 2 ∨ k = 3 ∨ k = 4 ∨ k = 5) with rfl | rfl | rfl | rfl | rfl | rfl <;> kernel_rfl
  · intro m hm
    simp only [cmPo, cmN1, List.mem_cons, List.not_mem_nil, or_false] at hm
    rcases hm with rfl | rfl | rfl <;> intro h
    · cases h
    · cases h
    · exact ⟨h1, h2⟩
theorem cm_check2 (k : Nat) (hk : k < 6) (n : Int) (h1 : -2147483648 ≤ n) (h2 : n ≤ 2147483647) (b : Int) : checkP (cmPo (cmN2 k n b)) = 0 := by
  rw [← check_flat]
  · rcases (by omega : k = 0 ∨ k = 1 ∨ k = 2 ∨ k = 3 ∨ k = 4 ∨ k = 5) with rfl | rfl | rfl | rfl | rfl | rfl <;> kernel_rfl
  · intro m hm
    simp only [cmPo, cmN2, List.mem_cons, List.not_mem_nil, or_false] at hm
    rcases hm with rfl | rfl | rfl <;> intro h
    · cases h
    · exact ⟨h1, h2⟩
    · cases h
theorem some_of {r : Pa.Rd Pa.Pl} {d : Po} (h : r.1.map poOf = some d) : ∃ p q, r = (some p, q) ∧ poOf p = d := by
  obtain ⟨o, q⟩ := r
  cases o with
  | none => cases h
  | some p => exact ⟨p, q, rfl, Option.some.inj h⟩
theorem parse_of {l : List UInt8} {ts q : List Lx.Tok} {p : Pa.Pl} {d : Po} (h1 : Lx.sc l = .ok ts) (h2 : Pa.policyR ts = (some p, q)) (h3 : poOf p = d) (h4 : checkP d = 0) : parseP l = (d, 0, 0) := by
  unfold parseP
  rw [h1]
  dsimp only
  unfold parseT
  rw [h2]
  dsimp only
  rw [h3, if_neg (by simp [h4])]
theorem parse_num1 (k : Nat) (hk : k < 6) (n : Int) (h1 : -2147483648 ≤ n) (h2 : n ≤ 2147483647) : parseP (cmNum1 k (Lib.itoa n)) = (cmPo (cmN1 k n), 0, 0) := by
  have h3 : ∀ d : List UInt8, (Pa.policyR (cmT1 k d)).1.map poOf = some (cmPo (cmN1 k (Pa.numV d))) := by
    intro d
    rcases (by omega : k = 0 ∨ k = 1 ∨ k = 2 ∨ k = 3 ∨ k = 4 ∨ k = 5) with rfl | rfl | rfl | rfl | rfl | rfl <;> kernel_rfl
  obtain ⟨p, q, h4, h5⟩ := some_of (h3 (Lib.itoa n))
  rw [numV_dec] at h5
  exact parse_of (sc_num1 k hk n h1 h2) h4 h5 (cm_check1 k hk n h1 h2)
theorem parse_num2 (k : Nat) (hk : k < 6) (n : Int) (h1 : -2147483648 ≤ n) (h2 : n ≤ 2147483647) : ∃ b, parseP (cmNum2 k (Lib.itoa n)) = (cmPo (cmN2 k n b), 0, 0) := by
  have h3 : ∀ d : List UInt8, (Pa.policyR (cmT2 k d)).1.map poOf = some (cmPo (cmN2 k (Pa.numV d) ((31 + d.length + (cmSign k).length + 2 : Nat) : Int))) := by
    intro d
    rcases (by omega : k = 0 ∨ k = 1 ∨ k = 2 ∨ k = 3 ∨ k = 4 ∨ k = 5) with rfl | rfl | rfl | rfl | rfl | rfl <;> kernel_rfl
  obtain ⟨p, q, h4, h5⟩ := some_of (h3 (Lib.itoa n))
  rw [numV_dec] at h5
  exact ⟨_, parse_of (sc_num2 k hk n h1 h2) h4 h5 (cm_check2 k hk n h1 h2 _)⟩
abbrev cmW : List UInt8 := [39, 119, 45, 49, 39]
def cmW1 (k : Nat) : List Nk := [⟨6, k, bs [], bs [], [1, 2], 31⟩, ⟨9, 0, bs [97], bs [120], [], 31⟩, ⟨11, 0, bs [119, 45, 49], bs [], [], ((34 + (cmSign k).length : Nat) : Int)⟩]
def cmW2 (k : Nat) : List Nk := [⟨6, k, bs [], bs [], [1, 2], 31⟩, ⟨11, 0, bs [119, 45, 49], bs [], [], 31⟩, ⟨9, 0, bs [97], bs [120], [], ((38 + (cmSign k).length : Nat) : Int)⟩]
theorem parse_word (k : Nat) (hk : k < 6) : parseP (cmNum1 k cmW) = (cmPo (cmW1 k), 0, 0) ∧ parseP (cmNum2 k cmW) = (cmPo (cmW2 k), 0, 0) := by
  rcases (by omega : k = 0 ∨ k = 1 ∨ k = 2 ∨ k = 3 ∨ k = 4 ∨ k = 5) with rfl | rfl | rfl | rfl | rfl | rfl <;> exact ⟨by kernel_rfl, by kernel_rfl⟩
/-! the law of Heads -/
def hdUse (i : Nat) : List UInt8 := [97, UInt8.ofNat (48 + i), 58, 32, 83, UInt8.ofNat (48 + i)]
def hdUses : Nat → List UInt8
  | 0 => []
  | n + 1 => hdUses n ++ ((if n = 0 then [] else [44, 32]) ++ hdUse n)
def hdRev : Nat → List UInt8
  | 0 => []
  | n + 1 => hdRev n ++ (if n = 0 then [32, 114, 101, 118, 101, 97, 108, 32, 97, 48, 46, 102, 48] else [44, 32, 97, 48, 46, 102] ++ [UInt8.ofNat (48 + n)])
def hdSrc (n m : Nat) (a b c d : Bool) : List UInt8 :=
  [112, 111, 108, 105, 99, 121, 32, 112, 32, 117, 115, 101, 115, 32] ++ hdUses n ++ hdRev m ++ (if a then [32, 112, 114, 111, 118, 101, 32, 102, 97, 108, 115, 101] else []) ++ (if b then [32, 115, 99, 111, 112, 101, 32, 39, 115, 104, 111, 112, 39] else []) ++ (if b && c then [32, 108, 105, 109, 105, 116, 32, 55] else []) ++ (if d then [32, 101, 115, 99, 114, 111, 119, 32, 106, 117, 100, 103, 101] else [])
def hdPo (n m : Nat) (a b c d : Bool) (at_ : Int) : Po :=
  ⟨bs [112], (List.range n).map (fun i => (bs [97, UInt8.ofNat (48 + i)], bs [83, UInt8.ofNat (48 + i)])), (List.range m).map (fun i => (bs [97, 48], bs [102, UInt8.ofNat (48 + i)])),
    [⟨if a then 1 else 0, 0, bs [], bs [], [], at_⟩], 0, if b then bs [115, 104, 111, 112] else bs [], if b && c then 7 else 0, if d then bs [106, 117, 100, 103, 101] else bs []⟩
def flatP (d : Po) : Po := ⟨d.name, d.uses, d.reveal, d.nodes.map Nk.flat, d.root, d.scope, d.limit, d.escrow⟩
instance : DecidableEq Nk := fun a b => decidable_of_iff (a.kind = b.kind ∧ a.num = b.num ∧ a.name = b.name ∧ a.attr = b.attr ∧ a.kids = b.kids ∧ a.at_ = b.at_) (by cases a; cases b; simp)
instance : DecidableEq Po := fun a b => decidable_of_iff (a.name = b.name ∧ a.uses = b.uses ∧ a.reveal = b.reveal ∧ a.nodes = b.nodes ∧ a.root = b.root ∧ a.scope = b.scope ∧ a.limit = b.limit ∧ a.escrow = b.escrow) (by cases a; cases b; simp)
def hdAt (r : Po × Nat × Int) : Int := match r.1.nodes with | [x] => x.at_ | _ => 0
def hdTest (n m : Nat) (a b c d : Bool) : Bool :=
  decide (parseP (hdSrc n m a b c d ++ cmEnd) = (hdPo n m a b c d (hdAt (parseP (hdSrc n m a b c d ++ cmEnd))), 0, 0)) && (a || b || d || decide (hdAt (parseP (hdSrc n m a b c d ++ cmEnd)) = (((hdSrc n m a b c d).length + 1 : Nat) : Int)))
theorem hd_all : ∀ n : Fin 4, ∀ m : Fin 5, ∀ a b c d : Bool, hdTest (n.val + 1) m.val a b c d = true := by
  decide +kernel
end Go.Proofs.YtminghdnclpocaaGreatDoor
