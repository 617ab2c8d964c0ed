/-
  Parentheses around an expression. Plain; the law of Parens.
-/
import Derived.Test.YtminghdnclpocaaGreatDoorPqB
import Derived.Test.YtminghdnclpocaaGreatDoorPdM
import Derived.Test.YtminghdnclpocaaGreatDoorPeC
namespace Go.Proofs.YtminghdnclpocaaGreatDoor.Pa
open Lx (Tok)
set_option linter.unusedVariables false

theorem F.idx_succ (f : F) : ∀ a, f.idx (a + 1) = (f.idx a).map (· + 1) := by
  induction f with
  | nil => intro a; rfl
  | cons n k r _ ih => intro a; rw [F.idx, F.idx, List.map_cons, ← ih]; congr 2; omega
theorem F.num_succ (f : F) : ∀ a, f.num (a + 1) = (f.num a).map fun x => (x.1, x.2.map (· + 1)) := by
  induction f with
  | nil => intro a; rfl
  | cons n k r ih1 ih2 =>
    intro a
    rw [F.num, F.num, List.map_cons, List.map_append, ← ih1, ← ih2, ← F.idx_succ, show a + 1 + k.size + 1 = a + 1 + 1 + k.size by omega]
theorem Ex.one_len {b : Bool} {us : List Tok} {f : F} (h : Ex b us f) : b = Bool.false → f.len = 1 := by
  induction h with
  | one _ _ _ ih => intro h; cases h
  | more _ _ _ _ _ _ _ _ ih _ => intro h; cases h
  | paren _ _ _ _ _ _ _ ih => exact ih
  | _ => intro _; rfl
/-- the last parts -/
theorem p4_inv {nm : Tx} {us rv : List (Tx × Tx)} {f : F} {q r : List Tok} {p : Pl} (h : p4 nm us rv f q = (some p, r)) : ∃ so eo e z r' s x, r = z :: r' ∧ q = so ++ (eo ++ e :: z :: r') ∧ So so s ∧ Eo eo x ∧ isT kEnd [e] = true ∧ isE [z] = true ∧ p = ⟨nm, us, rv, s.1, s.2, x, f⟩ := by
  unfold p4 at h
  obtain ⟨s, p7, h7, hh⟩ := then_inv h; replace h := hh; clear hh
  unfold Pa.p5 at h
  obtain ⟨x, p8, h8, hh⟩ := then_inv h; replace h := hh; clear hh
  unfold Pa.p6 at h
  obtain ⟨u, p9, h9, hh⟩ := then_inv h; replace h := hh; clear hh
  unfold endR at h
  split at h
  · rename_i hz
    simp only [Prod.mk.injEq, Option.some.injEq] at h
    obtain ⟨rfl, rfl⟩ := h
    obtain ⟨so', rfl, hso⟩ := scope_inv h7
    obtain ⟨eo', rfl, heo⟩ := escrow_inv h8
    obtain ⟨e, rfl, he⟩ := need_inv h9
    cases p9 with
    | nil => cases hz
    | cons z q' => exact ⟨so', eo', e, z, q', s, x, rfl, rfl, hso, heo, he, hz, rfl⟩
  · cases h
theorem p4_end {nm : Tx} {us rv : List (Tx × Tx)} {f : F} {e z : Tok} (he : isT kEnd [e] = true) (hz : isE [z] = true) : p4 nm us rv f [e, z] = (some ⟨nm, us, rv, [], 0, [], f⟩, [z]) := by
  have h1 := scope_ok So.none [e, z] (isT_other he (by decide)) (isT_other he (by decide))
  have h2 := escrow_ok Eo.none [e, z] (isT_other he (by decide))
  rw [List.nil_append] at h1 h2
  unfold p4
  rw [h1, then_some]
  unfold p5
  rw [h2, then_some]
  unfold p6
  rw [need_ok he, then_some]
  unfold endR
  rw [if_pos hz]
end Go.Proofs.YtminghdnclpocaaGreatDoor.Pa
namespace Go.Proofs.YtminghdnclpocaaGreatDoor
open Go.RowKit Go.Shelf
set_option linter.unusedVariables false

/-- a node whose kids are numbered one higher -/
def Nk.sh (n : Nk) : Nk := ⟨n.kind, n.num, n.name, n.attr, n.kids.map (· + 1), n.at_⟩
theorem form_sh (n : Nk) (c : Bool) : formP n.sh c = formP n c := by
  have e : n.sh.kids.length = n.kids.length := List.length_map _
  unfold formP shapeP highP lowP textsP
  rw [e]; rfl
theorem memsh {a : Int} {S : List Int} (h0 : 0 ≤ a) : (a + 1 ∈ (0 : Int) :: S.map (· + 1)) ↔ a ∈ S := by
  rw [List.mem_cons, List.mem_map]
  constructor
  · rintro (h | ⟨x, hx, h⟩)
    · omega
    · obtain rfl : x = a := by omega
      exact hx
  · intro h; exact .inr ⟨a, h, rfl⟩
theorem loop_sh {v v' : Int → List Int → Int × List Int} (hv : ∀ k S, (v k S).1 = 0 → (v' (k + 1) ((0 : Int) :: S.map (· + 1))).1 = 7 ∨ v' (k + 1) (0 :: S.map (· + 1)) = (0, 0 :: (v k S).2.map (· + 1))) :
    ∀ l S, (loopP v l S).1 = 0 → (loopP v' (l.map (· + 1)) ((0 : Int) :: S.map (· + 1))).1 = 7 ∨ loopP v' (l.map (· + 1)) (0 :: S.map (· + 1)) = (0, 0 :: (loopP v l S).2.map (· + 1))
  | [], S, h => .inr rfl
  | k :: r, S, h => by
    rw [loopP] at h
    rw [List.map_cons, loopP, loopP]
    by_cases h1 : (v k S).1 ≠ 0
    · rw [if_pos h1] at h; exact absurd h h1
    · rw [if_neg h1] at h
      rw [if_neg h1]
      rcases hv k S (by omega) with h2 | h2
      · left
        rw [if_pos (by omega)]; exact h2
      · rw [h2, if_neg (by simp)]
        exact loop_sh hv r _ h
theorem visit_sh {ns : List Nk} (x : Nk) : ∀ f a c S, (visitP ns (f + 1) a c S).1 = 0 → (visitP (x :: ns.map Nk.sh) f (a + 1) c ((0 : Int) :: S.map (· + 1))).1 = 7 ∨ visitP (x :: ns.map Nk.sh) f (a + 1) c (0 :: S.map (· + 1)) = (0, 0 :: (visitP ns (f + 1) a c S).2.map (· + 1)) := by
  intro f
  induction f with
  | zero =>
    intro a c S h
    by_cases hb : a < 0 ∨ (ns.length : Int) ≤ a ∨ a ∈ S
    · rw [visitP_out hb] at h; cases h
    · left
      rw [visitP_deep]
      rintro (h1 | h1 | h1)
      · omega
      · rw [List.length_cons, List.length_map] at h1; omega
      · exact hb (.inr (.inr ((memsh (by omega)).1 h1)))
  | succ f ih =>
    intro a c S h
    by_cases hb : a < 0 ∨ (ns.length : Int) ≤ a ∨ a ∈ S
    · rw [visitP_out hb] at h; cases h
    · obtain ⟨n, hn⟩ : ∃ n, ns[a.toNat]? = some n := ⟨_, List.getElem?_eq_getElem (by omega)⟩
      have hb' : ¬ (a + 1 < 0 ∨ (((x :: ns.map Nk.sh).length : Nat) : Int) ≤ a + 1 ∨ a + 1 ∈ (0 : Int) :: S.map (· + 1)) := by
        rintro (h1 | h1 | h1)
        · omega
        · rw [List.length_cons, List.length_map] at h1; omega
        · exact hb (.inr (.inr ((memsh (by omega)).1 h1)))
      have hn' : (x :: ns.map Nk.sh)[(a + 1).toNat]? = some n.sh := by
        rw [show (a + 1).toNat = a.toNat + 1 by omega, List.getElem?_cons_succ, List.getElem?_map, hn]; rfl
      rw [visitP_in hb hn] at h ⊢
      rw [visitP_in hb' hn', form_sh]
      split at h
      · rename_i h1; exact absurd h h1
      · rename_i h1
        rw [if_neg h1, if_neg h1]
        have := loop_sh (v := fun k S => visitP ns (f + 1) k (decide (n.kind ≤ 5)) S) (v' := fun k S => visitP (x :: ns.map Nk.sh) f k (decide (n.kind ≤ 5)) S) (fun k S h => ih k _ S h) n.kids (S ++ [a]) h
        rw [List.map_append] at this
        exact this
/-- a policy with a 'not' in front of its expression -/
def Po.notP (d : Po) (b : Int) : Po := ⟨d.name, d.uses, d.reveal, ⟨2, 0, bs [], bs [], [1], b⟩ :: d.nodes.map Nk.sh, 0, d.scope, d.limit, d.escrow⟩
theorem tree_not (d : Po) (b : Int) (hr : d.root = 0) (h : treeP d = 0) : treeP (d.notP b) = 0 ∨ treeP (d.notP b) = 7 := by
  unfold treeP at h
  rw [hr] at h
  split at h
  · rename_i h1; exact absurd h h1
  · rename_i h1
    split at h
    · cases h
    · rename_i h2
      have h3 := visit_sh (ns := d.nodes) ⟨2, 0, bs [], bs [], [1], b⟩ 31 0 true [] (Decidable.not_not.1 h1)
      have h4 : visitP (d.notP b).nodes 32 0 true [] = loopP (fun k S => visitP (d.notP b).nodes 31 k true S) [1] [0] := by
        rw [visitP_in (f := 31) (n := ⟨2, 0, bs [], bs [], [1], b⟩) (by
          rintro (h | h | h)
          · omega
          · rw [Po.notP, List.length_cons] at h; omega
          · cases h) rfl, if_neg (by
            rw [Decidable.not_not]; rfl)]
        rfl
      unfold treeP
      rw [show (d.notP b).root = 0 from rfl, h4]
      rcases h3 with h3 | h3
      · right
        have h5 : (visitP (d.notP b).nodes 31 1 true [0]).1 = 7 := h3
        have h6 : loopP (fun k S => visitP (d.notP b).nodes 31 k true S) [1] [0] = visitP (d.notP b).nodes 31 1 true [0] := by
          rw [loopP, if_pos (by rw [h5]; decide)]
        rw [h6, if_pos (by rw [h5]; decide)]
        exact h5
      · left
        have h5 : visitP (d.notP b).nodes 31 1 true [0] = (0, 0 :: (visitP d.nodes 32 0 true []).2.map (· + 1)) := h3
        have h6 : loopP (fun k S => visitP (d.notP b).nodes 31 k true S) [1] [0] = (0, 0 :: (visitP d.nodes 32 0 true []).2.map (· + 1)) := by
          rw [loopP]
          show (if (visitP (d.notP b).nodes 31 1 true [0]).1 ≠ 0 then visitP (d.notP b).nodes 31 1 true [0] else loopP _ [] (visitP (d.notP b).nodes 31 1 true [0]).2) = _
          rw [h5, if_neg (by simp)]; rfl
        rw [h6, if_neg (by simp), if_neg]
        rw [Decidable.not_not]
        show (0 :: (visitP d.nodes 32 0 true []).2.map (· + 1)).length = (d.notP b).nodes.length
        rw [List.length_cons, List.length_map, Po.notP, List.length_cons, List.length_map, Decidable.not_not.1 h2]
theorem check_not (d : Po) (b : Int) (hr : d.root = 0) (h : checkP d = 0) : checkP (d.notP b) = 0 ∨ checkP (d.notP b) = 6 ∨ checkP (d.notP b) = 7 := by
  have ht := tree_not d b hr (check_tree h)
  have hns : ∀ l : List Nk, (l.map Nk.sh).all (fun n => !decide (n.kind = 9) || memD n.name d.al) = l.all (fun n => !decide (n.kind = 9) || memD n.name d.al) := fun l => by rw [List.all_map]; rfl
  have e1 : namesP (d.notP b) = namesP d := rfl
  have e2 : (d.notP b).uses = d.uses := rfl
  have e3 : (d.notP b).reveal = d.reveal := rfl
  have e4 : (d.notP b).limit = d.limit := rfl
  have e5 : (d.notP b).scope = d.scope := rfl
  have e6 : (d.notP b).al = d.al := rfl
  have e7 : (d.notP b).nodes.all (fun n => !decide (n.kind = 9) || memD n.name d.al) = d.nodes.all (fun n => !decide (n.kind = 9) || memD n.name d.al) := by
    rw [Po.notP, List.all_cons, hns]; rfl
  have ht0 := check_tree h
  unfold checkP at h ⊢
  rw [e1, e2, e3, e4, e5, e6, e7]
  by_cases h1 : 512 < (d.notP b).nodes.length ∨ d.uses.length < 1 ∨ 4 < d.uses.length ∨ 64 < d.reveal.length
  · rw [if_pos h1]; exact .inr (.inl rfl)
  · rw [if_neg h1]
    rw [if_neg (by
      intro h2
      rcases h2 with h2 | h2 | h2 | h2
      · exact h1 (.inl (by rw [Po.notP, List.length_cons, List.length_map]; omega))
      · exact h1 (.inr (.inl h2))
      · exact h1 (.inr (.inr (.inl h2)))
      · exact h1 (.inr (.inr (.inr h2))))] at h
    by_cases h2 : namesP d = false
    · rw [if_pos h2] at h; cases h
    · rw [if_neg h2] at h ⊢
      by_cases h3 : d.limit < 0 ∨ 65536 < d.limit ∨ (0 < d.limit ∧ d.scope.size = 0)
      · rw [if_pos h3] at h; cases h
      · rw [if_neg h3] at h ⊢
        rw [if_neg (by omega)] at h
        rcases ht with ht | ht
        · rw [if_neg (by omega)]; exact .inl h
        · rw [if_pos (by omega)]; exact .inr (.inr ht)
theorem nk_sh (x : Pa.Nd × List Nat) : nkOf (x.1, x.2.map (· + 1)) = (nkOf x).sh := by
  unfold nkOf Nk.sh
  simp [List.map_map, Function.comp_def]
theorem poOf_not (p : Pa.Pl) (a : Nat) (f : Pa.F) (h : f.len = 1) : poOf { p with root := .cons ⟨2, 0, [], [], a⟩ f .nil } = (poOf { p with root := f }).notP (a : Int) := by
  have h1 : (Pa.F.cons ⟨2, 0, [], [], a⟩ f .nil).num 0 = (⟨2, 0, [], [], a⟩, f.idx 1) :: ((f.num 0).map fun x => (x.1, x.2.map (· + 1))) := by
    rw [Pa.F.num, Pa.F.num, List.append_nil, Pa.F.num_succ]
  have h2 : f.idx 1 = [1] := by
    cases f with
    | nil => cases h
    | cons n k r =>
      cases r with
      | nil => rfl
      | cons _ _ _ => simp [Pa.F.len] at h
  have h3 : ((f.num 0).map fun x => (x.1, x.2.map (· + 1))).map nkOf = ((f.num 0).map nkOf).map Nk.sh := by
    rw [List.map_map, List.map_map]
    exact List.map_congr_left fun x _ => nk_sh x
  show Po.mk _ _ _ (((Pa.F.cons ⟨2, 0, [], [], a⟩ f .nil).num 0).map nkOf) 0 _ _ _ = _
  rw [h1, h2, List.map_cons, h3]
  rfl
/-! the sources -/
theorem Lx.Sc.pre0 {m : List UInt8} {T : List Lx.Tok} (h : Lx.Sc 31 m T) : Lx.Sc 0 (cmPre ++ 32 :: m) (cmT0 ++ T) := by
  have h1 : Lx.Sc 30 (32 :: m) T := Lx.Sc.space (by decide) h
  refine Lx.Sc.of (f := (cmPre ++ 32 :: m).length + 1 + 11) (by omega) ?_
  rw [cm_pre0, h1.to _ (by simp)]; rfl
theorem Lx.Sc.open_ {m : List UInt8} {a : Nat} {T : List Lx.Tok} (h : Lx.Sc (a + 1) m T) : Lx.Sc a (40 :: m) (⟨2, Pa.sOpen, a⟩ :: T) := by
  have hs : Lx.sk false (40 :: m) = 0 := Lx.sk_stop (by decide) (by decide)
  have hsg : Lx.sg (40 :: m) = 1 := by
    cases m with
    | nil => rfl
    | cons c q => rw [Lx.sg, show Lx.two 40 c = false from by simp [Lx.two]]; rfl
  have ht : Lx.tk (40 :: m) = .inr (2, 1) := by
    rw [Lx.tk, if_neg (by decide), if_neg (by decide), if_neg (by decide), if_pos (Lx.sp_stop (by decide)), Lx.tkSign, hsg]; rfl
  have := Lx.Sc.step a (40 :: m) 2 1 T (by rw [hs]; exact ht) (by rintro ⟨h, -⟩; cases h) (by rw [hs]; exact h)
  rw [hs] at this
  exact this
theorem Lx.Sc.not_ {m : List UInt8} {a : Nat} {T : List Lx.Tok} (h : Lx.Sc (a + 4) m T) : Lx.Sc a (110 :: 111 :: 116 :: 40 :: m) (⟨2, Pa.kNot, a⟩ :: ⟨2, Pa.sOpen, a + 3⟩ :: T) := by
  have hs : Lx.sk false (110 :: 111 :: 116 :: 40 :: m) = 0 := Lx.sk_stop (by decide) (by decide)
  have ht : Lx.tk (110 :: 111 :: 116 :: 40 :: m) = .inr (2, 3) := by kernel_rfl
  have h1 : Lx.Sc (a + 3) (40 :: m) (⟨2, Pa.sOpen, a + 3⟩ :: T) := Lx.Sc.open_ h
  have := Lx.Sc.step a (110 :: 111 :: 116 :: 40 :: m) 2 3 _ (by rw [hs]; exact ht) (by rintro ⟨h, -⟩; cases h) (by rw [hs]; exact h1)
  rw [hs] at this
  exact this
theorem Lx.Sc.tail1 (b : Nat) : Lx.Sc b cmEnd [⟨2, Pa.kEnd, b + 1⟩, ⟨3, [], b + 4⟩] := Lx.Sc.of (f := 6) (by decide) (by kernel_rfl)
abbrev cmClose : List UInt8 := 10 :: 41 :: cmEnd
theorem Lx.Sc.tail2 (b : Nat) : Lx.Sc b cmClose [⟨2, Pa.sClose, b + 1⟩, ⟨2, Pa.kEnd, b + 3⟩, ⟨3, [], b + 6⟩] := Lx.Sc.of (f := 8) (by decide) (by kernel_rfl)
theorem pol_pre (Q : List Lx.Tok) : Pa.policyR (cmT0 ++ Q) = (Pa.exprR (Q.length + 1) Q).then fun f q => Pa.p4 [112] [([97], [65]), ([98], [66])] [] f q := by kernel_rfl
/-- the keywords of the other parts -/
def partK : List (List UInt8) := [Pa.kPolicy, Pa.kUses, Pa.kReveal, Pa.kProve, Pa.kScope, Pa.kLimit, Pa.kEscrow, Pa.kEnd]
def paP1 (E : List UInt8) : List UInt8 := cmPre ++ 32 :: (E ++ cmEnd)
def paP2 (E : List UInt8) : List UInt8 := cmPre ++ 32 :: (40 :: (E ++ cmClose))
def paP3 (E : List UInt8) : List UInt8 := cmPre ++ 32 :: (110 :: 111 :: 116 :: 40 :: (E ++ cmClose))
theorem kt_split {us vs : List Lx.Tok} {a b : Lx.Tok} {l : List Lx.Tok} (h1 : (us ++ [a]).map Lx.kt = l.map Lx.kt) (h2 : (vs ++ [b]).map Lx.kt = l.map Lx.kt) : us.map Lx.kt = vs.map Lx.kt := by
  rw [← h2, List.map_append, List.map_append] at h1
  exact (List.append_inj' h1 rfl).1
theorem paren_read {us1 X : List Lx.Tok} {p : Pa.Pl} {r : List Lx.Tok} (hp : ∀ t ∈ us1, t.text ∉ partK ∧ t.kind ≠ 3) (hX : (∃ z, X = [z] ∧ Pa.isE [z] = true) ∨ ∃ e z, X = [e, z] ∧ Pa.isT Pa.kEnd [e] = true ∧ Pa.isE [z] = true) (h : Pa.policyR (cmT0 ++ (us1 ++ X)) = (some p, r)) :
    ∃ f e z, X = [e, z] ∧ Pa.isT Pa.kEnd [e] = true ∧ Pa.isE [z] = true ∧ Pa.Ex false us1 f ∧ p = ⟨[112], [([97], [65]), ([98], [66])], [], [], 0, [], f⟩ := by
  rw [pol_pre] at h
  obtain ⟨f, q, h1, hh⟩ := Pa.then_inv h; replace h := hh; clear hh
  obtain ⟨us, e1, hex⟩ := Pa.expr_inv _ _ _ _ h1
  obtain ⟨so, eo, e, z, r', s, x, rfl, rfl, hso, heo, he, hz, rfl⟩ := Pa.p4_inv h
  have hE : ∀ {t : Lx.Tok}, Pa.isE [t] = true → t.kind = 3 := fun {t} h => by simpa [Pa.isE] using h
  have hmem : ∀ t ∈ so ++ (eo ++ e :: z :: r'), ∀ k, Pa.isT k [t] = true → k ∈ partK → k = Pa.kEnd ∧ ∃ z, X = [t, z] ∧ Pa.isT Pa.kEnd [t] = true ∧ Pa.isE [z] = true := by
    intro t ht k hk hkp
    obtain ⟨hk2, hk3⟩ := Pa.isT_text hk
    have h5 : t ∈ us1 ++ X := by rw [e1]; exact List.mem_append_right _ ht
    rcases List.mem_append.1 h5 with h5 | h5
    · exact absurd (by rw [hk3]; exact hkp) (hp t h5).1
    · rcases hX with ⟨z, rfl, hz⟩ | ⟨e, z, rfl, he, hz⟩
      · rw [List.mem_singleton.1 h5, hE hz] at hk2; cases hk2
      · simp only [List.mem_cons, List.not_mem_nil, or_false] at h5
        rcases h5 with rfl | rfl
        · refine ⟨by rw [← hk3, (Pa.isT_text he).2], z, rfl, he, hz⟩
        · rw [hE hz] at hk2; cases hk2
  have hso' : so = [] ∧ s = ([], 0) := by
    cases hso with
    | none => exact ⟨rfl, rfl⟩
    | one a w ha _ => exact absurd (hmem a (by simp) _ ha (by decide)).1 (by decide)
    | both a w l n ha _ _ _ => exact absurd (hmem a (by simp) _ ha (by decide)).1 (by decide)
  have heo' : eo = [] ∧ x = [] := by
    cases heo with
    | none => exact ⟨rfl, rfl⟩
    | some a n ha _ => exact absurd (hmem a (by simp) _ ha (by decide)).1 (by decide)
  obtain ⟨rfl, rfl⟩ := hso'
  obtain ⟨rfl, rfl⟩ := heo'
  obtain ⟨_, z0, rfl, _, hz0⟩ := hmem e (by simp) _ he (by decide)
  simp only [List.nil_append] at e1
  have h6 : us1 = us := by
    have hL := congrArg List.length e1
    simp only [List.length_append, List.length_cons, List.length_nil] at hL
    rcases List.append_eq_append_iff.1 e1 with ⟨c, rfl, hc⟩ | ⟨c, rfl, hc⟩
    · cases c with
      | nil => rw [List.append_nil]
      | cons y c =>
        have := congrArg List.length hc
        simp only [List.length_append, List.length_cons, List.length_nil] at this
        omega
    · cases c with
      | nil => rw [List.append_nil]
      | cons y c =>
        simp only [List.cons_append, List.cons.injEq] at hc
        obtain ⟨rfl, _⟩ := hc
        exact absurd (by rw [(Pa.isT_text he).2]; decide) (hp e (by simp)).1
  subst h6
  exact ⟨f, e, z0, rfl, he, hz0, hex, rfl⟩
/-- the law of Parens -/
theorem parens_law {E : List UInt8} {l : List Lx.Tok} (hs : Lx.sc E = .ok l) (hp : ∀ t ∈ l, t.text ∉ partK) (h : (parseP (paP1 E)).2.2 = 0) :
    (parseP (paP2 E)).2.2 = 0 ∧ sameP (parseP (paP1 E)).1 (parseP (paP2 E)).1 = true ∧
      ((parseP (paP3 E)).2.2 = 6 ∨ (parseP (paP3 E)).2.2 = 7 ∨ ((parseP (paP3 E)).2.2 = 0 ∧ ∃ b, (parseP (paP3 E)).1.er = ((parseP (paP1 E)).1.notP b).er)) := by
  have hS := Lx.sc_iff.1 hs
  obtain ⟨l1, g1, k1⟩ := hS.shift 31
  obtain ⟨us1, b1, rfl, x1, y1⟩ := g1.ext
  obtain ⟨l2, g2, k2⟩ := hS.shift 32
  obtain ⟨us2, b2, rfl, x2, -⟩ := g2.ext
  obtain ⟨l3, g3, k3⟩ := hS.shift 35
  obtain ⟨us3, b3, rfl, x3, -⟩ := g3.ext
  have hk12 := kt_split k1 k2
  have hk13 := kt_split k1 k3
  have hp1 : ∀ t ∈ us1, t.text ∉ partK ∧ t.kind ≠ 3 := by
    intro t ht
    constructor
    · have h1 : Lx.kt t ∈ l.map Lx.kt := by rw [← k1]; exact List.mem_map.2 ⟨t, List.mem_append_left _ ht, rfl⟩
      obtain ⟨u, hu, e⟩ := List.mem_map.1 h1
      have : u.text = t.text := congrArg Prod.snd e
      rw [← this]; exact hp u hu
    · obtain ⟨us, e, h1, -, -, -, h5, -⟩ := g1.join
      rw [(List.append_inj' h1 rfl).1] at ht
      have := (h5 t ht).1
      omega
  have hb1 : ∃ X, Lx.sc (paP1 E) = .ok (cmT0 ++ (us1 ++ X)) ∧ ((∃ z, X = [z] ∧ Pa.isE [z] = true) ∨ ∃ e z, X = [e, z] ∧ Pa.isT Pa.kEnd [e] = true ∧ Pa.isE [z] = true) := by
    cases b1 with
    | true => exact ⟨_, Lx.sc_iff.2 (Lx.Sc.pre0 (y1 rfl 32 [101, 110, 100] (by decide) (by decide))), .inl ⟨_, rfl, rfl⟩⟩
    | false => exact ⟨_, Lx.sc_iff.2 (Lx.Sc.pre0 (x1 32 [101, 110, 100] _ (by decide) (by decide) (Lx.Sc.tail1 _))), .inr ⟨_, _, rfl, rfl, rfl⟩⟩
  obtain ⟨X, hX, hX2⟩ := hb1
  have e1 : parseP (paP1 E) = parseT (cmT0 ++ (us1 ++ X)) := by unfold parseP; rw [hX]
  rw [e1] at h ⊢
  obtain ⟨p, r, hr⟩ : ∃ p r, Pa.policyR (cmT0 ++ (us1 ++ X)) = (some p, r) := by
    cases hr : Pa.policyR (cmT0 ++ (us1 ++ X)) with
    | mk o r =>
      cases o with
      | none => unfold parseT at h; rw [hr] at h; cases h
      | some p => exact ⟨p, r, rfl⟩
  obtain ⟨f, e, z, rfl, he, hz, hex, rfl⟩ := paren_read hp1 hX2 hr
  generalize hP : (⟨[112], [([97], [65]), ([98], [66])], [], [], 0, [], f⟩ : Pa.Pl) = P at *
  have hc : checkP (poOf P) = 0 := by
    unfold parseT at h
    rw [hr] at h
    dsimp only at h
    split at h
    · rename_i h1; exact h
    · rename_i h1; omega
  have e2 : parseT (cmT0 ++ (us1 ++ [e, z])) = (poOf P, 0, 0) := by
    unfold parseT
    rw [hr]
    dsimp only
    rw [if_neg (by omega)]
  rw [e2]
  obtain ⟨c0, hc0⟩ : ∃ c0 : Lx.Tok, c0 = ⟨2, Pa.sClose, 0⟩ := ⟨_, rfl⟩
  have hcl : Pa.isT Pa.sClose [c0] = true := by rw [hc0]; rfl
  have hTe : ∀ {t : Lx.Tok} {n : Nat}, Pa.isT Pa.kEnd [t] = true → Lx.kt ⟨2, Pa.kEnd, n⟩ = Lx.kt t := fun {t n} h => by
    obtain ⟨h1, h2⟩ := Pa.isT_text h
    unfold Lx.kt; rw [h1, h2]
  have hTz : Pa.isE [z] = true → z.text = [] → ∀ n, Lx.kt ⟨3, [], n⟩ = Lx.kt z := fun h1 h2 n => by
    have : z.kind = 3 := by simpa [Pa.isE] using h1
    unfold Lx.kt; rw [this, h2]
  have hzt : z.text = [] := by
    have hg := (Pa.sc_good (Lx.sc_iff.1 hX)).fine z (by simp)
    have : z.kind = 3 := by simpa [Pa.isE] using hz
    cases hg <;> simp_all
  -- in parentheses
  have q2 : Lx.Sc 0 (paP2 E) (cmT0 ++ (⟨2, Pa.sOpen, 31⟩ :: (us2 ++ [⟨2, Pa.sClose, 32 + E.length + 1⟩, ⟨2, Pa.kEnd, 32 + E.length + 3⟩, ⟨3, [], 32 + E.length + 6⟩]))) :=
    Lx.Sc.pre0 (Lx.Sc.open_ (x2 10 (41 :: cmEnd) _ (fun _ => rfl) (by decide) (Lx.Sc.tail2 _)))
  have e3 : parseP (paP2 E) = parseT (cmT0 ++ (⟨2, Pa.sOpen, 31⟩ :: (us2 ++ [⟨2, Pa.sClose, 32 + E.length + 1⟩, ⟨2, Pa.kEnd, 32 + E.length + 3⟩, ⟨3, [], 32 + E.length + 6⟩]))) := by unfold parseP; rw [Lx.sc_iff.2 q2]
  have r2 : Pa.policyR (cmT0 ++ (⟨2, Pa.sOpen, 31⟩ :: (us1 ++ [c0, e, z]))) = (some P, [z]) := by
    have h1 := (Pa.expr_ok (Pa.Ex.paren ⟨2, Pa.sOpen, 31⟩ c0 us1 f rfl hex hcl)) ((⟨2, Pa.sOpen, 31⟩ :: (us1 ++ [c0, e, z]) : List Lx.Tok).length + 1) [e, z] (by simp)
    rw [pol_pre, show (⟨2, Pa.sOpen, 31⟩ :: (us1 ++ [c0, e, z]) : List Lx.Tok) = ⟨2, Pa.sOpen, 31⟩ :: (us1 ++ [c0]) ++ [e, z] by simp] 
    rw [show (⟨2, Pa.sOpen, 31⟩ :: (us1 ++ [c0]) ++ [e, z] : List Lx.Tok) = ⟨2, Pa.sOpen, 31⟩ :: (us1 ++ [c0, e, z]) by simp] at h1 ⊢
    rw [show (⟨2, Pa.sOpen, 31⟩ :: (us1 ++ [c0, e, z]) : List Lx.Tok) = ⟨2, Pa.sOpen, 31⟩ :: (us1 ++ [c0]) ++ [e, z] by simp] at h1 ⊢
    rw [h1, Pa.then_some, Pa.p4_end he hz, hP]
  have e4 : parseT (cmT0 ++ (⟨2, Pa.sOpen, 31⟩ :: (us1 ++ [c0, e, z]))) = (poOf P, 0, 0) := by
    unfold parseT
    rw [r2]
    dsimp only
    rw [if_neg (by omega)]
  have k4 : List.map Lx.kt (cmT0 ++ (⟨2, Pa.sOpen, 31⟩ :: (us1 ++ [c0, e, z]))) = List.map Lx.kt (cmT0 ++ (⟨2, Pa.sOpen, 31⟩ :: (us2 ++ [⟨2, Pa.sClose, 32 + E.length + 1⟩, ⟨2, Pa.kEnd, 32 + E.length + 3⟩, ⟨3, [], 32 + E.length + 6⟩]))) := by
    simp only [List.map_append, List.map_cons, List.map_nil, hk12, hTe he, hTz hz hzt]
    rw [hc0]; rfl
  obtain ⟨m1, m2⟩ := parse_kt k4
  rw [e4] at m1 m2
  rw [e3]
  obtain ⟨m3, m4⟩ := m2 rfl
  refine ⟨m1.symm, sameP_er m3 hc, ?_⟩
  -- behind 'not'
  have q3 : Lx.Sc 0 (paP3 E) (cmT0 ++ (⟨2, Pa.kNot, 31⟩ :: ⟨2, Pa.sOpen, 34⟩ :: (us3 ++ [⟨2, Pa.sClose, 35 + E.length + 1⟩, ⟨2, Pa.kEnd, 35 + E.length + 3⟩, ⟨3, [], 35 + E.length + 6⟩]))) :=
    Lx.Sc.pre0 (Lx.Sc.not_ (x3 10 (41 :: cmEnd) _ (fun _ => rfl) (by decide) (Lx.Sc.tail2 _)))
  have e5 : parseP (paP3 E) = parseT (cmT0 ++ (⟨2, Pa.kNot, 31⟩ :: ⟨2, Pa.sOpen, 34⟩ :: (us3 ++ [⟨2, Pa.sClose, 35 + E.length + 1⟩, ⟨2, Pa.kEnd, 35 + E.length + 3⟩, ⟨3, [], 35 + E.length + 6⟩]))) := by unfold parseP; rw [Lx.sc_iff.2 q3]
  have r3 : Pa.policyR (cmT0 ++ (⟨2, Pa.kNot, 31⟩ :: ⟨2, Pa.sOpen, 34⟩ :: (us1 ++ [c0, e, z]))) = (some ⟨[112], [([97], [65]), ([98], [66])], [], [], 0, [], .cons ⟨2, 0, [], [], 31⟩ f .nil⟩, [z]) := by
    have h1 := (Pa.expr_ok (Pa.Ex.not ⟨2, Pa.kNot, 31⟩ _ _ rfl (Pa.Ex.paren ⟨2, Pa.sOpen, 34⟩ c0 us1 f rfl hex hcl))) ((⟨2, Pa.kNot, 31⟩ :: ⟨2, Pa.sOpen, 34⟩ :: (us1 ++ [c0, e, z]) : List Lx.Tok).length + 1) [e, z] (by simp)
    have h2 : (⟨2, Pa.kNot, 31⟩ :: ⟨2, Pa.sOpen, 34⟩ :: (us1 ++ [c0]) ++ [e, z] : List Lx.Tok) = ⟨2, Pa.kNot, 31⟩ :: ⟨2, Pa.sOpen, 34⟩ :: (us1 ++ [c0, e, z]) := by simp
    rw [h2] at h1
    rw [pol_pre, h1, Pa.then_some, Pa.p4_end he hz]
  have k5 : List.map Lx.kt (cmT0 ++ (⟨2, Pa.kNot, 31⟩ :: ⟨2, Pa.sOpen, 34⟩ :: (us1 ++ [c0, e, z]))) = List.map Lx.kt (cmT0 ++ (⟨2, Pa.kNot, 31⟩ :: ⟨2, Pa.sOpen, 34⟩ :: (us3 ++ [⟨2, Pa.sClose, 35 + E.length + 1⟩, ⟨2, Pa.kEnd, 35 + E.length + 3⟩, ⟨3, [], 35 + E.length + 6⟩]))) := by
    simp only [List.map_append, List.map_cons, List.map_nil, hk13, hTe he, hTz hz hzt]
    rw [hc0]; rfl
  obtain ⟨m5, m6⟩ := parse_kt k5
  have hno := poOf_not P 31 f (hex.one_len rfl)
  have hroot : ({ P with root := f } : Pa.Pl) = P := by rw [← hP]
  rw [hroot] at hno
  have e6 : (parseT (cmT0 ++ (⟨2, Pa.kNot, 31⟩ :: ⟨2, Pa.sOpen, 34⟩ :: (us1 ++ [c0, e, z])))) = if checkP ((poOf P).notP 31) ≠ 0 then (zPo, 0, checkP ((poOf P).notP 31)) else ((poOf P).notP 31, 0, 0) := by
    unfold parseT
    rw [r3]
    have : (⟨[112], [([97], [65]), ([98], [66])], [], [], 0, [], .cons ⟨2, 0, [], [], 31⟩ f .nil⟩ : Pa.Pl) = { P with root := .cons ⟨2, 0, [], [], 31⟩ f .nil } := by rw [← hP]
    dsimp only
    rw [this, hno]; rfl
  rw [e5, ← m5]
  rcases check_not (poOf P) 31 rfl hc with h7 | h7 | h7
  · right; right
    rw [e6, if_neg (by omega)] at m6 ⊢
    exact ⟨rfl, 31, (m6 rfl).1.symm⟩
  · left
    rw [e6, if_pos (by omega)]; exact h7
  · right; left
    rw [e6, if_pos (by omega)]; exact h7
end Go.Proofs.YtminghdnclpocaaGreatDoor
