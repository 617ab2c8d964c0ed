/-
  Tokens with white space and comments between them are parsed in the same way. Plain; the law of Spaces.
-/
import Derived.Test.YtminghdnclpocaaGreatDoorPbZ
import Derived.Test.YtminghdnclpocaaGreatDoorPaV
import Derived.Test.YtminghdnclpocaaGreatDoorPdM
namespace Go.Proofs.YtminghdnclpocaaGreatDoor.Lx
set_option linter.unusedVariables false

/-- white space in front -/
theorem Sc.gap {g : List UInt8} (hg : ∀ x, sk false (g ++ x) = g.length + sk false x) {a : Nat} {l : List UInt8} {ts : List Tok} (h : Sc (a + g.length) l ts) : Sc a (g ++ l) ts := by
  have hd : ∀ x : List UInt8, (g ++ x).drop (sk false (g ++ x)) = x.drop (sk false x) := fun x => by rw [hg, List.drop_append]; simp
  generalize ha : a + g.length = b at h
  cases h with
  | done _ _ h1 =>
    have := Sc.done a (g ++ l) (by rw [hd]; exact h1)
    rw [hg] at this
    rw [← ha, Nat.add_assoc]; exact this
  | step _ _ k n ts ht hl h =>
    have := Sc.step a (g ++ l) k n ts (by rw [hd]; exact ht) (by rw [hd]; exact hl) (by rw [hd, hg, ← Nat.add_assoc, ha]; exact h)
    rw [hd, hg, ← Nat.add_assoc, ha] at this
    exact this
def gapv (k : Nat) : List UInt8 := if k % 3 = 0 then [32] else if k % 3 = 1 then [10, 9] else [32, 35, 32, 97, 32, 40, 99, 111, 109, 109, 101, 110, 116, 10]
theorem gapv_sk (k : Nat) (x : List UInt8) : sk false (gapv k ++ x) = (gapv k).length + sk false x := by
  unfold gapv
  split
  · show sk false (32 :: x) = 1 + _
    rw [sk_sp (by decide), Nat.add_comm]
  · split
    · show sk false (10 :: 9 :: x) = 2 + _
      rw [sk_sp (by decide), sk_sp (by decide)]; omega
    · show sk false (32 :: 35 :: 32 :: 97 :: 32 :: 40 :: 99 :: 111 :: 109 :: 109 :: 101 :: 110 :: 116 :: 10 :: x) = 14 + _
      rw [sk_sp (by decide), sk_hash, sk_in (by decide), sk_in (by decide), sk_in (by decide), sk_in (by decide), sk_in (by decide), sk_in (by decide), sk_in (by decide), sk_in (by decide), sk_in (by decide), sk_in (by decide), sk_in (by decide), sk_nl]
      omega
theorem gapv_len (k : Nat) : (gapv k).length ≤ 14 := by
  unfold gapv
  split
  · decide
  · split <;> decide
theorem gapv_head (k : Nat) : ∃ c q, gapv k = c :: q ∧ isSp c = true := by
  unfold gapv
  split
  · exact ⟨_, _, rfl, by decide⟩
  · split <;> exact ⟨_, _, rfl, by decide⟩
/-- the texts of tokens, each with white space behind it -/
def spread (how : Nat) : Nat → List Tok → List UInt8
  | _, [] => []
  | i, t :: r => t.text ++ (gapv (i + how) ++ spread how (i + 1) r)
theorem spread_len (how : Nat) : ∀ (ts : List Tok) (i : Nat), (spread how i ts).length ≤ (ts.map fun t => t.text.length).sum + 14 * ts.length
  | [], i => Nat.zero_le _
  | t :: r, i => by
    have h1 := spread_len how r (i + 1)
    have h2 := gapv_len (i + how)
    rw [spread, List.length_append, List.length_append, List.map_cons, List.sum_cons, List.length_cons]
    omega
theorem Sc.spreads {a : Nat} {l : List UInt8} {ts : List Tok} (h : Sc a l ts) (how : Nat) : ∀ i b, ∃ ts', Sc b (spread how i ts) ts' ∧ ts'.map kt = ts.map kt := by
  induction h with
  | done a l h =>
    intro i b
    refine ⟨_, Sc.done b _ ?_, rfl⟩
    show (([] : List UInt8) ++ (gapv (i + how) ++ [])).drop (sk false (([] : List UInt8) ++ (gapv (i + how) ++ []))) = []
    rw [List.nil_append, gapv_sk]
    simp [sk]
  | step a l k n ts ht hl h ih =>
    intro i b
    have hlen := tk_len ht
    have hne := tk_ne ht
    have hn : ((l.drop (sk false l)).take n).length = n := by rw [List.length_take]; omega
    obtain ⟨b', g1, g2⟩ := sk_own l
    have hb : b' = false := by
      cases b' with
      | false => rfl
      | true => exact (hne (sk_true_pos g2)).elim
    subst hb
    obtain ⟨ts', h1, h2⟩ := ih (i + 1) (b + n + (gapv (i + how)).length)
    have h3 := Sc.gap (gapv_sk (i + how)) h1
    generalize hR : gapv (i + how) ++ spread how (i + 1) ts = R at *
    obtain ⟨c, q, hq, hc⟩ := gapv_head (i + how)
    have hRq : ∃ q', R = c :: q' := ⟨q ++ spread how (i + 1) ts, by rw [← hR, hq]; rfl⟩
    obtain ⟨q', rfl⟩ := hRq
    have htk := tk_look ht (r := c :: q') (.inr (.inr ⟨c, q', rfl, .inl hc⟩))
    have hs0 : sk false ((l.drop (sk false l)).take n ++ c :: q') = 0 := by
      cases hm : l.drop (sk false l) with
      | nil => exact absurd hm hne
      | cons d p =>
        rw [hm] at g2
        rw [show n = (n - 1) + 1 by omega, List.take_succ_cons, List.cons_append]
        exact sk_same g2
    have hnl : ¬ (k = 1 ∧ luAt (((l.drop (sk false l)).take n ++ c :: q').drop n) = true) := by
      rw [List.drop_left' hn]
      rintro ⟨-, h9⟩
      have := (sep_not c (.inl hc)).2.2.1
      rw [show luAt (c :: q') = isLU c from rfl, this] at h9
      cases h9
    have h4 := Sc.step b ((l.drop (sk false l)).take n ++ c :: q') k n ts' (by rw [hs0]; exact htk) (by rw [hs0]; exact hnl) (by rw [hs0, List.drop_zero, List.drop_left' hn]; exact h3)
    rw [hs0, List.drop_zero, List.take_left' hn] at h4
    refine ⟨⟨k, (l.drop (sk false l)).take n, b⟩ :: ts', ?_, by rw [List.map_cons, List.map_cons, h2]; rfl⟩
    rw [Lx.spread]
    show Sc b ((l.drop (sk false l)).take n ++ (gapv (i + how) ++ Lx.spread how (i + 1) ts)) _
    rw [hR]
    exact h4
end Go.Proofs.YtminghdnclpocaaGreatDoor.Lx
namespace Go.Proofs.YtminghdnclpocaaGreatDoor
open Go.RowKit Go.Shelf
set_option linter.unusedVariables false

theorem poOf_er {p q : Pa.Pl} (h : p.er = q.er) : (poOf p).er = (poOf q).er := by
  have e1 : p.name = q.name := (congrArg Pa.Pl.name h : _)
  have e2 : p.uses = q.uses := (congrArg Pa.Pl.uses h : _)
  have e3 : p.reveal = q.reveal := (congrArg Pa.Pl.reveal h : _)
  have e4 : p.scope = q.scope := (congrArg Pa.Pl.scope h : _)
  have e5 : p.limit = q.limit := (congrArg Pa.Pl.limit h : _)
  have e6 : p.escrow = q.escrow := (congrArg Pa.Pl.escrow h : _)
  have e7 : p.root.er = q.root.er := (congrArg Pa.Pl.root h : _)
  have key : ∀ f : Pa.F, ((f.num 0).map nkOf).map Nk.er = ((f.er.num 0).map nkOf).map Nk.er := fun f => by
    rw [Pa.F.er_num, List.map_map, List.map_map, List.map_map]; rfl
  have e8 : ((p.root.num 0).map nkOf).map Nk.er = ((q.root.num 0).map nkOf).map Nk.er := by rw [key, key q.root, e7]
  show Po.mk (bs p.name) (p.uses.map bpOf) (p.reveal.map bpOf) (((p.root.num 0).map nkOf).map Nk.er) 0 (bs p.scope) p.limit (bs p.escrow) = Po.mk (bs q.name) (q.uses.map bpOf) (q.reveal.map bpOf) (((q.root.num 0).map nkOf).map Nk.er) 0 (bs q.scope) q.limit (bs q.escrow)
  rw [e1, e2, e3, e4, e5, e6, e8]
theorem parse_kt {ts ts' : List Lx.Tok} (h : ts.map Lx.kt = ts'.map Lx.kt) : (parseT ts).2.2 = (parseT ts').2.2 ∧ ((parseT ts).2.2 = 0 → (parseT ts).1.er = (parseT ts').1.er ∧ checkP (parseT ts).1 = 0) := by
  have h1 := Pa.policy_kt h
  unfold parseT
  cases hr : Pa.policyR ts with
  | mk o q =>
    cases hr' : Pa.policyR ts' with
    | mk o' q' =>
      rw [hr, hr'] at h1
      cases o with
      | none =>
        cases o' with
        | none => exact ⟨rfl, fun h => by cases h⟩
        | some p' => exact absurd (congrArg Prod.fst h1) (by intro h; cases h)
      | some p =>
        cases o' with
        | none => exact absurd (congrArg Prod.fst h1) (by intro h; cases h)
        | some p' =>
          have h2 : p.er = p'.er := by
            have := congrArg Prod.fst h1
            exact Option.some.inj this
          have h3 := poOf_er h2
          have h4 : checkP (poOf p) = checkP (poOf p') := by rw [← check_er (poOf p), h3, check_er]
          dsimp only
          rw [← h4]
          by_cases h5 : checkP (poOf p) = 0
          · rw [if_neg (fun h => h h5), if_neg (fun h => h h5)]
            exact ⟨rfl, fun _ => ⟨h3, h5⟩⟩
          · rw [if_pos h5, if_pos h5]
            exact ⟨rfl, fun h => absurd h h5⟩
/-- the law of Spaces -/
theorem spaces_law {l : List UInt8} {ts : List Lx.Tok} (h : Lx.sc l = .ok ts) (how : Nat) : (parseP l).2.2 = (parseP (Lx.spread how 0 ts)).2.2 ∧ ((parseP l).2.2 = 0 → sameP (parseP l).1 (parseP (Lx.spread how 0 ts)).1 = true) ∧ (Lx.spread how 0 ts).length ≤ 15 * l.length + 14 := by
  have hS := Lx.sc_iff.1 h
  obtain ⟨ts', h1, h2⟩ := hS.spreads how 0 0
  have h3 : Lx.sc (Lx.spread how 0 ts) = .ok ts' := Lx.sc_iff.2 h1
  have e1 : parseP l = parseT ts := by unfold parseP; rw [h]
  have e2 : parseP (Lx.spread how 0 ts) = parseT ts' := by unfold parseP; rw [h3]
  rw [e1, e2]
  obtain ⟨h4, h5⟩ := parse_kt h2.symm
  refine ⟨h4, fun h6 => sameP_er (h5 h6).1 (h5 h6).2, ?_⟩
  have h7 := Lx.spread_len how ts 0
  obtain ⟨us, e, rfl, -, h8, -, h9, h10, -⟩ := hS.join
  have h11 : us.length ≤ (us.map fun t => t.text.length).sum := by
    clear h1 h2 h3 h4 h5 h7 h10 hS h e1 e2
    induction us with
    | nil => exact Nat.zero_le _
    | cons t r ih =>
      have := ih fun t ht => h9 t (List.mem_cons_of_mem _ ht)
      have h1 := (h9 t (List.mem_cons_self ..)).2
      have := List.length_pos_iff.2 h1
      rw [List.length_cons, List.map_cons, List.sum_cons]
      omega
  rw [List.map_append, List.sum_append, List.length_append] at h7
  simp only [List.map_cons, List.map_nil, List.sum_cons, List.sum_nil, h8, List.length_nil, List.length_singleton] at h7
  omega
end Go.Proofs.YtminghdnclpocaaGreatDoor
